/- Part 2 of the proof: a program logic, contracts of functions and plain facts; no conditions. -/
import Derived.Test.YtabpobhnedkkeaaGreatDoorQWeeksScored1
import Derived.Carry
import Derived.KernelRfl
import Derived.Laws.MakeOwn
import Derived.Lib.Bytealg
import Derived.Lib.Join
import Derived.Lib.LaidTab
import Derived.Lib.SplitLaws
import Derived.OpenShut
import Derived.Shelf.SlSortCmp.Insertion
import Derived.Shelf.Strconv.Atoi
import Derived.Shelf.Strconv.Itoa3
import Derived.Shelf.Strings.Prefix
import Derived.Test.YtabpobhnedkkeaaGreatDoorProg
import Derived.WideKeyRuns
import GoSem.ClaimJoined
set_option linter.unusedVariables false
set_option linter.unusedSimpArgs false
set_option maxHeartbeats 16000000
namespace Go.Proofs.YtabpobhnedkkeaaGreatDoor
set_option maxRecDepth 100000
section
open Go.Proofs.Tryz
open Go.HL
instance ti3:FitsI prog 3 (.int .i64) 1 8 (.int .i64 0):=⟨⟨by kernel_rfl,by kernel_rfl⟩⟩
abbrev ty3:=ti3.ok
instance ti4:FitsI prog 4 .bool 1 1 (.bool false):=⟨⟨by kernel_rfl,by kernel_rfl⟩⟩
abbrev ty4:=ti4.ok
theorem ty5:Fits prog 5 (.int .u8) 1 1 (.int .u8 0):=⟨by kernel_rfl,by kernel_rfl⟩
instance ti9:FitsI prog 9 .str 1 16 (.string ⟨#[]⟩):=⟨⟨by kernel_rfl,by kernel_rfl⟩⟩
abbrev ty9:=ti9.ok
instance ti22:FitsI prog 22 (.slice 3) 1 24 (.slice none 0 0):=⟨⟨by kernel_rfl,by kernel_rfl⟩⟩
abbrev zab:=ti22.ok
instance ti25:FitsI prog 25 (.struct [(0,22),(1,3)]) 2 32 (.agg #[.slice none 0 0,.int .i64 0]):=⟨⟨by kernel_rfl,by kernel_rfl⟩⟩
abbrev ty25:=ti25.ok
instance ti26:FitsI prog 26 (.slice 107) 1 24 (.slice none 0 0):=⟨⟨by kernel_rfl,by kernel_rfl⟩⟩
abbrev zke:=ti26.ok
instance ti27:FitsI prog 27 (.slice 265) 1 24 (.slice none 0 0):=⟨⟨by kernel_rfl,by kernel_rfl⟩⟩
abbrev zh6:=ti27.ok
instance ti28:FitsI prog 28 (.slice 255) 1 24 (.slice none 0 0):=⟨⟨by kernel_rfl,by kernel_rfl⟩⟩
abbrev zdB:=ti28.ok
instance ti29:FitsI prog 29 (.slice 169) 1 24 (.slice none 0 0):=⟨⟨by kernel_rfl,by kernel_rfl⟩⟩
abbrev zrP:=ti29.ok
instance ti30:FitsI prog 30 (.slice 115) 1 24 (.slice none 0 0):=⟨⟨by kernel_rfl,by kernel_rfl⟩⟩
abbrev zfC:=ti30.ok
instance ti32:FitsI prog 32 (.struct [(0,3),(1,3),(2,3),(3,3)]) 4 32 (.agg #[.int .i64 0,.int .i64 0,.int .i64 0,.int .i64 0]):=⟨⟨by kernel_rfl,by kernel_rfl⟩⟩
abbrev zkf:=ti32.ok
instance ti33:FitsI prog 33 (.slice 9) 1 24 (.slice none 0 0):=⟨⟨by kernel_rfl,by kernel_rfl⟩⟩
abbrev zo:=ti33.ok
instance ti34:FitsI prog 34 (.slice 192) 1 24 (.slice none 0 0):=⟨⟨by kernel_rfl,by kernel_rfl⟩⟩
abbrev zgZ:=ti34.ok
instance ti36:FitsI prog 36 (.struct [(0,26),(1,27),(2,28),(3,29),(4,30),(5,32),(9,33),(10,34),(11,22),(12,33),(13,3)]) 14 256 (.agg #[.slice none 0 0,.slice none 0 0,.slice none 0 0,.slice none 0 0,.slice none 0 0,.int .i64 0,.int .i64 0,.int .i64 0,.int .i64 0,.slice none 0 0,.slice none 0 0,.slice none 0 0,.slice none 0 0,.int .i64 0]):=⟨⟨by kernel_rfl,by kernel_rfl⟩⟩
abbrev zbE:=ti36.ok
instance ti37:FitsI prog 37 (.slice 129) 1 24 (.slice none 0 0):=⟨⟨by kernel_rfl,by kernel_rfl⟩⟩
abbrev zda:=ti37.ok
instance ti38:FitsI prog 38 (.slice 196) 1 24 (.slice none 0 0):=⟨⟨by kernel_rfl,by kernel_rfl⟩⟩
abbrev zh7:=ti38.ok
instance ti39:FitsI prog 39 (.slice 97) 1 24 (.slice none 0 0):=⟨⟨by kernel_rfl,by kernel_rfl⟩⟩
abbrev zeg:=ti39.ok
instance ti40:FitsI prog 40 (.slice 201) 1 24 (.slice none 0 0):=⟨⟨by kernel_rfl,by kernel_rfl⟩⟩
abbrev zkg:=ti40.ok
instance ti41:FitsI prog 41 (.slice 111) 1 24 (.slice none 0 0):=⟨⟨by kernel_rfl,by kernel_rfl⟩⟩
abbrev zfj:=ti41.ok
instance ti43:FitsI prog 43 (.struct [(0,36),(14,37),(15,38),(16,39),(17,40),(18,41)]) 19 376 (.agg #[.slice none 0 0,.slice none 0 0,.slice none 0 0,.slice none 0 0,.slice none 0 0,.int .i64 0,.int .i64 0,.int .i64 0,.int .i64 0,.slice none 0 0,.slice none 0 0,.slice none 0 0,.slice none 0 0,.int .i64 0,.slice none 0 0,.slice none 0 0,.slice none 0 0,.slice none 0 0,.slice none 0 0]):=⟨⟨by kernel_rfl,by kernel_rfl⟩⟩
abbrev zdr:=ti43.ok
instance ti44:FitsI prog 44 (.int .i64) 1 8 (.int .i64 0):=⟨⟨by kernel_rfl,by kernel_rfl⟩⟩
abbrev zhv:=ti44.ok
instance ti50:FitsI prog 50 (.slice 64) 1 24 (.slice none 0 0):=⟨⟨by kernel_rfl,by kernel_rfl⟩⟩
abbrev zeT:=ti50.ok
instance ti53:FitsI prog 53 (.slice 70) 1 24 (.slice none 0 0):=⟨⟨by kernel_rfl,by kernel_rfl⟩⟩
abbrev zlA:=ti53.ok
instance ti56:FitsI prog 56 (.slice 74) 1 24 (.slice none 0 0):=⟨⟨by kernel_rfl,by kernel_rfl⟩⟩
abbrev zjp:=ti56.ok
instance ti62:FitsI prog 62 (.slice 121) 1 24 (.slice none 0 0):=⟨⟨by kernel_rfl,by kernel_rfl⟩⟩
abbrev zdb:=ti62.ok
instance ti64:FitsI prog 64 (.struct [(0,9),(1,3),(2,62)]) 3 48 (.agg #[.string ⟨#[]⟩,.int .i64 0,.slice none 0 0]):=⟨⟨by kernel_rfl,by kernel_rfl⟩⟩
abbrev zbg:=ti64.ok
instance ti68:FitsI prog 68 (.struct [(0,3),(1,3)]) 2 16 (.agg #[.int .i64 0,.int .i64 0]):=⟨⟨by kernel_rfl,by kernel_rfl⟩⟩
abbrev zaM:=ti68.ok
instance ti70:FitsI prog 70 (.struct [(0,9),(1,33),(2,68),(4,4)]) 5 64 (.agg #[.string ⟨#[]⟩,.slice none 0 0,.int .i64 0,.int .i64 0,.bool false]):=⟨⟨by kernel_rfl,by kernel_rfl⟩⟩
abbrev zcz:=ti70.ok
instance ti74:FitsI prog 74 (.struct [(0,9),(1,9)]) 2 32 (.agg #[.string ⟨#[]⟩,.string ⟨#[]⟩]):=⟨⟨by kernel_rfl,by kernel_rfl⟩⟩
abbrev zgq:=ti74.ok
instance ti82:FitsI prog 82 (.slice 44) 1 24 (.slice none 0 0):=⟨⟨by kernel_rfl,by kernel_rfl⟩⟩
abbrev zg0:=ti82.ok
instance ti86:FitsI prog 86 .func 1 8 (.nilFunc):=⟨⟨by kernel_rfl,by kernel_rfl⟩⟩
abbrev ty86:=ti86.ok
instance ti87:FitsI prog 87 (.ptr 43) 1 8 (.pointer none):=⟨⟨by kernel_rfl,by kernel_rfl⟩⟩
abbrev ziV:=ti87.ok
instance ti89:FitsI prog 89 (.struct [(0,87),(1,3)]) 2 16 (.agg #[.pointer none,.int .i64 0]):=⟨⟨by kernel_rfl,by kernel_rfl⟩⟩
abbrev zqk:=ti89.ok
instance ti97:FitsI prog 97 (.struct [(0,9),(1,3),(2,9),(3,3),(4,3),(5,3),(6,9)]) 7 80 (.agg #[.string ⟨#[]⟩,.int .i64 0,.string ⟨#[]⟩,.int .i64 0,.int .i64 0,.int .i64 0,.string ⟨#[]⟩]):=⟨⟨by kernel_rfl,by kernel_rfl⟩⟩
abbrev zaY:=ti97.ok
instance ti102:FitsI prog 102 (.struct [(0,9),(1,33),(2,33)]) 3 64 (.agg #[.string ⟨#[]⟩,.slice none 0 0,.slice none 0 0]):=⟨⟨by kernel_rfl,by kernel_rfl⟩⟩
abbrev zdZ:=ti102.ok
instance ti107:FitsI prog 107 (.struct [(0,9),(1,9),(2,33)]) 3 56 (.agg #[.string ⟨#[]⟩,.string ⟨#[]⟩,.slice none 0 0]):=⟨⟨by kernel_rfl,by kernel_rfl⟩⟩
abbrev zhi:=ti107.ok
instance ti111:FitsI prog 111 (.struct [(0,9),(1,3),(2,3),(3,33),(4,9)]) 5 72 (.agg #[.string ⟨#[]⟩,.int .i64 0,.int .i64 0,.slice none 0 0,.string ⟨#[]⟩]):=⟨⟨by kernel_rfl,by kernel_rfl⟩⟩
abbrev za8:=ti111.ok
instance ti115:FitsI prog 115 (.struct [(0,9),(1,33)]) 2 40 (.agg #[.string ⟨#[]⟩,.slice none 0 0]):=⟨⟨by kernel_rfl,by kernel_rfl⟩⟩
abbrev zcf:=ti115.ok
instance ti121:FitsI prog 121 (.struct [(0,9),(1,3)]) 2 24 (.agg #[.string ⟨#[]⟩,.int .i64 0]):=⟨⟨by kernel_rfl,by kernel_rfl⟩⟩
abbrev zbD:=ti121.ok
instance ti129:FitsI prog 129 (.struct [(0,3),(1,3),(2,9),(3,9)]) 4 48 (.agg #[.int .i64 0,.int .i64 0,.string ⟨#[]⟩,.string ⟨#[]⟩]):=⟨⟨by kernel_rfl,by kernel_rfl⟩⟩
abbrev zy:=ti129.ok
instance ti134:FitsI prog 134 (.ptr 111) 1 8 (.pointer none):=⟨⟨by kernel_rfl,by kernel_rfl⟩⟩
abbrev zkL:=ti134.ok
theorem zJf:Fits prog 152 (.ptr 107) 1 8 (.pointer none):=⟨by kernel_rfl,by kernel_rfl⟩
instance ti169:FitsI prog 169 (.struct [(0,9),(1,9),(2,9),(3,3),(4,3),(5,68)]) 7 80 (.agg #[.string ⟨#[]⟩,.string ⟨#[]⟩,.string ⟨#[]⟩,.int .i64 0,.int .i64 0,.int .i64 0,.int .i64 0]):=⟨⟨by kernel_rfl,by kernel_rfl⟩⟩
abbrev zfs:=ti169.ok
instance ti192:FitsI prog 192 (.struct [(0,3),(1,9),(2,9),(3,4),(4,68),(6,68)]) 8 80 (.agg #[.int .i64 0,.string ⟨#[]⟩,.string ⟨#[]⟩,.bool false,.int .i64 0,.int .i64 0,.int .i64 0,.int .i64 0]):=⟨⟨by kernel_rfl,by kernel_rfl⟩⟩
abbrev zcS:=ti192.ok
instance ti196:FitsI prog 196 (.struct [(0,9),(1,3),(2,3),(3,3),(4,9),(5,9),(6,9),(7,3),(8,3)]) 9 104 (.agg #[.string ⟨#[]⟩,.int .i64 0,.int .i64 0,.int .i64 0,.string ⟨#[]⟩,.string ⟨#[]⟩,.string ⟨#[]⟩,.int .i64 0,.int .i64 0]):=⟨⟨by kernel_rfl,by kernel_rfl⟩⟩
abbrev zbf:=ti196.ok
instance ti201:FitsI prog 201 (.struct [(0,9),(1,3),(2,3),(3,3)]) 4 40 (.agg #[.string ⟨#[]⟩,.int .i64 0,.int .i64 0,.int .i64 0]):=⟨⟨by kernel_rfl,by kernel_rfl⟩⟩
abbrev zc8:=ti201.ok
instance ti203:FitsI prog 203 .func 1 8 (.nilFunc):=⟨⟨by kernel_rfl,by kernel_rfl⟩⟩
abbrev zJg:=ti203.ok
theorem zjy:Fits prog 215 (.map 9 4) 1 8 (.map none):=⟨by kernel_rfl,by kernel_rfl⟩
instance ti216:FitsI prog 216 (.map 9 3) 1 8 (.map none):=⟨⟨by kernel_rfl,by kernel_rfl⟩⟩
abbrev zcT:=ti216.ok
theorem zvQ:Fits prog 232 (.map 9 216) 1 8 (.map none):=⟨by kernel_rfl,by kernel_rfl⟩
instance ti242:FitsI prog 242 (.map 9 247) 1 8 (.map none):=⟨⟨by kernel_rfl,by kernel_rfl⟩⟩
abbrev zhj:=ti242.ok
instance ti243:FitsI prog 243 (.map 9 22) 1 8 (.map none):=⟨⟨by kernel_rfl,by kernel_rfl⟩⟩
abbrev zoB:=ti243.ok
instance ti245:FitsI prog 245 (.struct [(0,32),(4,242),(5,243)]) 6 48 (.agg #[.int .i64 0,.int .i64 0,.int .i64 0,.int .i64 0,.map none,.map none]):=⟨⟨by kernel_rfl,by kernel_rfl⟩⟩
abbrev zEg:=ti245.ok
instance ti247:FitsI prog 247 (.struct [(0,9),(1,4),(2,3)]) 3 32 (.agg #[.string ⟨#[]⟩,.bool false,.int .i64 0]):=⟨⟨by kernel_rfl,by kernel_rfl⟩⟩
abbrev zcU:=ti247.ok
instance ti255:FitsI prog 255 (.struct [(0,3),(1,3),(2,9),(3,9)]) 4 48 (.agg #[.int .i64 0,.int .i64 0,.string ⟨#[]⟩,.string ⟨#[]⟩]):=⟨⟨by kernel_rfl,by kernel_rfl⟩⟩
abbrev zaX:=ti255.ok
instance ti265:FitsI prog 265 (.struct [(0,9),(1,9),(2,3)]) 3 40 (.agg #[.string ⟨#[]⟩,.string ⟨#[]⟩,.int .i64 0]):=⟨⟨by kernel_rfl,by kernel_rfl⟩⟩
abbrev zdn:=ti265.ok
instance ti267:FitsI prog 267 .func 1 8 (.nilFunc):=⟨⟨by kernel_rfl,by kernel_rfl⟩⟩
abbrev zJh:=ti267.ok
theorem zs4:Fits prog 271 (.int .u64) 1 8 (.int .u64 0):=⟨by kernel_rfl,by kernel_rfl⟩
theorem zEh:Fits prog 283 (.map 285 4) 1 8 (.map none):=⟨by kernel_rfl,by kernel_rfl⟩
instance ti285:FitsI prog 285 (.struct [(0,9),(1,3)]) 2 24 (.agg #[.string ⟨#[]⟩,.int .i64 0]):=⟨⟨by kernel_rfl,by kernel_rfl⟩⟩
abbrev zs5:=ti285.ok
instance ti286:FitsI prog 286 (.map 9 9) 1 8 (.map none):=⟨⟨by kernel_rfl,by kernel_rfl⟩⟩
abbrev zjz:=ti286.ok
theorem zEi:Fits prog 288 (.map 293 4) 1 8 (.map none):=⟨by kernel_rfl,by kernel_rfl⟩
theorem zvR:Fits prog 291 (.map 295 3) 1 8 (.map none):=⟨by kernel_rfl,by kernel_rfl⟩
instance ti293:FitsI prog 293 (.struct [(0,9),(1,3)]) 2 24 (.agg #[.string ⟨#[]⟩,.int .i64 0]):=⟨⟨by kernel_rfl,by kernel_rfl⟩⟩
abbrev zoC:=ti293.ok
instance ti295:FitsI prog 295 (.struct [(0,9),(1,9)]) 2 32 (.agg #[.string ⟨#[]⟩,.string ⟨#[]⟩]):=⟨⟨by kernel_rfl,by kernel_rfl⟩⟩
abbrev zs6:=ti295.ok
theorem zmh:Fits prog 298 (.map 301 62) 1 8 (.map none):=⟨by kernel_rfl,by kernel_rfl⟩
instance ti301:FitsI prog 301 (.struct [(0,9),(1,3)]) 2 24 (.agg #[.string ⟨#[]⟩,.int .i64 0]):=⟨⟨by kernel_rfl,by kernel_rfl⟩⟩
abbrev zhL:=ti301.ok
instance ti309:FitsI prog 309 (.map 9 33) 1 8 (.map none):=⟨⟨by kernel_rfl,by kernel_rfl⟩⟩
abbrev zef:=ti309.ok
instance ti310:FitsI prog 310 (.map 414 3) 1 8 (.map none):=⟨⟨by kernel_rfl,by kernel_rfl⟩⟩
abbrev zkM:=ti310.ok
instance ti312:FitsI prog 312 (.struct [(0,32),(4,309),(5,309),(6,286),(7,216),(8,310)]) 9 72 (.agg #[.int .i64 0,.int .i64 0,.int .i64 0,.int .i64 0,.map none,.map none,.map none,.map none,.map none]):=⟨⟨by kernel_rfl,by kernel_rfl⟩⟩
abbrev zEj:=ti312.ok
theorem zs7:Fits prog 341 (.int .u64) 1 8 (.int .u64 0):=⟨by kernel_rfl,by kernel_rfl⟩
theorem zmi:Fits prog 349 (.arr 256 4) 256 256 (.agg #[.bool false,.bool false,.bool false,.bool false,.bool false,.bool false,.bool false,.bool false,.bool false,.bool false,.bool false,.bool false,.bool false,.bool false,.bool false,.bool false,.bool false,.bool false,.bool false,.bool false,.bool false,.bool false,.bool false,.bool false,.bool false,.bool false,.bool false,.bool false,.bool false,.bool false,.bool false,.bool false,.bool false,.bool false,.bool false,.bool false,.bool false,.bool false,.bool false,.bool false,.bool false,.bool false,.bool false,.bool false,.bool false,.bool false,.bool false,.bool false,.bool false,.bool false,.bool false,.bool false,.bool false,.bool false,.bool false,.bool false,.bool false,.bool false,.bool false,.bool false,.bool false,.bool false,.bool false,.bool false,.bool false,.bool false,.bool false,.bool false,.bool false,.bool false,.bool false,.bool false,.bool false,.bool false,.bool false,.bool false,.bool false,.bool false,.bool false,.bool false,.bool false,.bool false,.bool false,.bool false,.bool false,.bool false,.bool false,.bool false,.bool false,.bool false,.bool false,.bool false,.bool false,.bool false,.bool false,.bool false,.bool false,.bool false,.bool false,.bool false,.bool false,.bool false,.bool false,.bool false,.bool false,.bool false,.bool false,.bool false,.bool false,.bool false,.bool false,.bool false,.bool false,.bool false,.bool false,.bool false,.bool false,.bool false,.bool false,.bool false,.bool false,.bool false,.bool false,.bool false,.bool false,.bool false,.bool false,.bool false,.bool false,.bool false,.bool false,.bool false,.bool false,.bool false,.bool false,.bool false,.bool false,.bool false,.bool false,.bool false,.bool false,.bool false,.bool false,.bool false,.bool false,.bool false,.bool false,.bool false,.bool false,.bool false,.bool false,.bool false,.bool false,.bool false,.bool false,.bool false,.bool false,.bool false,.bool false,.bool false,.bool false,.bool false,.bool false,.bool false,.bool false,.bool false,.bool false,.bool false,.bool false,.bool false,.bool false,.bool false,.bool false,.bool false,.bool false,.bool false,.bool false,.bool false,.bool false,.bool false,.bool false,.bool false,.bool false,.bool false,.bool false,.bool false,.bool false,.bool false,.bool false,.bool false,.bool false,.bool false,.bool false,.bool false,.bool false,.bool false,.bool false,.bool false,.bool false,.bool false,.bool false,.bool false,.bool false,.bool false,.bool false,.bool false,.bool false,.bool false,.bool false,.bool false,.bool false,.bool false,.bool false,.bool false,.bool false,.bool false,.bool false,.bool false,.bool false,.bool false,.bool false,.bool false,.bool false,.bool false,.bool false,.bool false,.bool false,.bool false,.bool false,.bool false,.bool false,.bool false,.bool false,.bool false,.bool false,.bool false,.bool false,.bool false,.bool false,.bool false,.bool false,.bool false,.bool false,.bool false,.bool false,.bool false,.bool false,.bool false,.bool false,.bool false,.bool false,.bool false,.bool false,.bool false,.bool false,.bool false]):=⟨by kernel_rfl,by kernel_rfl⟩
theorem zEk:Fits prog 354 (.map 293 196) 1 8 (.map none):=⟨by kernel_rfl,by kernel_rfl⟩
theorem zAk:Fits prog 356 (.map 9 62) 1 8 (.map none):=⟨by kernel_rfl,by kernel_rfl⟩
theorem zAl:Fits prog 414 (.struct [(0,9),(1,3)]) 2 24 (.agg #[.string ⟨#[]⟩,.int .i64 0]):=⟨by kernel_rfl,by kernel_rfl⟩
theorem pl25:Places prog [(0,22),(1,3)] [(0,1),(1,1)]:=⟨rfl,⟨_,_,_,zab⟩,⟨rfl,⟨_,_,_,ty3⟩,trivial⟩⟩
theorem pl32:Places prog [(0,3),(1,3),(2,3),(3,3)] [(0,1),(1,1),(2,1),(3,1)]:=⟨rfl,⟨_,_,_,ty3⟩,⟨rfl,⟨_,_,_,ty3⟩,⟨rfl,⟨_,_,_,ty3⟩,⟨rfl,⟨_,_,_,ty3⟩,trivial⟩⟩⟩⟩
theorem zlr:Places prog [(0,26),(1,27),(2,28),(3,29),(4,30),(5,32),(9,33),(10,34),(11,22),(12,33),(13,3)] [(0,1),(1,1),(2,1),(3,1),(4,1),(5,4),(9,1),(10,1),(11,1),(12,1),(13,1)]:=⟨rfl,⟨_,_,_,zke⟩,⟨rfl,⟨_,_,_,zh6⟩,⟨rfl,⟨_,_,_,zdB⟩,⟨rfl,⟨_,_,_,zrP⟩,⟨rfl,⟨_,_,_,zfC⟩,⟨rfl,⟨_,_,_,zkf⟩,⟨rfl,⟨_,_,_,zo⟩,⟨rfl,⟨_,_,_,zgZ⟩,⟨rfl,⟨_,_,_,zab⟩,⟨rfl,⟨_,_,_,zo⟩,⟨rfl,⟨_,_,_,ty3⟩,trivial⟩⟩⟩⟩⟩⟩⟩⟩⟩⟩⟩
theorem pl43:Places prog [(0,36),(14,37),(15,38),(16,39),(17,40),(18,41)] [(0,14),(14,1),(15,1),(16,1),(17,1),(18,1)]:=⟨rfl,⟨_,_,_,zbE⟩,⟨rfl,⟨_,_,_,zda⟩,⟨rfl,⟨_,_,_,zh7⟩,⟨rfl,⟨_,_,_,zeg⟩,⟨rfl,⟨_,_,_,zkg⟩,⟨rfl,⟨_,_,_,zfj⟩,trivial⟩⟩⟩⟩⟩⟩
theorem zzZ:Places prog [(0,9),(1,3),(2,62)] [(0,1),(1,1),(2,1)]:=⟨rfl,⟨_,_,_,ty9⟩,⟨rfl,⟨_,_,_,ty3⟩,⟨rfl,⟨_,_,_,zdb⟩,trivial⟩⟩⟩
theorem zls:Places prog [(0,3),(1,3)] [(0,1),(1,1)]:=⟨rfl,⟨_,_,_,ty3⟩,⟨rfl,⟨_,_,_,ty3⟩,trivial⟩⟩
theorem zCL:Places prog [(0,9),(1,33),(2,68),(4,4)] [(0,1),(1,1),(2,2),(4,1)]:=⟨rfl,⟨_,_,_,ty9⟩,⟨rfl,⟨_,_,_,zo⟩,⟨rfl,⟨_,_,_,zaM⟩,⟨rfl,⟨_,_,_,ty4⟩,trivial⟩⟩⟩⟩
theorem pl74:Places prog [(0,9),(1,9)] [(0,1),(1,1)]:=⟨rfl,⟨_,_,_,ty9⟩,⟨rfl,⟨_,_,_,ty9⟩,trivial⟩⟩
theorem zCM:Places prog [(0,87),(1,3)] [(0,1),(1,1)]:=⟨rfl,⟨_,_,_,ziV⟩,⟨rfl,⟨_,_,_,ty3⟩,trivial⟩⟩
theorem pl97:Places prog [(0,9),(1,3),(2,9),(3,3),(4,3),(5,3),(6,9)] [(0,1),(1,1),(2,1),(3,1),(4,1),(5,1),(6,1)]:=⟨rfl,⟨_,_,_,ty9⟩,⟨rfl,⟨_,_,_,ty3⟩,⟨rfl,⟨_,_,_,ty9⟩,⟨rfl,⟨_,_,_,ty3⟩,⟨rfl,⟨_,_,_,ty3⟩,⟨rfl,⟨_,_,_,ty3⟩,⟨rfl,⟨_,_,_,ty9⟩,trivial⟩⟩⟩⟩⟩⟩⟩
theorem zEa:Places prog [(0,9),(1,33),(2,33)] [(0,1),(1,1),(2,1)]:=⟨rfl,⟨_,_,_,ty9⟩,⟨rfl,⟨_,_,_,zo⟩,⟨rfl,⟨_,_,_,zo⟩,trivial⟩⟩⟩
theorem zI1:Places prog [(0,9),(1,9),(2,33)] [(0,1),(1,1),(2,1)]:=⟨rfl,⟨_,_,_,ty9⟩,⟨rfl,⟨_,_,_,ty9⟩,⟨rfl,⟨_,_,_,zo⟩,trivial⟩⟩⟩
theorem zEb:Places prog [(0,9),(1,3),(2,3),(3,33),(4,9)] [(0,1),(1,1),(2,1),(3,1),(4,1)]:=⟨rfl,⟨_,_,_,ty9⟩,⟨rfl,⟨_,_,_,ty3⟩,⟨rfl,⟨_,_,_,ty3⟩,⟨rfl,⟨_,_,_,zo⟩,⟨rfl,⟨_,_,_,ty9⟩,trivial⟩⟩⟩⟩⟩
theorem zzV:Places prog [(0,9),(1,33)] [(0,1),(1,1)]:=⟨rfl,⟨_,_,_,ty9⟩,⟨rfl,⟨_,_,_,zo⟩,trivial⟩⟩
theorem zzW:Places prog [(0,9),(1,3)] [(0,1),(1,1)]:=⟨rfl,⟨_,_,_,ty9⟩,⟨rfl,⟨_,_,_,ty3⟩,trivial⟩⟩
theorem zI2:Places prog [(0,3),(1,3),(2,9),(3,9)] [(0,1),(1,1),(2,1),(3,1)]:=⟨rfl,⟨_,_,_,ty3⟩,⟨rfl,⟨_,_,_,ty3⟩,⟨rfl,⟨_,_,_,ty9⟩,⟨rfl,⟨_,_,_,ty9⟩,trivial⟩⟩⟩⟩
theorem zI3:Places prog [(0,9),(1,9),(2,9),(3,3),(4,3),(5,68)] [(0,1),(1,1),(2,1),(3,1),(4,1),(5,2)]:=⟨rfl,⟨_,_,_,ty9⟩,⟨rfl,⟨_,_,_,ty9⟩,⟨rfl,⟨_,_,_,ty9⟩,⟨rfl,⟨_,_,_,ty3⟩,⟨rfl,⟨_,_,_,ty3⟩,⟨rfl,⟨_,_,_,zaM⟩,trivial⟩⟩⟩⟩⟩⟩
theorem zI4:Places prog [(0,3),(1,9),(2,9),(3,4),(4,68),(6,68)] [(0,1),(1,1),(2,1),(3,1),(4,2),(6,2)]:=⟨rfl,⟨_,_,_,ty3⟩,⟨rfl,⟨_,_,_,ty9⟩,⟨rfl,⟨_,_,_,ty9⟩,⟨rfl,⟨_,_,_,ty4⟩,⟨rfl,⟨_,_,_,zaM⟩,⟨rfl,⟨_,_,_,zaM⟩,trivial⟩⟩⟩⟩⟩⟩
theorem zvP:Places prog [(0,9),(1,3),(2,3),(3,3),(4,9),(5,9),(6,9),(7,3),(8,3)] [(0,1),(1,1),(2,1),(3,1),(4,1),(5,1),(6,1),(7,1),(8,1)]:=⟨rfl,⟨_,_,_,ty9⟩,⟨rfl,⟨_,_,_,ty3⟩,⟨rfl,⟨_,_,_,ty3⟩,⟨rfl,⟨_,_,_,ty3⟩,⟨rfl,⟨_,_,_,ty9⟩,⟨rfl,⟨_,_,_,ty9⟩,⟨rfl,⟨_,_,_,ty9⟩,⟨rfl,⟨_,_,_,ty3⟩,⟨rfl,⟨_,_,_,ty3⟩,trivial⟩⟩⟩⟩⟩⟩⟩⟩⟩
theorem zI5:Places prog [(0,9),(1,3),(2,3),(3,3)] [(0,1),(1,1),(2,1),(3,1)]:=⟨rfl,⟨_,_,_,ty9⟩,⟨rfl,⟨_,_,_,ty3⟩,⟨rfl,⟨_,_,_,ty3⟩,⟨rfl,⟨_,_,_,ty3⟩,trivial⟩⟩⟩⟩
theorem zI6:Places prog [(0,32),(4,242),(5,243)] [(0,4),(4,1),(5,1)]:=⟨rfl,⟨_,_,_,zkf⟩,⟨rfl,⟨_,_,_,zhj⟩,⟨rfl,⟨_,_,_,zoB⟩,trivial⟩⟩⟩
theorem zzX:Places prog [(0,9),(1,4),(2,3)] [(0,1),(1,1),(2,1)]:=⟨rfl,⟨_,_,_,ty9⟩,⟨rfl,⟨_,_,_,ty4⟩,⟨rfl,⟨_,_,_,ty3⟩,trivial⟩⟩⟩
theorem zI7:Places prog [(0,3),(1,3),(2,9),(3,9)] [(0,1),(1,1),(2,1),(3,1)]:=⟨rfl,⟨_,_,_,ty3⟩,⟨rfl,⟨_,_,_,ty3⟩,⟨rfl,⟨_,_,_,ty9⟩,⟨rfl,⟨_,_,_,ty9⟩,trivial⟩⟩⟩⟩
theorem zI8:Places prog [(0,9),(1,9),(2,3)] [(0,1),(1,1),(2,1)]:=⟨rfl,⟨_,_,_,ty9⟩,⟨rfl,⟨_,_,_,ty9⟩,⟨rfl,⟨_,_,_,ty3⟩,trivial⟩⟩⟩
theorem zI9:Places prog [(0,9),(1,3)] [(0,1),(1,1)]:=⟨rfl,⟨_,_,_,ty9⟩,⟨rfl,⟨_,_,_,ty3⟩,trivial⟩⟩
theorem zzY:Places prog [(0,9),(1,3)] [(0,1),(1,1)]:=⟨rfl,⟨_,_,_,ty9⟩,⟨rfl,⟨_,_,_,ty3⟩,trivial⟩⟩
theorem zJa:Places prog [(0,9),(1,9)] [(0,1),(1,1)]:=⟨rfl,⟨_,_,_,ty9⟩,⟨rfl,⟨_,_,_,ty9⟩,trivial⟩⟩
theorem zEc:Places prog [(0,9),(1,3)] [(0,1),(1,1)]:=⟨rfl,⟨_,_,_,ty9⟩,⟨rfl,⟨_,_,_,ty3⟩,trivial⟩⟩
theorem zJb:Places prog [(0,32),(4,309),(5,309),(6,286),(7,216),(8,310)] [(0,4),(4,1),(5,1),(6,1),(7,1),(8,1)]:=⟨rfl,⟨_,_,_,zkf⟩,⟨rfl,⟨_,_,_,zef⟩,⟨rfl,⟨_,_,_,zef⟩,⟨rfl,⟨_,_,_,zjz⟩,⟨rfl,⟨_,_,_,zcT⟩,⟨rfl,⟨_,_,_,zkM⟩,trivial⟩⟩⟩⟩⟩⟩
theorem zEd:Places prog [(0,9),(1,3)] [(0,1),(1,1)]:=⟨rfl,⟨_,_,_,ty9⟩,⟨rfl,⟨_,_,_,ty3⟩,trivial⟩⟩
theorem zwu:EqOk prog 68:=⟨by kernel_rfl,by kernel_rfl,by kernel_rfl⟩
theorem eq74:EqOk prog 74:=⟨by kernel_rfl,by kernel_rfl,by kernel_rfl⟩
theorem zIO:EqOk prog 121:=⟨by kernel_rfl,by kernel_rfl,by kernel_rfl⟩
theorem zD3:EqOk prog 129:=⟨by kernel_rfl,by kernel_rfl,by kernel_rfl⟩
theorem zIP:EqOk prog 285:=⟨by kernel_rfl,by kernel_rfl,by kernel_rfl⟩
theorem zIQ:EqOk prog 293:=⟨by kernel_rfl,by kernel_rfl,by kernel_rfl⟩
theorem zIR:EqOk prog 295:=⟨by kernel_rfl,by kernel_rfl,by kernel_rfl⟩
theorem zIS:EqOk prog 301:=⟨by kernel_rfl,by kernel_rfl,by kernel_rfl⟩
theorem zIT:EqOk prog 414:=⟨by kernel_rfl,by kernel_rfl,by kernel_rfl⟩
theorem ca4:Callable prog 4:=⟨_,func4,by kernel_rfl,by kernel_rfl⟩
theorem ca5:Callable prog 5:=⟨_,func5,by kernel_rfl,by kernel_rfl⟩
theorem ca6:Callable prog 6:=⟨_,func6,by kernel_rfl,by kernel_rfl⟩
theorem ca7:Callable prog 7:=⟨_,func7,by kernel_rfl,by kernel_rfl⟩
theorem ca8:Callable prog 8:=⟨_,func8,by kernel_rfl,by kernel_rfl⟩
theorem ca9:Callable prog 9:=⟨_,func9,by kernel_rfl,by kernel_rfl⟩
theorem ca10:Callable prog 10:=⟨_,func10,by kernel_rfl,by kernel_rfl⟩
theorem ca11:Callable prog 11:=⟨_,func11,by kernel_rfl,by kernel_rfl⟩
theorem ca12:Callable prog 12:=⟨_,func12,by kernel_rfl,by kernel_rfl⟩
theorem ca13:Callable prog 13:=⟨_,func13,by kernel_rfl,by kernel_rfl⟩
theorem ca14:Callable prog 14:=⟨_,func14,by kernel_rfl,by kernel_rfl⟩
theorem ztx:Callable prog 15:=⟨_,func15,by kernel_rfl,by kernel_rfl⟩
theorem ca16:Callable prog 16:=⟨_,func16,by kernel_rfl,by kernel_rfl⟩
theorem zty:Callable prog 17:=⟨_,func17,by kernel_rfl,by kernel_rfl⟩
theorem ztz:Callable prog 18:=⟨_,func18,by kernel_rfl,by kernel_rfl⟩
theorem ztA:Callable prog 19:=⟨_,func19,by kernel_rfl,by kernel_rfl⟩
theorem zBX:Callable prog 20:=⟨_,func20,by kernel_rfl,by kernel_rfl⟩
theorem ca21:Callable prog 21:=⟨_,func21,by kernel_rfl,by kernel_rfl⟩
theorem zcC:Callable prog 22:=⟨_,func22,by kernel_rfl,by kernel_rfl⟩
theorem zaZ:Callable prog 23:=⟨_,func23,by kernel_rfl,by kernel_rfl⟩
theorem ca24:Callable prog 24:=⟨_,func24,by kernel_rfl,by kernel_rfl⟩
theorem ca25:Callable prog 25:=⟨_,func25,by kernel_rfl,by kernel_rfl⟩
theorem ca26:Callable prog 26:=⟨_,func26,by kernel_rfl,by kernel_rfl⟩
theorem ca27:Callable prog 27:=⟨_,func27,by kernel_rfl,by kernel_rfl⟩
theorem zgG:Callable prog 28:=⟨_,func28,by kernel_rfl,by kernel_rfl⟩
theorem ca29:Callable prog 29:=⟨_,func29,by kernel_rfl,by kernel_rfl⟩
theorem zli:Callable prog 30:=⟨_,func30,by kernel_rfl,by kernel_rfl⟩
theorem zj6:Callable prog 31:=⟨_,func31,by kernel_rfl,by kernel_rfl⟩
theorem ca32:Callable prog 32:=⟨_,func32,by kernel_rfl,by kernel_rfl⟩
theorem ca33:Callable prog 33:=⟨_,func33,by kernel_rfl,by kernel_rfl⟩
theorem ca34:Callable prog 34:=⟨_,func34,by kernel_rfl,by kernel_rfl⟩
theorem ca35:Callable prog 35:=⟨_,func35,by kernel_rfl,by kernel_rfl⟩
theorem ca36:Callable prog 36:=⟨_,func36,by kernel_rfl,by kernel_rfl⟩
theorem ca37:Callable prog 37:=⟨_,func37,by kernel_rfl,by kernel_rfl⟩
theorem ca38:Callable prog 38:=⟨_,func38,by kernel_rfl,by kernel_rfl⟩
theorem ca39:Callable prog 39:=⟨_,func39,by kernel_rfl,by kernel_rfl⟩
theorem ca40:Callable prog 40:=⟨_,func40,by kernel_rfl,by kernel_rfl⟩
theorem ca41:Callable prog 41:=⟨_,func41,by kernel_rfl,by kernel_rfl⟩
theorem zwg:Callable prog 42:=⟨_,func42,by kernel_rfl,by kernel_rfl⟩
theorem ca43:Callable prog 43:=⟨_,func43,by kernel_rfl,by kernel_rfl⟩
theorem ca44:Callable prog 44:=⟨_,func44,by kernel_rfl,by kernel_rfl⟩
theorem ca45:Callable prog 45:=⟨_,func45,by kernel_rfl,by kernel_rfl⟩
theorem ca46:Callable prog 46:=⟨_,func46,by kernel_rfl,by kernel_rfl⟩
theorem ca47:Callable prog 47:=⟨_,func47,by kernel_rfl,by kernel_rfl⟩
theorem ca48:Callable prog 48:=⟨_,func48,by kernel_rfl,by kernel_rfl⟩
theorem ca49:Callable prog 49:=⟨_,func49,by kernel_rfl,by kernel_rfl⟩
theorem ca50:Callable prog 50:=⟨_,func50,by kernel_rfl,by kernel_rfl⟩
theorem ca51:Callable prog 51:=⟨_,func51,by kernel_rfl,by kernel_rfl⟩
theorem ca52:Callable prog 52:=⟨_,func52,by kernel_rfl,by kernel_rfl⟩
theorem ca53:Callable prog 53:=⟨_,func53,by kernel_rfl,by kernel_rfl⟩
theorem ca54:Callable prog 54:=⟨_,func54,by kernel_rfl,by kernel_rfl⟩
theorem ca55:Callable prog 55:=⟨_,func55,by kernel_rfl,by kernel_rfl⟩
theorem zho:Callable prog 56:=⟨_,func56,by kernel_rfl,by kernel_rfl⟩
theorem ca57:Callable prog 57:=⟨_,func57,by kernel_rfl,by kernel_rfl⟩
theorem ca58:Callable prog 58:=⟨_,func58,by kernel_rfl,by kernel_rfl⟩
theorem ca59:Callable prog 59:=⟨_,func59,by kernel_rfl,by kernel_rfl⟩
theorem ca60:Callable prog 60:=⟨_,func60,by kernel_rfl,by kernel_rfl⟩
theorem zfd:Callable prog 61:=⟨_,func61,by kernel_rfl,by kernel_rfl⟩
theorem zj7:Callable prog 62:=⟨_,func62,by kernel_rfl,by kernel_rfl⟩
theorem zlj:Callable prog 63:=⟨_,func63,by kernel_rfl,by kernel_rfl⟩
theorem ca64:Callable prog 64:=⟨_,func64,by kernel_rfl,by kernel_rfl⟩
theorem ca65:Callable prog 65:=⟨_,func65,by kernel_rfl,by kernel_rfl⟩
theorem ca66:Callable prog 66:=⟨_,func66,by kernel_rfl,by kernel_rfl⟩
theorem ca67:Callable prog 67:=⟨_,func67,by kernel_rfl,by kernel_rfl⟩
theorem ca68:Callable prog 68:=⟨_,func68,by kernel_rfl,by kernel_rfl⟩
theorem ca69:Callable prog 69:=⟨_,func69,by kernel_rfl,by kernel_rfl⟩
theorem zps:Callable prog 70:=⟨_,func70,by kernel_rfl,by kernel_rfl⟩
theorem ca71:Callable prog 71:=⟨_,func71,by kernel_rfl,by kernel_rfl⟩
theorem ca72:Callable prog 72:=⟨_,func72,by kernel_rfl,by kernel_rfl⟩
theorem zpt:Callable prog 73:=⟨_,func73,by kernel_rfl,by kernel_rfl⟩
theorem ca74:Callable prog 74:=⟨_,func74,by kernel_rfl,by kernel_rfl⟩
theorem ca75:Callable prog 75:=⟨_,func75,by kernel_rfl,by kernel_rfl⟩
theorem ca76:Callable prog 76:=⟨_,func76,by kernel_rfl,by kernel_rfl⟩
theorem ca77:Callable prog 77:=⟨_,func77,by kernel_rfl,by kernel_rfl⟩
theorem ca78:Callable prog 78:=⟨_,func78,by kernel_rfl,by kernel_rfl⟩
theorem zd9:Callable prog 79:=⟨_,func79,by kernel_rfl,by kernel_rfl⟩
theorem ca80:Callable prog 80:=⟨_,func80,by kernel_rfl,by kernel_rfl⟩
theorem ca81:Callable prog 81:=⟨_,func81,by kernel_rfl,by kernel_rfl⟩
theorem ca82:Callable prog 82:=⟨_,func82,by kernel_rfl,by kernel_rfl⟩
theorem zBY:Callable prog 83:=⟨_,func83,by kernel_rfl,by kernel_rfl⟩
theorem ca84:Callable prog 84:=⟨_,func84,by kernel_rfl,by kernel_rfl⟩
theorem zBZ:Callable prog 85:=⟨_,func85,by kernel_rfl,by kernel_rfl⟩
theorem ca86:Callable prog 86:=⟨_,func86,by kernel_rfl,by kernel_rfl⟩
theorem ca87:Callable prog 87:=⟨_,func87,by kernel_rfl,by kernel_rfl⟩
theorem ca88:Callable prog 88:=⟨_,func88,by kernel_rfl,by kernel_rfl⟩
theorem ca89:Callable prog 89:=⟨_,func89,by kernel_rfl,by kernel_rfl⟩
theorem ca90:Callable prog 90:=⟨_,func90,by kernel_rfl,by kernel_rfl⟩
theorem ca91:Callable prog 91:=⟨_,func91,by kernel_rfl,by kernel_rfl⟩
theorem ca92:Callable prog 92:=⟨_,func92,by kernel_rfl,by kernel_rfl⟩
theorem ca93:Callable prog 93:=⟨_,func93,by kernel_rfl,by kernel_rfl⟩
theorem ca94:Callable prog 94:=⟨_,func94,by kernel_rfl,by kernel_rfl⟩
theorem ca95:Callable prog 95:=⟨_,func95,by kernel_rfl,by kernel_rfl⟩
theorem ca96:Callable prog 96:=⟨_,func96,by kernel_rfl,by kernel_rfl⟩
theorem ca97:Callable prog 97:=⟨_,func97,by kernel_rfl,by kernel_rfl⟩
theorem ca98:Callable prog 98:=⟨_,func98,by kernel_rfl,by kernel_rfl⟩
theorem ca99:Callable prog 99:=⟨_,func99,by kernel_rfl,by kernel_rfl⟩
theorem zGD:Callable prog 100:=⟨_,func100,by kernel_rfl,by kernel_rfl⟩
theorem zDp:Callable prog 101:=⟨_,func101,by kernel_rfl,by kernel_rfl⟩
theorem zhH:Callable prog 102:=⟨_,func102,by kernel_rfl,by kernel_rfl⟩
theorem zy7:Callable prog 103:=⟨_,func103,by kernel_rfl,by kernel_rfl⟩
theorem zvz:Callable prog 104:=⟨_,func104,by kernel_rfl,by kernel_rfl⟩
theorem zGE:Callable prog 105:=⟨_,func105,by kernel_rfl,by kernel_rfl⟩
theorem zDq:Callable prog 106:=⟨_,func106,by kernel_rfl,by kernel_rfl⟩
theorem zGF:Callable prog 107:=⟨_,func107,by kernel_rfl,by kernel_rfl⟩
theorem zy8:Callable prog 108:=⟨_,func108,by kernel_rfl,by kernel_rfl⟩
theorem zGG:Callable prog 109:=⟨_,func109,by kernel_rfl,by kernel_rfl⟩
theorem zg7:Callable prog 110:=⟨_,func110,by kernel_rfl,by kernel_rfl⟩
theorem zcO:Callable prog 111:=⟨_,func111,by kernel_rfl,by kernel_rfl⟩
theorem zdT:Callable prog 112:=⟨_,func112,by kernel_rfl,by kernel_rfl⟩
theorem zDr:Callable prog 113:=⟨_,func113,by kernel_rfl,by kernel_rfl⟩
theorem zy9:Callable prog 114:=⟨_,func114,by kernel_rfl,by kernel_rfl⟩
theorem zvA:Callable prog 115:=⟨_,func115,by kernel_rfl,by kernel_rfl⟩
theorem zqr:Callable prog 116:=⟨_,func116,by kernel_rfl,by kernel_rfl⟩
theorem zqs:Callable prog 117:=⟨_,func117,by kernel_rfl,by kernel_rfl⟩
theorem zlY:Callable prog 118:=⟨_,func118,by kernel_rfl,by kernel_rfl⟩
theorem zkw:Callable prog 119:=⟨_,func119,by kernel_rfl,by kernel_rfl⟩
theorem zGH:Callable prog 120:=⟨_,func120,by kernel_rfl,by kernel_rfl⟩
theorem zGI:Callable prog 121:=⟨_,func121,by kernel_rfl,by kernel_rfl⟩
theorem zDs:Callable prog 122:=⟨_,func122,by kernel_rfl,by kernel_rfl⟩
theorem zDt:Callable prog 123:=⟨_,func123,by kernel_rfl,by kernel_rfl⟩
theorem zGJ:Callable prog 124:=⟨_,func124,by kernel_rfl,by kernel_rfl⟩
theorem zDu:Callable prog 125:=⟨_,func125,by kernel_rfl,by kernel_rfl⟩
theorem zza:Callable prog 126:=⟨_,func126,by kernel_rfl,by kernel_rfl⟩
theorem znT:Callable prog 127:=⟨_,func127,by kernel_rfl,by kernel_rfl⟩
theorem zGK:Callable prog 128:=⟨_,func128,by kernel_rfl,by kernel_rfl⟩
theorem zDv:Callable prog 129:=⟨_,func129,by kernel_rfl,by kernel_rfl⟩
theorem zzb:Callable prog 130:=⟨_,func130,by kernel_rfl,by kernel_rfl⟩
theorem zGL:Callable prog 131:=⟨_,func131,by kernel_rfl,by kernel_rfl⟩
theorem zGM:Callable prog 132:=⟨_,func132,by kernel_rfl,by kernel_rfl⟩
theorem zGN:Callable prog 133:=⟨_,func133,by kernel_rfl,by kernel_rfl⟩
theorem zGO:Callable prog 134:=⟨_,func134,by kernel_rfl,by kernel_rfl⟩
theorem zGP:Callable prog 135:=⟨_,func135,by kernel_rfl,by kernel_rfl⟩
theorem zGQ:Callable prog 136:=⟨_,func136,by kernel_rfl,by kernel_rfl⟩
theorem zDw:Callable prog 137:=⟨_,func137,by kernel_rfl,by kernel_rfl⟩
theorem zGR:Callable prog 138:=⟨_,func138,by kernel_rfl,by kernel_rfl⟩
theorem zzc:Callable prog 139:=⟨_,func139,by kernel_rfl,by kernel_rfl⟩
theorem zGS:Callable prog 140:=⟨_,func140,by kernel_rfl,by kernel_rfl⟩
theorem zGT:Callable prog 141:=⟨_,func141,by kernel_rfl,by kernel_rfl⟩
theorem zGU:Callable prog 142:=⟨_,func142,by kernel_rfl,by kernel_rfl⟩
theorem zDx:Callable prog 143:=⟨_,func143,by kernel_rfl,by kernel_rfl⟩
theorem zg8:Callable prog 144:=⟨_,func144,by kernel_rfl,by kernel_rfl⟩
theorem zGV:Callable prog 145:=⟨_,func145,by kernel_rfl,by kernel_rfl⟩
theorem zGW:Callable prog 146:=⟨_,func146,by kernel_rfl,by kernel_rfl⟩
theorem zkx:Callable prog 147:=⟨_,func147,by kernel_rfl,by kernel_rfl⟩
theorem zGX:Callable prog 148:=⟨_,func148,by kernel_rfl,by kernel_rfl⟩
theorem zDy:Callable prog 149:=⟨_,func149,by kernel_rfl,by kernel_rfl⟩
theorem zGY:Callable prog 150:=⟨_,func150,by kernel_rfl,by kernel_rfl⟩
theorem zGZ:Callable prog 151:=⟨_,func151,by kernel_rfl,by kernel_rfl⟩
theorem zG0:Callable prog 152:=⟨_,func152,by kernel_rfl,by kernel_rfl⟩
theorem zDz:Callable prog 153:=⟨_,func153,by kernel_rfl,by kernel_rfl⟩
theorem zG1:Callable prog 154:=⟨_,func154,by kernel_rfl,by kernel_rfl⟩
theorem zDA:Callable prog 155:=⟨_,func155,by kernel_rfl,by kernel_rfl⟩
theorem zG2:Callable prog 156:=⟨_,func156,by kernel_rfl,by kernel_rfl⟩
theorem zG3:Callable prog 157:=⟨_,func157,by kernel_rfl,by kernel_rfl⟩
theorem zG4:Callable prog 158:=⟨_,func158,by kernel_rfl,by kernel_rfl⟩
theorem zDB:Callable prog 159:=⟨_,func159,by kernel_rfl,by kernel_rfl⟩
theorem zcG:Callable prog 160:=⟨_,func160,by kernel_rfl,by kernel_rfl⟩
theorem zG5:Callable prog 161:=⟨_,func161,by kernel_rfl,by kernel_rfl⟩
theorem zG6:Callable prog 162:=⟨_,func162,by kernel_rfl,by kernel_rfl⟩
theorem zG7:Callable prog 163:=⟨_,func163,by kernel_rfl,by kernel_rfl⟩
theorem zG8:Callable prog 164:=⟨_,func164,by kernel_rfl,by kernel_rfl⟩
theorem zDC:Callable prog 165:=⟨_,func165,by kernel_rfl,by kernel_rfl⟩
theorem zDD:Callable prog 166:=⟨_,func166,by kernel_rfl,by kernel_rfl⟩
theorem zG9:Callable prog 167:=⟨_,func167,by kernel_rfl,by kernel_rfl⟩
theorem zHa:Callable prog 168:=⟨_,func168,by kernel_rfl,by kernel_rfl⟩
theorem zHb:Callable prog 169:=⟨_,func169,by kernel_rfl,by kernel_rfl⟩
theorem zHc:Callable prog 170:=⟨_,func170,by kernel_rfl,by kernel_rfl⟩
theorem zHd:Callable prog 171:=⟨_,func171,by kernel_rfl,by kernel_rfl⟩
theorem zHe:Callable prog 172:=⟨_,func172,by kernel_rfl,by kernel_rfl⟩
theorem zHf:Callable prog 173:=⟨_,func173,by kernel_rfl,by kernel_rfl⟩
theorem zDE:Callable prog 174:=⟨_,func174,by kernel_rfl,by kernel_rfl⟩
theorem zHg:Callable prog 175:=⟨_,func175,by kernel_rfl,by kernel_rfl⟩
theorem zHh:Callable prog 176:=⟨_,func176,by kernel_rfl,by kernel_rfl⟩
theorem zHi:Callable prog 177:=⟨_,func177,by kernel_rfl,by kernel_rfl⟩
theorem zHj:Callable prog 178:=⟨_,func178,by kernel_rfl,by kernel_rfl⟩
theorem zzd:Callable prog 179:=⟨_,func179,by kernel_rfl,by kernel_rfl⟩
theorem zvB:Callable prog 180:=⟨_,func180,by kernel_rfl,by kernel_rfl⟩
theorem zHk:Callable prog 181:=⟨_,func181,by kernel_rfl,by kernel_rfl⟩
theorem zDF:Callable prog 182:=⟨_,func182,by kernel_rfl,by kernel_rfl⟩
theorem zHl:Callable prog 183:=⟨_,func183,by kernel_rfl,by kernel_rfl⟩
theorem zHm:Callable prog 184:=⟨_,func184,by kernel_rfl,by kernel_rfl⟩
theorem zHn:Callable prog 185:=⟨_,func185,by kernel_rfl,by kernel_rfl⟩
theorem zze:Callable prog 186:=⟨_,func186,by kernel_rfl,by kernel_rfl⟩
theorem zHo:Callable prog 187:=⟨_,func187,by kernel_rfl,by kernel_rfl⟩
theorem zDG:Callable prog 188:=⟨_,func188,by kernel_rfl,by kernel_rfl⟩
theorem zHp:Callable prog 189:=⟨_,func189,by kernel_rfl,by kernel_rfl⟩
theorem zHq:Callable prog 190:=⟨_,func190,by kernel_rfl,by kernel_rfl⟩
theorem zHr:Callable prog 191:=⟨_,func191,by kernel_rfl,by kernel_rfl⟩
theorem zHs:Callable prog 192:=⟨_,func192,by kernel_rfl,by kernel_rfl⟩
theorem zHt:Callable prog 193:=⟨_,func193,by kernel_rfl,by kernel_rfl⟩
theorem zDH:Callable prog 194:=⟨_,func194,by kernel_rfl,by kernel_rfl⟩
theorem zHu:Callable prog 195:=⟨_,func195,by kernel_rfl,by kernel_rfl⟩
theorem zHv:Callable prog 196:=⟨_,func196,by kernel_rfl,by kernel_rfl⟩
theorem zzf:Callable prog 197:=⟨_,func197,by kernel_rfl,by kernel_rfl⟩
theorem zvC:Callable prog 198:=⟨_,func198,by kernel_rfl,by kernel_rfl⟩
theorem zDI:Callable prog 199:=⟨_,func199,by kernel_rfl,by kernel_rfl⟩
theorem zDJ:Callable prog 200:=⟨_,func200,by kernel_rfl,by kernel_rfl⟩
theorem zDK:Callable prog 201:=⟨_,func201,by kernel_rfl,by kernel_rfl⟩
theorem zvD:Callable prog 202:=⟨_,func202,by kernel_rfl,by kernel_rfl⟩
theorem zHw:Callable prog 203:=⟨_,func203,by kernel_rfl,by kernel_rfl⟩
theorem zzg:Callable prog 204:=⟨_,func204,by kernel_rfl,by kernel_rfl⟩
theorem zHx:Callable prog 205:=⟨_,func205,by kernel_rfl,by kernel_rfl⟩
theorem zDL:Callable prog 206:=⟨_,func206,by kernel_rfl,by kernel_rfl⟩
theorem zzh:Callable prog 207:=⟨_,func207,by kernel_rfl,by kernel_rfl⟩
theorem zHy:Callable prog 208:=⟨_,func208,by kernel_rfl,by kernel_rfl⟩
theorem zHz:Callable prog 209:=⟨_,func209,by kernel_rfl,by kernel_rfl⟩
theorem zDM:Callable prog 210:=⟨_,func210,by kernel_rfl,by kernel_rfl⟩
theorem zHA:Callable prog 211:=⟨_,func211,by kernel_rfl,by kernel_rfl⟩
theorem zHB:Callable prog 212:=⟨_,func212,by kernel_rfl,by kernel_rfl⟩
theorem zHC:Callable prog 213:=⟨_,func213,by kernel_rfl,by kernel_rfl⟩
theorem zDN:Callable prog 214:=⟨_,func214,by kernel_rfl,by kernel_rfl⟩
theorem zHD:Callable prog 215:=⟨_,func215,by kernel_rfl,by kernel_rfl⟩
theorem zHE:Callable prog 216:=⟨_,func216,by kernel_rfl,by kernel_rfl⟩
theorem zDO:Callable prog 217:=⟨_,func217,by kernel_rfl,by kernel_rfl⟩
theorem zDP:Callable prog 218:=⟨_,func218,by kernel_rfl,by kernel_rfl⟩
theorem zHF:Callable prog 220:=⟨_,func220,by kernel_rfl,by kernel_rfl⟩
theorem zzi:Callable prog 221:=⟨_,func221,by kernel_rfl,by kernel_rfl⟩
theorem zHG:Callable prog 223:=⟨_,func223,by kernel_rfl,by kernel_rfl⟩
theorem zHH:Callable prog 224:=⟨_,func224,by kernel_rfl,by kernel_rfl⟩
theorem zHI:Callable prog 225:=⟨_,func225,by kernel_rfl,by kernel_rfl⟩
theorem zzj:Callable prog 226:=⟨_,func226,by kernel_rfl,by kernel_rfl⟩
theorem zDQ:Callable prog 227:=⟨_,func227,by kernel_rfl,by kernel_rfl⟩
theorem zHJ:Callable prog 228:=⟨_,func228,by kernel_rfl,by kernel_rfl⟩
theorem zHK:Callable prog 229:=⟨_,func229,by kernel_rfl,by kernel_rfl⟩
theorem zHL:Callable prog 230:=⟨_,func230,by kernel_rfl,by kernel_rfl⟩
theorem zHM:Callable prog 231:=⟨_,func231,by kernel_rfl,by kernel_rfl⟩
theorem zDR:Callable prog 232:=⟨_,func232,by kernel_rfl,by kernel_rfl⟩
theorem zDS:Callable prog 233:=⟨_,func233,by kernel_rfl,by kernel_rfl⟩
theorem zHN:Callable prog 234:=⟨_,func234,by kernel_rfl,by kernel_rfl⟩
theorem zHO:Callable prog 235:=⟨_,func235,by kernel_rfl,by kernel_rfl⟩
theorem zHP:Callable prog 236:=⟨_,func236,by kernel_rfl,by kernel_rfl⟩
theorem zHQ:Callable prog 237:=⟨_,func237,by kernel_rfl,by kernel_rfl⟩
theorem zHR:Callable prog 238:=⟨_,func238,by kernel_rfl,by kernel_rfl⟩
theorem zHS:Callable prog 239:=⟨_,func239,by kernel_rfl,by kernel_rfl⟩
theorem zHT:Callable prog 240:=⟨_,func240,by kernel_rfl,by kernel_rfl⟩
theorem zHU:Callable prog 241:=⟨_,func241,by kernel_rfl,by kernel_rfl⟩
theorem zHV:Callable prog 242:=⟨_,func242,by kernel_rfl,by kernel_rfl⟩
theorem zHW:Callable prog 243:=⟨_,func243,by kernel_rfl,by kernel_rfl⟩
theorem zDT:Callable prog 244:=⟨_,func244,by kernel_rfl,by kernel_rfl⟩
theorem zHX:Callable prog 245:=⟨_,func245,by kernel_rfl,by kernel_rfl⟩
theorem zHY:Callable prog 246:=⟨_,func246,by kernel_rfl,by kernel_rfl⟩
theorem zHZ:Callable prog 247:=⟨_,func247,by kernel_rfl,by kernel_rfl⟩
theorem zzk:Callable prog 248:=⟨_,func248,by kernel_rfl,by kernel_rfl⟩
theorem zDU:Callable prog 249:=⟨_,func249,by kernel_rfl,by kernel_rfl⟩
theorem zH0:Callable prog 250:=⟨_,func250,by kernel_rfl,by kernel_rfl⟩
theorem zH1:Callable prog 251:=⟨_,func251,by kernel_rfl,by kernel_rfl⟩
theorem zH2:Callable prog 252:=⟨_,func252,by kernel_rfl,by kernel_rfl⟩
theorem zzl:Callable prog 253:=⟨_,func253,by kernel_rfl,by kernel_rfl⟩
theorem zH3:Callable prog 254:=⟨_,func254,by kernel_rfl,by kernel_rfl⟩
theorem zH4:Callable prog 255:=⟨_,func255,by kernel_rfl,by kernel_rfl⟩
theorem zH5:Callable prog 256:=⟨_,func256,by kernel_rfl,by kernel_rfl⟩
theorem zDV:Callable prog 257:=⟨_,func257,by kernel_rfl,by kernel_rfl⟩
theorem zH6:Callable prog 258:=⟨_,func258,by kernel_rfl,by kernel_rfl⟩
theorem zH7:Callable prog 259:=⟨_,func259,by kernel_rfl,by kernel_rfl⟩
theorem zH8:Callable prog 260:=⟨_,func260,by kernel_rfl,by kernel_rfl⟩
theorem zH9:Callable prog 261:=⟨_,func261,by kernel_rfl,by kernel_rfl⟩
theorem zIa:Callable prog 262:=⟨_,func262,by kernel_rfl,by kernel_rfl⟩
theorem zIb:Callable prog 263:=⟨_,func263,by kernel_rfl,by kernel_rfl⟩
theorem zIc:Callable prog 264:=⟨_,func264,by kernel_rfl,by kernel_rfl⟩
theorem zId:Callable prog 265:=⟨_,func265,by kernel_rfl,by kernel_rfl⟩
theorem zIe:Callable prog 266:=⟨_,func266,by kernel_rfl,by kernel_rfl⟩
theorem zIf:Callable prog 267:=⟨_,func267,by kernel_rfl,by kernel_rfl⟩
theorem zIg:Callable prog 268:=⟨_,func268,by kernel_rfl,by kernel_rfl⟩
theorem zIh:Callable prog 269:=⟨_,func269,by kernel_rfl,by kernel_rfl⟩
theorem zDW:Callable prog 271:=⟨_,func271,by kernel_rfl,by kernel_rfl⟩
theorem zIi:Callable prog 272:=⟨_,func272,by kernel_rfl,by kernel_rfl⟩
theorem zIj:Callable prog 273:=⟨_,func273,by kernel_rfl,by kernel_rfl⟩
theorem zzm:Callable prog 274:=⟨_,func274,by kernel_rfl,by kernel_rfl⟩
theorem zIk:Callable prog 275:=⟨_,func275,by kernel_rfl,by kernel_rfl⟩
theorem zDX:Callable prog 277:=⟨_,func277,by kernel_rfl,by kernel_rfl⟩
theorem zIl:Callable prog 278:=⟨_,func278,by kernel_rfl,by kernel_rfl⟩
theorem zIm:Callable prog 279:=⟨_,func279,by kernel_rfl,by kernel_rfl⟩
theorem zIn:Callable prog 280:=⟨_,func280,by kernel_rfl,by kernel_rfl⟩
theorem zIo:Callable prog 290:=⟨_,func290,by kernel_rfl,by kernel_rfl⟩
theorem zIp:Callable prog 292:=⟨_,func292,by kernel_rfl,by kernel_rfl⟩
theorem zDY:Callable prog 293:=⟨_,func293,by kernel_rfl,by kernel_rfl⟩
theorem zIq:Callable prog 294:=⟨_,func294,by kernel_rfl,by kernel_rfl⟩
theorem zIr:Callable prog 295:=⟨_,func295,by kernel_rfl,by kernel_rfl⟩
theorem zIs:Callable prog 297:=⟨_,func297,by kernel_rfl,by kernel_rfl⟩
theorem zIt:Callable prog 298:=⟨_,func298,by kernel_rfl,by kernel_rfl⟩
theorem zIu:Callable prog 299:=⟨_,func299,by kernel_rfl,by kernel_rfl⟩
theorem zIv:Callable prog 300:=⟨_,func300,by kernel_rfl,by kernel_rfl⟩
theorem zIw:Callable prog 301:=⟨_,func301,by kernel_rfl,by kernel_rfl⟩
theorem zIx:Callable prog 302:=⟨_,func302,by kernel_rfl,by kernel_rfl⟩
theorem zIy:Callable prog 305:=⟨_,func305,by kernel_rfl,by kernel_rfl⟩
theorem zIz:Callable prog 306:=⟨_,func306,by kernel_rfl,by kernel_rfl⟩
theorem zIA:Callable prog 307:=⟨_,func307,by kernel_rfl,by kernel_rfl⟩
theorem zIB:Callable prog 308:=⟨_,func308,by kernel_rfl,by kernel_rfl⟩
theorem zDZ:Callable prog 309:=⟨_,func309,by kernel_rfl,by kernel_rfl⟩
theorem zIC:Callable prog 311:=⟨_,func311,by kernel_rfl,by kernel_rfl⟩
theorem zID:Callable prog 312:=⟨_,func312,by kernel_rfl,by kernel_rfl⟩
theorem zIE:Callable prog 313:=⟨_,func313,by kernel_rfl,by kernel_rfl⟩
theorem zD0:Callable prog 314:=⟨_,func314,by kernel_rfl,by kernel_rfl⟩
theorem zIF:Callable prog 315:=⟨_,func315,by kernel_rfl,by kernel_rfl⟩
theorem zIG:Callable prog 325:=⟨_,func325,by kernel_rfl,by kernel_rfl⟩
theorem zIH:Callable prog 331:=⟨_,func331,by kernel_rfl,by kernel_rfl⟩
theorem zzn:Callable prog 334:=⟨_,func334,by kernel_rfl,by kernel_rfl⟩
theorem zvE:Callable prog 336:=⟨_,func336,by kernel_rfl,by kernel_rfl⟩
theorem zII:Callable prog 337:=⟨_,func337,by kernel_rfl,by kernel_rfl⟩
theorem zD1:Callable prog 348:=⟨_,func348,by kernel_rfl,by kernel_rfl⟩
theorem zIJ:Callable prog 364:=⟨_,func364,by kernel_rfl,by kernel_rfl⟩
theorem zzo:Callable prog 365:=⟨_,func365,by kernel_rfl,by kernel_rfl⟩
theorem zvF:Callable prog 366:=⟨_,func366,by kernel_rfl,by kernel_rfl⟩
theorem zIK:Callable prog 394:=⟨_,func394,by kernel_rfl,by kernel_rfl⟩
theorem zIL:Callable prog 395:=⟨_,func395,by kernel_rfl,by kernel_rfl⟩
theorem zIM:Callable prog 396:=⟨_,func396,by kernel_rfl,by kernel_rfl⟩
theorem zvG:Callable prog 397:=⟨_,func397,by kernel_rfl,by kernel_rfl⟩
theorem zvH:Callable prog 398:=⟨_,func398,by kernel_rfl,by kernel_rfl⟩
theorem zD2:Callable prog 412:=⟨_,func412,by kernel_rfl,by kernel_rfl⟩
theorem mixed:prog.follows .mixedOrders=true:=by kernel_rfl
end
end Go.Proofs.YtabpobhnedkkeaaGreatDoor
namespace Go.HL
section
abbrev Str:=List UInt8
theorem zi {α:Type} {l:List α} {k:Nat} {x:α} (h:l[k]? =some x):l.drop k=x::l.drop (k+1):=by
 have hlt:=zn h;rw [Aa hlt] at h;rw [BV hlt]
 simp at h
 rw [h]
theorem zW {α:Type} {l:List α} {k:Nat} {x:α} (h:l[k]? =some x):l.take (k+1)=l.take k++[x]:=by
 have hlt:=zn h;rw [Aa hlt] at h;rw [List.take_succ_eq_append_getElem hlt]
 simp at h
 rw [h]
theorem zz {α:Type} {l:List α} {k:Nat} (h:l.length<=k):l.drop k=[]:=BP h
theorem hd0 {s:Str} (h:s≠[]):s[0]? =some (s.headD 0):=by
 cases s with
 |nil=>exact absurd rfl h
 |cons a r=>rfl
abbrev eSs (l:List Str):HVal:= .slice 1 (l.map .str)
abbrev eIs (l:List Int):HVal:= .slice 1 (l.map (.int .i64))
def out (n lo hi:Int):Bool:=decide (n<lo)||decide (hi<n)
theorem zhK {n lo hi:Int} (h:out n lo hi=false):lo<=n/\n<=hi:=by simp [out] at h;omega
theorem zsG {a b A B:Int} (h1:0<=a) (h2:a<=A) (h3:0<=b) (h4:b<=B):0<=a*b/\a*b<=A*B:=
 ⟨Int.mul_nonneg h1 h3,Int.mul_le_mul h2 h4 h3 (by omega)⟩
def zN (n:Int):Bool:= !(out n 0 345686399999)
def zhJ (c:UInt8):Bool:=(decide (97<=c.toNat)&&decide (c.toNat<=122))||(decide (48<=c.toNat)&&decide (c.toNat<=57))||c.toNat==45||c.toNat==95
def zkB (s:Str):Bool:=s !=[]&&decide (s.length<=40)&&decide (97<=(s.headD 0).toNat)&&decide ((s.headD 0).toNat<=122)
theorem zEU {s:Str} (h:((¬s=[]/\(s.length:Int)<=40)/\97<=(((List.head? s).getD 0).toNat:Int))/\(((List.head? s).getD 0).toNat:Int)<=122):zkB s=true:=by
 obtain ⟨⟨⟨h1,h2⟩,h3⟩,h4⟩:=h
 simp [zkB];exact ⟨⟨⟨h1,by omega⟩,by omega⟩,by omega⟩
theorem zET {s:Str} (h:((s=[]\/40<(s.length:Int))\/(((List.head? s).getD 0).toNat:Int)<97)\/122<(((List.head? s).getD 0).toNat:Int)):zkB s=false:=by
 rw [B5];simp [zkB]
 intro h1 h2 h3
 rcases h with ((h|h)|h)|h
 ·exact absurd h h1
 all_goals omega
theorem zES {x:UInt8} (h:(x.toNat:Int)<97\/122<(x.toNat:Int)->(x.toNat:Int)<48\/57<(x.toNat:Int)->¬(x.toNat:Int)=45->(x.toNat:Int)=95):zhJ x=true:=by
 simp [zhJ];omega
theorem zER {x:UInt8} (h:((((x.toNat:Int)<97\/122<(x.toNat:Int))/\((x.toNat:Int)<48\/57<(x.toNat:Int)))/\¬(x.toNat:Int)=45)/\¬(x.toNat:Int)=95):zhJ x=false:=by
 rw [B5];simp [zhJ];omega
def key (s:Str):Bool:=zkB s&&s.all zhJ
def zce (s:Str):List Str->Int->Int
 |[],_=> -1
 |x::r,k=>if s=x then k else zce s r (k+1)
theorem zpO (s:Str): ∀(l:List Str) (k:Int),0<=k->decide (0<=zce s l k)=l.contains s
 |[],k,h=>by simp [zce]
 |x::r,k,h=>by
   have ih:=zpO s r (k+1) (by omega)
   by_cases hx:s=x
   simp [zce,hx,h]
   have e1:zce s (x::r) k=zce s r (k+1):=by simp [zce,hx]
   rw [e1,ih];simp [hx]
end
end Go.HL
namespace Go.Proofs.YtabpobhnedkkeaaGreatDoor
set_option maxRecDepth 100000
set_option linter.unusedVariables false
set_option linter.unusedSimpArgs false
section
open Go.Proofs.Tryz
open Go.HL
theorem zaL [Tracks] {n lo hi:Int}:ConP prog 79 [.int .i64 n,.int .i64 lo,.int .i64 hi] (.bool (out n lo hi)):=by
 refine uOb func79 ntmps79 ?_;refine zjf ?_;refine zu rfl ?_
 simp [out]
theorem zbO [Tracks] {n:Int}:ConP prog 31 [.int .i64 n] (.bool (zN n)):=by
 refine uOb func31 ntmps31 ?_;refine gz5 ?_;refine dq (uCl zd9 rfl zaL) ?_;refine gz4 ?_;refine zu rfl ?_
 rfl
theorem zaz [Tracks] {s:Str}:ConP prog 160 [.str s] (.bool (key s)):=by
 refine uOb func160 ntmps160 ?_;refine zdw ?_;refine uGr rfl (fun hc=>zbe (j:=0) (b:=s.headD 0) ty9 rfl rfl rfl (hd0 uSa)) ?_;refine gz4 ?_;refine uGr rfl (fun hc=>zbe (j:=0) (b:=s.headD 0) ty9 rfl rfl rfl (hd0 uSa)) ?_;refine gz3 ?_;refine uCo (fun h1=> ?_) fun h2=> ?_
 refine gz4 ?_;refine zu rfl ?_
 (rw [key,zET h1];rfl)
 refine gz9 ?_;refine uT1 [2,3,24,30] (fun k=>[(24,.int .i64 k)]) (fun k=>[]) (fun k=>k<=s.length/\key s=(s.drop k).all zhJ) (fun k=>s.length-k) (0) ?_ ?_;exact ⟨Ad _,by rw [key,zEU h2];rfl⟩;rintro k ⟨hk,hg⟩;refine gz4 ?_;refine uCo (fun h3=> ?_) fun h4=> ?_
 obtain ⟨x,hx⟩: ∃x,s[k]? =some x:=⟨_,Aa h3⟩
 have hd:=zi hx;rw [hd] at hg;refine zcg ?_;refine dq (zbe ty9 rfl rfl rfl (by assumption)) ?_;refine gz27 ?_;refine uCo (fun h5=> ?_) fun h6=> ?_
 refine gz4 ?_;refine zu rfl ?_
 (rw [hg,Cd,zER h5];rfl)
 refine gz7 ?_;refine ⟨k+1,?_,?_,⟨rfl,trivial⟩,uK,Ac _⟩
 refine ⟨by omega,?_⟩
 rw [hg,Cd,zES h6];rfl
 dsimp only;omega
 rw [zz uO] at hg;refine gz2 ?_;refine zv ?_;refine gz6 ?_;refine zu rfl ?_
 (rw [hg];rfl)
theorem zfu [Tracks] {l:List Str} {s:Str} (hl:l.length<=1000000000):ConP prog 71 [eSs l,.str s] (.int .i64 (zce s l 0)):=by
 refine uOb func71 ntmps71 ?_;refine zau ?_;refine uT1 [4,2,8,11] (fun k=>[(8,.int .i64 k)]) (fun k=>[]) (fun k=>k<=l.length/\zce s l 0=zce s (l.drop k) k) (fun k=>l.length-k) (0) ?_ ?_
 simp
 rintro k ⟨hk,hg⟩;refine gz4 ?_;refine uCo (fun h1=> ?_) fun h2=> ?_
 obtain ⟨x,hx⟩: ∃x,l[k]? =some x:=⟨_,Aa h1⟩
 have hd:=zi hx;rw [hd] at hg;refine zrB ?_;refine uCo (fun h3=> ?_) fun h4=> ?_
 refine gz5 ?_;refine zu rfl ?_
 (congr 1;simp_all [zce])
 refine gz7 ?_;refine ⟨k+1,?_,?_,⟨rfl,trivial⟩,uK,Ac _⟩
 refine ⟨by omega,?_⟩
 rw [hg,zce,if_neg h4];rfl
 dsimp only;omega
 rw [zz uSa] at hg;refine gz2 ?_;refine zv ?_;refine gz6 ?_;refine zu rfl ?_
 (rw [hg];rfl)
theorem zG [Tracks] {l:List Str} {s:Str} (hl:l.length<=1000000000):ConP prog 28 [eSs l,.str s] (.bool (l.contains s)):=by
 refine uOb func28 ntmps28 ?_;refine gz6 ?_;refine dq (uCl ca71 rfl (zfu (by assumption))) ?_;refine gz4 ?_;refine zu rfl ?_
 congr 1;exact zpO s l 0 uO
end
end Go.Proofs.YtabpobhnedkkeaaGreatDoor
namespace Go.HL
section
theorem getD_some {α:Type} {l:List α} {k:Nat} {d:α} (h:k<l.length):l[k]? =some (l.getD k d):=by
 simp [Aa h,List.getD]
def leS (s p:Str):Bool:=Op.bytesLess s p||s==p
structure Room where
 Teams:List Str
 Rounds:Int
 Way:Int
 Players:List Str
 Clock:Int
 Start:Int
structure Keep where
 Team:Str
 Player:Str
 Round:Int
structure Swap where
 Round:Int
 Of:Str
 Team:Str
structure Pick where
 No:Int
 Team:Str
 Player:Str
 At:Int
 Auto:Bool
structure Turn where
 round:Int
 of:Str
 team:Str
def zD5:Keep:=⟨[],[],0⟩
def zdl (l:List Str):Nat->List Str->Int
 |_,[]=>0
 |k,s::r=>if !key s then 5 else if decide (0<k)&&leS s (l.getD (k-1) []) then 7 else zdl l (k+1) r
def zhg (l:List Str):Int:=zdl l 0 l
end
end Go.HL
namespace Go.Proofs.YtabpobhnedkkeaaGreatDoor
set_option maxRecDepth 100000
set_option linter.unusedVariables false
set_option linter.unusedSimpArgs false
section
open Go.Proofs.Tryz
open Go.HL
theorem zj3 [Tracks] {l:List Str} (hl:l.length<=1000000):ConP prog 253 [eSs l] (.int .i64 (zhg l)):=by
 refine uOb func253 ntmps253 ?_;refine zau ?_;refine uT1 [2,3,7,20] (fun k=>[(7,.int .i64 k)]) (fun k=>[]) (fun k=>k<=l.length/\(zhg l=zdl l k (l.drop k))) (fun k=>l.length-k) (0) ?_ ?_;exact ⟨Ad _,rfl⟩;rintro k ⟨hk,hg⟩;refine gz4 ?_;refine uCo (fun h1=> ?_) fun h2=> ?_
 obtain ⟨x,hx⟩: ∃x,l[k]? =some x:=⟨_,Aa h1⟩
 have hdx:=zi hx;rw [hdx] at hg;refine zdw ?_;refine dq (uCl zcG rfl zaz) ?_;refine gz2 ?_;refine uCo (fun h3=> ?_) fun h4=> ?_
 refine gz4 ?_;refine uRp ?_;rw [hg];simp_all [zdl,leS];refine zau ?_;refine uGr rfl (fun hc=>by have hq:=hc;(try simp at hq);exact zB (j:=k-1) (a:=l.getD (k-1) []) zo ty9 rfl rfl uO (getD_some uO)) ?_;refine gz4 ?_;refine uCo (fun h5=> ?_) fun h6=> ?_
 refine gz4 ?_;refine uRp ?_;rw [hg];simp_all [zdl,leS];refine gz7 ?_;refine ⟨k+1,?_,?_,⟨rfl,trivial⟩,uK,Ac _⟩
 refine ⟨by omega,?_⟩
 rw [hg];simp_all [zdl,leS]
 dsimp only;omega
 have hnk:l.length<=k:=by omega
 obtain rfl:k=l.length:=by omega
 rw [zz (Ae _)] at hg;refine gz2 ?_;refine zv ?_;refine gz6 ?_;refine uRp ?_;rw [hg];simp_all [zdl,leS]
end
end Go.Proofs.YtabpobhnedkkeaaGreatDoor
namespace Go.HL
section
open Op (bytesLess)
def zai (a b:Int):Int:=if a<b then-1 else if b<a then 1 else 0
def orI:List Int->Int
 |[]=>0
 |x::r=>if x≠0 then x else orI r
abbrev zY (a b:Str):Int:=Lib.compareBytes a b
theorem zaJ: ∀a:Str,bytesLess a a=false
 |[]=>rfl
 |x::r=>by simp [bytesLess,zaJ r]
theorem zfR: ∀{a b c:Str},bytesLess a b=true->bytesLess b c=true->bytesLess a c=true
 |_,[],_,h,_=>by simp [bytesLess] at h
 |_,_::_,[],_,h=>by simp [bytesLess] at h
 |[],_::_,_::_,_,_=>by simp [bytesLess]
 |x::a,y::b,z::c,h1,h2=>by
   simp only [bytesLess,A1,decide_eq_true_eq,AZ,beq_iff_eq] at h1 h2⊢
   rcases h1 with h1|⟨rfl,h1⟩
   rcases h2 with h2|⟨rfl,h2⟩
   exact .inl (UInt8.lt_trans h1 h2);exact .inl h1
   rcases h2 with h2|⟨rfl,h2⟩
   exact .inl h2;exact .inr ⟨rfl,zfR h1 h2⟩
theorem zcR: ∀a b:Str,bytesLess a b=true\/a=b\/bytesLess b a=true
 |[],[]=> .inr (.inl rfl)
 |[],_::_=> .inl (by simp [bytesLess])
 |_::_,[]=> .inr (.inr (by simp [bytesLess]))
 |x::a,y::b=>by
   rcases UInt8.lt_or_lt_of_ne' x y with h|h|h
   exact .inl (by simp [bytesLess,h]);subst h
   rcases zcR a b with h|h|h
   exact .inl (by simp [bytesLess,h]);exact .inr (.inl (by rw [h]));exact .inr (.inr (by simp [bytesLess,h]));exact .inr (.inr (by simp [bytesLess,h]))
where
 UInt8.lt_or_lt_of_ne' (x y:UInt8):x<y\/x=y\/y<x:=by
  rcases BT x.toNat y.toNat with h|h|h
  exact .inl (UInt8.lt_iff_toNat_lt.2 h);exact .inr (.inl (UInt8.toNat_inj.1 h));exact .inr (.inr (UInt8.lt_iff_toNat_lt.2 h))
theorem zcQ {a b:Str} (h:bytesLess a b=true):bytesLess b a=false:=by
 cases h2:bytesLess b a with
 |false=>rfl
 |true=>have:=zfR h h2;rw [zaJ] at this;cases this
theorem zha: ∀a b:Str,zY a b=if bytesLess a b then-1 else if a=b then 0 else 1
 |[],[]=>rfl
 |[],_::_=>rfl
 |_::_,[]=>rfl
 |x::a,y::b=>by
   have ih:=zha a b;simp only [zY,Lib.compareBytes] at ih⊢
   by_cases h1:x<y
   simp [bytesLess,h1]
   by_cases h2:y<x
   have hne: ¬x=y:=fun e=>by subst e;exact absurd h2 h1
   simp [bytesLess,h1,h2,hne]
   have he:x=y:=by
    rcases BT x.toNat y.toNat with h|h|h
    exact absurd (UInt8.lt_iff_toNat_lt.2 h) h1;exact UInt8.toNat_inj.1 h;exact absurd (UInt8.lt_iff_toNat_lt.2 h) h2
   subst he
   simp [bytesLess,h1,ih]
theorem zBi {i j:Nat} (h:i+j<=2000000):HVal.int .i64 (IntKind.wrap .i64 ((IntKind.wrap .u64 ((i:Int)+(j:Int))).fdiv (2^min (Int.toNat 1) (IntKind.bits .u64))))= .int .i64 (((i+j)/2:Nat):Int):=by
 have h1:IntKind.wrap .u64 ((i:Int)+(j:Int))=((i+j:Nat):Int):=by simp [IntKind.wrap,IntKind.bits,IntKind.signed];omega
 have h2:min (Int.toNat 1) (IntKind.bits .u64)=1:=by decide
 rw [h1,h2];have h3:(((i+j:Nat):Int).fdiv (2^1))=(((i+j)/2:Nat):Int):=by
  rw [Int.fdiv_eq_ediv_of_nonneg _ (by decide)];rfl
 rw [h3,zno (by omega) (by omega)]
def SortedS (l:List Str):Prop:=List.Pairwise (fun a b=>bytesLess a b=true) l
theorem SortedS.get {l:List Str} (h:SortedS l) {i j:Nat} {a b:Str} (hij:i<j) (ha:l[i]? =some a) (hb:l[j]? =some b):bytesLess a b=true:=by
 have h1:=zn ha;have h2:=zn hb;have:=List.pairwise_iff_getElem.1 h i j h1 h2 hij;rw [Aa h1] at ha;rw [Aa h2] at hb
 simp at ha hb
 rw [<-ha,<-hb];exact this
theorem zDn {l:List Str} (hs:SortedS l) {s x:Str} {m:Nat} (hx:l[m]? =some x) (h:Op.bytesLess x s=true): ∀(k:Nat) (y:Str),k<m+1->l[k]? =some y->Op.bytesLess y s=true:=fun k y hk hy=>by
 by_cases e:k=m
 subst e;rw [hx] at hy;cases hy;exact h;exact zfR (hs.get (by omega:k<m) hy hx) h
theorem zyZ {l:List Str} (hs:SortedS l) {s x:Str} {m:Nat} (hx:l[m]? =some x) (h:Op.bytesLess x s=false): ∀(k:Nat) (y:Str),m<=k->l[k]? =some y->Op.bytesLess y s=false:=fun k y hk hy=>by
 by_cases e:k=m
 subst e;rw [hx] at hy;cases hy;exact h
 cases hq:Op.bytesLess y s with
 |false=>rfl
 |true=>have:=zfR (hs.get (by omega:m<k) hx hy) hq;rw [h] at this;cases this
theorem zBS {l:List Str} {s:Str} {i:Nat} (b:Bool):(bif decide ((i:Int)<(l.length:Int)) then bif l.getD i []==s then true else bif false then b else false else false)=(l[i]? ==some s):=by
 by_cases h:i<l.length
 have h':(i:Int)<(l.length:Int):=by omega
 simp only [h',decide_true,cond_true,cond_false,getD_some (d:=[]) h]
 cases hb:l.getD i []==s with
 |true=>simp at hb;simp [hb]
 |false=>simp at hb;simp [hb]
 have h': ¬(i:Int)<(l.length:Int):=by omega
 simp [h',AH (by omega:l.length<=i)]
def zeF (l:List Str) (s:Str):Nat:=l.countP fun x=>bytesLess x s
theorem zqE {l:List Str} {s:Str} {i:Nat} (hi:i<=l.length) (h1: ∀(k:Nat) (x:Str),k<i->l[k]? =some x->bytesLess x s=true) (h2: ∀(k:Nat) (x:Str),i<=k->l[k]? =some x->bytesLess x s=false):
 zeF l s=i:=by
 unfold zeF;have e:l=l.take i++l.drop i:=(Bo i l).symm;rw [e,List.countP_append];have a1:(l.take i).countP (fun x=>bytesLess x s)=(l.take i).length:=by
  rw [List.countP_eq_length]
  intro x hx
  obtain ⟨k,hk,rfl⟩:=AR hx;simp only [Az] at hk;refine h1 k _ (by omega) ?_;rw [List.getElem_take];exact Aa (by omega)
 have a2:(l.drop i).countP (fun x=>bytesLess x s)=0:=by
  rw [List.countP_eq_zero]
  intro x hx
  obtain ⟨k,hk,rfl⟩:=AR hx
  simp at hk
  have:=h2 (i+k) (l[i+k]) (by omega) (Aa (by omega));rw [List.getElem_drop]
  simp [this]
 rw [a1,a2]
 simp;omega
theorem zwv {l:List Str} {s:Str} (hs:SortedS l) {i:Nat} (hi:i<=l.length) (h1: ∀(k:Nat) (x:Str),k<i->l[k]? =some x->bytesLess x s=true) (h2: ∀(k:Nat) (x:Str),i<=k->l[k]? =some x->bytesLess x s=false):
 (l[i]? ==some s)=l.contains s:=by
 rw [AE]
 simp
 constructor
 intro h;exact Ab h
 intro h
 obtain ⟨k,hk,rfl⟩:=AR h;have hk':=Aa hk
 rcases BT k i with h3|h3|h3
 have:=h1 k _ h3 hk';rw [zaJ] at this;cases this;subst h3;exact hk';have hii:i<l.length:=by omega
 have hlt:=hs.get h3 (Aa hii) hk';have:=h2 i _ (Ae _) (Aa hii);rw [hlt] at this;cases this
def zS {α:Type} (p:α->Bool):List α->Int->Int
 |[],_=> -1
 |x::r,k=>if p x then k else zS p r (k+1)
theorem zb9 {α:Type} (p:α->Bool): ∀(l:List α) (k:Int),0<=k->decide (0<=zS p l k)=l.any p
 |[],k,h=>by simp [zS]
 |x::r,k,h=>by
   have ih:=zb9 p r (k+1) (by omega)
   by_cases hx:p x=true
   simp [zS,hx,h]
   have e1:zS p (x::r) k=zS p r (k+1):=by simp [zS,hx]
   rw [e1,ih];simp [hx]
end
end Go.HL
namespace Go.Proofs.YtabpobhnedkkeaaGreatDoor
set_option maxRecDepth 100000
set_option linter.unusedVariables false
set_option linter.unusedSimpArgs false
section
open Go.Proofs.Tryz
open Go.HL
theorem zlW [Tracks] {n:Int}:ConP prog 206 [.int .i64 n] (.bool false):=by
 refine uOb func206 ntmps206 ?_;refine zau ?_;refine zu rfl ?_
 simp
theorem ze0 [Tracks] {s:Str}:ConP prog 336 [.str s] (.bool false):=by
 refine uOb func336 ntmps336 ?_;refine zau ?_;refine zu rfl ?_
 simp
theorem zil [Tracks] {s:Str}:ConP prog 412 [.str s] (.bool false):=by
 refine uOb func412 ntmps412 ?_;refine zau ?_;refine zu rfl ?_
 simp
theorem z6 [Tracks] {a b:Int}:ConP prog 112 [.int .i64 a,.int .i64 b] (.int .i64 (zai a b)):=by
 refine uOb func112 ntmps112 ?_;refine gz5 ?_;refine dq (uCl zDL rfl zlW) ?_;refine gz4 ?_;refine dq (uCl zDL rfl zlW) ?_;refine gz6 ?_;refine ze5 rfl ?_;refine gz6 ?_;refine ze5 rfl ?_;refine gz8 ?_;refine uCo (fun h1=> ?_) fun h2=> ?_
 refine gz4 ?_;refine uRp ?_;unfold zai;(repeat' split)<;>first|rfl|omega
 refine gz8 ?_;refine uCo (fun h3=> ?_) fun h4=> ?_
 refine gz4 ?_;refine uRp ?_;unfold zai;(repeat' split)<;>first|rfl|omega
 refine gz6 ?_;refine uRp ?_;unfold zai;(repeat' split)<;>first|rfl|omega
theorem zbP [Tracks] {l:List Int} (hl:l.length<=1000000):ConP prog 110 [eIs l] (.int .i64 (orI l)):=by
 refine uOb func110 ntmps110 ?_;refine zfe ?_;refine uT1 [2,1,5,1,8,9] (fun k=>[(8,.int .i64 k)]) (fun k=>[]) (fun k=>k<=l.length/\(orI l=orI (l.drop k))) (fun k=>l.length-k) (0) ?_ ?_;exact ⟨Ad _,by simp_all⟩;rintro k ⟨hk,hg⟩;refine gz4 ?_;refine uCo (fun h1=> ?_) fun h2=> ?_
 obtain ⟨x,hx⟩: ∃x,l[k]? =some x:=⟨_,Aa h1⟩
 have hdx:=zi hx;rw [hdx] at hg;refine zdw ?_;refine uCo (fun h3=> ?_) fun h4=> ?_
 refine gz5 ?_;refine uRp ?_;rw [hg];simp_all [orI];refine gz7 ?_;refine ⟨k+1,?_,?_,⟨rfl,trivial⟩,uK,Ac _⟩
 refine ⟨by omega,?_⟩
 rw [hg];simp_all [orI]
 dsimp only;omega
 have hnk:l.length<=k:=by omega
 obtain rfl:k=l.length:=by omega
 rw [zz (Ae _)] at hg;refine gz2 ?_;refine zv ?_;refine gz7 ?_;refine uRp ?_;rw [hg];simp_all [orI]
theorem zdJ [Tracks] {l:List Int} (hl:l.length<=1000000):ConP prog 5 [eIs l] (.int .i64 (orI l)):=by
 refine uOb func5 ntmps5 ?_;refine zfe ?_;refine uT1 [2,1,5,1,8,9] (fun k=>[(8,.int .i64 k)]) (fun k=>[]) (fun k=>k<=l.length/\(orI l=orI (l.drop k))) (fun k=>l.length-k) (0) ?_ ?_;exact ⟨Ad _,by simp_all⟩;rintro k ⟨hk,hg⟩;refine gz4 ?_;refine uCo (fun h1=> ?_) fun h2=> ?_
 obtain ⟨x,hx⟩: ∃x,l[k]? =some x:=⟨_,Aa h1⟩
 have hdx:=zi hx;rw [hdx] at hg;refine zdw ?_;refine uCo (fun h3=> ?_) fun h4=> ?_
 refine gz5 ?_;refine uRp ?_;rw [hg];simp_all [orI];refine gz7 ?_;refine ⟨k+1,?_,?_,⟨rfl,trivial⟩,uK,Ac _⟩
 refine ⟨by omega,?_⟩
 rw [hg];simp_all [orI]
 dsimp only;omega
 have hnk:l.length<=k:=by omega
 obtain rfl:k=l.length:=by omega
 rw [zz (Ae _)] at hg;refine gz2 ?_;refine zv ?_;refine gz7 ?_;refine uRp ?_;rw [hg];simp_all [orI]
theorem zdH [Tracks] {l:List Int} (hl:l.length<=1000000):ConP prog 73 [eIs l] (.int .i64 (orI l)):=by
 refine uOb func73 ntmps73 ?_;refine zau ?_;refine uT1 [2,1,4,1,7,8] (fun k=>[(7,.int .i64 k)]) (fun k=>[]) (fun k=>k<=l.length/\(orI l=orI (l.drop k))) (fun k=>l.length-k) (0) ?_ ?_;exact ⟨Ad _,by simp_all⟩;rintro k ⟨hk,hg⟩;refine gz4 ?_;refine uCo (fun h1=> ?_) fun h2=> ?_
 obtain ⟨x,hx⟩: ∃x,l[k]? =some x:=⟨_,Aa h1⟩
 have hdx:=zi hx;rw [hdx] at hg;refine zfe ?_;refine uCo (fun h3=> ?_) fun h4=> ?_
 refine gz5 ?_;refine uRp ?_;rw [hg];simp_all [orI];refine gz7 ?_;refine ⟨k+1,?_,?_,⟨rfl,trivial⟩,uK,Ac _⟩
 refine ⟨by omega,?_⟩
 rw [hg];simp_all [orI]
 dsimp only;omega
 have hnk:l.length<=k:=by omega
 obtain rfl:k=l.length:=by omega
 rw [zz (Ae _)] at hg;refine gz2 ?_;refine zv ?_;refine gz6 ?_;refine uRp ?_;rw [hg];simp_all [orI]
theorem zhS [Tracks] {a b:Str}:ConP prog 205 [.str a,.str b] (.int .i64 (zY a b)):=by
 refine uOb func205 ntmps205 ?_;refine gz6 ?_;refine dq (zz1 func276 (by kernel_rfl) (by kernel_rfl) (by kernel_rfl) (by kernel_rfl) rfl rfl rfl) ?_;refine gz3 ?_;refine zu rfl ?_
 rfl
theorem zR [Tracks] {a b:Str}:ConP prog 111 [.str a,.str b] (.int .i64 (zY a b)):=by
 refine uOb func111 ntmps111 ?_;refine gz6 ?_;refine dq (uCl zHx rfl zhS) ?_;refine gz3 ?_;refine zu rfl ?_
 rfl
theorem zqM [Tracks] {a b:Str}:ConP prog 331 [.str a,.str b] (.bool (Op.bytesLess a b)):=by
 refine uOb func331 ntmps331 ?_;refine gz5 ?_;refine dq (uCl zvE rfl ze0) ?_;refine gz2 ?_;refine uGr rfl (fun hc=>uCl zvE rfl ze0) ?_;refine zau ?_;refine zu rfl ?_
 rfl
theorem zi8 [Tracks] {l m:List Str} (hl:l.length<=1000000):ConP prog 51 [eSs l,eSs m] (.bool (l==m)):=by
 refine uOb func51 ntmps51 ?_;refine zcg ?_;refine uCo (fun h1=> ?_) fun h2=> ?_
 refine gz4 ?_;refine zu rfl ?_
 show HVal.bool _=_
 (congr 1;symm;rw [beq_eq_false_iff_ne];intro h;subst h;omega)
 refine gz9 ?_;refine uT1 [4,2,13,13] (fun k=>[(13,.int .i64 k)]) (fun k=>[]) (fun k=>k<=l.length/\(l.length=m.length/\(l==m)=(l.drop k==m.drop k))) (fun k=>l.length-k) (0) ?_ ?_;refine ⟨Ad _,?_,rfl⟩
 omega
 rintro k ⟨hk,hg⟩;refine gz4 ?_;refine uCo (fun h3=> ?_) fun h4=> ?_
 obtain ⟨x,hx⟩: ∃x,l[k]? =some x:=⟨_,Aa h3⟩
 have hdx:=zi hx;obtain ⟨y,hy⟩: ∃y,m[k]? =some y:=⟨_,Aa uO⟩
 rw [hdx,zi hy] at hg;refine gz8 ?_;refine uDr mixed ?_;refine zau ?_;refine uCo (fun h5=> ?_) fun h6=> ?_
 refine gz4 ?_;refine zu rfl ?_
 show HVal.bool _=_
 (rw [hg.2];simp_all)
 refine gz7 ?_;refine ⟨k+1,?_,?_,⟨rfl,trivial⟩,uK,Ac _⟩
 refine ⟨by omega,hg.1,?_⟩
 rw [hg.2];simp_all
 dsimp only;omega
 have hnk:l.length<=k:=by omega
 obtain rfl:k=l.length:=by omega
 rw [zz (Ae _)] at hg;refine gz2 ?_;refine zv ?_;refine gz6 ?_;refine zu rfl ?_
 show HVal.bool _=_
 (rw [hg.2];simp_all)
end
end Go.Proofs.YtabpobhnedkkeaaGreatDoor
namespace Go.HL
section
def ztL (r:Room) (l:List Keep):Nat->List Str->Bool->List Keep->Int
 |_,_,tw,[]=>if tw then 6 else 0
 |k,kept,tw,x::t=>if !(r.Teams.contains x.Team)|| !(r.Players.contains x.Player) then 8 else if out x.Round 1 r.Rounds then 1
   else if decide (0<k)&&decide (orI [zY x.Team (l.getD (k-1) zD5).Team,zai x.Round (l.getD (k-1) zD5).Round]<=0) then 7
   else ztL r l (k+1) (zbW x.Player kept) (tw||kept.contains x.Player) t
end
end Go.HL
namespace Go.Proofs.YtabpobhnedkkeaaGreatDoor
set_option maxRecDepth 100000
set_option linter.unusedVariables false
set_option linter.unusedSimpArgs false
section
open Go.Proofs.Tryz
open Go.HL
theorem zg6 [Tracks] {l:List Str} {s:Str} (hl:l.length<=1000000) (hs:SortedS l):ConP prog 395 [eSs l,.str s] (.tup [.int .i64 (zeF l s),.bool (l.contains s)]):=by
 refine uOb func395 ntmps395 ?_;refine zrB ?_;refine uT2 [7,3,13,18] (fun i j=>[(7,.int .i64 i),(8,.int .i64 j)]) (fun i j=>[]) (fun i j=>i<=j/\j<=l.length/\(∀(k:Nat) (x:Str),k<i->l[k]? =some x->Op.bytesLess x s=true)/\(∀(k:Nat) (x:Str),j<=k->l[k]? =some x->Op.bytesLess x s=false)) (fun i j=>j-i) (0) (l.length) ?_ ?_;exact ⟨Ad _,Ae _,fun k x h=>by omega,fun k x h1 h2=>by have:=zn h2;omega⟩;rintro i j ⟨hij,hjl,ha,hb⟩;refine gz6 ?_;refine uCo (fun h1=> ?_) fun h2=> ?_
 obtain ⟨x,hx⟩: ∃x,l[(i+j)/2]? =some x:=⟨_,Aa uO⟩
 have hm:(i+j)/2<j/\i<=(i+j)/2:=by omega
 refine gz7 ?_;refine dq (zeE ty3 zs4 rfl) ?_;refine dq (zyF rfl rfl uO) ?_;refine dq (zP (zeE zs4 ty3 rfl) (zBi (i:=i) (j:=j) uO)) ?_;refine gz5 ?_;refine dq (zB (j:=(i+j)/2) (a:=x) zo ty9 rfl rfl rfl hx) ?_;refine gz2 ?_;refine dq (uCl zIH rfl zqM) ?_;refine gz1 ?_;refine uCo (fun h3=> ?_) fun h4=> ?_
 refine gz6 ?_;exact ⟨(i+j)/2+1,j,⟨by omega,hjl,zDn hs hx h3,hb⟩,uD,⟨rfl,rfl,trivial⟩,uK,Ac _⟩;refine gz5 ?_;exact ⟨i,(i+j)/2,⟨by omega,by omega,ha,zyZ hs hx h4⟩,uD,⟨rfl,rfl,trivial⟩,uK,Ac _⟩;obtain rfl:i=j:=by omega
 refine gz2 ?_;refine zQ ?_;refine zau ?_;refine uGr rfl (fun hc=>by have hq:=hc;(try simp at hq);exact zB (j:=i) (a:=l.getD i []) zo ty9 rfl rfl rfl (getD_some uO)) ?_;refine gz6 ?_;refine uGr rfl (fun hc=>zB (j:=i) (a:=l.getD i []) zo ty9 rfl rfl rfl (getD_some uSa)) ?_;refine gz1 ?_;refine uGr rfl (fun hc=>uCl zD2 rfl zil) ?_;refine gz2 ?_;refine uGr rfl (fun hc=>uCl zD2 rfl zil) ?_;refine gz7 ?_;refine zu rfl ?_;rw [zqE hjl ha hb,<-zwv hs hjl ha hb,<-zBS false]
end
end Go.Proofs.YtabpobhnedkkeaaGreatDoor
namespace Go.HL
section

end
end Go.HL
namespace Go.Proofs.YtabpobhnedkkeaaGreatDoor
set_option maxRecDepth 100000
set_option linter.unusedVariables false
set_option linter.unusedSimpArgs false
section
open Go.Proofs.Tryz
open Go.HL
theorem zad [Tracks] {l:List Str} (hl:l.length<=1000000):zrf prog 63 [eSs l] 1 (l.map .str):=by
 refine uOb func63 ntmps63 ?_;refine gz6 ?_;refine de rfl (zl4 zo rfl rfl fun b4 hb4=> ?_)
 refine gz1 ?_;refine uCo (fun h1=> ?_) fun h2=> ?_
 refine gz4 ?_;exact zA (zJ 1) rfl ⟨_,rfl,by simp_all⟩;refine gz3 ?_;refine de rfl (zqv zo ty9 fun v5=> ?_)
 refine gz1 ?_;refine de rfl (zH (i:=0) zo ty9 rfl rfl rfl rfl rfl (by simp [zan,zb]) uSo fun v7=> ?_)
 refine gz3 ?_;exact zsU rfl rfl
end
end Go.Proofs.YtabpobhnedkkeaaGreatDoor
namespace Go.HL
section

end
end Go.HL
namespace Go.Proofs.YtabpobhnedkkeaaGreatDoor
set_option maxRecDepth 100000
set_option linter.unusedVariables false
set_option linter.unusedSimpArgs false
section
open Go.HL
set_option linter.unusedSimpArgs false
end
end Go.Proofs.YtabpobhnedkkeaaGreatDoor
namespace Go.HL
section
def asciiSet (l:List UInt8):List HVal:=(List.range 256).map fun i=> .bool (l.contains (UInt8.ofNat i))
theorem zen (l:List UInt8):(asciiSet l).length=256:=by simp [asciiSet]
theorem zo8 (l:List UInt8) (c:UInt8):(asciiSet l)[c.toNat]? =some (.bool (l.contains c)):=by
 have:=c.toNat_lt
 simp [asciiSet,B1,this]
theorem zsl {α:Type} (f:α->Bool): ∀l:List α,zan (l.map fun i=> .bool (f i))=true
 |[]=>rfl
 |x::l=>by simp only [Ao,zan];exact zsl f l
theorem zve (l:List UInt8):zan (asciiSet l)=true:=zsl _ _
theorem zv9 (l:List UInt8) (c:UInt8):zaO (asciiSet l) (0+c.toNat*1) [.bool true]=asciiSet (l++[c]):=by
 have hc:=c.toNat_lt;have hl:0+c.toNat*1=c.toNat:=by omega
 rw [hl]
 apply Cu
 intro i
 have hlen:=zen l;simp only [zaO,CD]
 by_cases hi:i<c.toNat
 rw [Aw (by simp;omega),Aw (by simp [hlen];omega),AD hi];have h256:i<256:=by omega
 have hne:UInt8.ofNat i≠c:=fun h=>by
  have:=congrArg UInt8.toNat h;rw [UInt8.toNat_ofNat_of_lt' (by simpa [UInt8.size] using h256)] at this;omega
 simp [asciiSet,B1,h256,hne]
 by_cases he:i=c.toNat
 subst he;rw [Aw (by simp [hlen];omega),Au (by simp [hlen];omega)];rw [zo8]
 simp [hlen,Ci (Nat.le_of_lt hc)]
 rw [Au (by simp [hlen];omega),AL];have e1:c.toNat+1+(i-((asciiSet l).take c.toNat++[HVal.bool true]).length)=i:=by simp [hlen];omega
 rw [e1]
 by_cases h256:i<256
 have hne:UInt8.ofNat i≠c:=fun h=>by
  have:=congrArg UInt8.toNat h;rw [UInt8.toNat_ofNat_of_lt' (by simpa [UInt8.size] using h256)] at this;omega
 simp [asciiSet,B1,h256,hne]
 rw [AH (by rw [zen];omega),AH (by rw [zen];omega)]
def zed (p:UInt8->Bool) (s:Str):Str:=(s.reverse.dropWhile p).reverse
theorem zhh (p:UInt8->Bool) (s:Str) (c:UInt8):zed p (s++[c])=if p c then zed p s else s++[c]:=by
 unfold zed;rw [List.reverse_append];simp only [List.reverse_cons,List.reverse_nil,Bm,BQ,Bl]
 split<;>simp
theorem zAK (p:UInt8->Bool): ∀s:Str,(s.dropWhile p).length<=s.length
 |[]=>Ae _
 |x::s=>by
   rw [Bl]
   split
   exact Nat.le_succ_of_le (zAK p s);exact Ae _
theorem zuZ (p:UInt8->Bool) (s:Str):(zed p s).length<=s.length:=by
 unfold zed;rw [List.length_reverse];have:=zAK p s.reverse
 rwa [List.length_reverse] at this
theorem zAL (p:UInt8->Bool): ∀s:Str,s.dropWhile p=[]->∀c∈s,p c=true
 |[],_,c,h=>by cases h
 |x::s,h,c,hc=>by
   rw [Bl] at h
   by_cases hx:p x=true
   rw [if_pos hx] at h
   rcases List.mem_cons.1 hc with rfl|hc
   exact hx;exact zAL p s h c hc;rw [if_neg hx] at h;cases h
theorem zDh (p:UInt8->Bool) (s:Str):((zed p s).dropWhile p==[])=s.all p:=by
 induction s using List.reverseRecOn' with
 |nil=>rfl
 |snoc s c ih=>
   rw [zhh]
   by_cases hc:p c=true
   rw [if_pos hc,ih];simp [hc];rw [if_neg hc];have:(s++[c]).all p=false:=by simp [hc]
   rw [this]
   cases hd:(s++[c]).dropWhile p with
   |nil=>exact absurd (zAL _ _ hd c (by simp)) hc
   |cons _ _=>rfl
where
 List.reverseRecOn' {motive:Str->Prop} (nil:motive []) (snoc: ∀s c,motive s->motive (s++[c])) (l:Str):motive l:=by
  have: ∀n (l:Str),l.length=n->motive l:=by
   intro n
   induction n with
   |zero=>intro l h;rw [List.length_eq_zero_iff.1 h];exact nil
   |succ n ih=>
     intro l h
     have hne:l≠[]:=fun h0=>by subst h0;simp at h
     rw [<-BN hne];exact snoc _ _ (ih _ (by simp [h]))
  exact this l.length l rfl
def zhI:Str:=[97,98,99,100,101,102,103,104,105,106,107,108,109,110,111,112,113,114,115,116,117,118,119,120,121,122,48,49,50,51,52,53,54,55,56,57,45,95]
def zkX:Str:=[97,98,99,100,101,102,103,104,105,106,107,108,109,110,111,112,113,114,115,116,117,118,119,120,121,122]
theorem zv6 {p:UInt8->Bool} (h:(List.range 256).all (fun i=>p (UInt8.ofNat i))=true) (c:UInt8):p c=true:=by
 have:=List.all_eq_true.1 h c.toNat (List.mem_range.2 c.toNat_lt)
 simpa using this
theorem zB7 (c:UInt8):zhI.contains c=zhJ c:=by
 have:=zv6 (p:=fun c=>zhI.contains c==zhJ c) (by kernel_rfl) c
 simpa using this
theorem zsZ (c:UInt8):decide (0<=Lib.indexByte zkX c)=(decide (97<=c.toNat)&&decide (c.toNat<=122)):=by
 have:=zv6 (p:=fun c=>decide (0<=Lib.indexByte zkX c)==(decide (97<=c.toNat)&&decide (c.toNat<=122))) (by kernel_rfl) c
 simpa using this
theorem zEV (s:Str):key s=((!(out s.length 1 40)&&((zed (zhI.contains ·) s).dropWhile (zhI.contains ·)==[]))&&decide (0<=Lib.indexByte zkX (s.headD 0))):=by
 rw [zDh,zsZ];have:(fun x=>zhI.contains x)=zhJ:=funext zB7;rw [this];unfold key zkB
 cases s with
 |nil=>simp [out]
 |cons x r=>
   simp only [List.headD_cons];have h1:(!(out ((x::r).length:Int) 1 40))=decide ((x::r).length<=40):=by
    simp only [out,Ah];rw [AE];simp;omega
   rw [h1];have h2:((x::r) !=[])=true:=rfl;rw [h2];have hb: ∀a b c d:Bool,(true&&a&&c&&d&&b)=(a&&b&&(c&&d)):=by decide
   exact hb _ _ _ _
theorem zzM (n:Int):(if out n 0 345686399999 then (1:Int) else 0)=if zN n then 0 else 1:=by
 have:out n 0 345686399999= !(zN n):=by
  simp only [out,zN];rw [AE];simp;try omega
 rw [this];cases zN n<;>rfl
end
end Go.HL
namespace Go.Proofs.YtabpobhnedkkeaaGreatDoor
set_option maxRecDepth 100000
set_option linter.unusedVariables false
set_option linter.unusedSimpArgs false
section
open Go.Proofs.Tryz
open Go.HL
theorem zmE [Tracks] {l:Str} (hl:l.length<=1000000) (ha: ∀c∈l,c.toNat<128):ConP prog 300 [.str l] (.tup [.agg (asciiSet l),.bool true]):=by
 refine zaQ func300 rfl ntmps300 rfl rfl ?_;refine gz1 ?_;refine de rfl (zg zmi rfl fun b2=> ?_)
 refine gz7 ?_;refine uV1 [3,17] (fun (k:Nat)=>[(4,.int .i64 k)]) (fun (k:Nat)=>[.cells b2 (asciiSet (l.take k))]) (fun (k:Nat)=>k<=l.length/\(True)) (fun (k:Nat)=>l.length-k) (0) ?_ ?_ ?_ ?_;exact ⟨Ad _,by simp_all⟩;exact ⟨rfl,trivial⟩;exact zl rfl
 intro k hinv
 obtain ⟨hk,-⟩:=hinv;refine gz7 ?_;refine uCo (fun h1=> ?_) fun h2=> ?_
 obtain ⟨x,hx⟩: ∃x,l[k]? =some x:=⟨_,Aa h1⟩
 have hdx:=zi hx;have hc:=ha x (Ab hx);refine gz7 ?_;refine dq (zbe ty9 rfl rfl rfl (by assumption)) ?_;refine gz7 ?_;refine zam rfl (fun h3=> ?_) (fun h3=> ?_)
 exfalso
 try simp at h3
 omega
 try simp at h3
 refine gz4 ?_;refine dq (zw3 zmi ty4 rfl rfl rfl uO) ?_;refine de0 (zfI (i:=0) ty4 rfl rfl rfl rfl rfl (by rw [zen];omega) ?_)
 refine gz8 ?_;refine ⟨k+1,?_,?_,⟨rfl,trivial⟩,uK,zl (by show [MObj.cells b2 (zaO _ (0+x.toNat*1) [.bool true])]=_;rw [zv9];dsimp only;rw [List.take_add_one,hx];rfl)⟩
 exact ⟨by omega,trivial⟩
 dsimp only;omega
 have hnk:l.length<=k:=by omega
 obtain rfl:k=l.length:=by omega
 refine gz2 ?_;refine zv ?_;refine gz2 ?_;refine zd (zbv (M':=[.cells b2 (asciiSet l)]) (by rw [Am])) ?_;refine gz1 ?_;refine de rfl (zeh (i:=0) (h:= .agg (asciiSet l)) zmi rfl rfl rfl rfl (zen l) ?_)
 refine de0 (zj (h:= .agg (asciiSet l)) zmi rfl rfl (by simp [zeA,zen]) (zve l) (zen l) ?_)
 refine gz3 ?_;refine ⟨_,_,zm 2 rfl,[_,_],_,⟨⟨_,_,_,_,_,rfl,zmi,.inr ⟨rfl,rfl,rfl⟩⟩,⟨rfl,trivial⟩⟩,Weak.refl _,?_,rfl⟩
 rfl
theorem zfF [Tracks] {l:Str} {c:UInt8}:ConP prog 348 [.vptr (asciiSet l) 0,.int .u8 c.toNat] (.bool (l.contains c)):=by
 have hc:=c.toNat_lt;refine uOb func348 ntmps348 ?_;refine gz7 ?_;refine dq (zCQ zmi ty4 rfl rfl rfl uO) ?_;refine dq (zO ty4 rfl rfl (by rw [show 0+c.toNat*1=c.toNat from by omega];exact zo8 l c)) ?_;refine gz3 ?_;refine zu rfl ?_
 rfl
theorem zlN [Tracks] {s l:Str} (hl:s.length<=1000000):ConP prog 301 [.str s,.vptr (asciiSet l) 0] (.str (s.dropWhile (l.contains ·))):=by
 refine uOb func301 ntmps301 ?_;refine gz5 ?_;refine uU1 [0,1,5,10] (fun (t:Str)=>[(0,.str t)]) (fun (t:Str)=>[]) (fun (t:Str)=>t.length<=s.length/\s.dropWhile (l.contains ·)=t.dropWhile (l.contains ·)) (fun (t:Str)=>t.length) (s) ?_ ?_;exact ⟨Ae _,rfl⟩;rintro t ⟨ht,hg⟩;refine gz6 ?_;refine uCo (fun h1=> ?_) fun h2=> ?_
 obtain ⟨x,u,rfl⟩: ∃x u,t=x::u:=by cases t with|nil=>simp at h1|cons x u=>exact ⟨x,u,rfl⟩
 have hlen:(x::u).length=u.length+1:=rfl;refine gz7 ?_;refine dq (zbe (j:=0) (b:=x) ty9 rfl rfl rfl rfl) ?_;refine dq (uCl zD1 rfl zfF) ?_;refine gz2 ?_;refine uCo (fun h3=> ?_) fun h4=> ?_
 refine gz3 ?_;refine zv ?_;refine gz7 ?_;refine zu rfl ?_
 show HVal.str _=_
 rw [hg];simp_all [Bl];refine gz4 ?_;refine dq (ziO (l:=1) ty9 rfl ⟨_,_,rfl,rfl⟩ rfl uO uO) ?_;refine gz3 ?_;refine ⟨_,?_,?_,⟨rfl,trivial⟩,uK,Ac _⟩
 refine ⟨by simp at ht⊢;omega,?_⟩
 rw [hg];simp_all [Bl]
 dsimp only;simp
 obtain rfl:t=[]:=by simpa using h2
 refine gz2 ?_;refine zv ?_;refine gz7 ?_;refine zu rfl ?_
 show HVal.str _=_
 rw [hg];simp_all [Bl]
theorem zlh [Tracks] {s l:Str} (hl:s.length<=1000000):ConP prog 302 [.str s,.vptr (asciiSet l) 0] (.str (zed (l.contains ·) s)):=by
 refine uOb func302 ntmps302 ?_;refine gz5 ?_;refine uU1 [0,1,5,16] (fun (t:Str)=>[(0,.str t)]) (fun (t:Str)=>[]) (fun (t:Str)=>t.length<=s.length/\zed (l.contains ·) s=zed (l.contains ·) t) (fun (t:Str)=>t.length) (s) ?_ ?_;exact ⟨Ae _,rfl⟩;rintro t ⟨ht,hg⟩;refine gz6 ?_;refine uCo (fun h1=> ?_) fun h2=> ?_
 obtain ⟨u,x,rfl⟩: ∃u x,t=u++[x]:=⟨_,_,(BN (by intro h0;subst h0;simp at h1)).symm⟩
 have hlen:(u++[x]).length=u.length+1:=by simp
 refine zau ?_;refine dq (zbe (j:=u.length) (b:=x) ty9 rfl rfl uO (by simp)) ?_;refine dq (uCl zD1 rfl zfF) ?_;refine gz2 ?_;refine uCo (fun h3=> ?_) fun h4=> ?_
 refine gz3 ?_;refine zv ?_;refine gz7 ?_;refine zu rfl ?_
 show HVal.str _=_
 rw [hg];first|rfl|(rw [zhh,if_neg uSa])
 refine gz7 ?_;refine dq (ziO (l:=0) (h:=u.length) ty9 rfl rfl ⟨_,_,rfl,by omega⟩ uO uO) ?_;refine gz3 ?_;refine ⟨_,?_,?_,⟨rfl,trivial⟩,uK,Ac _⟩
 refine ⟨by simp at ht⊢;omega,?_⟩
 rw [hg,zhh,if_pos uSa];simp
 dsimp only;simp
 obtain rfl:t=[]:=by simpa using h2
 refine gz2 ?_;refine zv ?_;refine gz7 ?_;refine zu rfl ?_
 show HVal.str _=_
 rw [hg];first|rfl|(rw [zhh,if_neg uSa])
theorem ztw [Tracks] {s l:Str} (hs:s.length<=1000000) (hl:l.length<=1000000) (h2l:2<=l.length) (ha: ∀c∈l,c.toNat<128):ConP prog 232 [.str s,.str l] (.str ((zed (l.contains ·) s).dropWhile (l.contains ·))):=by
 refine uOb func232 ntmps232 ?_;refine zdf ?_;refine uCo (fun h1=> ?_) fun h2=> ?_
 refine gz5 ?_;refine zu rfl ?_
 show HVal.str _=_
 focus (rcases h1 with rfl|rfl<;>first|(simp at h2l;done)|(simp [zed];done))
 refine gz9 ?_;refine uGr rfl (fun hc=>zbe (j:=0) (b:=l.headD 0) ty9 rfl rfl rfl (hd0 (by intro h0;subst h0;simp at h2l))) ?_;refine gz3 ?_;refine zam rfl (fun h3=> ?_) (fun h3=> ?_)
 exfalso
 try simp at h3
 omega
 try simp at h3
 refine gz5 ?_;refine dq (uCl zIv rfl (zmE (by assumption) (by assumption))) ?_;refine gz3 ?_;refine de rfl (zg zmi rfl fun b5=> ?_)
 refine de0 (zj zmi rfl rfl rfl rfl rfl ?_)
 refine gz2 ?_;refine zd (zm 5 rfl) ?_;refine gz3 ?_;refine zut rfl ?_;refine gz2 ?_;refine dq (uCl zIx rfl (zlh (by assumption))) ?_;refine dq (uCl zIw rfl (zlN (An (zuZ _ _) hs))) ?_;refine gz3 ?_;refine zu rfl ?_
 show HVal.str _=_
 rfl
theorem zhT [Tracks] {s:Str} {c:Int}:ConP prog 305 [.str s,.int .u8 c] (.int .i64 (Lib.indexByte s c.toNat.toUInt8)):=by
 refine uOb func305 ntmps305 ?_;refine gz6 ?_;refine dq (zvw func352 (by kernel_rfl) (by kernel_rfl) (by kernel_rfl) (by kernel_rfl) rfl rfl rfl) ?_;refine gz3 ?_;refine zu rfl ?_
 rfl
theorem zi3 [Tracks] {s:Str} {c:Int}:ConP prog 233 [.str s,.int .u8 c] (.int .i64 (Lib.indexByte s c.toNat.toUInt8)):=by
 refine uOb func233 ntmps233 ?_;refine gz6 ?_;refine dq (uCl zIy rfl zhT) ?_;refine gz3 ?_;refine zu rfl ?_
 rfl
theorem zc0 [Tracks] {n lo hi:Int}:ConP prog 70 [.int .i64 n,.int .i64 lo,.int .i64 hi] (.bool (!(out n lo hi))):=by
 refine uOb func70 ntmps70 ?_;refine zjf ?_;refine zu rfl ?_
 show HVal.bool _=_
 congr 1;simp [out];rw [AE];simp;try omega
theorem zcd [Tracks] {s:Str} (hs:s.length<=1000000):ConP prog 147 [.str s] (.bool (key s)):=by
 refine uOb func147 ntmps147 ?_;refine gz6 ?_;refine dq (uCl zps rfl zc0) ?_;refine gz2 ?_;refine uGr rfl (fun hc=>uCl zDR rfl (ztw (l:=zhI) hs (by decide) (by decide) (by decide))) ?_;refine gz4 ?_;refine uGr rfl (fun hc=>zbe (j:=0) (b:=s.headD 0) ty9 rfl rfl rfl (hd0 (by rintro rfl;simp [out] at hc))) ?_;refine uGr rfl (fun hc=>uCl zDS rfl zi3) ?_;refine gz5 ?_;refine zu rfl ?_
 show HVal.bool _=_
 rw [zEV]
 simp [zhI,zkX]
theorem zid [Tracks] {n lo hi:Int}:ConP prog 26 [.int .i64 n,.int .i64 lo,.int .i64 hi] (.int .i64 (if out n lo hi then 1 else 0)):=by
 refine uOb func26 ntmps26 ?_;refine gz8 ?_;refine dq (uCl zps rfl zc0) ?_;refine gz2 ?_;refine uCo (fun h1=> ?_) fun h2=> ?_
 refine gz4 ?_;refine uRp ?_
 simp_all
 refine gz6 ?_;refine uRp ?_
 simp_all
theorem zb0 [Tracks] {n:Int}:ConP prog 7 [.int .i64 n] (.int .i64 (if zN n then 0 else 1)):=by
 refine uOb func7 ntmps7 ?_;refine gz5 ?_;refine dq (uCl ca26 rfl zid) ?_;refine gz3 ?_;refine uRp ?_;rw [zzM]
end
end Go.Proofs.YtabpobhnedkkeaaGreatDoor
namespace Go.HL
section
theorem ztD {α:Type} [BEq α] [LawfulBEq α] [Inhabited α] [DecidableEq α] (d:Array α) (m:Nat):(Lib.compactUpTo d m).length<=m:=by
 unfold Lib.compactUpTo;rw [Af];have:=AK (Lib.keeps d) (List.range m)
 simpa using this
theorem zzr (l:List Str):(Lib.compact l).length<=l.length:=ztD _ _
end
section
open Op (bytesLess)
theorem zl0 (a b:Int):zai a b= -zai b a:=by
 unfold zai;split<;>split<;>(try split)<;>omega
theorem zfG (a b:Str):zY a b= -zY b a:=by
 rw [zha,zha]
 rcases zcR a b with h|h|h
 have hne:a≠b:=fun e=>by subst e;rw [zaJ] at h;cases h
 simp [h,zcQ h,hne.symm]
 subst h;simp [zaJ];have hne:a≠b:=fun e=>by subst e;rw [zaJ] at h;cases h
 simp [h,zcQ h,hne]
theorem zw0 (a b:Int):orI [-a,-b]= -orI [a,b]:=by
 by_cases h1:a=0<;>by_cases h2:b=0<;>simp [orI,h1,h2]
end
section
section
variable {α:Type} (c:α->α->Int)
def zn9 (x:α):List α->List α
 |[]=>[x]
 |y::t=>if c x y<0 then y::zn9 x t else x::y::t
def zeQ (x:α) (S:List α):List α:=(zn9 c x S.reverse).reverse
def zah (l:List α):List α:=l.foldl (fun S x=>zeQ c x S) []
theorem zCr (x:α):zeQ c x []=[x]:=rfl
theorem zuB (x y:α) (S:List α):zeQ c x (S++[y])=if c x y<0 then zeQ c x S++[y] else S++[y,x]:=by
 unfold zeQ;rw [List.reverse_append];simp only [List.reverse_cons,List.reverse_nil,Bm,BQ,zn9]
 split<;>simp
theorem zsu (l:List α) (x:α):zah c (l++[x])=zeQ c x (zah c l):=by simp [zah,Ba]
theorem zpP (x:α): ∀l,(zn9 c x l).Perm (x::l)
 |[]=> .refl _
 |y::t=>by
   simp only [zn9];split
   ·exact ((zpP x t).cons y).trans (.swap _ _ _)
   ·exact .refl _
theorem zA0 (x:α) (S:List α):(zeQ c x S).Perm (x::S):=by
 unfold zeQ;exact (List.reverse_perm _).trans ((zpP c x _).trans ((List.reverse_perm S).cons x))
theorem zsm: ∀(l S:List α),(l.foldl (fun S x=>zeQ c x S) S).Perm (S++l)
 |[],S=>by simp
 |x::l,S=>by
   simp only [Bv];refine (zsm l _).trans ?_;refine ((zA0 c x S).append_right l).trans ?_;exact (Bh (a:=x) (l₁:=S) (l₂:=l)).symm
theorem za5 (l:List α):(zah c l).Perm l:=by
 have:=zsm c l []
 simpa [zah] using this
theorem zbX (l:List α):(zah c l).length=l.length:=(za5 c l).length_eq
theorem ze7 {l:List α} {x:α}:x∈zah c l↔x∈l:=(za5 c l).mem_iff
structure Cmp (s:α->Prop):Prop where
 flip: ∀x y,s x->s y->(c x y<0↔0<c y x)
 trans: ∀x y z,s x->s y->s z->c x y<=0->c y z<=0->c x z<=0
variable {c}
theorem zq2 {s:α->Prop} (hc:Cmp c s) {x:α} (hx:s x): ∀{l:List α},(∀y∈l,s y)->l.Pairwise (fun a b=>c b a<=0)->(zn9 c x l).Pairwise (fun a b=>c b a<=0)
 |[],_,_=>by simp [zn9]
 |y::t,hs,hp=>by
   have hy:=hs y (by simp);have ht: ∀z∈t,s z:=fun z hz=>hs z (Al _ hz)
   obtain ⟨h1,h2⟩:=List.pairwise_cons.1 hp;simp only [zn9]
   split
   rename_i hlt
   refine List.pairwise_cons.2 ⟨fun z hz=> ?_,zq2 hc hx ht h2⟩
   rcases List.mem_cons.1 ((zpP c x t).mem_iff.1 hz) with rfl|hz
   omega
   exact h1 z hz
   rename_i hge
   have hyx:c y x<=0:=by
    have:=(hc.flip x y hx hy)
    omega
   refine List.pairwise_cons.2 ⟨fun z hz=> ?_,hp⟩
   rcases List.mem_cons.1 hz with rfl|hz
   exact hyx;exact hc.trans z y x (ht z hz) hy hx (h1 z hz) hyx
theorem zxN {s:α->Prop} (hc:Cmp c s) {x:α} (hx:s x) {l:List α} (hs: ∀y∈l,s y) (hp:l.Pairwise (fun a b=>c a b<=0)):(zeQ c x l).Pairwise (fun a b=>c a b<=0):=by
 unfold zeQ;rw [List.pairwise_reverse];exact zq2 hc hx (fun y hy=>hs y (List.mem_reverse.1 hy)) (List.pairwise_reverse.2 hp)
theorem zex {s:α->Prop} (hc:Cmp c s) {l:List α} (hs: ∀y∈l,s y):(zah c l).Pairwise (fun a b=>c a b<=0):=by
 have key: ∀(n:Nat),n<=l.length->(zah c (l.take n)).Pairwise (fun a b=>c a b<=0):=by
  intro n
  induction n with
  |zero=>intro _;simp [zah]
  |succ n ih=>
    intro hn
    have hx:=Aa (l:=l) (i:=n) (by omega);rw [zW hx,zsu];exact zxN hc (hs _ (Ab hx)) (fun y hy=>hs y (AS ((za5 c _).mem_iff.1 hy))) (ih (by omega))
 have:=key l.length (Ae _)
 rwa [Am] at this
theorem zpQ {s:α->Prop} (hc:Cmp c s) {l m:List α} (hs: ∀y∈l,s y) (he: ∀x y,x∈l->y∈l->c x y=0->x=y) (hp:l.Perm m):zah c l=zah c m:=by
 have hm: ∀y∈m,s y:=fun y hy=>hs y (hp.mem_iff.2 hy)
 refine Cl (le:=fun a b=>c a b<=0) ?_ (zex hc hs) (zex hc hm) ((za5 c l).trans (hp.trans (za5 c m).symm))
 intro a b ha hb h1 h2
 have ha':=(za5 c l).mem_iff.1 ha;have hb':=hp.mem_iff.2 ((za5 c m).mem_iff.1 hb);refine he a b ha' hb' ?_;have f1:=hc.flip a b (hs a ha') (hs b hb');have f2:=hc.flip b a (hs b hb') (hs a ha')
 omega
end
end
section
abbrev pAt (b:Nat):HVal:= .raw (.pointer (some ⟨b,0,none⟩))
abbrev St (b:Nat) (l:List Int) (a:Nat):MObj:= .cells b [.slice 1 (l.map (.int .i64)),.int .i64 (a:Int)]
def below (x n:Int):Int:=if n<1 then 0 else if x.tmod n<0 then x.tmod n+n else x.tmod n
theorem zo9 (x n:Int): ∃y:Nat,below x n=(y:Int)/\(y:Int)<max n 1:=by
 have h:0<=below x n/\below x n<max n 1:=by
  unfold below
  split
  omega
  have h1:=B3 x (show 0<n by omega);have h2: -n<x.tmod n:=by
   have:=Int.neg_lt_tmod_of_pos' x n (by omega);exact this
  split<;>omega
 exact ⟨(below x n).toNat,by omega,by omega⟩
where
 Int.neg_lt_tmod_of_pos' (x n:Int) (h:0<n): -n<x.tmod n:=by
  rcases Int.le_total 0 x with hx|hx
  have:=CF n hx;omega;have e:x.tmod n= -((-x).tmod n):=by rw [Int.neg_tmod];simp
  have:=B3 (-x) h
  omega
theorem getI {L:List Int} {y:Nat} (h:(y:Int)<max (L.length:Int) 1) (h0:0<L.length): ∃z,L[y]? =some z/\z∈L:=
 ⟨L[y]'(by omega),Aa _,Bg _⟩
theorem getS {L:List Str} {y:Nat} (h:(y:Int)<max (L.length:Int) 1) (h0:0<L.length): ∃z,L[y]? =some z/\z∈L:=
 ⟨L[y]'(by omega),Aa _,Bg _⟩
theorem zrO (a b:Nat):((a:Int)).tmod (b:Int)=((a%b:Nat):Int):=by
 exact (Int.ofNat_tmod a b).symm
end
section

end
section
open Op (bytesLess)
def zds (p:Option Str):List Str->List Str
 |[]=>[]
 |x::r=>if p=some x then zds (some x) r else x::zds (some x) r
theorem ztb (x:Str): ∀(l:List Str) (p:Option Str),zds p (l++[x])=zds p l++if (l.getLast?.or p)=some x then [] else [x]
 |[],p=>by
   by_cases h:p=some x
   simp only [Bm,zds];rw [if_pos h,if_pos (by simpa using h)];simp only [Bm,zds];rw [if_neg h,if_neg (by simpa using h)]
 |y::l,p=>by
   have ih:=ztb x l (some y);have e:(y::l).getLast?.or p=l.getLast?.or (some y):=by
    cases l with
    |nil=>simp
    |cons z r=>simp [Cr];rw [List.getLast?_eq_some_getLast (by simp)];simp
   rw [e];simp only [A0,zds,ih]
   split<;>simp
theorem zll (l:List Str): ∀m,m<=l.length->Lib.compactUpTo l.toArray m=zds none (l.take m)
 |0,_=>by simp [Lib.compactUpTo,zds]
 |m+1,h=>by
   have hm:m<l.length:=by omega
   have hx:=Aa hm;rw [Lib.compactUpTo_succ,zll l m (by omega),zW hx,ztb]
   congr 1
   have e1:l.toArray[m]! =l[m]:=by simp [getElem!_pos,hm]
   rw [e1]
   cases m with
   |zero=>simp [Lib.keeps]
   |succ m=>
     have hl:(l.take (m+1)).getLast? =some l[m]:=by
      rw [zW (Aa (show m<l.length by omega)),List.getLast?_append];rfl
     have e2:l.toArray[m]! =l[m]:=by simp [getElem!_pos,show m<l.length by omega]
     rw [hl];simp only [Lib.keeps,e1,BE,e2]
     by_cases hh:l[m]=l[m+1]
     simp [hh]
     have hh': ¬l[m+1]=l[m]:=fun h=>hh h.symm
     simp [hh,hh']
theorem ziG (l:List Str):Lib.compact l=zds none l:=by
 unfold Lib.compact;rw [zll l _ (Ae _),Am]
theorem zxy: ∀(l:List Str) (p:Option Str),(zds p l).length<=l.length
 |[],_=>Ae _
 |x::r,p=>by
   have:=zxy r (some x);simp only [zds];split<;>simp<;>omega
theorem zqf (l:List Str):(zaB l).Pairwise (fun x y=>x<=y):=by
 have:=List.pairwise_mergeSort (le:=fun x y:Str=>decide (x<=y)) (fun a b c h1 h2=>by
  simp only [decide_eq_true_eq] at*;exact List.le_trans h1 h2) (fun a b=>by
  simp only [A1,decide_eq_true_eq];exact List.le_total a b) l
 exact this.imp (fun h=>by simpa using h)
theorem zC8 (s t:Str) (l:List Str):t∈zbW s l↔t=s\/t∈l:=by
 unfold zbW
 split
 rename_i h
 simp only [Bd] at h
 constructor
 exact .inr;rintro (rfl|h');exact h;exact h'
 simp [or_comm]
end
section
def Sh (s:Str):Prop:=s.length<=1000000
structure KLs where
 u:Value
 out:List Keep
 lv:Value
 left:List Str
 a:Nat
structure KLok (n a:Nat) (q:KLs):Prop where
 out:q.out.length<=n
 left:q.left.length<=20
 ls: ∀s∈q.left,Sh s
 os: ∀x∈q.out,Sh x.Team/\Sh x.Player
 a:q.a<=a+2*n
theorem zpZ: ∀(l:List Str) (p:Option Str) (s:Str),s∈zds p l->s∈l
 |[],_,s,h=>by simp [zds] at h
 |x::r,p,s,h=>by
   simp only [zds] at h
   split at h
   exact Al _ (zpZ r _ s h)
   rcases List.mem_cons.1 h with h|h
   subst h;simp;exact Al _ (zpZ r _ s h)
theorem zF8 {l:List Str} {s:Str} (h:s∈Lib.compact (zaB l)):s∈l:=by
 rw [ziG] at h;have:=zpZ _ _ _ h;exact (A2 _ _).mem_iff.1 this
theorem KLok.add {n a:Nat} {u u' lv lv':Value} {out:List Keep} {left:List Str} {a1 a2 k:Nat} {t p:Str} {rd:Int} (h:KLok n a ⟨u,out,lv,left,a1⟩) (h1:a2<=a1+2) (ht:Sh t) (hp:left[k]? =some p):
 KLok (n+1) a ⟨u',out++[⟨t,p,rd⟩],lv',left.eraseIdx k,a2⟩:=
 ⟨by have:=h.out;simp at*;omega,by have:=h.left;have:=List.length_eraseIdx_le left k;dsimp only at*;omega,fun s hs=>h.ls s (List.mem_of_mem_eraseIdx hs),fun x hx=>by
  rcases List.mem_append.1 hx with hx|hx
  exact h.os x hx
  simp at hx;subst hx;exact ⟨ht,h.ls p (Ab hp)⟩,by have:=h.a;dsimp only at*;omega⟩
theorem za1 {α:Type} {l:List α} {j:Nat} {x y:α} (h:l[j]? =some y):(l.set j x)[j]? =some x:=by
 rw [Cx (zn h)]
theorem zbG {α β:Type} {f:α->β} {l:List α} {j:Nat} {x:α} (h:l[j]? =some x):(l.map f)[j]? =some (f x):=by
 rw [Aj,h];rfl
theorem zzL {α:Type} {l:List α} {j:Nat} {x y:α} (h:x∈l.set j y):x=y\/x∈l:=by
 rcases Ch h with h|h
 exact .inr h;exact .inl h
structure SLs where
 u:Value
 out:List Swap
 row:List Str
 a:Nat
structure SLok (n a:Nat) (q:SLs):Prop where
 out:q.out.length<=n
 row:q.row.length<=4
 rs: ∀s∈q.row,Sh s
 os: ∀x∈q.out,Sh x.Of/\Sh x.Team
 a:q.a<=a+2*n
theorem SLok.mono {n m a:Nat} {q:SLs} (h:SLok n a q) (hm:n<=m):SLok m a q:=
 ⟨by have:=h.out;omega,h.row,h.rs,h.os,by have:=h.a;omega⟩
theorem KLok.mono {n m a:Nat} {q:KLs} (h:KLok n a q) (hm:n<=m):KLok m a q:=
 ⟨by have:=h.out;omega,h.left,h.ls,h.os,by have:=h.a;omega⟩
theorem SLok.add {n a:Nat} {u u':Value} {out:List Swap} {row:List Str} {a1 a2:Nat} {t p:Str} {rd:Int} (h:SLok n a ⟨u,out,row,a1⟩) (h1:a2<=a1+2) (ht:Sh t) (hp:Sh p):
 SLok (n+1) a ⟨u',out++[⟨rd,t,p⟩],row,a2⟩:=
 ⟨by have:=h.out;simp at*;omega,h.row,h.rs,fun x hx=>by
  rcases List.mem_append.1 hx with hx|hx
  exact h.os x hx
  simp at hx;subst hx;exact ⟨ht,hp⟩,by have:=h.a;dsimp only at*;omega⟩
end
section
open Op (bytesLess)
structure Asset where
 Player:Str
 Position:Str
 Value:Int
structure Place where
 Position:Str
 Many:Int
def zAu:Asset:=⟨[],[],0⟩
def zEo (a b:Asset):Int:=orI [zai b.Value a.Value,zY a.Player b.Player]
def zGB (l:List Asset) (pos:Str):List Asset:=l.filter (fun x=>x.Position==pos)
def ofP (l:List Asset) (pos:Str):List Asset:=zah zEo (zGB l pos)
def zFP (o:List Asset) (many:Int):List Asset:=(o.take (min many o.length).toNat).filter (fun y=>decide (0<y.Value))
def zCa (of:Str->List Asset) (p:List Place):List Asset:=p.flatMap fun x=>zFP (of x.Position) x.Many
def sumV (l:List Asset):Int:=(l.map (·.Value)).sum
end
section
open Op (bytesLess)
theorem zkQ {a b:Str}:zY a b<=0↔bytesLess b a=false:=by
 rw [zha]
 rcases zcR a b with h|h|h
 simp [h,zcQ h]
 subst h;simp [zaJ];have hne:a≠b:=fun e=>by subst e;rw [zaJ] at h;cases h
 simp [h,zcQ h,hne]
theorem zbi {a b:Str}:zY a b=0↔a=b:=by
 rw [zha]
 rcases zcR a b with h|h|h
 have hne:a≠b:=fun e=>by subst e;rw [zaJ] at h;cases h
 simp [h,hne]
 subst h;simp [zaJ];have hne:a≠b:=fun e=>by subst e;rw [zaJ] at h;cases h
 simp [zcQ h,hne]
theorem ziF {a b c:Str} (h1:zY a b<=0) (h2:zY b c<=0):zY a c<=0:=by
 rw [zkQ] at*
 rcases zcR a b with h|h|h
 rcases zcR b c with h'|h'|h'
 exact zcQ (zfR h h');subst h';exact zcQ h;rw [h'] at h2;cases h2;subst h;exact h2;rw [h] at h1;cases h1
theorem zdx (a b:Int):orI [a,b]=if a≠0 then a else b:=by
 simp only [orI]
 by_cases ha:a=0<;>by_cases hb:b=0<;>simp [ha,hb]
theorem zm7 {a b:Int}:zai a b<=0↔a<=b:=by unfold zai;split<;>(try split)<;>omega
theorem zcH {a b:Int}:zai a b=0↔a=b:=by unfold zai;split<;>(try split)<;>omega
end
section
variable {P:Program}
section
variable {P:Program} {e:Env} {dst:Option Tmp} {ty:TypeId} {pos:String} {af:Array Edge} {g:Option (Nat×Bool)} {M:List MObj} {K:HVal->List MObj->Prop}
theorem zas [Tracks] {α:Type} {f:α->HVal} {x:Operand} {t:TypeId} {d:TD} {size bytes:Nat} {zero:Value} {i b off cap n sz j o:Nat} {es:List α} {y:α} (hf:Fits P t d size bytes zero)
 (hx:zh e x=some (.raw (.pointer (some ⟨b,o,none⟩)))) (ho':o=off+j*sz) (hm:M[i]? =some (.arr (.slice (some ⟨b,off,none⟩) n cap) sz (es.map f))) (hj:es[j]? =some y)
 (hd:d.isAgg=true) (hs:size=(zb (f y)).length) (hv:f y= .agg (zb (f y))) (hk:K (f y) M):EOp P e M ⟨dst,.load t x,ty,pos,af,g⟩ K:=
 zpA (j:=j) (f:=0) (y:=f y) hf hx (by omega) hm (by rw [Aj,hj];rfl) (.inr ⟨hd,by omega,by rw [List.drop_zero,hs,Am];exact hv⟩) hk
theorem zby [Tracks] {α:Type} {f:α->HVal} {x z:Operand} {t:TypeId} {d:TD} {size bytes:Nat} {zero:Value} {i b off cap n sz j o:Nat} {es:List α} {y y':α} (hf:Fits P t d size bytes zero)
 (hx:zh e x=some (.raw (.pointer (some ⟨b,o,none⟩)))) (ho':o=off+j*sz) (hz:zh e z=some (f y')) (hm:M[i]? =some (.arr (.slice (some ⟨b,off,none⟩) n cap) sz (es.map f))) (hj:es[j]? =some y)
 (hok:zeA size (f y')=true) (hfl:zan (zb (f y'))=true) (hle:(zb (f y')).length=(zb (f y)).length)
 (hk:K .junk (M.set i (.arr (.slice (some ⟨b,off,none⟩) n cap) sz ((es.set j y').map f)))):EOp P e M ⟨dst,.store t x z,ty,pos,af,g⟩ K:=by
 have h0:=(zeB hok).1;refine zac (j:=j) (f:=0) (y:=f y) (y':=f y') hf hx (by omega) hz hm (by rw [Aj,hj];rfl) hok hfl (by omega) ?_ ?_;rw [zxp hle];rw [List.map_set] at hk;exact hk
end
theorem Sat.arr_take [Tracks] {I:Imm} {F:List MObj} {w:World} {b off n cap sz m:Nat} {es:List HVal} (hm:m<=es.length) (h:Sat P I (.arr (.slice (some ⟨b,off,none⟩) n cap) sz es::F) w):
 Sat P I (.arr (.slice (some ⟨b,off,none⟩) m cap) sz (es.take m)::F) w:=by
 obtain ⟨_,rc,el,fr,h2,h3,h4,h5,h6,h7⟩:=zhN h;refine h.change (m':= .arr (.slice (some ⟨b,off,none⟩) m cap) sz (es.take m)) (fun _ _ _=>rfl) (fun c hc=> .inl hc) (by simp [MObj.blocks]) ?_ rfl rfl rfl
 have hl:(es.take m).length=m:=by simp;omega
 refine .inr ⟨b,off,cap,rc,el,fr,by rw [hl],h2,h3,fun e he=>h4 e (AS he),by omega,h6,fun i j e c v a1 a2 a3=> ?_⟩
 have hi:=zn a1;rw [AD (by omega)] at a1;exact h7 i j e c v a1 a2 a3
theorem Ghost.take [Tracks] {e:Env} {M:List MObj} {b off n cap sz m:Nat} {es:List HVal} (hm:m<=es.length):Ghost e (.arr (.slice (some ⟨b,off,none⟩) n cap) sz es::M) e (.arr (.slice (some ⟨b,off,none⟩) m cap) sz (es.take m)::M):=
 fun _ I F tmps w h1 h2=>⟨I,.refl I,h1,h2.arr_take hm⟩
def zjw (cap off sz lo:Nat):Nat:=if cap=lo then off else off+lo*sz
section
variable {P:Program} {e:Env} {dst:Option Tmp} {ty:TypeId} {pos:String} {af:Array Edge} {g:Option (Nat×Bool)} {M:List MObj} {K:HVal->List MObj->Prop}
theorem zfa [Tracks] {x:Operand} {lo hi:Option Operand} {t el:TypeId} {size bytes sz b2:Nat} {zero z2:Value} {d:TD} {b off n cap l h:Nat}
 (hf:Fits P t (.slice el) size bytes zero) (hel:Fits P el d sz b2 z2) (hx:zh e x=some (.raw (.slice (some ⟨b,off,none⟩) n cap))) (hlo:zb8 e lo 0 l) (hhi:zb8 e hi n h) (h1:l<=h) (h2:h<=n) (hc:n<=cap):
 POp P e ⟨dst,.slice t x lo hi none,ty,pos,af,g⟩ (.raw (.slice (some ⟨b,zjw cap off sz l,none⟩) (h-l) (cap-l))):=
 zF fun I a w ho=>by
  have h3:=(ho.one (x:=x) (by simp [Op.operands]) hx).raw_inv;have hb:(Instr.sliceBounds true n cap (Option.map a.eval lo) (Option.map a.eval hi) none).run P w= .ok (l,h,cap) w:=
   zkI (P:=P) (e:=e) (lo:=lo) (hi:=hi) (l:=l) (h:=h) (len:=n) (cap:=cap) ho (by intro y hy;simp [Op.operands,hy]) (by intro y hy;simp [Op.operands,hy]) hlo hhi h1 h2 hc true w
  refine ⟨_,?_,.raw _ rfl⟩
  simp [execOp,Instr.sliceAt,run_underlying hf.slice,h3,Instr.slice,hb,hel.run_sizeOf,zjw]
  try (split<;>simp_all [zem])
  try omega
theorem zeu [Tracks] {x:Operand} {t el:TypeId} {size bytes sz b2:Nat} {zero z2:Value} {d:TD} {i b off n cap m q o c2:Nat} {es:List HVal} (m':Nat)
 (hf:Fits P t (.slice el) size bytes zero) (hel:Fits P el d sz b2 z2) (hz:z2.cells.size=sz) (hz1:z2.cells.toList.all Value.oneCell'=true)
 (hx:zh e x=some (.raw (.slice (some ⟨b,o,none⟩) q c2))) (ho':q=0\/o=off+m*sz) (hm:M[i]? =some (.arr (.slice (some ⟨b,off,none⟩) n cap) sz es)) (hmq:m+q<=cap) (hmm:m'<=m) (hme:m'<=es.length)
 (hk:K .junk (M.set i (.arr (.slice (some ⟨b,off,none⟩) m' cap) sz (es.take m')))):EOp P e M ⟨dst,.call ⟨.builtin .clear,#[x],#[t]⟩,ty,pos,af,g⟩ K:=
 EOp.of_run fun I F a w ho hs=>by
  have h1:=(ho.one (x:=x) (by simp [Op.operands,Call.operands]) hx).raw_inv;have hp:=hs.pull hm;obtain ⟨_,rc,el',fr,h2,h3,h4,h5,h6,h7⟩:=zhN hp;have hrun:(execOp a.eval ⟨dst,.call ⟨.builtin .clear,#[x],#[t]⟩,ty,pos,af,g⟩).run P w=((Builtin.clear_ #[t] ty #[a.eval x]).run P w).andThen fun v w=> .ok (.value v) w:=by
   simp [execOp,resolve,invoke,builtin]
  rcases Bf q with h0|h0
  refine ⟨.tuple #[],.junk,_,w,I,?_,.refl I,hk,.junk _,?_⟩
  rw [hrun,h1,h0]
  simp [Builtin.clear_,run_underlying hf.slice]
  exact zcc hm (hp.arr_take hme);have hso:o=off+m*sz:=by rcases ho' with h|h;omega;exact h
  have hmul:(m+q)*sz<=cap*sz:=AB _ hmq;rw [AT] at hmul;have hlen:(Builtin.zeroCells z2.cells q).toList.length=q*sz:=by rw [AM,znp,hz]
  have hone: ∀v∈(Builtin.zeroCells z2.cells q).toList,v.oneCell'=true:=fun v hv=>by
   simp only [Builtin.zeroCells,Array.toList_map,B8] at hv;obtain ⟨r,hr,rfl⟩:=hv;have hq':r<q*z2.cells.size:=by simpa using hr
   have hpos:0<z2.cells.size:=by
    rcases Bf z2.cells.size with h|h
    rw [h] at hq';simp at hq';exact h
   have hlt:r%z2.cells.size<z2.cells.size:=B4 _ hpos;rw [getElem!_pos z2.cells _ hlt];exact List.all_eq_true.1 hz1 _ (by simp)
  obtain ⟨w',rc',g1,g2,g3,g4,g5,g6,g7,g8,g9⟩:=zfA (P:=P) b el' fr (off+m*sz) (Builtin.zeroCells z2.cells q).toList 0 w rc h2 h3 hone (by rw [hlen];omega);refine ⟨.tuple #[],.junk,_,w',I,?_,.refl I,hk,.junk _,?_⟩
  rw [hrun,h1,hso];obtain ⟨r,rfl⟩: ∃r,q=r+1:=⟨q-1,by omega⟩
  simp [Builtin.clear_,run_underlying hf.slice,hel.run_zero,g1]
  refine zcc hm (hp.change (m':= .arr (.slice (some ⟨b,off,none⟩) m' cap) sz (es.take m')) (fun k hk hnk=>g5 k (by simpa [MObj.blocks] using hnk)) (fun k hk=> .inl hk) (by simp [MObj.blocks]) ?_ g7 g8 g9.1 (fun _=>Bj g9.2.symm))
  have hl:(es.take m').length=m':=by simp;omega
  refine .inr ⟨b,off,cap,rc',el',fr,by rw [hl],g2,by rw [g3];exact h3,fun e he=>h4 e (AS he),by omega,by rw [g3];exact h6,fun p q' y c v a1 a2 a3=> ?_⟩
  have hi:=zn a1;rw [AD (by omega)] at a1;have hq:=zn a2;rw [h4 y (Ab a1)] at hq;have hpm:(p+1)*sz<=m*sz:=AB _ (by omega);rw [AT] at hpm;rw [g4,if_neg (by omega)] at a3;exact h7 p q' y c v a1 a2 a3
theorem zx0 [Tracks] {I:Imm} {a:Act} {o:Oper} (ho:Opds I e a o) {lo hi:Option Operand} (hlo: ∀x,lo=some x->x∈o.op.operands) (hhi: ∀x,hi=some x->x∈o.op.operands)
 {len cap l h:Nat} (h1:zb8 e lo 0 l) (h2:zb8 e hi len h) (h3:l<=h) (h4:h<=cap) (b:Bool) (w:World):
 (Instr.sliceBounds b len cap (lo.map a.eval) (hi.map a.eval) none).run P w= .ok (l,h,cap) w:=by
 unfold Instr.sliceBounds
 cases lo with
 |none=>
   simp only [zb8] at h1;subst h1
   cases hi with
   |none=>simp only [zb8] at h2;subst h2;simp
   |some y=>
     obtain ⟨k,i,h6,rfl⟩:=h2;have h7:=(ho.one (hhi y rfl) h6).int_inv
     simp [h7,zc5 h4]
 |some x=>
   obtain ⟨k',i',h8,rfl⟩:=h1;have h9:=(ho.one (hlo x rfl) h8).int_inv
   cases hi with
   |none=>simp only [zb8] at h2;subst h2;simp [h9,zc5 h3]
   |some y=>
     obtain ⟨k,i,h6,rfl⟩:=h2;have h7:=(ho.one (hhi y rfl) h6).int_inv
     simp [h7,h9,zc5 h4,zc5 h3]
theorem zz4 [Tracks] {x:Operand} {lo hi:Option Operand} {t el:TypeId} {size bytes sz b2:Nat} {zero z2:Value} {d:TD} {b off n cap l h:Nat}
 (hf:Fits P t (.slice el) size bytes zero) (hel:Fits P el d sz b2 z2) (hx:zh e x=some (.raw (.slice (some ⟨b,off,none⟩) n cap))) (hlo:zb8 e lo 0 l) (hhi:zb8 e hi n h) (h1:l<=h) (h2:h<=cap):
 POp P e ⟨dst,.slice t x lo hi none,ty,pos,af,g⟩ (.raw (.slice (some ⟨b,zjw cap off sz l,none⟩) (h-l) (cap-l))):=
 zF fun I a w ho=>by
  have h3:=(ho.one (x:=x) (by simp [Op.operands]) hx).raw_inv;have hb:(Instr.sliceBounds true n cap (Option.map a.eval lo) (Option.map a.eval hi) none).run P w= .ok (l,h,cap) w:=
   zx0 (P:=P) (e:=e) (lo:=lo) (hi:=hi) (l:=l) (h:=h) (len:=n) (cap:=cap) ho (by intro y hy;simp [Op.operands,hy]) (by intro y hy;simp [Op.operands,hy]) hlo hhi h1 h2 true w
  refine ⟨_,?_,.raw _ rfl⟩
  simp [execOp,Instr.sliceAt,run_underlying hf.slice,h3,Instr.slice,hb,hel.run_sizeOf,zjw]
  try (split<;>simp_all [zem])
  try omega
theorem zfU [Tracks] {x:Operand} {hi:Option Operand} {t el:TypeId} {size bytes sz b2:Nat} {zero z2:Value} {d:TD} {b off n cap h:Nat}
 (hf:Fits P t (.slice el) size bytes zero) (hel:Fits P el d sz b2 z2) (hx:zh e x=some (.raw (.slice (some ⟨b,off,none⟩) n cap))) (hhi:zb8 e hi n h) (h2:h<=cap):
 POp P e ⟨dst,.slice t x none hi none,ty,pos,af,g⟩ (.raw (.slice (some ⟨b,off,none⟩) h cap)):=by
 have:=zz4 (P:=P) (dst:=dst) (ty:=ty) (pos:=pos) (af:=af) (g:=g) (lo:=none) (l:=0) hf hel hx rfl hhi (Ad _) h2;have e1:zjw cap off sz 0=off:=by unfold zjw;split<;>omega
 rwa [e1,Nat.sub_zero,Nat.sub_zero] at this
end
end
section
variable {P:Program}
open Go.ChangeShapes Go.WideShapes Go.RowKit
theorem zpa [Tracks] {W W':World} {J:Imm} {M:List MObj} (hl:Le (zc9 W) J) (hs:Sat P J M W'):Below W.heap.size W W':=by
 have hb: ∀k,k<W.heap.size->W'.heap[k]? =W.heap[k]?:=fun k hk=>by
  have h1:W.heap[k]? =some W.heap[k]:=by simp [hk]
  rw [h1];exact hs.imm _ _ (hl.heap _ _ h1)
 exact {
  os:=hs.os.trans hl.os
  tape:=hs.tape.trans hl.tape
  output:=hs.output.trans hl.output
  size:=by
   rcases Bf W.heap.size with h|h
   omega
   have h1:=hb (W.heap.size-1) (by omega);have h2:W.heap[W.heap.size-1]? =some (W.heap[W.heap.size-1]'(by omega)):=by simp
   rw [h2] at h1
   rcases AC (W.heap.size-1) W'.heap.size with h3|h3
   omega
   rw [Av h3] at h1;cases h1
  block:=hb}
theorem zyL [Tracks] {W:World} (ht:TabI P (zc9 W)):Sat P (zc9 W) [] W:=⟨fun _ _ h=>h,fun _ h=>by simp at h,by simp [blocks],fun _ h=>by simp [blocks] at h,rfl,rfl,rfl,ht,fun _=>Ae _⟩
theorem zwq [Tracks] {P:Program} {f:FuncId} {l:List Int} (hc:ConP P f [.slice 1 (l.map (.int .i64))] (.bool true)) {W:World} (ht:TabI P (zc9 W)) {v:Value} (hv:V (zc9 W) (.slice 1 (l.map (.int .i64))) v):
 Calls P f #[v] W fun e W'=>e= .returned (.bool true)/\Below W.heap.size W W':=by
 refine (hc (zc9 W) [] W [v] (VL.cons hv VL.nil) (zyL ht)).mono ?_;rintro e W' ⟨u,h,M',J,rfl,hle,⟨rfl,rfl⟩,hV,hs⟩;exact ⟨by rw [hV.bool_inv],zpa hle hs⟩
theorem zGw [Tracks] {W:World} {a:Addr} {len cap:Nat} {zs:List Int} (hcell: ∀i,i<zs.length->W.cell? (a.add i)=some (.int .i64 (zs.getD i 0))) (hl:len<=zs.length) (hc:len<=cap):
 V (zc9 W) (.slice 1 ((zs.take len).map (.int .i64))) (.slice (some a) len cap):=by
 rcases Bf len with h0|h0
 subst h0;exact .slice0 _ _ _;obtain ⟨b,off,rfl,hj⟩:=ints_at hcell (by omega);have hc0:=hj 0 (by omega);unfold World.cell? at hc0
 cases hh:W.heap[b]? with
 |none=>rw [hh] at hc0;simp at hc0
 |some o=>
   cases o with
   |cells rc el fr=>
     have hrc: ∀j,j<zs.length->rc[off+j]? =some (.int .i64 (zs.getD j 0)):=fun j hj'=>by
      have:=hj j hj';unfold World.cell? at this
      simpa [hh] using this
     have hlen:((zs.take len).map (HVal.int .i64)).length=len:=by simp;omega
     have hsz:off+zs.length<=rc.size:=by
      have:=hrc (zs.length-1) (by omega)
      rcases AC (off+(zs.length-1)) rc.size with h3|h3
      omega
      rw [Av h3] at this;cases this
     have:=V.slice (I:=zc9 W) (sz:=1) (es:=(zs.take len).map (.int .i64)) (b:=b) (off:=off) (cap:=cap) (rc:=rc) (el:=el) (fr:=fr) hh
      (fun e he=>by obtain ⟨n,_,rfl⟩:=List.mem_map.1 he;rfl) (by omega) (by omega) (fun i j e c v h1 h2 h3=>by
        have hi:=zn h1;rw [hlen] at hi;rw [Aj,AD hi] at h1;have e1:zs[i]? =some zs[i]:=Aa (by omega);rw [e1] at h1;simp only [AI,AA] at h1;subst h1
        cases j with
        |succ j=>simp [zb] at h2
        |zero=>
          simp only [zb,A3,AA] at h2;subst h2;have h4:=hrc i (by omega);rw [Nat.mul_one,BZ,h4] at h3;simp only [AA] at h3;subst h3;have:zs.getD i 0=zs[i]:=by simp [List.getD,e1]
          rw [this];exact .int _ _)
     rw [hlen] at this;exact this
   |_=>rw [hh] at hc0;simp at hc0
end
section
open Go.Sort Go.Proofs Go.RowKit
variable {P:Program}
theorem ztM {w:World} {name:String} {d:DataW Unit}: ∀{laid:List (String×DataW Unit)} {ps:List MemPlace},DataW.LaidVars P w laid ps->∀(i:Nat),laid[i]? =some (name,d)->
 ∃g t cs fuel p,P.globalNamed name=some g/\(P.globals[g]?).map (·.type)=some t/\w.var? P name=some cs/\DataW.trod (fun _=>()) P w 0 (fun _=>true) false fuel t cs.toList=some (d,p)
 |[],_,_,i,h=>by simp at h
 |(n,x)::r,ps,h,0,hi=>by
   simp at hi
   obtain ⟨rfl,rfl⟩:=hi;obtain ⟨g,t,cs,fuel,p,q,h1,h2,h3,h4,_,_⟩:=h;exact ⟨g,t,cs,fuel,p,h1,h2,h3,h4⟩
 |(n,x)::r,ps,h,i+1,hi=>by
   obtain ⟨g,t,cs,fuel,p,q,_,_,_,_,h5,_⟩:=h;exact ztM h5 i (by simpa using hi)
theorem Sat.maxLen [Tracks] {I:Imm} {M:List MObj} {w:World} (hs:Sat P I M w) {g:Nat} (hg:P.globalNamed "internal/bytealg.MaxLen" =some g): ∃m,w.cell? ⟨g,0,none⟩=some (.int .i64 m):=by
 obtain ⟨c,t,fr,m,h1,h2⟩:=hs.tab.2.1 g hg;have h3:=hs.imm _ _ h1;exact ⟨m,by rw [zcu h3];exact h2⟩
theorem Sat.utf8 [Tracks] {I:Imm} {M:List MObj} {w:World} (hs:Sat P I M w) {g3 g4:Nat} (h3:P.globalNamed "unicode/utf8.first" =some g3) (h4:P.globalNamed "unicode/utf8.acceptRanges" =some g4):
 (∀c,c<256->w.cell? ⟨g3,c,none⟩=some (.int .u8 (Lib.firstT c)))/\(∀i,i<16->w.cell? ⟨g4,2*i,none⟩=some (.int .u8 (Lib.accLo i))/\w.cell? ⟨g4,2*i+1,none⟩=some (.int .u8 (Lib.accHi i))):=by
 obtain ⟨c3,t3,f3,c4,t4,f4,e3,e4,u1,u2⟩:=hs.tab.2.2 g3 g4 h3 h4;exact ⟨fun c hc=>by rw [zcu (hs.imm _ _ e3)];exact u1 c hc,fun i hi=>⟨by rw [zcu (hs.imm _ _ e4)];exact (u2 i hi).1,by rw [zcu (hs.imm _ _ e4)];exact (u2 i hi).2⟩⟩
theorem Sat.lt [Tracks] {I:Imm} {M:List MObj} {w:World} (hs:Sat P I M w):(∀b,(∃o,I.heap b=some o)->b<w.heap.size)/\∀b∈blocks M,b<w.heap.size:=by
 have key: ∀b o,w.heap[b]? =some o->b<w.heap.size:=fun b o h=>by
  rcases AC b w.heap.size with h'|h'
  exact h'
  simp [Av h'] at h
 refine ⟨fun b ⟨o,h⟩=>key b o (hs.imm b o h),fun b hb=> ?_⟩
 simp only [blocks,BC] at hb;obtain ⟨m,hm,hb⟩:=hb;obtain ⟨o,ho⟩:=(hs.obj m hm).lies hb;exact key b o ho
end
section
section
variable {P:Program} {e:Env} {dst:Option Tmp} {ty:TypeId} {pos:String} {af:Array Edge} {g:Option (Nat×Bool)} {M:List MObj} {K:HVal->List MObj->Prop}
end
end
section
section
variable {P:Program} {e:Env} {dst:Option Tmp} {ty:TypeId} {pos:String} {af:Array Edge} {g:Option (Nat×Bool)} {M:List MObj} {K:HVal->List MObj->Prop}
theorem zk2 [Tracks] {I:Imm} {c d:HVal} {u v:Value} (h1:V I c u) (h2:V I d v):V I (.tup [c,d]) (.tuple #[u,v]):=
 .tup (by simp) (fun j c v h3 h4=>(VL.cons h1 (VL.cons h2 VL.nil)).2 j c v h3 (by simpa using h4))
theorem zxI [Tracks] {x y:Operand} {t kt et:TypeId} {size bytes s2 b2 s3 b3:Nat} {zero z2 z3:Value} {d:TD} {i b:Nat} {ls:List (List UInt8×HVal)} {s:List UInt8}
 (hf:Fits P t (.map kt et) size bytes zero) (hkt:Fits P kt .str s2 b2 z2) (het:Fits P et d s3 b3 z3) (hx:zh e x=some (.raw (.map (some b)))) (hy:zh e y=some (.str s)) (hm:M[i]? =some (.map b (sk ls)))
 (hk:K (.tup [match z7 s ls with|some p=>p.2|none=>zaT z3,.bool (z7 s ls).isSome]) M):EOp P e M ⟨dst,.lookup t x y true,ty,pos,af,g⟩ K:=
 EOp.of_run fun I F a w ho hs=>by
  have h1:=(ho.one (x:=x) (by simp [Op.operands]) hx).raw_inv;have h2:=(ho.one (x:=y) (by simp [Op.operands]) hy).str_inv;obtain ⟨es,clk,h3,h4,h5⟩:=hs.obj _ (Ap _ (Ab hm));obtain ⟨h6,h7⟩:=ziK h4.1 h5;obtain ⟨n1,n2⟩:=zjT (I:=I) (s:=s) es.toList ls 0 h6 h7
  cases hq:z7 s ls with
  |none=>
    rw [hq] at hk;refine ⟨.tuple #[z3,.bool false],_,M,w,I,?_,.refl I,hk,zk2 (zg4 I z3) (.bool _),hs⟩
    simp only [execOp,h1,h2,Instr.lookup,Sem.run_bind,run_underlying hf.mapD,Result.andThen_ok,zaW h3,Sem.run_pure,zc4 hkt.strD,Instr.findKey,run_underlying hkt.strD,n1 hq,het.run_zero]
    simp
  |some p=>
    obtain ⟨j,h⟩:=p;rw [hq] at hk;obtain ⟨v,g1,g2⟩:=n2 j h hq;refine ⟨.tuple #[v,.bool true],_,M,w,I,?_,.refl I,hk,zk2 g2 (.bool _),hs⟩
    simp only [execOp,h1,h2,Instr.lookup,Sem.run_bind,run_underlying hf.mapD,Result.andThen_ok,zaW h3,Sem.run_pure,zc4 hkt.strD,Instr.findKey,run_underlying hkt.strD,g1]
    simp
end
section
variable {P:Program}
end
end
section
section
variable {κ:Type} [DecidableEq κ]
def kk (ek:κ->HVal) (l:List (κ×HVal)):List (HVal×HVal):=l.map fun p=>(ek p.1,p.2)
def zb6 (x:κ):List (κ×HVal)->Option Nat
 |[]=>none
 |p::r=>if x=p.1 then some 0 else (zb6 x r).map (· +1)
def klk (x:κ):List (κ×HVal)->Option HVal
 |[]=>none
 |p::r=>if x=p.1 then some p.2 else klk x r
def zey (x:κ) (h:HVal):List (κ×HVal)->List (κ×HVal)
 |[]=>[(x,h)]
 |p::r=>if x=p.1 then (x,h)::r else p::zey x h r
theorem ze8 {x:κ}: ∀{l:List (κ×HVal)} {j:Nat},zb6 x l=some j->∃h,l[j]? =some (x,h)/\klk x l=some h/\∀h',zey x h' l=l.set j (x,h')
 |[],j,h=>by simp [zb6] at h
 |p::r,j,h=>by
   simp only [zb6] at h
   by_cases e:x=p.1
   rw [if_pos e] at h
   simp at h;subst h
   exact ⟨p.2,by simp [e],by simp [klk,e],fun h'=>by simp [zey,e]⟩;rw [if_neg e] at h
   cases hr:zb6 x r with
   |none=>rw [hr] at h;simp at h
   |some j'=>
     rw [hr] at h;simp at h;subst h;obtain ⟨y,h1,h2,h3⟩:=ze8 hr;exact ⟨y,by simpa using h1,by simp [klk,e,h2],fun h'=>by simp [zey,e,h3]⟩
theorem zfJ {x:κ}: ∀{l:List (κ×HVal)},zb6 x l=none->klk x l=none/\∀h',zey x h' l=l++[(x,h')]
 |[],_=>⟨rfl,fun _=>rfl⟩
 |p::r,h=>by
   simp only [zb6] at h
   by_cases e:x=p.1
   rw [if_pos e] at h;simp at h;rw [if_neg e] at h;have hr:zb6 x r=none:=by cases hq:zb6 x r with|none=>rfl|some j=>rw [hq] at h;simp at h
   obtain ⟨h1,h2⟩:=zfJ hr;exact ⟨by simp [klk,e,h1],fun h'=>by simp [zey,e,h2]⟩
def KNodup (l:List (κ×HVal)):Prop:=(l.map (·.1)).Nodup
theorem zuD {x y:κ} {h:HVal}: ∀{l:List (κ×HVal)},y∈(zey x h l).map (·.1)↔y=x\/y∈l.map (·.1)
 |[]=>by simp [zey]
 |p::r=>by
   simp only [zey]
   split
   rename_i e;subst e;simp
   simp only [Ao,BS,zuD]
   constructor
   rintro (a|a|a);exact .inr (.inl a);exact .inl a;exact .inr (.inr a);rintro (a|a|a);exact .inr (.inl a);exact .inl a;exact .inr (.inr a)
theorem KNodup.put {x:κ} {h:HVal}: ∀{l:List (κ×HVal)},KNodup l->KNodup (zey x h l)
 |[],_=>by simp [KNodup,zey]
 |p::r,hn=>by
   unfold KNodup at*;simp only [Ao,CG] at hn;simp only [zey]
   split
   rename_i e;subst e;simpa using hn
   rename_i e
   simp only [Ao,CG];refine ⟨fun q=> ?_,KNodup.put (l:=r) hn.2⟩
   rcases zuD.1 q with q|q
   exact e q.symm;exact hn.1 q
structure KeyOk (P:Program) (kt:TypeId) (ek:κ->HVal):Prop where
 check: ∀(I:Imm) (x:κ) (v:Value) (b:Bool) (w:World),V I (ek x) v->(Instr.checkKey b 10000 kt v).run P w= .ok () w
 eq: ∀(I:Imm) (x y:κ) (u v:Value) (w:World),V I (ek x) u->V I (ek y) v->(Op.equal kt u v).run P w= .ok (decide (x=y)) w
 find: ∀(I:Imm) (x:κ) (v:Value) (es:List MapEntry) (w:World),V I (ek x) v->(∀m∈es,∃y,V I (ek y) m.key)->(Instr.findKey kt v es).run P w=(Instr.findAsking kt v es).run P w
 same: ∀(I:Imm) (x:κ) (u v:Value),V I (ek x) u->V I (ek x) v->Instr.sameBits 10000 u v=true
variable {P:Program} {kt:TypeId} {ek:κ->HVal}
theorem KeyOk.run_key (ok:KeyOk P kt ek) {I:Imm} {x:κ} {v:Value} (hv:V I (ek x) v) (w:World) (es:List MapEntry) (ls:List (κ×HVal)) (hl:es.length=ls.length)
 (hV: ∀(j:Nat) (p:κ×HVal) (m:MapEntry),ls[j]? =some p->es[j]? =some m->V I (ek p.1) m.key/\V I p.2 m.val):(Instr.findKey kt v es).run P w=(Instr.findAsking kt v es).run P w:=
 ok.find I x v es w hv fun m hm=>by
  obtain ⟨j,hj⟩:=A5 hm;have h1:=zn hj;exact ⟨_,(hV j _ m (Aa (by omega)) hj).1⟩
theorem zjk (ok:KeyOk P kt ek) {I:Imm} {x:κ} {v:Value} (hv:V I (ek x) v) (w:World): ∀(es:List MapEntry) (ls:List (κ×HVal)) (i:Nat),es.length=ls.length->
 (∀(j:Nat) (p:κ×HVal) (m:MapEntry),ls[j]? =some p->es[j]? =some m->V I (ek p.1) m.key/\V I p.2 m.val)->
 (zb6 x ls=none->(Instr.findAsking kt v es i).run P w= .ok none w)/\∀j,zb6 x ls=some j->∃m h,es[j]? =some m/\ls[j]? =some (x,h)/\V I h m.val/\(Instr.findAsking kt v es i).run P w= .ok (some (i+j,m.val)) w
 |[],[],i,_,_=>⟨fun _=>by simp [Instr.findAsking],fun j h=>by simp [zb6] at h⟩
 |[],_::_,i,hl,_=>by simp at hl
 |_::_,[],i,hl,_=>by simp at hl
 |m::es,p::ls,i,hl,hV=>by
   obtain ⟨h1,h2⟩:=hV 0 p m rfl rfl;obtain ⟨ih1,ih2⟩:=zjk ok hv w es ls (i+1) (by simpa using hl) fun j q n a b=>hV (j+1) q n (by simpa using a) (by simpa using b)
   simp only [Instr.findAsking,Sem.run_bind,ok.eq I x p.1 v m.key w hv h1,Result.andThen_ok,zb6]
   by_cases e:x=p.1
   rw [if_pos e];simp only [e,decide_true,if_true,Sem.run_pure];refine ⟨fun h=>by simp at h,fun j h=> ?_⟩
   simp at h;subst h
   exact ⟨m,p.2,rfl,by simp,h2,by simp⟩;rw [if_neg e];simp only [e,decide_false,AU,if_false];refine ⟨fun h=>ih1 (by cases hq:zb6 x ls with|none=>rfl|some j=>rw [hq] at h;simp at h),fun j h=> ?_⟩
   cases hq:zb6 x ls with
   |none=>rw [hq] at h;simp at h
   |some j'=>
     rw [hq] at h;simp at h;subst h;obtain ⟨n,y,g1,g2,g3,g4⟩:=ih2 j' hq;exact ⟨n,y,by simpa using g1,by simpa using g2,g3,by rw [g4];congr 3;omega⟩
theorem zpR {A:Type} {eA:A->HVal} {I:Imm} {ls:List (A×HVal)} {es:Array MapEntry} (hl:es.size=(kk eA ls).length)
 (hv: ∀(i:Nat) (p:HVal×HVal) (m:MapEntry),(kk eA ls)[i]? =some p->es[i]? =some m->V I p.1 m.key/\V I p.2 m.val):
 es.toList.length=ls.length/\∀(j:Nat) (p:A×HVal) (m:MapEntry),ls[j]? =some p->es.toList[j]? =some m->V I (eA p.1) m.key/\V I p.2 m.val:=by
 refine ⟨by simpa [kk] using hl,fun j p m a b=> ?_⟩
 exact hv j (eA p.1,p.2) m (by simp [kk,a]) (by simpa using b)
variable [Tracks] {e:Env} {dst:Option Tmp} {ty:TypeId} {pos:String} {af:Array Edge} {g:Option (Nat×Bool)} {M:List MObj} {K:HVal->List MObj->Prop}
theorem zxJ {x y:Operand} {t et:TypeId} {size bytes s3 b3:Nat} {zero z3:Value} {d:TD} {i b:Nat} {ls:List (κ×HVal)} {s:κ}
 (hf:Fits P t (.map kt et) size bytes zero) (ok:KeyOk P kt ek) (het:Fits P et d s3 b3 z3) (hx:zh e x=some (.raw (.map (some b)))) (hy:zh e y=some (ek s)) (hm:M[i]? =some (.map b (kk ek ls)))
 (hk:K ((klk s ls).getD (zaT z3)) M):EOp P e M ⟨dst,.lookup t x y false,ty,pos,af,g⟩ K:=
 EOp.of_run fun I F a w ho hs=>by
  have h1:=(ho.one (x:=x) (by simp [Op.operands]) hx).raw_inv;have h2:=ho.one (x:=y) (by simp [Op.operands]) hy;obtain ⟨es,clk,h3,h4,h5⟩:=hs.obj _ (Ap _ (Ab hm));obtain ⟨h6,h7⟩:=zpR h4.1 h5;obtain ⟨n1,n2⟩:=zjk ok h2 w es.toList ls 0 h6 h7;have hfk:=ok.run_key h2 w es.toList ls h6 h7
  cases hq:zb6 s ls with
  |none=>
    rw [(zfJ hq).1] at hk;refine ⟨z3,_,M,w,I,?_,.refl I,hk,zg4 I z3,hs⟩
    simp only [execOp,h1,Instr.lookup,Sem.run_bind,run_underlying hf.mapD,Result.andThen_ok,zaW h3,Sem.run_pure,ok.check I s _ _ w h2,hfk,n1 hq,het.run_zero]
    simp
  |some j=>
    obtain ⟨m,h,g1,g2,g3,g4⟩:=n2 j hq;obtain ⟨h',g5,g6,_⟩:=ze8 hq;rw [g5] at g2;cases g2;rw [g6] at hk;refine ⟨m.val,_,M,w,I,?_,.refl I,hk,g3,hs⟩
    simp only [execOp,h1,Instr.lookup,Sem.run_bind,run_underlying hf.mapD,Result.andThen_ok,zaW h3,Sem.run_pure,ok.check I s _ _ w h2,hfk,g4]
    simp
theorem zwt {x y:Operand} {t et:TypeId} {size bytes s3 b3:Nat} {zero z3:Value} {d:TD} {i b:Nat} {ls:List (κ×HVal)} {s:κ}
 (hf:Fits P t (.map kt et) size bytes zero) (ok:KeyOk P kt ek) (het:Fits P et d s3 b3 z3) (hx:zh e x=some (.raw (.map (some b)))) (hy:zh e y=some (ek s)) (hm:M[i]? =some (.map b (kk ek ls)))
 (hk:K (.tup [(klk s ls).getD (zaT z3),.bool (klk s ls).isSome]) M):EOp P e M ⟨dst,.lookup t x y true,ty,pos,af,g⟩ K:=
 EOp.of_run fun I F a w ho hs=>by
  have h1:=(ho.one (x:=x) (by simp [Op.operands]) hx).raw_inv;have h2:=ho.one (x:=y) (by simp [Op.operands]) hy;obtain ⟨es,clk,h3,h4,h5⟩:=hs.obj _ (Ap _ (Ab hm));obtain ⟨h6,h7⟩:=zpR h4.1 h5;obtain ⟨n1,n2⟩:=zjk ok h2 w es.toList ls 0 h6 h7;have hfk:=ok.run_key h2 w es.toList ls h6 h7
  cases hq:zb6 s ls with
  |none=>
    rw [(zfJ hq).1] at hk;refine ⟨.tuple #[z3,.bool false],_,M,w,I,?_,.refl I,hk,zk2 (zg4 I z3) (.bool _),hs⟩
    simp only [execOp,h1,Instr.lookup,Sem.run_bind,run_underlying hf.mapD,Result.andThen_ok,zaW h3,Sem.run_pure,ok.check I s _ _ w h2,hfk,n1 hq,het.run_zero]
    simp
  |some j=>
    obtain ⟨m,h,g1,g2,g3,g4⟩:=n2 j hq;obtain ⟨h',g5,g6,_⟩:=ze8 hq;rw [g5] at g2;cases g2;rw [g6] at hk;refine ⟨.tuple #[m.val,.bool true],_,M,w,I,?_,.refl I,hk,zk2 g3 (.bool _),hs⟩
    simp only [execOp,h1,Instr.lookup,Sem.run_bind,run_underlying hf.mapD,Result.andThen_ok,zaW h3,Sem.run_pure,ok.check I s _ _ w h2,hfk,g4]
    simp
theorem zxK {x y z:Operand} {t et:TypeId} {size bytes:Nat} {zero:Value} {i b:Nat} {ls:List (κ×HVal)} {s:κ} {h:HVal}
 (hf:Fits P t (.map kt et) size bytes zero) (ok:KeyOk P kt ek) (hx:zh e x=some (.raw (.map (some b)))) (hy:zh e y=some (ek s)) (hz:zh e z=some h) (hm:M[i]? =some (.map b (kk ek ls)))
 (hk:K .junk (M.set i (.map b (kk ek (zey s h ls))))):EOp P e M ⟨dst,.mapUpdate t x y z,ty,pos,af,g⟩ K:=
 zhw fun I F a w ho hs=>by
  have h1:=(ho.one (x:=x) (by simp [Op.operands]) hx).raw_inv;have h2:=ho.one (x:=y) (by simp [Op.operands]) hy;have h0:=ho.one (x:=z) (by simp [Op.operands]) hz;have hp:=hs.pull hm;obtain ⟨es,clk,h3,h4,h5⟩:=hp.obj _ Ai;obtain ⟨h6,h7⟩:=zpR h4.1 h5;obtain ⟨n1,n2⟩:=zjk ok h2 w es.toList ls 0 h6 h7;have hfk:=ok.run_key h2 w es.toList ls h6 h7;have hlt:b<w.heap.size:=by
   rcases AC b w.heap.size with h'|h'
   exact h'
   simp [Av h'] at h3
  have hsz:es.size=ls.length:=by simpa using h6
  have fin: ∀(es':Array MapEntry) (clk':Nat),es'.size=(kk ek (zey s h ls)).length/\BornOk es' clk'->
   (∀(i:Nat) (p:HVal×HVal) (m:MapEntry),(kk ek (zey s h ls))[i]? =some p->es'[i]? =some m->V I p.1 m.key/\V I p.2 m.val)->
   Sat P I (M.set i (.map b (kk ek (zey s h ls)))++F) {w with heap:=w.heap.setIfInBounds b (.map es' clk')}:=fun es' clk' e1 e2=>by
   refine zcc hm (hp.change (m':= .map b (kk ek (zey s h ls))) (fun k hk hnk=> ?_) (fun k hk=> .inl hk) (by simp [MObj.blocks]) ⟨es',clk',by simp [hlt],e1,e2⟩ rfl rfl rfl)
   have:k≠b:=by simpa [MObj.blocks] using hnk
   simp [AJ (Ne.symm this)]
  cases hq:zb6 s ls with
  |none=>
    have hput:=(zfJ hq).2 h;refine ⟨_,_,I,?_,.refl I,hk,fin (es.push ⟨a.eval y,a.eval z,clk⟩) (clk+1) ⟨by rw [hput];simp [kk,hsz],h4.2.push rfl⟩ fun j p m a1 a2=> ?_⟩
    simp only [execOp,h1,Instr.mapUpdate,Sem.run_bind,run_underlying hf.mapD,Result.andThen_ok,zaW h3,ok.check I s _ _ w h2,hfk,n1 hq,Sem.run_pure,zee h3];rw [hput] at a1;simp only [kk,Ay,Ao,A7] at a1
    by_cases hj:j<ls.length
    rw [Aw (by simpa using hj)] at a1;rw [AQ,if_neg (by omega)] at a2;exact h5 j p m (by simpa [kk] using a1) a2;rw [Au (by simp;omega)] at a1;rw [AQ] at a2
    by_cases hje:j=es.size
    rw [if_pos hje] at a2
    simp at a2
    subst a2;have:j-(ls.map fun p=>(ek p.1,p.2)).length=0:=by simp;omega
    rw [this] at a1
    simp at a1
    subst a1;exact ⟨h2,h0⟩;rw [if_neg hje,Av (by omega)] at a2
    cases a2
  |some j0=>
    obtain ⟨m0,h',g1,g2,g3,g4⟩:=n2 j0 hq;obtain ⟨_,_,_,hput⟩:=ze8 hq;have hm0:es[j0]? =some m0:=by simpa using g1
    have hjl:=zn g2;have hkey:=(h7 j0 (s,h') m0 g2 g1).1;refine ⟨_,_,I,?_,.refl I,hk,fin (es.modify j0 fun e=>{e with key:=a.eval y,val:=a.eval z}) clk ⟨by rw [hput];simp [kk,hsz],h4.2.modify _ fun _=>rfl⟩ fun j p m a1 a2=> ?_⟩
    have hstay:(Instr.keyThatStays (((es[j0]?).map (·.key)).getD (a.eval y)) (a.eval y)).run P w= .ok (a.eval y) w:=by
     rw [hm0];simp only [AI,Br,Instr.keyThatStays];rw [if_pos (ok.same I s _ _ hkey h2)];rfl
    simp only [execOp,h1,Instr.mapUpdate,Sem.run_bind,run_underlying hf.mapD,Result.andThen_ok,zaW h3,ok.check I s _ _ w h2,hfk,g4,Sem.run_pure,Bk,hstay,zee h3];rw [hput] at a1;simp only [kk] at a1;rw [AG] at a2;rw [Aj,List.getElem?_set] at a1
    by_cases hj:j0=j
    subst hj;rw [if_pos rfl,hm0] at a2;rw [if_pos rfl,if_pos hjl] at a1
    simp at a1 a2
    subst a1 a2;exact ⟨h2,h0⟩;rw [if_neg hj] at a1 a2;exact h5 j p m (by simp only [kk,Aj];exact a1) a2
end
end
section
def zqd:List HVal->Bool
 |[]=>true
 | .int _ _::r=>zqd r
 | .str _::r=>zqd r
 | .bool _::r=>zqd r
 |_=>false
theorem zxn: ∀{cs:List HVal} {j:Nat} {c:HVal},zqd cs=true->cs[j]? =some c->(∃k n,c= .int k n)\/(∃s,c= .str s)\/∃b,c= .bool b
 |[],j,c,_,h=>by simp at h
 |x::r,0,c,hs,h=>by
   simp at h;subst h
   cases x<;>simp [zqd] at hs
   exact .inr (.inr ⟨_,rfl⟩);exact .inl ⟨_,_,rfl⟩;exact .inr (.inl ⟨_,rfl⟩)
 |x::r,j+1,c,hs,h=>by
   simp at h
   cases x<;>simp [zqd] at hs<;>exact zxn hs h
theorem zBC {I:Imm} {cs:List HVal} {xs ys:List Value} (hs:zqd cs=true) (hx:VL I cs xs) (hy:VL I cs ys):xs=ys/\∀v∈xs,∀n,Instr.sameBits n v v=true:=by
 have key: ∀(j:Nat) (u v:Value),xs[j]? =some u->ys[j]? =some v->u=v/\∀n,Instr.sameBits n u u=true:=fun j u v h1 h2=>by
  have hj:j<cs.length:=by rw [<-hx.1];exact zn h1
  have hc:=Aa hj;have hu:=hx.2 j _ u hc h1;have hv:=hy.2 j _ v hc h2
  rcases zxn hs hc with ⟨k,n,e⟩|⟨s,e⟩|⟨b,e⟩
  rw [e] at hu hv
  haveI:Tracks:=⟨true⟩
  rw [hu.int_inv,hv.int_inv];exact ⟨rfl,fun m=>by cases m<;>simp [Instr.sameBits]⟩;rw [e] at hu hv
  haveI:Tracks:=⟨true⟩
  rw [hu.str_inv,hv.str_inv];exact ⟨rfl,fun m=>by cases m<;>simp [Instr.sameBits,zjC]⟩;rw [e] at hu hv
  haveI:Tracks:=⟨true⟩
  rw [hu.bool_inv,hv.bool_inv];exact ⟨rfl,fun m=>by cases m<;>simp [Instr.sameBits]⟩
 have hl:xs.length=ys.length:=by rw [hx.1,hy.1]
 refine ⟨Cu fun j=> ?_,fun v hv n=> ?_⟩
 rcases AC j xs.length with h|h
 rw [Aa h,Aa (by omega)]
 congr 1
 exact (key j _ _ (Aa h) (Aa (by omega))).1;rw [AH h,AH (by omega)];obtain ⟨j,hj⟩:=A5 hv;have hlt:=zn hj;exact (key j v _ hj (Aa (by omega))).2 n
section
variable {P:Program}
theorem zlw {t:TypeId} {d:TD} {s by':Nat} {z:Value} (hf:Fits P t d s by' z) {a:HVal} (hk:zfW d a a=true) {I:Imm} {u:Value} (hu:V I a u) (em:Bool) (n:Nat) (w:World):(Instr.checkKey em (n+1) t u).run P w= .ok () w:=by
 haveI:Tracks:=⟨true⟩
 cases d<;>cases a<;>focus first|(simp [zfW] at hk;done)|skip
 rw [hu.bool_inv];simp [Instr.checkKey,run_underlying hf.boolD];rw [hu.int_inv];simp [Instr.checkKey,run_underlying hf.intD];rw [hu.str_inv];simp [Instr.checkKey,run_underlying hf.strD]
theorem zsh {I:Imm} {xs:Array Value} {cs:List HVal} (hx:VL I cs xs.toList) (em:Bool) (n:Nat) (w:World):
 ∀(fs:List Field) (k:Nat),zoa P (fs.map fun f=>(f.offset,f.type)) k (cs.drop k) (cs.drop k)->∀f∈fs,∃a,(part f.type xs f.offset).run P w= .ok a w/\(Instr.checkKey em (n+1) f.type a).run P w= .ok () w
 |[],k,_,f,hf=>by simp at hf
 |g::fs,k,hk,f,hf=>by
   haveI:Tracks:=⟨true⟩
   simp only [Ao] at hk
   cases hc:cs.drop k with
   |nil=>rw [hc] at hk;exact hk.elim
   |cons a r=>
     rw [hc] at hk;obtain ⟨h1,⟨d,s,by',z,h2,h3⟩,h4⟩:=hk;simp only at h1 h2;have ha:cs[k]? =some a:=by have:=congrArg (fun l:List HVal=>l[0]?) hc;simpa using this
     have hr:cs.drop (k+1)=r:=by rw [<-BD (i:=1),hc];rfl
     rcases List.mem_cons.1 hf with rfl|hf
     obtain ⟨u,hu,hu'⟩:=hx.get ha;exact ⟨u,zrK h2 (zqc h3) (by rw [h1];simpa using hu) w,zlw h2 h3 hu' em n w⟩;exact zsh hx em n w fs (k+1) (by rw [hr];exact h4) f hf
theorem zgO {κ:Type} [DecidableEq κ] {kt:TypeId} {fs:List (Nat×Nat)} {s by':Nat} {z:Value} {cs:κ->List HVal} (hf:Fits P kt (.struct fs) s by' z) (hq:EqOk P kt) (hk: ∀x y,zoa P fs 0 (cs x) (cs y))
 (he: ∀x y,zfy (cs x) (cs y)=decide (x=y)) (hs: ∀x,zqd (cs x)=true):KeyOk P kt (fun x=> .agg (cs x)):=by
 haveI:Tracks:=⟨true⟩
 obtain ⟨gs,h1,h2⟩:=hf.structD;have hn: ∀f∈gs.toList,f.name≠ "_" :=fun f hf=>by
  have:=hq.names;rw [show P.fieldsOf kt=gs by simp [Program.fieldsOf,h1]] at this;have:=List.all_eq_true.1 this f hf;simpa using this
 refine ⟨fun I x v b w hv=> ?_,fun I x y u v w hu hv=> ?_,fun I x v es w hv hes=>run_findKey_eq w (by rw [h1]) v es,fun I x u v hu hv=> ?_⟩
 obtain ⟨xs,rfl,hx⟩:=hv.agg_inv;have each:=zsh (P:=P) hx b 9998 w gs.toList 0 (by rw [h2];exact hk x x);rw [show (10000:Nat)=9999+1 from rfl,Instr.checkKey];simp only [Sem.run_bind,run_underlying h1,Result.andThen_ok];rw [<-Array.forIn_toList]
 clear h1 h2
 generalize gs.toList=L at each hn
 induction L with
 |nil=>simp
 |cons f L ih=>
   obtain ⟨a,p1,p2⟩:=each f (by simp);have hn1:=hn f (by simp);simp only [List.forIn_cons,Sem.run_bind,hn1,ne_eq,not_false_eq_true,if_true,Result.andThen_ok,p1,p2,Sem.run_pure];exact ih (fun y hy=>each y (by simp [hy])) (fun y hy=>hn y (by simp [hy]))
 obtain ⟨xs,rfl,hx⟩:=hu.agg_inv;obtain ⟨ys,rfl,hy⟩:=hv.agg_inv;rw [zh3 hf hq hx hy (hk x y) w,he];obtain ⟨xs,rfl,hx⟩:=hu.agg_inv;obtain ⟨ys,rfl,hy⟩:=hv.agg_inv;obtain ⟨e1,e2⟩:=zBC (hs x) hx hy;have e3:xs=ys:=by have:=congrArg List.toArray e1;simpa using this
 subst e3
 show Instr.sameBits (9999+1) _ _=true
 simp only [Instr.sameBits,beq_self_eq_true,Bool.true_and,List.all_eq_true]
 intro p hp
 have h9: ∀(l:List Value) (p:Value×Value),p∈l.zip l->p.1∈l/\p.1=p.2:=fun l=>by
  induction l with
  |nil=>intro p hp;simp at hp
  |cons a l ih=>
    intro p hp
    simp only [List.zip_cons_cons,BS] at hp
    rcases hp with rfl|hp
    exact ⟨by simp,rfl⟩;exact ⟨by simp [(ih p hp).1],(ih p hp).2⟩
 obtain ⟨q1,q2⟩:=h9 _ p hp;obtain ⟨u,v⟩:=p;simp only at q1 q2;subst q2;exact e2 u q1 9999
end
/-! ranges-/
theorem zp1 {α:Type} [DecidableEq α]: ∀{l m:List α},l.Nodup->(∀x∈l,x∈m)->l.length<=m.length
 |[],_,_,_=>Ad _
 |a::l,m,h,hs=>by
   have ha:=hs a Ai;obtain ⟨h1,h2⟩:=List.nodup_cons.1 h;have h3:=zp1 (m:=m.erase a) h2 fun x hx=>(List.mem_erase_of_ne (fun e:x=a=>h1 (by rw [<-e];exact hx))).2 (hs x (Al _ hx))
   rw [List.length_erase_of_mem ha] at h3;have:=List.length_pos_of_mem ha
   simp;omega
section
variable {P:Program} {e:Env} {dst:Option Tmp} {ty:TypeId} {pos:String} {af:Array Edge} {g:Option (Nat×Bool)} {M:List MObj} {K:HVal->List MObj->Prop}
theorem ziq [Tracks] {x:Operand} {t kt et:TypeId} {size bytes:Nat} {zero:Value} {i b:Nat} {l:List (HVal×HVal)} (hf:Fits P t (.map kt et) size bytes zero) (hx:zh e x=some (.raw (.map (some b)))) (hm:M[i]? =some (.map b l))
 (hk: ∀r,K (.raw (.pointer (some ⟨r,0,none⟩))) (M.set i (.iter r b l []))):EOp P e M ⟨dst,.range t x,ty,pos,af,g⟩ K:=
 EOp.of_run fun I F a w ho hs=>by
  have h1:=(ho.one (x:=x) (by simp [Op.operands]) hx).raw_inv;have hp:=hs.pull hm;obtain ⟨es,clk,h3,h4,h5⟩:=hp.obj _ Ai;have hlt:b<w.heap.size:=by
   rcases AC b w.heap.size with h'|h'
   exact h'
   simp [Av h'] at h3
  refine ⟨.pointer (some ⟨w.heap.size,0,none⟩),_,_,push w (.mapIter (some b) clk #[] clk),I,?_,.refl I,hk w.heap.size,.raw _ rfl,?_⟩
  simp only [execOp,h1,Instr.range,Sem.run_bind,run_underlying hf.mapD,Result.andThen_ok,zaW h3,Sem.run_pure,run_newObj];refine zcc hm (hp.change (m':= .iter w.heap.size b l []) (fun k hk hnk=> ?_) (fun k hk=> ?_) ?_ ⟨es,clk,#[],?_,?_,h4,rfl,h5⟩ rfl rfl rfl)
  simp [push,AQ];intro h;omega
  simp [MObj.blocks] at hk⊢;omega
  simp [MObj.blocks];omega
  simp only [push,AQ];rw [if_neg (by omega)];exact h3
  simp [push]
theorem zB9 [Tracks] {x:Operand} {i r b:Nat} {l:List (HVal×HVal)} {vis:List Nat} (hx:zh e x=some (.raw (.pointer (some ⟨r,0,none⟩)))) (hm:M[i]? =some (.iter r b l vis)) (hv:vis.Nodup) (hvl: ∀j∈vis,j<l.length)
 (h0:vis.length=l.length->K (.tup [.bool false]) M) (h1: ∀(j:Nat) (p:HVal×HVal),l[j]? =some p->j∉vis->K (.tup [.bool true,p.1,p.2]) (M.set i (.iter r b l (vis++[j])))):EOp P e M ⟨dst,.next x false,ty,pos,af,g⟩ K:=
 EOp.of_run fun I F a w ho hs=>by
  have h2:=(ho.one (x:=x) (by simp [Op.operands]) hx).raw_inv;have hp:=hs.pull hm;obtain ⟨es,clk,seen,a1,a2,a3,a4,a5⟩:=hp.obj _ Ai;have hgr: ∀w1:World,w1.heap=w.heap->(getObj r).run P w1= .ok (.mapIter (some b) clk seen clk) w1:=fun w1 hw=>by simp [getObj,Sem.run,hw,a2]
  have hgb: ∀w1:World,w1.heap=w.heap->(getObj b).run P w1= .ok (.map es clk) w1:=fun w1 hw=>by simp [getObj,Sem.run,hw,a1]
  have hin: ∀(j:Nat) (m:MapEntry),es[j]? =some m->(seen.contains m.born=true↔j∈vis):=fun j m hj=>by
   have e1:seen.contains m.born=seen.toList.contains m.born:=by simp
   rw [e1,a4,Bd,B8]
   constructor
   rintro ⟨q,hq,e⟩;have hlt:=hvl q hq;have hq2:es[q]? =some es[q]:=Aq (by omega);rw [hq2] at e
   simp at e
   have:=a3.2.2 q j _ m hq2 hj e;rw [<-this];exact hq
   intro hq
   exact ⟨j,hq,by rw [hj];simp⟩
  have hbad:(!seen.isEmpty&& !es.isEmpty&&es.all (fun m=>decide (m.born>=clk)))=false:=by
   by_cases he:es.isEmpty=true
   simp [he]
   have hpos:0<es.size:=by
    rcases Bf es.size with h|h
    simp [Array.isEmpty,h] at he
    exact h
   have hb:=a3.2.1 0 _ (Aq hpos);have:es.all (fun m=>decide (m.born>=clk))=false:=by
    rw [B5]
    intro h
    have:=Array.all_eq_true.1 h 0 hpos
    simp at this;omega
   rw [this];simp
  have hold:(es.filter fun m=> !seen.contains m.born).filter (fun m=>decide (m.born<clk))=es.filter fun m=> !seen.contains m.born:=by
   rw [Array.filter_eq_self]
   intro m hm'
   obtain ⟨j,hj⟩:=B7 (Array.mem_filter.1 hm').1
   simpa using a3.2.1 j m hj
  have hnew:(es.filter fun m=> !seen.contains m.born).filter (fun m=>decide (m.born>=clk))= #[]:=by
   rw [Array.filter_eq_empty_iff]
   intro m hm'
   obtain ⟨j,hj⟩:=B7 (Array.mem_filter.1 hm').1;have:=a3.2.1 j m hj
   simp;omega
  have hrun:(execOp a.eval ⟨dst,.next x false,ty,pos,af,g⟩).run P w=((Instr.next (.pointer (some ⟨r,0,none⟩)) false ty).run P w).andThen fun v w=> .ok (.value v) w:=by
   simp only [execOp,h2,Sem.run_bind]
   rfl
  generalize hL:(es.filter fun m=> !seen.contains m.born)=left at hold hnew
  by_cases hemp:left.isEmpty=true
  have hfull:vis.length=l.length:=by
   apply Nat.le_antisymm
   have:=zp1 (m:=List.range l.length) hv fun j hj=>List.mem_range.2 (hvl j hj)
   simpa using this
   have:=zp1 (l:=List.range l.length) (m:=vis) List.nodup_range fun j hj=>by
    have hj':=List.mem_range.1 hj;have hq:es[j]? =some es[j]:=Aq (by omega);rw [<-hin j _ hq]
    cases hc:seen.contains es[j].born with
    |true=>rfl
    |false=>
      have:es[j]∈left:=by rw [<-hL];exact Array.mem_filter.2 ⟨Array.getElem_mem _,by rw [hc];rfl⟩
      have he:left= #[]:=Array.isEmpty_iff.1 hemp;rw [he] at this;simp at this
   simpa using this
  refine ⟨.tuple #[.bool false],.tup [.bool false],M,w,I,?_,.refl I,h0 hfull,.tup (by simp) (fun j c v h h'=> ?_),hs⟩
  rw [hrun];have he:left= #[]:=Array.isEmpty_iff.1 hemp;simp only [Instr.next,Sem.run_bind,hgr w rfl,hgb w rfl,Result.andThen_ok,hbad,AU,if_false,Sem.run_pure,hL,hold,hnew,hemp,if_true,he]
  simp [Question.forced]
  match j,h,h' with
  |0,h,h'=>simp at h h';subst h h';exact .bool _
  have hemp':left.isEmpty=false:=by simpa using hemp
  have hpos:0<left.size:=by
   rcases Bf left.size with h|h
   exfalso;apply hemp;simp [Array.isEmpty,h]
   exact h
  obtain ⟨c,w1,c1,c2,c3⟩: ∃c w1,(choose (.mapNext left.size)).run P w= .ok c w1/\c<left.size/\(w1=w\/w1={w with drawn:=w.drawn+1}):=by
   by_cases hf:(Question.mapNext left.size).forced=true
   exact ⟨0,w,by simp [hf],hpos,.inl rfl⟩;refine ⟨_,{w with drawn:=w.drawn+1},by simp [hf];rfl,?_,.inr rfl⟩
   simp only [Question.cut];exact B4 _ hpos
  have hw1:w1.heap=w.heap:=by rcases c3 with h|h<;>rw [h]
  have hmem:left[c]∈left:=Array.getElem_mem _;have hmf:left[c]∈es/\(!seen.contains left[c].born)=true:=by
   have h9: ∀m,m∈left->m∈es/\(!seen.contains m.born)=true:=fun m hm=>by rw [<-hL] at hm;exact Array.mem_filter.1 hm
   exact h9 _ hmem
  obtain ⟨j,hj⟩:=B7 hmf.1;have hnv:j∉vis:=fun q=>by
   have:=(hin j _ hj).2 q;rw [this] at hmf;simp at hmf
  have hjl:j<l.length:=by
   have:j<es.size:=by
    rcases AC j es.size with h'|h'
    exact h'
    simp [Av h'] at hj
   omega
  have hlj:=Aa hjl;obtain ⟨k1,k2⟩:=a5 j _ _ hlj hj;refine ⟨.tuple #[.bool true,left[c].key,left[c].val],.tup [.bool true,l[j].1,l[j].2],_,{w1 with heap:=w1.heap.setIfInBounds r (.mapIter (some b) clk (seen.push left[c].born) clk)},I,?_,.refl I,h1 j _ hlj hnv,?_,?_⟩
  rw [hrun];have hcand:((#[]:Array (Option MapEntry))++(left++ #[]).map some).size=left.size:=by simp
  have hget:((#[]:Array (Option MapEntry))++(left++ #[]).map some)[c]? =some (some left[c]):=by simp [c2]
  simp only [Instr.next,Sem.run_bind,hgr w rfl,hgb w rfl,Result.andThen_ok,hbad,AU,if_false,Sem.run_pure,hL,hold,hnew,hemp',hcand,c1,hget]
  simp [setObj,Sem.run,hw1,a2]
  refine .tup (by simp) (fun q c v h h'=> ?_)
  match q,h,h' with
  |0,h,h'=>simp at h h';subst h h';exact .bool _
  |1,h,h'=>simp at h h';subst h h';exact k1
  |2,h,h'=>simp at h h';subst h h';exact k2
  have hrb:r≠b:=by
   have:=hp.nodup;simp only [blocks,AP,MObj.blocks] at this;have:=(List.nodup_append.1 this).1
   simp at this;exact this
  have hrl:r<w.heap.size:=by
   rcases AC r w.heap.size with h'|h'
   exact h'
   simp [Av h'] at a2
  refine zcc hm (hp.change (m':= .iter r b l (vis++[j])) (fun k hk hnk=> ?_) (fun k hk=> .inl hk) ?_ ⟨es,clk,seen.push left[c].born,?_,?_,a3,?_,a5⟩ (by rcases c3 with h|h<;>rw [h]) (by rcases c3 with h|h<;>rw [h]) (by rcases c3 with h|h<;>rw [h]) (fun _=>by rcases c3 with h|h<;>rw [h];(exact Ae _);exact Bt _))
  have:k≠r:=fun q=>hnk (by rw [q];simp [MObj.blocks])
  simp only [hw1];rw [AJ (Ne.symm this)]
  simp [MObj.blocks,hrb]
  simp only [hw1];rw [AJ hrb];exact a1
  simp [hw1,hrl]
  simp [a4,hj]
theorem zg2 [Tracks] {i r b:Nat} {l:List (HVal×HVal)} {vis:List Nat} (hm:M[i]? =some (.iter r b l vis)):Ghost e M e (M.set i (.map b l)):=fun _ I F tmps w h1 hs=>by
 have hp:=hs.pull hm;obtain ⟨es,clk,seen,a1,a2,a3,a4,a5⟩:=hp.obj _ Ai;exact ⟨I,.refl I,h1,zcc hm (hp.change (m':= .map b l) (fun _ _ _=>rfl) (fun k hk=> .inl (by simp [MObj.blocks] at hk⊢;exact .inr hk)) (by simp [MObj.blocks]) ⟨es,clk,a1,a3,a5⟩ rfl rfl rfl)⟩
end
end
section
section
variable {P:Program} {e:Env} {dst:Option Tmp} {ty:TypeId} {pos:String} {af:Array Edge} {g:Option (Nat×Bool)} {M:List MObj} {K:HVal->List MObj->Prop}
theorem zAP [Tracks] {x:Operand} {i r b j:Nat} {l:List (HVal×HVal)} {vis:List Nat} {p:HVal×HVal} (hx:zh e x=some (.raw (.pointer (some ⟨r,0,none⟩)))) (hm:M[i]? =some (.iter r b l (vis++[j]))) (hp':l[j]? =some p)
 (hk:K (.tup [p.1,p.2]) M):EOp P e M ⟨dst,.entry x,ty,pos,af,g⟩ K:=
 EOp.of_run fun I F a w ho hs=>by
  have h2:=(ho.one (x:=x) (by simp [Op.operands]) hx).raw_inv;have hp:=hs.pull hm;obtain ⟨es,clk,seen,a1,a2,a3,a4,a5⟩:=hp.obj _ Ai;have hjl:=zn hp';have hj:es[j]? =some es[j]:=Aq (by omega);obtain ⟨k1,k2⟩:=a5 j p _ hp' hj;have hback:seen.back? =some es[j].born:=by
   have:seen=(vis.map fun i=>((es[i]?).map (·.born)).getD 0).toArray.push es[j].born:=by
    apply CE
    rw [a4];simp [hj]
   rw [this];simp
  have hfind:es.find? (fun m=>m.born==es[j].born)=some es[j]:=by
   cases hf:es.find? (fun m=>m.born==es[j].born) with
   |none=>
     have:=Array.find?_eq_none.1 hf es[j] (Array.getElem_mem _)
     simp at this
   |some m=>
     have h1:=Array.find?_some hf;have h3:=Array.mem_of_find?_eq_some hf;obtain ⟨q,hq⟩:=B7 h3;have:=a3.2.2 q j m _ hq hj (by simpa using h1);subst this;rw [hj] at hq;exact hq.symm
  refine ⟨.tuple #[es[j].key,es[j].val],.tup [p.1,p.2],M,w,I,?_,.refl I,hk,zk2 k1 k2,hs⟩
  have hgr:(getObj r).run P w= .ok (.mapIter (some b) clk seen clk) w:=by simp [getObj,Sem.run,a2]
  have hgb:(getObj b).run P w= .ok (.map es clk) w:=by simp [getObj,Sem.run,a1]
  simp only [execOp,h2,Instr.entry,Sem.run_bind,hgr,Result.andThen_ok,hback,hgb,bne_self_eq_false,AU,if_false,hfind,Sem.run_pure]
end
section
variable {κ:Type} [DecidableEq κ]
def zd4 (s:κ) (z:HVal) (ls:List (κ×HVal)):List (κ×HVal):=match zb6 s ls with|some _=>ls|none=>ls++[(s,z)]
theorem zl8 {s:κ} {z:HVal}: ∀{ls:List (κ×HVal)},zb6 s ls=none->zb6 s (ls++[(s,z)])=some ls.length
 |[],_=>by simp [zb6]
 |p::r,h=>by
   simp only [zb6] at h
   by_cases e:s=p.1
   rw [if_pos e] at h;simp at h;rw [if_neg e] at h;have hr:zb6 s r=none:=by cases hq:zb6 s r with|none=>rfl|some j=>rw [hq] at h;simp at h
   simp only [A0,zb6,if_neg e,zl8 hr];simp
theorem zuC (s:κ) (z h:HVal) (ls:List (κ×HVal)):zey s h (zd4 s z ls)=zey s h ls:=by
 unfold zd4
 cases hq:zb6 s ls with
 |some j=>rfl
 |none=>
   simp only
   rw [(ze8 (zl8 (z:=z) hq)).choose_spec.2.2 h,(zfJ hq).2 h]
   simp
theorem zCt {s:κ} {z:HVal} (ls:List (κ×HVal)):(klk s (zd4 s z ls)).getD z=(klk s ls).getD z:=by
 unfold zd4
 cases hq:zb6 s ls with
 |some j=>rfl
 |none=>
   obtain ⟨h,h1,h2,_⟩:=ze8 (zl8 (z:=z) hq)
   simp only
   rw [h2,(zfJ hq).1]
   simp at h1;simp [h1]
variable {P:Program} {kt:TypeId} {ek:κ->HVal} {e:Env} {dst:Option Tmp} {ty:TypeId} {pos:String} {af:Array Edge} {g:Option (Nat×Bool)} {M:List MObj} {K:HVal->List MObj->Prop}
theorem zpC [Tracks] {x y:Operand} {t et:TypeId} {size bytes s3 b3:Nat} {zero z3:Value} {d:TD} {i b:Nat} {ls:List (κ×HVal)} {s:κ}
 (hf:Fits P t (.map kt et) size bytes zero) (ok:KeyOk P kt ek) (het:Fits P et d s3 b3 z3) (hx:zh e x=some (.raw (.map (some b)))) (hy:zh e y=some (ek s)) (hm:M[i]? =some (.map b (kk ek ls)))
 (hk: ∀(j st:Nat),zb6 s (zd4 s (zaT z3) ls)=some j->K (.tup [(klk s ls).getD (zaT z3),.int .i64 (st:Int)]) (M.set i (.mape b (kk ek (zd4 s (zaT z3) ls)) j st))):EOp P e M ⟨dst,.mapEntry t x y,ty,pos,af,g⟩ K:=
 EOp.of_run fun I F a w ho hs=>by
  have h1:=(ho.one (x:=x) (by simp [Op.operands]) hx).raw_inv;have h2:=ho.one (x:=y) (by simp [Op.operands]) hy;have hp:=hs.pull hm;obtain ⟨es,clk,h3,h4,h5⟩:=hp.obj _ Ai;obtain ⟨h6,h7⟩:=zpR h4.1 h5;obtain ⟨n1,n2⟩:=zjk ok h2 w es.toList ls 0 h6 h7;have hfk:=ok.run_key h2 w es.toList ls h6 h7;have hlt:b<w.heap.size:=by
   rcases AC b w.heap.size with h'|h'
   exact h'
   simp [Av h'] at h3
  have hsz:es.size=ls.length:=by simpa using h6
  have fin: ∀(ls':List (κ×HVal)) (es':Array MapEntry) (clk' j st:Nat),es'.size=(kk ek ls').length/\BornOk es' clk'->
   (∀(i:Nat) (p:HVal×HVal) (m:MapEntry),(kk ek ls')[i]? =some p->es'[i]? =some m->V I p.1 m.key/\V I p.2 m.val)->(∃m,es'[j]? =some m/\m.born=st)->
   Sat P I (M.set i (.mape b (kk ek ls') j st)++F) {w with heap:=w.heap.setIfInBounds b (.map es' clk')}:=fun ls' es' clk' j st e1 e2 e3=>by
   refine zcc hm (hp.change (m':= .mape b (kk ek ls') j st) (fun k hk hnk=> ?_) (fun k hk=> .inl hk) (by simp [MObj.blocks]) ⟨es',clk',by simp [hlt],e1,e2,e3⟩ rfl rfl rfl)
   have:k≠b:=by simpa [MObj.blocks] using hnk
   simp [AJ (Ne.symm this)]
  cases hq:zb6 s ls with
  |none=>
    have hke:zd4 s (zaT z3) ls=ls++[(s,zaT z3)]:=by simp [zd4,hq]
    have hki:=zl8 (z:=zaT z3) hq;have hlk:=(zfJ hq).1;refine ⟨.tuple #[z3,.int .i64 clk],_,_,_,I,?_,.refl I,hk ls.length clk (by rw [hke];exact hki),by rw [hlk];exact zk2 (zg4 I z3) (.int _ _),
     fin _ (es.push ⟨a.eval y,z3,clk⟩) (clk+1) _ _ ⟨by rw [hke];simp [kk,hsz],h4.2.push rfl⟩ (fun j p m a1 a2=> ?_) ⟨⟨a.eval y,z3,clk⟩,by rw [<-hsz];simp,rfl⟩⟩
    simp only [execOp,h1,Instr.mapEntry,Sem.run_bind,run_underlying hf.mapD,Result.andThen_ok,zaW h3,ok.check I s _ _ w h2,hfk,n1 hq,Sem.run_pure,zee h3,het.run_zero,goInt];rw [hke] at a1;simp only [kk,Ay,Ao,A7] at a1
    by_cases hj:j<ls.length
    rw [Aw (by simpa using hj)] at a1;rw [AQ,if_neg (by omega)] at a2;exact h5 j p m (by simpa [kk] using a1) a2;rw [Au (by simp;omega)] at a1;rw [AQ] at a2
    by_cases hje:j=es.size
    rw [if_pos hje] at a2
    simp at a2
    subst a2;have:j-(ls.map fun p=>(ek p.1,p.2)).length=0:=by simp;omega
    rw [this] at a1
    simp at a1
    subst a1;exact ⟨h2,zg4 I z3⟩;rw [if_neg hje,Av (by omega)] at a2
    cases a2
  |some j0=>
    obtain ⟨m0,h',g1,g2,g3,g4⟩:=n2 j0 hq;obtain ⟨h'',g5,g6,_⟩:=ze8 hq;rw [g5] at g2;cases g2;have hke:zd4 s (zaT z3) ls=ls:=by simp [zd4,hq]
    have hm0:es[j0]? =some m0:=by simpa using g1
    have hkey:V I (ek s) m0.key:=(h7 j0 _ m0 g5 g1).1;refine ⟨.tuple #[m0.val,.int .i64 m0.born],_,_,_,I,?_,.refl I,hk j0 m0.born (by rw [hke];exact hq),by rw [g6];exact zk2 g3 (.int _ _),
     fin _ (es.modify j0 fun e=>{e with key:=a.eval y}) clk _ _ ⟨by rw [hke];simp [kk,hsz],h4.2.modify _ fun _=>rfl⟩ (fun j p m a1 a2=> ?_) ⟨{m0 with key:=a.eval y},by rw [AG,if_pos rfl,hm0];rfl,rfl⟩⟩
    have hstay:(Instr.keyThatStays m0.key (a.eval y)).run P w= .ok (a.eval y) w:=by
     simp only [Instr.keyThatStays];rw [if_pos (ok.same I s _ _ hkey h2)];rfl
    simp only [execOp,h1,Instr.mapEntry,Sem.run_bind,run_underlying hf.mapD,Result.andThen_ok,zaW h3,ok.check I s _ _ w h2,hfk,g4,Sem.run_pure,Bk,hstay,zee h3,goInt,hm0,AI,Br];rw [hke] at a1;rw [AG] at a2
    by_cases hj:j0=j
    subst hj;rw [if_pos rfl,hm0] at a2
    simp at a2
    subst a2;have:=h5 j0 p m0 a1 hm0;simp only [kk,Aj,g5,AI,AA] at a1;subst a1;exact ⟨h2,this.2⟩;rw [if_neg hj] at a2;exact h5 j p m a1 a2
theorem zna [Tracks] {x y z:Operand} {t:TypeId} {i b j st:Nat} {ls:List (κ×HVal)} {s:κ} {h:HVal}
 (hx:zh e x=some (.raw (.map (some b)))) (hy:zh e y=some (.int .i64 (st:Int))) (hz:zh e z=some h) (hm:M[i]? =some (.mape b (kk ek ls) j st)) (hj:zb6 s ls=some j)
 (hk:K .junk (M.set i (.map b (kk ek (zey s h ls))))):EOp P e M ⟨dst,.entryStore t x y z,ty,pos,af,g⟩ K:=
 zhw fun I F a w ho hs=>by
  have h1:=(ho.one (x:=x) (by simp [Op.operands]) hx).raw_inv;have h2:=(ho.one (x:=y) (by simp [Op.operands]) hy).int_inv;have h0:=ho.one (x:=z) (by simp [Op.operands]) hz;have hp:=hs.pull hm;obtain ⟨es,clk,h3,h4,h5,m0,h6,h7⟩:=hp.obj _ Ai;have hlt:b<w.heap.size:=by
   rcases AC b w.heap.size with h'|h'
   exact h'
   simp [Av h'] at h3
  obtain ⟨h',g1,_,g2⟩:=ze8 hj;have hjl:j<es.size:=by
   rcases AC j es.size with h'|h'
   exact h'
   simp [Av h'] at h6
  have hfi:es.findIdx? (fun m=>(m.born:Int)==(st:Int))=some j:=by
   rw [Array.findIdx?_eq_some_iff_getElem];refine ⟨hjl,?_,fun q hq=> ?_⟩
   rw [Aq hjl] at h6;have:=As h6;rw [this];simp [h7]
   intro hc
   have hq2:=Aq (xs:=es) (i:=q) (by omega);have:=h4.2.2 q j _ m0 hq2 h6 (by have h8:((es[q].born:Nat):Int)=(st:Int):=(by simpa using hc);omega)
   omega
  refine ⟨_,{w with heap:=w.heap.setIfInBounds b (.map (es.modify j fun e=>{e with val:=a.eval z}) clk)},I,?_,.refl I,hk,?_⟩
  simp only [execOp,h1,h2,Instr.entryStore,Sem.run_bind,zaW h3,Result.andThen_ok,asInt,asIntOf,Sem.run_pure,hfi,zee h3];refine zcc hm (hp.change (m':= .map b (kk ek (zey s h ls))) (fun k hk hnk=> ?_) (fun k hk=> .inl hk) (by simp [MObj.blocks]) ⟨es.modify j fun e=>{e with val:=a.eval z},clk,by simp [hlt],⟨by rw [g2];simp [kk];simpa [kk] using h4.1,h4.2.modify _ fun _=>rfl⟩,fun q p m a1 a2=> ?_⟩ rfl rfl rfl)
  have:k≠b:=by simpa [MObj.blocks] using hnk
  simp [AJ (Ne.symm this)]
  rw [g2] at a1;simp only [kk] at a1;rw [AG] at a2;rw [Aj,List.getElem?_set] at a1
  by_cases hjq:j=q
  subst hjq;have hl:=zn g1;rw [if_pos rfl,h6] at a2;rw [if_pos rfl,if_pos hl] at a1
  simp at a1 a2
  subst a1 a2;exact ⟨(h5 j (ek s,h') m0 (by simp [kk,g1]) h6).1,h0⟩;rw [if_neg hjq] at a1 a2;exact h5 q p m (by simp only [kk,Aj];exact a1) a2
end
end
section
section
variable {κ:Type} [DecidableEq κ] {α:Type}
def alk (x:κ):List (κ×α)->Option α
 |[]=>none
 |p::r=>if x=p.1 then some p.2 else alk x r
def zp (x:κ) (v:α):List (κ×α)->List (κ×α)
 |[]=>[(x,v)]
 |p::r=>if x=p.1 then (x,v)::r else p::zp x v r
abbrev em (f:α->HVal) (L:List (κ×α)):List (κ×HVal):=L.map fun p=>(p.1,f p.2)
theorem zpS (f:α->HVal) (x:κ): ∀L:List (κ×α),klk x (em f L)=(alk x L).map f
 |[]=>rfl
 |p::r=>by
   have ih:=zpS f x r;simp only [Ao,klk,alk] at ih⊢
   by_cases h:x=p.1
   rw [if_pos h,if_pos h];rfl;rw [if_neg h,if_neg h];exact ih
theorem zqz (f:α->HVal) (x:κ) (v:α): ∀L:List (κ×α),zey x (f v) (em f L)=em f (zp x v L)
 |[]=>rfl
 |p::r=>by
   have ih:=zqz f x v r;simp only [Ao,zey,zp] at ih⊢
   by_cases h:x=p.1
   rw [if_pos h,if_pos h];rfl;rw [if_neg h,if_neg h,ih];rfl
theorem za3 (x y:κ) (v:α): ∀(l:List (κ×α)),alk y (zp x v l)=if y=x then some v else alk y l
 |[]=>by simp [zp,alk]
 |p::r=>by
   have ih:=za3 x y v r;simp only [zp]
   by_cases h:x=p.1
   subst h;rw [if_pos rfl];simp only [alk]
   by_cases hy:y=p.1
   rw [if_pos hy,if_pos hy];rw [if_neg hy,if_neg hy,if_neg hy];rw [if_neg h];simp only [alk]
   by_cases hy:y=p.1
   have: ¬y=x:=fun e=>h (e▸hy)
   rw [if_pos hy,if_neg this,if_pos hy];rw [if_neg hy,ih,if_neg hy]
theorem zdt {x:κ}: ∀{l:List (κ×α)},alk x l=none↔x∉l.map (·.1)
 |[]=>by simp [alk]
 |p::r=>by
   have ih:=zdt (x:=x) (l:=r);simp only [alk,Ao,BS,not_or]
   by_cases h:x=p.1
   rw [if_pos h];simp [h];rw [if_neg h,ih];simp [h]
theorem zk3 {x:κ} {v:α}: ∀{l:List (κ×α)},alk x l=none->zp x v l=l++[(x,v)]
 |[],_=>rfl
 |p::r,h=>by
   simp only [alk] at h
   by_cases hx:x=p.1
   rw [if_pos hx] at h;cases h;rw [if_neg hx] at h;simp only [zp,if_neg hx,A0,zk3 h]
theorem zlQ {x y:κ} {v:α}: ∀{l:List (κ×α)},y∈(zp x v l).map (·.1)↔y=x\/y∈l.map (·.1)
 |[]=>by simp [zp]
 |p::r=>by
   have ih:=zlQ (x:=x) (y:=y) (v:=v) (l:=r);simp only [zp]
   by_cases h:x=p.1
   subst h;rw [if_pos rfl];simp;rw [if_neg h];simp only [Ao,BS,ih]
   constructor
   rintro (h|h|h);exact .inr (.inl h);exact .inl h;exact .inr (.inr h);rintro (h|h|h);exact .inr (.inl h);exact .inl h;exact .inr (.inr h)
def ANodup (l:List (κ×α)):Prop:=(l.map (·.1)).Nodup
theorem ANodup.nil {A B:Type}:ANodup ([]:List (A×B)):=Bb
theorem ANodup.put {x:κ} {v:α}: ∀{l:List (κ×α)},ANodup l->ANodup (zp x v l)
 |[],_=>by simp [ANodup,zp]
 |p::r,hn=>by
   have h1:=(List.nodup_cons.1 hn)
   by_cases h:x=p.1
   subst h;have e:zp p.1 v (p::r)=(p.1,v)::r:=by simp [zp]
   rw [e];exact List.nodup_cons.2 h1;have e:zp x v (p::r)=p::zp x v r:=by simp [zp,h]
   rw [e];refine List.nodup_cons.2 ⟨fun hm=> ?_,ANodup.put (l:=r) h1.2⟩
   rcases zlQ.1 hm with e|e
   exact h e.symm;exact h1.1 e
theorem zcX {x:κ} {v:α}: ∀{l:List (κ×α)},ANodup l->((x,v)∈l↔alk x l=some v)
 |[],_=>by simp [alk]
 |p::r,hn=>by
   have h1:=(List.nodup_cons.1 hn);have ih:=zcX (x:=x) (v:=v) (l:=r) h1.2;simp only [BS,alk]
   by_cases h:x=p.1
   subst h;rw [if_pos rfl]
   constructor
   rintro (h|h);rw [<-h];exact absurd (Bw (f:=(·.1)) h) h1.1
   intro h;left;simp at h;rw [<-h]
   rw [if_neg h,<-ih]
   constructor
   rintro (h'|h');exact absurd (by rw [<-h']) h;exact h';exact .inr
theorem zbs {x:κ} {v:α}: ∀{l:List (κ×α)},alk x l=some v->(x,v)∈l
 |[],h=>by simp [alk] at h
 |p::r,h=>by
   simp only [alk] at h
   by_cases hx:x=p.1
   rw [if_pos hx] at h;cases h;rw [hx];exact Ai;rw [if_neg hx] at h;exact Al _ (zbs h)
theorem zrh (x:κ) (v:α): ∀(l:List (κ×α)),(zp x v l).length=if (alk x l).isSome then l.length else l.length+1
 |[]=>by simp [zp,alk]
 |p::r=>by
   have ih:=zrh x v r
   by_cases h:x=p.1
   have e1:zp x v (p::r)=(x,v)::r:=by simp [zp,h]
   have e2:alk x (p::r)=some p.2:=by simp [alk,h]
   rw [e1,e2];simp;have e1:zp x v (p::r)=p::zp x v r:=by simp [zp,h]
   have e2:alk x (p::r)=alk x r:=by simp [alk,h]
   rw [e1,e2,Ah,ih];split<;>simp
theorem zia (x:κ) (v:α) (l:List (κ×α)):(zp x v l).length<=l.length+1:=by rw [zrh];split<;>omega
theorem zcF {x:κ} {v:α} {p:κ×α}: ∀{l:List (κ×α)},p∈zp x v l->p=(x,v)\/p∈l
 |[],hp=>by simp [zp] at hp;exact .inl hp
 |q::r,hp=>by
   simp only [zp] at hp
   by_cases h:x=q.1
   rw [if_pos h] at hp
   rcases List.mem_cons.1 hp with e|e
   exact .inl e;exact .inr (Al _ e);rw [if_neg h] at hp
   rcases List.mem_cons.1 hp with e|e
   exact .inr (e▸Ai)
   rcases zcF e with e|e
   exact .inl e;exact .inr (Al _ e)
theorem zou (f:α->HVal) (s:Str): ∀L:List (Str×α),(z7 s (em f L)).map (·.2)=(alk s L).map f
 |[]=>rfl
 |p::r=>by
   have ih:=zou f s r;obtain ⟨k,v⟩:=p;simp only [Ao,z7,alk] at ih⊢
   by_cases h:s=k
   rw [if_pos h,if_pos h];rfl;rw [if_neg h,if_neg h,<-ih];cases z7 s (r.map fun p=>(p.1,f p.2))<;>rfl
theorem zyQ (f:α->HVal) (s:Str) (v:α): ∀L:List (Str×α),sput s (f v) (em f L)=em f (zp s v L)
 |[]=>rfl
 |p::r=>by
   have ih:=zyQ f s v r;obtain ⟨k,u⟩:=p;simp only [sput,Ao,z7,zp] at ih⊢
   by_cases h:s=k
   subst h;rw [if_pos rfl,if_pos rfl];rfl;rw [if_neg h,if_neg h]
   cases hq:z7 s (r.map fun p=>(p.1,f p.2)) with
   |none=>rw [hq] at ih;simp only [Option.map_none,A0,Ao,<-ih]
   |some q=>rw [hq] at ih;simp only [AI,Cn,Ao,<-ih]
end
section
variable {κ:Type} [DecidableEq κ] {α:Type}
variable {P:Program} {e:Env} {dst:Option Tmp} {ty:TypeId} {pos:String} {af:Array Edge} {g:Option (Nat×Bool)} {M:List MObj} {K:HVal->List MObj->Prop}
theorem zpH {f:α->HVal} {o:Option α} {z0:α}:f (o.getD z0)=(o.map f).getD (f z0):=by cases o<;>rfl
theorem zct [Tracks] {x y:Operand} {t kt et:TypeId} {size bytes s2 b2 s3 b3:Nat} {zero z2 z3:Value} {d:TD} {i b:Nat} {f:α->HVal} {L:List (Str×α)} {s:Str} {z0:α}
 (hf:Fits P t (.map kt et) size bytes zero) (hkt:Fits P kt .str s2 b2 z2) (het:Fits P et d s3 b3 z3) (hx:zh e x=some (.raw (.map (some b)))) (hy:zh e y=some (.str s)) (hm:M[i]? =some (.map b (sk (em f L)))) (hz:zaT z3=f z0)
 (hk:K (f ((alk s L).getD z0)) M):EOp P e M ⟨dst,.lookup t x y false,ty,pos,af,g⟩ K:=by
 refine znY hf hkt het hx hy hm ?_;rw [zpH (f:=f),<-zou,<-hz] at hk
 cases h:z7 s (em f L) with
 |none=>rw [h] at hk;exact hk
 |some p=>rw [h] at hk;exact hk
theorem ziH [Tracks] {x y:Operand} {t kt et:TypeId} {size bytes s2 b2 s3 b3:Nat} {zero z2 z3:Value} {d:TD} {i b:Nat} {f:α->HVal} {L:List (Str×α)} {s:Str} {z0:α}
 (hf:Fits P t (.map kt et) size bytes zero) (hkt:Fits P kt .str s2 b2 z2) (het:Fits P et d s3 b3 z3) (hx:zh e x=some (.raw (.map (some b)))) (hy:zh e y=some (.str s)) (hm:M[i]? =some (.map b (sk (em f L)))) (hz:zaT z3=f z0)
 (hk:K (.tup [f ((alk s L).getD z0),.bool (alk s L).isSome]) M):EOp P e M ⟨dst,.lookup t x y true,ty,pos,af,g⟩ K:=by
 refine zxI hf hkt het hx hy hm ?_;have h1:(alk s L).isSome=((alk s L).map f).isSome:=by cases alk s L<;>rfl
 rw [zpH (f:=f),h1,<-zou,<-hz] at hk
 cases h:z7 s (em f L) with
 |none=>rw [h] at hk;exact hk
 |some p=>rw [h] at hk;exact hk
theorem zbj [Tracks] {x y z:Operand} {t kt et:TypeId} {size bytes s2 b2:Nat} {zero z2:Value} {i b:Nat} {f:α->HVal} {L:List (Str×α)} {s:Str} {v:α}
 (hf:Fits P t (.map kt et) size bytes zero) (hkt:Fits P kt .str s2 b2 z2) (hx:zh e x=some (.raw (.map (some b)))) (hy:zh e y=some (.str s)) (hz:zh e z=some (f v)) (hm:M[i]? =some (.map b (sk (em f L))))
 (hk:K .junk (M.set i (.map b (sk (em f (zp s v L)))))):EOp P e M ⟨dst,.mapUpdate t x y z,ty,pos,af,g⟩ K:=by
 refine zoL hf hkt hx hy hz hm ?_;rw [zyQ];exact hk
variable {kt:TypeId} {ek:κ->HVal}
theorem zfw [Tracks] {x y:Operand} {t et:TypeId} {size bytes s3 b3:Nat} {zero z3:Value} {d:TD} {i b:Nat} {f:α->HVal} {L:List (κ×α)} {s:κ} {z0:α}
 (hf:Fits P t (.map kt et) size bytes zero) (ok:KeyOk P kt ek) (het:Fits P et d s3 b3 z3) (hx:zh e x=some (.raw (.map (some b)))) (hy:zh e y=some (ek s)) (hm:M[i]? =some (.map b (kk ek (em f L)))) (hz:zaT z3=f z0)
 (hk:K (f ((alk s L).getD z0)) M):EOp P e M ⟨dst,.lookup t x y false,ty,pos,af,g⟩ K:=by
 refine zxJ hf ok het hx hy hm ?_;rw [zpH (f:=f),<-hz] at hk;rw [zpS];exact hk
theorem zvr [Tracks] {x y:Operand} {t et:TypeId} {size bytes s3 b3:Nat} {zero z3:Value} {d:TD} {i b:Nat} {f:α->HVal} {L:List (κ×α)} {s:κ} {z0:α}
 (hf:Fits P t (.map kt et) size bytes zero) (ok:KeyOk P kt ek) (het:Fits P et d s3 b3 z3) (hx:zh e x=some (.raw (.map (some b)))) (hy:zh e y=some (ek s)) (hm:M[i]? =some (.map b (kk ek (em f L)))) (hz:zaT z3=f z0)
 (hk:K (.tup [f ((alk s L).getD z0),.bool (alk s L).isSome]) M):EOp P e M ⟨dst,.lookup t x y true,ty,pos,af,g⟩ K:=by
 refine zwt hf ok het hx hy hm ?_;have h1:((alk s L).map f).isSome=(alk s L).isSome:=by cases alk s L<;>rfl
 rw [zpH (f:=f),<-hz] at hk;rw [zpS,h1];exact hk
theorem zpB [Tracks] {x y:Operand} {t et:TypeId} {size bytes s3 b3:Nat} {zero z3:Value} {d:TD} {i b j st:Nat} {f:α->HVal} {L:List (κ×α)} {s:κ} {z0:α}
 (hf:Fits P t (.map kt et) size bytes zero) (ok:KeyOk P kt ek) (het:Fits P et d s3 b3 z3) (hx:zh e x=some (.raw (.map (some b)))) (hy:zh e y=some (ek s)) (hm:M[i]? =some (.mape b (kk ek (zd4 s (f z0) (em f L))) j st)) (hz:zaT z3=f z0)
 (hk:K (f ((alk s L).getD z0)) M):EOp P e M ⟨dst,.lookup t x y false,ty,pos,af,g⟩ K:=by
 have h0:f ((alk s L).getD z0)=(klk s (zd4 s (f z0) (em f L))).getD (zaT z3):=by rw [hz,zCt,zpS,zpH (f:=f)]
 rw [h0] at hk
 generalize zd4 s (f z0) (em f L)=ls at hm hk
 exact EOp.of_run fun I F a w ho hs=>by
  have h1:=(ho.one (x:=x) (by simp [Op.operands]) hx).raw_inv;have h2:=ho.one (x:=y) (by simp [Op.operands]) hy;obtain ⟨es,clk,h3,h4,h5,_⟩:=hs.obj _ (Ap _ (Ab hm));obtain ⟨h6,h7⟩:=zpR h4.1 h5;obtain ⟨n1,n2⟩:=zjk ok h2 w es.toList ls 0 h6 h7;have hfk:=ok.run_key h2 w es.toList ls h6 h7
  cases hq:zb6 s ls with
  |none=>
    rw [(zfJ hq).1] at hk;refine ⟨z3,_,M,w,I,?_,.refl I,hk,zg4 I z3,hs⟩
    simp only [execOp,h1,Instr.lookup,Sem.run_bind,run_underlying hf.mapD,Result.andThen_ok,zaW h3,Sem.run_pure,ok.check I s _ _ w h2,hfk,n1 hq,het.run_zero]
    simp
  |some j'=>
    obtain ⟨m,h,g1,g2,g3,g4⟩:=n2 j' hq;obtain ⟨h',g5,g6,_⟩:=ze8 hq;rw [g5] at g2;cases g2;rw [g6] at hk;refine ⟨m.val,_,M,w,I,?_,.refl I,hk,g3,hs⟩
    simp only [execOp,h1,Instr.lookup,Sem.run_bind,run_underlying hf.mapD,Result.andThen_ok,zaW h3,Sem.run_pure,ok.check I s _ _ w h2,hfk,g4]
    simp
theorem zgJ [Tracks] {x y z:Operand} {t et:TypeId} {size bytes:Nat} {zero:Value} {i b:Nat} {f:α->HVal} {L:List (κ×α)} {s:κ} {v:α}
 (hf:Fits P t (.map kt et) size bytes zero) (ok:KeyOk P kt ek) (hx:zh e x=some (.raw (.map (some b)))) (hy:zh e y=some (ek s)) (hz:zh e z=some (f v)) (hm:M[i]? =some (.map b (kk ek (em f L))))
 (hk:K .junk (M.set i (.map b (kk ek (em f (zp s v L)))))):EOp P e M ⟨dst,.mapUpdate t x y z,ty,pos,af,g⟩ K:=by
 refine zxK hf ok hx hy hz hm ?_;rw [zqz];exact hk
theorem zoJ [Tracks] {x y:Operand} {t et:TypeId} {size bytes s3 b3:Nat} {zero z3:Value} {d:TD} {i b:Nat} {f:α->HVal} {L:List (κ×α)} {s:κ} {z0:α}
 (hf:Fits P t (.map kt et) size bytes zero) (ok:KeyOk P kt ek) (het:Fits P et d s3 b3 z3) (hx:zh e x=some (.raw (.map (some b)))) (hy:zh e y=some (ek s)) (hm:M[i]? =some (.map b (kk ek (em f L)))) (hz:zaT z3=f z0)
 (hk: ∀(j st:Nat),zb6 s (zd4 s (f z0) (em f L))=some j->K (.tup [f ((alk s L).getD z0),.int .i64 (st:Int)]) (M.set i (.mape b (kk ek (zd4 s (f z0) (em f L))) j st))):EOp P e M ⟨dst,.mapEntry t x y,ty,pos,af,g⟩ K:=by
 refine zpC hf ok het hx hy hm ?_;rw [hz];have h1:(klk s (em f L)).getD (f z0)=f ((alk s L).getD z0):=by rw [zpS];cases alk s L<;>rfl
 rw [h1];exact hk
theorem zl2 [Tracks] {x y z:Operand} {t:TypeId} {i b j st:Nat} {f:α->HVal} {L:List (κ×α)} {s:κ} {z0 v:α}
 (hx:zh e x=some (.raw (.map (some b)))) (hy:zh e y=some (.int .i64 (st:Int))) (hz:zh e z=some (f v)) (hm:M[i]? =some (.mape b (kk ek (zd4 s (f z0) (em f L))) j st)) (hj:zb6 s (zd4 s (f z0) (em f L))=some j)
 (hk:K .junk (M.set i (.map b (kk ek (em f (zp s v L)))))):EOp P e M ⟨dst,.entryStore t x y z,ty,pos,af,g⟩ K:=by
 refine zna hx hy hz hm hj ?_;rw [zuC,zqz];exact hk
theorem ze2 [Tracks] {x:Operand} {t kt' et:TypeId} {size bytes:Nat} {zero:Value} {i b:Nat} {l:List (HVal×HVal)} (hf:Fits P t (.map kt' et) size bytes zero) (hx:zh e x=some (.raw (.map (some b)))) (hm:M[i]? =some (.map b l))
 (hk:K (.int .i64 (l.length:Int)) M):EOp P e M ⟨dst,.call ⟨.builtin .len,#[x],#[t]⟩,ty,pos,af,g⟩ K:=
 EOp.of_run fun I F a w ho hs=>by
  have h1:=(ho.one (x:=x) (by simp [Op.operands,Call.operands]) hx).raw_inv;obtain ⟨es,clk,h3,h4,h5⟩:=hs.obj _ (Ap _ (Ab hm));exact ⟨.int .i64 (es.size:Int),_,M,w,I,by rw [znl (ats:= #[])];simp [h1,Builtin.len_,run_underlying hf.mapD,zaW h3,goInt],.refl I,hk,by rw [h4.1];exact .int _ _,hs⟩
end
end
section
open Go.Sort Go.Proofs
structure Play where
 Source:Str
 No:Int
 At:Int
 Week:Int
 Match:Str
 Player:Str
 Stat:Str
 Count:Int
 Undo:Int
structure StatS where
 Name:Str
 Count:Int
structure LineS where
 Player:Str
 Week:Int
 Stats:List StatS
abbrev zak (x:Play):HVal:= .agg [.str x.Source,.int .i64 x.No,.int .i64 x.At,.int .i64 x.Week,.str x.Match,.str x.Player,.str x.Stat,.int .i64 x.Count,.int .i64 x.Undo]
abbrev zbK (l:List Play):HVal:= .slice 9 (l.map zak)
abbrev zaG (x:StatS):HVal:= .agg [.str x.Name,.int .i64 x.Count]
abbrev zpz (l:List StatS):HVal:= .slice 2 (l.map zaG)
abbrev zaq (x:LineS):HVal:= .agg [.str x.Player,.int .i64 x.Week,zpz x.Stats]
abbrev zbJ (l:List LineS):HVal:= .slice 3 (l.map zaq)
abbrev Num:=Str×Int
abbrev Of2:=Str×Str
abbrev zjc (x:Num):HVal:= .agg [.str x.1,.int .i64 x.2]
abbrev eOf (x:Of2):HVal:= .agg [.str x.1,.str x.2]
def zkG:Play:=⟨[],0,0,0,[],[],[],0,0⟩
def zar (n:Int):Bool:= !(out n 1 60)
def playFault (p:Play):Int:=
 if !(key p.Source) then 5 else if out p.No 1 3000|| !(zN p.At)|| !(zar p.Week) then 1
 else if !(key p.Match)|| !(key p.Player)|| !(key p.Stat) then 5
 else if out p.Count (-100000) 100000||out p.Undo 0 (p.No-1) then 1
 else if decide (0<p.Undo)&&decide (p.Count≠0) then 3 else 0
def byNo (a b:Play):Int:=orI [zY a.Source b.Source,zai a.No b.No]
def zca (l:List Play):Nat->List Play->Int
 |_,[]=>0
 |k,p::r=>if playFault p≠0 then playFault p else if 0<k/\byNo p (l.getD (k-1) zkG)<=0 then 7 else zca l (k+1) r
structure ChkS where
 S:List Str
 W:List (Str×Int)
 c:Bool
def zi9 (q:ChkS) (p:Play):ChkS:=
 ⟨zbW p.Source q.S,zp p.Match p.Week q.W,q.c||((alk p.Match q.W).isSome&&((alk p.Match q.W).getD 0 !=p.Week))⟩
def zbU (l:List Play):ChkS:=l.foldl zi9 ⟨[],[],false⟩
theorem zfP {l:List Play} {k:Nat} {x:Play} (h:l[k]? =some x):zbU (l.take (k+1))=zi9 (zbU (l.take k)) x:=by
 rw [zW h];simp [zbU,Ba]
def zfL (q:ChkS):Int:=if 20<q.S.length\/400<q.W.length then 2 else if q.c then 13 else 0
def zb7 (l:List Play):Int:=if 3000<l.length then 2 else if zca l 0 l≠0 then zca l 0 l else zfL (zbU l)
theorem zol {l:List Play} {k:Nat} {x:Play} {r:List Play} (h1:playFault x=0) (h2:0<k->¬byNo x (l.getD (k-1) zkG)<=0):zca l k (x::r)=zca l (k+1) r:=by
 rw [zca,if_neg (by simp [h1]),if_neg (fun h=>h2 h.1 h.2)]
theorem zmd {l:List Play} {c:Int} (h1:l.length<=3000) (h:zca l 0 l=c) (hc:c≠0):zb7 l=c:=by
 rw [zb7,if_neg (by omega),if_pos (by rw [h];exact hc),h]
theorem zgh {l:List Play} (h1:l.length<=3000) (h:zca l 0 l=0):zb7 l=zfL (zbU l):=by
 rw [zb7,if_neg (by omega),if_neg (by simp [h])]
theorem zme {l:List Play} (h:zb7 l=0):l.length<=3000/\zca l 0 l=0:=by
 unfold zb7 at h
 split at h
 omega
 split at h
 contradiction
 rename_i h1 h2;exact ⟨by omega,by simpa using h2⟩
theorem zeC {p:Play} (h:playFault p=0):key p.Source=true/\(1<=p.No/\p.No<=3000)/\zN p.At=true/\zar p.Week=true/\(key p.Match=true/\key p.Player=true/\key p.Stat=true)/\(-100000<=p.Count/\p.Count<=100000)/\(0<=p.Undo/\p.Undo<=p.No-1):=by
 unfold playFault at h
 split at h
 omega
 split at h
 omega
 split at h
 omega
 split at h
 omega
 rename_i h1 h2 h3 h4
 simp only [A1,Ct,not_or,Bool.not_eq_false,Ca] at h1 h2 h3 h4;exact ⟨h1,zhK h2.1.1,h2.1.2,h2.2,⟨h3.1.1,h3.1.2,h3.2⟩,zhK h4.1,zhK h4.2⟩
theorem zsP {l:List Play}: ∀(r:List Play) (k:Nat),zca l k r=0->∀x∈r,playFault x=0
 |[],_,_,x,hx=>by cases hx
 |p::r,k,h,x,hx=>by
   rw [zca] at h
   split at h
   contradiction
   split at h
   omega
   rename_i h1 _
   rcases List.mem_cons.1 hx with rfl|hx
   simpa using h1
   exact zsP r (k+1) h x hx
theorem zei {l:List Play} (h:zb7 l=0): ∀x∈l,playFault x=0:=zsP l 0 (zme h).2
/-! the source that counts-/
def zd0 (trust:List Str) (at':Int) (B:List (Str×Int)) (p:Play):List (Str×Int):=
 if at'<p.At\/zce p.Source trust 0<0 then B
 else if (alk p.Match B).isSome=false\/zce p.Source trust 0<(alk p.Match B).getD 0 then zp p.Match (zce p.Source trust 0) B else B
def zfm (l:List Play) (trust:List Str) (at':Int):List (Str×Int):=l.foldl (zd0 trust at') []
theorem zkp {l:List Play} {trust:List Str} {at':Int} {k:Nat} {x:Play} (h:l[k]? =some x):zfm (l.take (k+1)) trust at'=zd0 trust at' (zfm (l.take k) trust at') x:=by
 rw [zW h];simp [zfm,Ba]
def zjx (l:List Play) (trust:List Str) (at':Int) (m:Str):Option Str:=(alk m (zfm l trust at')).map fun k=>trust.getD k.toNat []
/-! what is taken back-/
def znh (at':Int) (A:List (Num×Play)) (p:Play):List (Num×Play):=if p.At<=at' then zp (p.Source,p.No) p A else A
def zhq (l:List Play) (at':Int):List (Num×Play):=l.foldl (znh at') []
theorem zp2 {l:List Play} {at':Int} {k:Nat} {x:Play} (h:l[k]? =some x):zhq (l.take (k+1)) at'=znh at' (zhq (l.take k) at') x:=by
 rw [zW h];simp [zhq,Ba]
def zlB (q p:Play):Bool:=decide (q.Undo=0)&&decide (q.Match=p.Match)&&decide (q.Player=p.Player)&&decide (q.Stat=p.Stat)
def zje (A:List (Num×Play)) (at':Int) (G:List (Num×Bool)) (p:Play):List (Num×Bool):=
 if at'<p.At\/p.Undo=0 then G else if (alk (p.Source,p.Undo) A).isSome=true/\zlB ((alk (p.Source,p.Undo) A).getD zkG) p=true then zp (p.Source,p.Undo) true G else G
def zhB (A:List (Num×Play)) (at':Int) (l:List Play):List (Num×Bool):=l.foldl (zje A at') []
def zn5 (l:List Play) (at':Int):List (Num×Bool):=zhB (zhq l at') at' l
theorem zjs {A:List (Num×Play)} {l:List Play} {at':Int} {k:Nat} {x:Play} (h:l[k]? =some x):zhB A at' (l.take (k+1))=zje A at' (zhB A at' (l.take k)) x:=by
 rw [zW h];simp [zhB,Ba]
def zjV (l:List Play) (at':Int) (x:Num):Bool:=(alk x (zn5 l at')).getD false
/-! lines-/
def zhC (l:List Play) (trust:List Str) (week at':Int) (p:Play):Bool:=
 !(decide (at'<p.At)||p.Week !=week||decide (0<p.Undo)||zjV l at' (p.Source,p.No)||(zjx l trust at' p.Match).getD [] !=p.Source)
structure LnS where
 S:List Str
 c:List (Of2×Int)
def zvM (q:LnS) (p:Play):LnS:=⟨zbW p.Player q.S,zp (p.Player,p.Stat) ((alk (p.Player,p.Stat) q.c).getD 0+p.Count) q.c⟩
def ze9 (l:List Play) (trust:List Str) (week at':Int) (q:LnS) (p:Play):LnS:=if zhC l trust week at' p then zvM q p else q
def zaI (l:List Play) (trust:List Str) (week at':Int) (m:List Play):LnS:=m.foldl (ze9 l trust week at') ⟨[],[]⟩
theorem zl9 {l m:List Play} {trust:List Str} {week at':Int} {k:Nat} {x:Play} (h:m[k]? =some x):zaI l trust week at' (m.take (k+1))=ze9 l trust week at' (zaI l trust week at' (m.take k)) x:=by
 rw [zW h];simp [zaI,Ba]
def zaU (a b:StatS):Int:=zY a.Name b.Name
def za0 (c:List (Of2×Int)) (s:Str):List StatS:=(c.filter fun e=>e.1.1==s&&e.2 !=0).map fun e=>⟨e.1.2,e.2⟩
def zck (c:List (Of2×Int)) (s:Str):List StatS:=zah zaU (za0 c s)
def zgs (c:List (Of2×Int)) (S:List Str):Bool:=c.any (fun e=>out e.2 (-100000) 100000)||S.any (fun s=>decide (40<(za0 c s).length))
def zja (c:List (Of2×Int)) (S:List Str):Int:=if zgs c S then 12 else 0
def zin (c:List (Of2×Int)) (S:List Str) (week:Int):List LineS:=if zgs c S then [] else (zaB S).map fun s=>⟨s,week,zck c s⟩
def zf7 (l:List Play) (trust:List Str) (week at':Int):Int:=zja (zaI l trust week at' l).c (zaI l trust week at' l).S
def zdN (l:List Play) (trust:List Str) (week at':Int):List LineS:=zin (zaI l trust week at' l).c (zaI l trust week at' l).S week
/-! order of trust-/
def zeY (l:List Str):Nat->List Str->Int
 |_,[]=>0
 |k,s::r=>if !(key s) then 5 else if (l.take k).contains s then 6 else zeY l (k+1) r
def zcB (l:List Str):Int:=if 20<l.length then 2 else zeY l 0 l
theorem zyr {s:Str} (h:key s=true):s.length<=40:=by
 simp only [key,zkB,AZ,decide_eq_true_eq] at h;exact h.1.1.1.2
theorem zA3 {s:Str} (h:key s=true):s≠[]:=by
 simp only [key,zkB,AZ,bne_iff_ne] at h;exact h.1.1.1.1
/-! a list that a sort leaves-/
theorem zdV {α:Type} {c:α->α->Int} (hc:Cmp c fun _=>True) {l l':List α} (he: ∀x y,x∈l->y∈l->c x y=0->x=y) (hp:l'.Perm l) (hw:l'.Pairwise fun a b=> ¬c b a<0):l'=zah c l:=by
 have hs:=zex hc (l:=l) (fun _ _=>trivial);have hw':l'.Pairwise fun a b=>c a b<=0:=hw.imp fun {a b} h=>by
  have:=hc.flip b a trivial trivial
  omega
 refine Cl (le:=fun a b=>c a b<=0) (fun a b ha hb h1 h2=> ?_) hw' hs (hp.trans (za5 c l).symm)
 have f1:=hc.flip a b trivial trivial;exact he a b (hp.mem_iff.1 ha) ((za5 c l).mem_iff.1 hb) (by omega)
theorem zcn:Cmp zaU fun _=>True where
 flip x y _ _:=by unfold zaU;rw [zfG x.Name y.Name];omega
 trans x y z _ _ _ h1 h2:=ziF h1 h2
theorem zkZ {α:Type} {c:α->α->Int} (hc:Cmp c fun _=>True):SWO (ltOf c):=by
 have h: ∀a b,ltOf c a b=decide (c a b<0):=fun a b=>rfl
 refine ⟨fun x=> ?_,fun x y z h1 h2=> ?_,fun x y z h1 h2=> ?_⟩
 rw [h];have:=hc.flip x x trivial trivial;simp;omega;rw [h] at*;simp only [decide_eq_true_eq] at*;have a1:=hc.trans x y z trivial trivial trivial (by omega) (by omega)
 rcases Int.lt_or_eq_of_le a1 with e|e
 exact e
 exfalso
 have f1:=hc.flip x z trivial trivial;have a2:=hc.trans z x y trivial trivial trivial (by have:=hc.flip z x trivial trivial;omega) (by omega);have f2:=hc.flip y z trivial trivial
 omega
 rw [h] at*;simp only [decide_eq_false_iff_not] at*;have f1:=hc.flip x y trivial trivial;have f2:=hc.flip y z trivial trivial;have f3:=hc.flip x z trivial trivial;have g1:=hc.flip y x trivial trivial;have g2:=hc.flip z y trivial trivial;have g3:=hc.flip z x trivial trivial;have:=hc.trans z y x trivial trivial trivial (by omega) (by omega)
 omega
end
section
theorem zok {α:Type} {l:List α} (h:l.Nodup) {i j:Nat} {a:α} (hi:l[i]? =some a) (hj:l[j]? =some a):i=j:=by
 have key: ∀(i j:Nat),i<j->l[i]? =some a->l[j]? =some a->False:=fun i j hij h1 h2=>by
  have hi:=zn h1;have hj:=zn h2;rw [Aa hi] at h1;rw [Aa hj] at h2;exact List.pairwise_iff_getElem.1 h i j hi hj hij (As (h1.trans h2.symm))
 rcases BT i j with h'|h'|h'
 exact (key i j h' hi hj).elim;exact h';exact (key j i h' hj hi).elim
/-! what a range has come to-/
structure VisOk {β:Type} (L:List β) (vis:List Nat) (E:List β):Prop where
 nd:vis.Nodup
 lt: ∀j∈vis,j<L.length
 eq:E.map some=vis.map fun j=>L[j]?
theorem VisOk.nil {β:Type} (L:List β):VisOk L [] []:=⟨Bb,(fun j h=>by cases h),rfl⟩
theorem VisOk.step {β:Type} {L E:List β} {vis:List Nat} (h:VisOk L vis E) {j:Nat} {q:β} (hj:L[j]? =some q) (hn:j∉vis):VisOk L (vis++[j]) (E++[q]) where
 nd:=List.nodup_append.2 ⟨h.nd,by simp,fun a ha b hb=>by simp at hb;subst hb;exact fun e=>hn (e▸ha)⟩
 lt k hk:=by
  rcases List.mem_append.1 hk with hk|hk
  exact h.lt k hk
  simp at hk;subst hk;exact zn hj
 eq:=by simp only [Ay,h.eq,Ao,A7,hj]
theorem VisOk.len {β:Type} {L E:List β} {vis:List Nat} (h:VisOk L vis E):E.length=vis.length:=by
 have:=congrArg List.length h.eq;simpa using this
theorem VisOk.le {β:Type} {L E:List β} {vis:List Nat} (h:VisOk L vis E):vis.length<=L.length:=by
 have:=zp1 h.nd (m:=List.range L.length) fun j hj=>List.mem_range.2 (h.lt j hj)
 simpa using this
theorem VisOk.room {β:Type} {L E:List β} {vis:List Nat} (h:VisOk L vis E) {j:Nat} {q:β} (hj:L[j]? =some q) (hn:j∉vis):vis.length<L.length:=by
 have:=(h.step hj hn).le;rw [Ax] at this;simp only [Ah,Ar] at this
 omega
theorem VisOk.done {β:Type} {L E:List β} {vis:List Nat} (h:VisOk L vis E) (hl:vis.length=L.length):E.Perm L:=by
 have hp:vis.Perm (List.range L.length):=by
  refine (Bi h.nd List.nodup_range).2 fun a=>⟨fun ha=>List.mem_range.2 (h.lt a ha),fun ha=> ?_⟩
  refine Classical.byContradiction fun hna=> ?_
  have h1:(a::vis).Nodup:=List.nodup_cons.2 ⟨hna,h.nd⟩;have h2:=zp1 h1 (m:=List.range L.length) fun j hj=>by
   rcases List.mem_cons.1 hj with rfl|hj
   exact ha;exact List.mem_range.2 (h.lt j hj)
  simp at h2;omega
 have h1:=hp.map fun j=>L[j]?
 rw [<-h.eq] at h1;have h2:((List.range L.length).map fun j=>L[j]?)=L.map some:=by
  refine Cu fun i=> ?_
  rw [Aj,Aj]
  rcases AC i L.length with hi|hi
  rw [B1 hi,Aa hi];simp [hi];rw [AH (by simpa using hi),AH hi];rfl
 rw [h2] at h1;have h3:=h1.filterMap id;have key: ∀l:List β,(l.map some).filterMap id=l:=fun l=>by
  induction l with
  |nil=>rfl
  |cons x l ih=>simp [ih]
 rwa [key,key] at h3
def NextOk {β:Type} (L:List β) (vis:List Nat) (c:Bool) (vis':List Nat):Prop:=
 (c=false/\vis'=vis/\vis.length=L.length)\/(c=true/\∃j q,L[j]? =some q/\j∉vis/\vis'=vis++[j])
theorem NextOk.t {β:Type} {L:List β} {vis vis':List Nat} {c:Bool} (h:NextOk L vis c vis') (hc:c=true): ∃j q,L[j]? =some q/\j∉vis/\vis'=vis++[j]:=by
 rcases h with ⟨h,_⟩|⟨_,h⟩
 rw [hc] at h;cases h;exact h
theorem NextOk.f {β:Type} {L:List β} {vis vis':List Nat} {c:Bool} (h:NextOk L vis c vis') (hc:c=false):vis'=vis/\vis.length=L.length:=by
 rcases h with ⟨_,h⟩|⟨h,_⟩
 exact h;rw [hc] at h;cases h
section
variable {P:Program} {e:Env} {dst:Option Tmp} {ty:TypeId} {pos:String} {af:Array Edge} {g:Option (Nat×Bool)} {M:List MObj} {K:HVal->List MObj->Prop}
theorem zu1 {α:Type}: ∀{M:List α} {i:Nat} {m:α},M[i]? =some m->M.set i m=M
 |[],i,m,h=>by simp at h
 |x::M,0,m,h=>by simp at h;simp [h]
 |x::M,i+1,m,h=>by simp at h;simp [zu1 h]
theorem zio [Tracks] {β:Type} {L:List β} {enc:β->HVal×HVal} {x:Operand} {i r b:Nat} {l:List (HVal×HVal)} {vis:List Nat} (hx:zh e x=some (.raw (.pointer (some ⟨r,0,none⟩)))) (hm:M[i]? =some (.iter r b l vis)) (hL:l=L.map enc)
 (hv:vis.Nodup) (hvl: ∀j∈vis,j<L.length) (hk: ∀c R vis',NextOk L vis c vis'->K (.tup (.bool c::R)) (M.set i (.iter r b l vis'))):EOp P e M ⟨dst,.next x false,ty,pos,af,g⟩ K:=by
 have hl:l.length=L.length:=by rw [hL,Af]
 refine zB9 hx hm hv (fun j hj=>by rw [hl];exact hvl j hj) (fun hlen=> ?_) (fun j p hj hn=> ?_)
 have:=hk false [] vis (.inl ⟨rfl,rfl,by rw [hlen,hl]⟩);rw [zu1 hm] at this;exact this;rw [hL,Aj] at hj
 cases hq:L[j]? with
 |none=>rw [hq] at hj;cases hj
 |some q=>exact hk true [p.1,p.2] (vis++[j]) (.inr ⟨rfl,j,q,hq,hn,rfl⟩)
theorem zhb [Tracks] {β:Type} {L:List β} {enc:β->HVal×HVal} {x:Operand} {i r b j:Nat} {l:List (HVal×HVal)} {vis:List Nat} {q:β} (hx:zh e x=some (.raw (.pointer (some ⟨r,0,none⟩)))) (hm:M[i]? =some (.iter r b l (vis++[j]))) (hL:l=L.map enc) (hq:L[j]? =some q)
 (hk:K (.tup [(enc q).1,(enc q).2]) M):EOp P e M ⟨dst,.entry x,ty,pos,af,g⟩ K:=
 zAP hx hm (p:=enc q) (by rw [hL,Aj,hq];rfl) hk
theorem zmg {α:Type} (f:α->HVal) (L:List (Str×α)):sk (em f L)=L.map fun p=>(.str p.1,f p.2):=by simp [sk]
theorem zvJ {κ α:Type} [DecidableEq κ] (ek:κ->HVal) (f:α->HVal) (L:List (κ×α)):kk ek (em f L)=L.map fun p=>(ek p.1,f p.2):=by simp [kk]
end
theorem zI0 {α:Type} {a b c d:α} {X:List α}:(a::b::c::d::X).Perm (a::d::c::b::X):=
 List.Perm.cons a (((List.Perm.swap c b (d::X)).trans ((List.Perm.swap d b X).cons c)).trans (((List.Perm.swap d c (b::X)))))
/-! maps whose values are owned slices-/
section
variable {β:Type}
abbrev Grp (β:Type):=List (Str×(Value×List β))
abbrev fG {β:Type} (q:Value×List β):HVal:= .raw q.1
abbrev gZ (β:Type):Value×List β:=(.slice none 0 0,[])
def gV (s:Str) (G:Grp β):Value:=((alk s G).getD (gZ β)).1
def gL (s:Str) (G:Grp β):List β:=((alk s G).getD (gZ β)).2
def grp (sz:Nat) (e:β->HVal) (G:Grp β):List MObj:=G.map fun p=> .arr p.2.1 sz (p.2.2.map e)
theorem zx6 {κ α:Type} [DecidableEq κ] {s:κ} {v:α}: ∀{G:List (κ×α)},alk s G=some v->∃n,G[n]? =some (s,v)/\∀u,zp s u G=G.set n (s,u)
 |[],h=>by simp [alk] at h
 |p::r,h=>by
   simp only [alk] at h
   by_cases hs:s=p.1
   rw [if_pos hs] at h;simp only [AA] at h;subst h;exact ⟨0,by simp [hs],fun u=>by simp [zp,hs]⟩;rw [if_neg hs] at h;obtain ⟨n,h1,h2⟩:=zx6 h;exact ⟨n+1,by simpa using h1,fun u=>by simp [zp,hs,h2]⟩
theorem zko {κ α:Type} [DecidableEq κ] {s:κ} {p:κ->Bool}: ∀{G:List (κ×α)},alk s (G.filter fun q=>p q.1)=if p s then alk s G else none
 |[]=>by simp [alk]
 |q::r=>by
   have ih:=zko (s:=s) (p:=p) (G:=r);rw [AO]
   by_cases hq:p q.1=true
   rw [if_pos hq];simp only [alk]
   by_cases hs:s=q.1
   rw [if_pos hs,if_pos hs,hs,if_pos hq];rw [if_neg hs,if_neg hs,ih];rw [if_neg hq,ih];simp only [alk]
   by_cases hs:s=q.1
   rw [hs,if_neg hq,if_neg hq];rw [if_neg hs]
theorem zc2 {κ α:Type} [DecidableEq κ] {s:κ} {G:List (κ×α)} (h:alk s G=none):(G.filter fun q=>decide (q.1≠s))=G:=by
 rw [Ce]
 intro q hq
 rw [zdt] at h;simp only [decide_eq_true_eq];exact fun e=>h (e▸Bw hq)
theorem zel {κ α:Type} [DecidableEq κ] {s:κ} {v:α}: ∀{G:List (κ×α)},ANodup G->alk s G=some v->G.Perm ((s,v)::G.filter fun q=>decide (q.1≠s))
 |[],_,h=>by simp [alk] at h
 |p::r,hn,h=>by
   have h1:=List.nodup_cons.1 hn;simp only [alk] at h
   by_cases hs:s=p.1
   ·rw [if_pos hs] at h;simp only [AA] at h;have h2:alk s r=none:=by rw [zdt,hs];exact h1.1
    rw [AO,if_neg (by simp [hs]),zc2 h2,hs,<-h]
   ·rw [if_neg hs] at h;rw [AO,if_pos (by simp;exact fun e=>hs e.symm)];exact (List.Perm.cons p (zel h1.2 h)).trans (List.Perm.swap _ _ _)
end
section
variable {P:Program} {e:Env} {dst:Option Tmp} {ty:TypeId} {pos:String} {af:Array Edge} {g:Option (Nat×Bool)} {M:List MObj} {K:HVal->List MObj->Prop} {β:Type} {eb:β->HVal}
theorem zra [Tracks] {I:Imm} {M:List MObj} {w:World} (sz:Nat) (hs:Sat P I M w):Sat P I (.arr (.slice none 0 0) sz []::M) w where
 imm:=hs.imm
 obj m hm:=by
  rcases List.mem_cons.1 hm with rfl|hm
  exact .inl ⟨rfl,rfl⟩;exact hs.obj m hm
 nodup:=by simp only [blocks,AP,MObj.blocks,Bm];exact hs.nodup
 apart b hb:=hs.apart b (by simpa only [blocks,AP,MObj.blocks,Bm] using hb)
 os:=hs.os
 output:=hs.output
 tape:=hs.tape
 tab:=hs.tab
 low:=hs.low
theorem EOp.pre [Tracks] {M':List MObj} {o:Oper} (hm: ∀I F w,Sat P I (M++F) w->Sat P I (M'++F) w) (h:EOp P e M' o K):EOp P e M o K:=fun I F a w ho hs=>h I F a w ho (hm I F w hs)
theorem zj1 [Tracks] {o:Oper} (h:EOp P e M o fun x N=> ∃N',N.Perm N'/\K x N'):EOp P e M o K:=fun I F a w ho hs=>
 zbh (fun _ _ ⟨v,x,M',J,h1,h2,⟨N',h3,h4⟩,h5,h6⟩=>⟨v,x,N',J,h1,h2,h4,h5,h6.perm (h3.append_right F)⟩) (h I F a w ho hs)
theorem zm9 [Tracks] {x y:Operand} {t el:TypeId} {size bytes sz b2:Nat} {zero z2:Value} {d:TD} {A:List MObj} {G:Grp β} {s:Str} {ys:List β}
 (hf:Fits P t (.slice el) size bytes zero) (hel:Fits P el d sz b2 z2) (hz:z2.cells.size=sz) (hby:Nat.ble b2 100000=true)
 (hx:zh e x=some (.raw (gV s G))) (hy:zh e y=some (.slice sz (ys.map eb))) (hfl: ∀y∈ys.map eb,zan (zb y)=true) (hlen:(gL s G).length+ys.length<=1000000000)
 (hk: ∀v',K (.raw v') (A++grp sz eb (zp s (v',gL s G++ys) G))):EOp P e (A++grp sz eb G) ⟨dst,.call ⟨.builtin .append,#[x,y],#[t,t]⟩,ty,pos,af,g⟩ K:=by
 cases hq:alk s G with
 |none=>
   have h1:gV s G= .slice none 0 0:=by unfold gV;rw [hq];rfl
   have h2:gL s G=[]:=by unfold gL;rw [hq];rfl
   rw [h1] at hx;rw [h2,Bm] at hk;refine EOp.pre (M':= .arr (.slice none 0 0) sz []::(A++grp sz eb G)) (fun I F w hs=>zra sz hs) (zj1 ?_)
   refine zH (i:=0) hf hel hz hby hx hy rfl hfl (by rw [h2] at hlen;simpa using hlen) fun v'=>⟨_,?_,hk v'⟩
   rw [zk3 hq];simp only [List.set_cons_zero,grp,Ay,Ao,A7,Bm];rw [<-A9];exact (Bn (l₁:=[MObj.arr v' sz (ys.map eb)]) (l₂:=A++G.map fun p=>MObj.arr p.2.1 sz (p.2.2.map eb)))
 |some q=>
   obtain ⟨v,l⟩:=q;have h1:gV s G=v:=by unfold gV;rw [hq];rfl
   have h2:gL s G=l:=by unfold gL;rw [hq];rfl
   obtain ⟨n,h3,h4⟩:=zx6 hq;rw [h1] at hx;rw [h2] at hk hlen;have h5:(A++grp sz eb G)[A.length+n]? =some (.arr v sz (l.map eb)):=by
    rw [Au (by omega),Cs]
    simp [grp,h3]
   refine zH (i:=A.length+n) hf hel hz hby hx hy h5 hfl (by simpa using hlen) fun v'=> ?_
   have h6:(A++grp sz eb G).set (A.length+n) (.arr v' sz (l.map eb++ys.map eb))=A++grp sz eb (zp s (v',l++ys) G):=by
    rw [B9 _ _ (by omega),Cs,h4]
    simp [grp,List.map_set]
   rw [h6];exact hk v'
theorem zmQ [Tracks] {A:List MObj} {G G':Grp β} {s:Str} {sz:Nat} (hn:ANodup G) (hG:alk s G=alk s G'):Ghost e (A++grp sz eb G) e (.arr (gV s G') sz ((gL s G').map eb)::(A++grp sz eb (G.filter fun q=>decide (q.1≠s)))):=by
 cases hq:alk s G with
 |none=>
   have h1:gV s G'= .slice none 0 0:=by unfold gV;rw [<-hG,hq];rfl
   have h2:gL s G'=[]:=by unfold gL;rw [<-hG,hq];rfl
   rw [h1,h2,zc2 hq];exact zJ sz
 |some q=>
   obtain ⟨v,l⟩:=q;have h1:gV s G'=v:=by unfold gV;rw [<-hG,hq];rfl
   have h2:gL s G'=l:=by unfold gL;rw [<-hG,hq];rfl
   rw [h1,h2];refine Ghost.perm ?_;have h3:=((zel hn hq).map fun p=>MObj.arr p.2.1 sz (p.2.2.map eb)).append_left A;refine h3.trans ?_;simp only [Ao,grp];exact Bh
end
end
section
section
variable {κ α γ:Type} [DecidableEq κ]
theorem VisOk.fresh {L E:List (κ×α)} {vis:List Nat} (h:VisOk L vis E) (hn:ANodup L) {j:Nat} {q:κ×α} (hj:L[j]? =some q) (hv:j∉vis):alk q.1 E=none:=by
 rw [zdt]
 intro hm
 obtain ⟨q',h1,h2⟩:=List.mem_map.1 hm;have h3:some q'∈E.map some:=Bw h1;rw [h.eq] at h3;obtain ⟨j',h4,h5⟩:=List.mem_map.1 h3;have e:j'=j:=zok hn (a:=q.1) (by rw [Aj,h5];simp [h2]) (by rw [Aj,hj];rfl);exact hv (e▸h4)
theorem ANodup.perm {A B:Type} {E L:List (A×B)} (hn:ANodup L) (hp:E.Perm L):ANodup E:=(hp.map (fun p:A×B=>p.1)).nodup_iff.2 hn
theorem zv5 {E L:List (κ×α)} (hp:E.Perm L) (hn:ANodup L) (m:κ):alk m E=alk m L:=by
 have hne:ANodup E:=hn.perm hp
 cases h:alk m L with
 |none=>
   rw [zdt] at h⊢;exact fun hm=>h ((hp.map (·.1)).mem_iff.1 hm)
 |some v=>exact (zcX hne).1 (hp.mem_iff.2 ((zcX hn).2 h))
theorem zqn (g:α->γ) (m:κ): ∀(E:List (κ×α)),alk m (E.map fun q=>(q.1,g q.2))=(alk m E).map g
 |[]=>rfl
 |p::r=>by
   have ih:=zqn g m r;simp only [Ao,alk]
   by_cases h:m=p.1
   rw [if_pos h,if_pos h];rfl;rw [if_neg h,if_neg h,ih]
theorem ANodup.map {A B C:Type} (g:B->C) {E:List (A×B)} (h:ANodup E):ANodup (E.map fun q=>(q.1,g q.2)):=by
 unfold ANodup at*;rw [AW];exact h
end
theorem zwA (s:Str): ∀(l:List Str) (k:Int),zce s l k= -1\/(k<=zce s l k/\zce s l k<k+l.length)
 |[],k=> .inl rfl
 |x::r,k=>by
   simp only [zce]
   by_cases h:s=x
   rw [if_pos h];right;simp;omega;rw [if_neg h]
   rcases zwA s r (k+1) with h'|h'
   exact .inl h'
   right;simp only [Ah];omega
theorem ztk {trust:List Str} {n:Int}: ∀(l:List Play) (B:List (Str×Int)),ANodup B->(∀q∈B,0<=q.2/\q.2<trust.length)->ANodup (l.foldl (zd0 trust n) B)/\∀q∈l.foldl (zd0 trust n) B,0<=q.2/\q.2<trust.length
 |[],B,h1,h2=>⟨h1,h2⟩
 |p::r,B,h1,h2=>by
   refine ztk r (zd0 trust n B p) ?_ ?_;unfold zd0;split;exact h1
   split
   exact h1.put;exact h1;unfold zd0;split;exact h2
   rename_i hc
   split
   intro q hq
   rcases zcF hq with rfl|hq
   rcases zwA p.Source trust 0 with h|h
   exfalso;exact hc (.inr (by rw [h];decide))
   dsimp only;omega
   exact h2 q hq;exact h2
theorem znu (l:List Play) (trust:List Str) (n:Int):ANodup (zfm l trust n):=(ztk l [] ANodup.nil (fun q h=>by cases h)).1
theorem zyY {l:List Play} {trust:List Str} {n:Int} {q:Str×Int} (h:q∈zfm l trust n):0<=q.2/\q.2<trust.length:=(ztk l [] ANodup.nil (fun q h=>by cases h)).2 q h
abbrev zs3 (trust:List Str) (E:List (Str×Int)):List (Str×Str):=E.map fun q=>(q.1,trust.getD q.2.toNat [])
theorem zBL {trust:List Str} {L E:List (Str×Int)} {vis:List Nat} (h:VisOk L vis E) (hn:ANodup L) {j:Nat} {q:Str×Int} (hj:L[j]? =some q) (hv:j∉vis):zp q.1 (trust.getD q.2.toNat []) (zs3 trust E)=zs3 trust (E++[q]):=by
 rw [zk3]
 simp
 have:=zqn (fun k:Int=>trust.getD k.toNat []) q.1 E;rw [this,h.fresh hn hj hv];rfl
theorem zDg {l:List Play} {trust:List Str} {n:Int} {E:List (Str×Int)} (hp:E.Perm (zfm l trust n)) (m:Str):alk m (zs3 trust E)=zjx l trust n m:=by
 have:=zqn (fun k:Int=>trust.getD k.toNat []) m E;rw [this,zv5 hp (znu _ _ _)];rfl
theorem zAh {l:List Play} {trust:List Str} {n:Int} {E:List (Str×Int)} (hp:E.Perm (zfm l trust n)):ANodup (zs3 trust E):=
 ANodup.map (fun k:Int=>trust.getD k.toNat []) ((znu _ _ _).perm hp)
/-! groups of statistics-/
structure GOk (E:List (Of2×Int)) (G:Grp StatS):Prop where
 nd:ANodup G
 raw: ∀s,gL s G=za0 E s
theorem GOk.nil:GOk [] []:=⟨ANodup.nil,fun s=>rfl⟩
theorem zoN (E:List (Of2×Int)) (q:Of2×Int) (s:Str):za0 (E++[q]) s=za0 E s++if q.1.1=s/\q.2≠0 then [⟨q.1.2,q.2⟩] else []:=by
 unfold za0;rw [AX,Ay,AO]
 by_cases h:q.1.1=s/\q.2≠0
 rw [if_pos h,if_pos (by simpa using h)];rfl;rw [if_neg h,if_neg (by simpa using h)];rfl
theorem GOk.skip {E:List (Of2×Int)} {G:Grp StatS} (h:GOk E G) {q:Of2×Int} (hq:q.2=0):GOk (E++[q]) G:=
 ⟨h.nd,fun s=>by rw [zoN,if_neg (by simp [hq]),AV,h.raw]⟩
theorem zFS (s t:Str) (v:Value) (l:List StatS) (G:Grp StatS):gL t (zp s (v,l) G)=if t=s then l else gL t G:=by
 unfold gL;rw [za3];split<;>rfl
theorem GOk.put {E:List (Of2×Int)} {G:Grp StatS} (h:GOk E G) {q:Of2×Int} (hq: ¬q.2=0) (v:Value):GOk (E++[q]) (zp q.1.1 (v,gL q.1.1 G++[⟨q.1.2,q.2⟩]) G):=by
 refine ⟨h.nd.put,fun s=> ?_⟩
 rw [zFS,zoN]
 by_cases hs:s=q.1.1
 rw [if_pos hs,if_pos ⟨hs.symm,hq⟩,hs,h.raw];rw [if_neg hs,if_neg (fun e=>hs e.1.symm),AV,h.raw]
theorem zmL (E:List (Of2×Int)) (s:Str):(za0 E s).length<=E.length:=by
 unfold za0;rw [Af];exact AK _ _
theorem zoM {E c:List (Of2×Int)} (h:E.Perm c) (s:Str):(za0 E s).Perm (za0 c s):=(h.filter _).map _
theorem zuW {c:List (Of2×Int)} (h:ANodup c) (s:Str) {x y:StatS} (hx:x∈za0 c s) (hy:y∈za0 c s) (e:x.Name=y.Name):x=y:=by
 unfold za0 at hx hy;obtain ⟨p,hp,rfl⟩:=List.mem_map.1 hx;obtain ⟨p',hp',rfl⟩:=List.mem_map.1 hy;have h1:=List.mem_filter.1 hp;have h2:=List.mem_filter.1 hp';have k1:p.1.1=s:=by have:=h1.2;simp only [AZ,beq_iff_eq] at this;exact this.1
 have k2:p'.1.1=s:=by have:=h2.2;simp only [AZ,beq_iff_eq] at this;exact this.1
 have k3:p.1=p'.1:=Prod.ext (k1.trans k2.symm) e;have a1:=(zcX h (x:=p.1) (v:=p.2)).1 h1.1;have a2:=(zcX h (x:=p'.1) (v:=p'.2)).1 h2.1;rw [<-k3,a1] at a2;have k4:p.2=p'.2:=As a2;have k5:p.1.2=p'.1.2:=e;rw [k4,k5]
theorem zxs {E c:List (Of2×Int)} (hE:E.Perm c) (hn:ANodup c) {G:Grp StatS} (hG:GOk E G) {s:Str} {l':List StatS} (hp:l'.Perm (gL s G)) (hw:l'.Pairwise fun a b=> ¬zaU b a<0):l'=zck c s:=by
 unfold zck;rw [hG.raw] at hp;exact zdV zcn (fun x y hx hy e=>zuW hn s hx hy (zbi.1 e)) (hp.trans (zoM hE s)) hw
theorem zww {E c:List (Of2×Int)} (hE:E.Perm c) {G:Grp StatS} (hG:GOk E G) (s:Str):(gL s G).length=(za0 c s).length:=by
 rw [hG.raw];exact (zoM hE s).length_eq
abbrev ziR (G:Grp StatS) (N:List Str):Grp StatS:=G.filter fun q=> !(N.contains q.1)
theorem zC3 (G:Grp StatS):ziR G []=G:=by unfold ziR;rw [Ce];simp
theorem zC2 {G:Grp StatS} {N:List Str} {s:Str} (h:s∉N):alk s (ziR G N)=alk s G:=by
 have:=zko (s:=s) (p:=fun k=> !(N.contains k)) (G:=G);unfold ziR;rw [this,if_pos (by simpa using h)]
theorem zBz (G:Grp StatS) (N:List Str) (s:Str):(ziR G N).filter (fun q=>decide (q.1≠s))=ziR G (N++[s]):=by
 unfold ziR;rw [List.filter_filter];refine List.filter_congr fun q _=> ?_
 by_cases h1:q.1∈N<;>by_cases h2:q.1=s<;>simp [h1,h2]
theorem zz7 {G:Grp StatS} {N:List Str} (h:ANodup G):ANodup (ziR G N):=by
 unfold ANodup at*;exact h.sublist ((BL).map _)
theorem zAg {l:List Str} (hn:l.Nodup) {k:Nat} {s:Str} (h:l[k]? =some s):s∉l.take k:=by
 intro hm
 obtain ⟨j,hj⟩:=A5 hm;have hjk:j<k:=by have:=zn hj;simp at this;omega
 rw [AD hjk] at hj;have:=zok hn hj h
 omega
theorem ziS (l:List Str):(zaB l).Perm l:=A2 _ _
theorem zzy {c:List (Of2×Int)} {S:List Str} {q:Of2×Int} (hq:q∈c) (ho:out q.2 (-100000) 100000=true):zgs c S=true:=by
 unfold zgs;rw [A1];left;rw [A6];exact ⟨q,hq,ho⟩
theorem zzz {c:List (Of2×Int)} {S:List Str} {s:Str} (hs:s∈S) (ho:40<(za0 c s).length):zgs c S=true:=by
 unfold zgs;rw [A1];right;rw [A6];exact ⟨s,hs,by simpa using ho⟩
theorem zAR {c:List (Of2×Int)} {S:List Str} (h1: ∀q∈c,out q.2 (-100000) 100000=false) (h2: ∀s∈S,¬40<(za0 c s).length):zgs c S=false:=by
 unfold zgs;rw [A4]
 constructor
 rw [B6];intro q hq;rw [h1 q hq];simp;rw [B6];intro s hs;simpa using h2 s hs
/-! lines-/
theorem zhZ {s t:Str} {S:List Str}:t∈zbW s S↔t=s\/t∈S:=by
 unfold zbW
 by_cases h:S.contains s=true
 rw [if_pos h];have:s∈S:=by simpa using h
 constructor
 exact .inr;rintro (rfl|h);exact this;exact h;rw [if_neg h];simp;exact Or.comm
theorem zkJ {s:Str} {S:List Str} (h:S.Nodup):(zbW s S).Nodup:=by
 unfold zbW
 by_cases hc:S.contains s=true
 rw [if_pos hc];exact h;rw [if_neg hc];exact List.nodup_append.2 ⟨h,by simp,fun a ha b hb=>by simp at hb;subst hb;intro e;subst e;simp at hc;exact hc ha⟩
theorem zyK (s:Str) (S:List Str):(zbW s S).length<=S.length+1:=by
 unfold zbW;split
 omega
 simp
structure LnOk (q:LnS) (n:Nat):Prop where
 c:ANodup q.c
 S:q.S.Nodup
 k: ∀s∈q.S,s.length<=40
 cl:q.c.length<=n
 Sl:q.S.length<=n
 bd: ∀e∈q.c,-(100000*(n:Int))<=e.2/\e.2<=100000*(n:Int)
theorem LnOk.val {q:LnS} {n:Nat} (h:LnOk q n) (s:Of2): -(100000*(n:Int))<=(alk s q.c).getD 0/\(alk s q.c).getD 0<=100000*(n:Int):=by
 cases hq:alk s q.c with
 |none=>simp;omega
 |some v=>exact h.bd _ (zbs hq)
theorem LnOk.put {q:LnS} {n:Nat} (h:LnOk q n) {p:Play} (hp:playFault p=0):LnOk (zvM q p) (n+1):=by
 obtain ⟨_,_,_,_,⟨_,k2,_⟩,hb,_⟩:=zeC hp;have hv:=h.val (p.Player,p.Stat);refine ⟨h.c.put,zkJ h.S,fun s hs=> ?_,An (zia _ _ _) (by have:=h.cl;omega),An (zyK _ _) (by have:=h.Sl;omega),fun e he=> ?_⟩
 rcases zhZ.1 hs with rfl|hs
 exact zyr k2;exact h.k s hs
 rcases zcF he with rfl|he
 dsimp only;omega
 have:=h.bd e he;omega
theorem LnOk.up {q:LnS} {n:Nat} (h:LnOk q n):LnOk q (n+1):=
 ⟨h.c,h.S,h.k,by have:=h.cl;omega,by have:=h.Sl;omega,fun e he=>by have:=h.bd e he;omega⟩
theorem zyv {l:List Play} {trust:List Str} {week n:Int}: ∀(m:List Play) (q:LnS) (i:Nat),LnOk q i->(∀x∈m,playFault x=0)->LnOk (m.foldl (ze9 l trust week n) q) (i+m.length)
 |[],q,i,h,_=>h
 |x::m,q,i,h,hm=>by
   have h1:LnOk (ze9 l trust week n q x) (i+1):=by
    unfold ze9;split;exact h.put (hm x Ai);exact h.up
   have:=zyv (l:=l) (trust:=trust) (week:=week) (n:=n) m _ (i+1) h1 fun y hy=>hm y (Al _ hy)
   rw [Bv,Ah,show i+(m.length+1)=i+1+m.length by omega];exact this
theorem zog {l m:List Play} {trust:List Str} {week n:Int} (hm: ∀x∈m,playFault x=0):LnOk (zaI l trust week n m) m.length:=by
 have:=zyv (l:=l) (trust:=trust) (week:=week) (n:=n) m ⟨[],[]⟩ 0 ⟨ANodup.nil,Bb,(fun s h=>by cases h),Ae _,Ae _,fun e h=>by cases h⟩ hm;rw [Bk] at this;exact this
theorem zCp {l:List Play} {O:List (Str×Str)} {trust:List Str} {week n:Int} {x:Play} (hO: ∀m,alk m O=zjx l trust n m)
 (h:(((n<x.At\/¬x.Week=week)\/0<x.Undo)\/(alk (x.Source,x.No) (zn5 l n)).getD false=true)\/¬(alk x.Match O).getD []=x.Source):zhC l trust week n x=false:=by
 rw [hO] at h;simp only [zhC,zjV,Bool.not_eq_false',A1,decide_eq_true_eq,bne_iff_ne,ne_eq];exact h
theorem zCq {l:List Play} {O:List (Str×Str)} {trust:List Str} {week n:Int} {x:Play} (hO: ∀m,alk m O=zjx l trust n m)
 (h:(((x.At<=n/\x.Week=week)/\x.Undo<=0)/\(alk (x.Source,x.No) (zn5 l n)).getD false=false)/\(alk x.Match O).getD []=x.Source):zhC l trust week n x=true:=by
 rw [hO] at h;obtain ⟨⟨⟨⟨h1,h2⟩,h3⟩,h4⟩,h5⟩:=h;simp only [zhC,zjV,h4,h5,h2,Ct,A4,decide_eq_false_iff_not,bne_self_eq_false,and_true]
 omega
def zmS (l:List Play) (t:List Str) (week n:Int):Int:=if orI [zb7 l,zcB t] !=0 then orI [zb7 l,zcB t] else if !(zar week)|| !(zN n) then 1 else zf7 l t week n
def zmT (l:List Play) (t:List Str) (week n:Int):List LineS:=if orI [zb7 l,zcB t] !=0 then [] else if !(zar week)|| !(zN n) then [] else zdN l t week n
theorem okPT {l:List Play} {t:List Str} (h:orI [zb7 l,zcB t]=0):zb7 l=0/\zcB t=0:=by
 rw [zdx] at h;split at h
 contradiction
 rename_i h1;exact ⟨by simpa using h1,h⟩
end
section
structure MendS where
 Player:Str
 Week:Int
 Stat:Str
 Count:Int
 At:Int
 Version:Int
 By:Str
abbrev zbc (x:MendS):HVal:= .agg [.str x.Player,.int .i64 x.Week,.str x.Stat,.int .i64 x.Count,.int .i64 x.At,.int .i64 x.Version,.str x.By]
abbrev zcq (l:List MendS):HVal:= .slice 7 (l.map zbc)
abbrev Plc:=Str×Int
abbrev zhp (x:Plc):HVal:= .agg [.str x.1,.int .i64 x.2]
def zfq:MendS:=⟨[],0,[],0,0,0,[]⟩
def zeK:StatS:=⟨[],0⟩
def zkC:LineS:=⟨[],0,[]⟩
def zfn (a b:MendS):Int:=orI [zY a.Player b.Player,zai a.Week b.Week,zY a.Stat b.Stat,zai a.Version b.Version]
def zco (a b:LineS):Int:=orI [zY a.Player b.Player,zai a.Week b.Week]
section
variable {α:Type}
def za7 (f:α->Int) (c:α->α->Int) (d:α) (l:List α):Nat->List α->Int
 |_,[]=>0
 |k,x::r=>if f x≠0 then f x else if 0<k/\c x (l.getD (k-1) d)<=0 then 7 else za7 f c d l (k+1) r
theorem zlk {f:α->Int} {c:α->α->Int} {d:α} {l:List α} {k:Nat} {x:α} {r:List α} (h1:f x=0) (h2:0<k->¬c x (l.getD (k-1) d)<=0):za7 f c d l k (x::r)=za7 f c d l (k+1) r:=by
 rw [za7,if_neg (by simp [h1]),if_neg (fun h=>h2 h.1 h.2)]
theorem zpu {f:α->Int} {c:α->α->Int} {d:α} {l:List α} {k:Nat} {x:α} {r:List α} (h1:f x≠0):za7 f c d l k (x::r)=f x:=by
 rw [za7,if_pos h1]
theorem zpv {f:α->Int} {c:α->α->Int} {d:α} {l:List α} {k:Nat} {x:α} {r:List α} (h1:f x=0) (h0:0<k) (h2:c x (l.getD (k-1) d)<=0):za7 f c d l k (x::r)=7:=by
 rw [za7,if_neg (by simp [h1]),if_pos ⟨h0,h2⟩]
theorem zim {f:α->Int} {c:α->α->Int} {d:α} {l:List α}: ∀(r:List α) (k:Nat),za7 f c d l k r=0->∀x∈r,f x=0
 |[],_,_,x,hx=>by cases hx
 |p::r,k,h,x,hx=>by
   rw [za7] at h
   split at h
   contradiction
   split at h
   omega
   rename_i h1 _
   rcases List.mem_cons.1 hx with rfl|hx
   simpa using h1
   exact zim r (k+1) h x hx
theorem zuj {f:α->Int} {c:α->α->Int} {d:α} (hc:Cmp c fun _=>True): ∀(r:List α) (l:List α) (k:Nat),l.drop k=r->k<=l.length->(l.take k).Pairwise (fun a b=>c a b<0)->za7 f c d l k r=0->l.Pairwise (fun a b=>c a b<0)
 |[],l,k,hd,hk,hp,_=>by
   have h1:l.length<=k:=by simpa using hd
   rw [Bz h1] at hp;exact hp
 |x::r,l,k,hd,hk,hp,h=>by
   rw [za7] at h
   split at h
   contradiction
   split at h
   omega
   rename_i h2
   have hx:l[k]? =some x:=by have:=congrArg (fun q:List α=>q[0]?) hd;simpa using this
   have hlt:=zn hx;refine zuj hc r l (k+1) (by rw [<-BD (i:=1),hd];rfl) hlt ?_ h
   rw [zW hx];refine List.pairwise_append.2 ⟨hp,List.pairwise_singleton _ _,fun a ha b hb=> ?_⟩
   obtain rfl:=List.mem_singleton.1 hb;obtain ⟨i,hi⟩:=A5 ha;have hik:i<k:=by have:=zn hi;rw [Az] at this;omega
   have hy:l[k-1]? =some (l.getD (k-1) d):=getD_some (by omega);have h3:c (l.getD (k-1) d) b<0:=by
    rw [hc.flip _ _ trivial trivial];have: ¬c b (l.getD (k-1) d)<=0:=fun e=>h2 ⟨by omega,e⟩
    omega
   rcases AC i (k-1) with hlt'|hge
   have hyk:(l.take k)[k-1]? =some (l.getD (k-1) d):=by rw [AD (by omega)];exact hy
   have h4:c a (l.getD (k-1) d)<0:=by
    have hi2:=zn hi;have hk2:=zn hyk;have:=List.pairwise_iff_getElem.1 hp i (k-1) hi2 hk2 hlt';rw [Aa hi2] at hi;rw [Aa hk2] at hyk;rw [As hi,As hyk] at this;exact this
   have h5:=hc.trans a (l.getD (k-1) d) b trivial trivial trivial (by omega) (by omega);have f1:=hc.flip a (l.getD (k-1) d) trivial trivial;have f2:=hc.flip (l.getD (k-1) d) b trivial trivial;have f3:=hc.flip a b trivial trivial;have f4:=hc.flip b a trivial trivial
   rcases Int.lt_or_eq_of_le h5 with e|e
   exact e
   exfalso
   have:=hc.trans b a (l.getD (k-1) d) trivial trivial trivial (by omega) (by omega)
   omega
   have e:i=k-1:=by omega
   rw [e,AD (by omega),hy] at hi;rw [<-As hi];exact h3
theorem zky {f:α->Int} {c:α->α->Int} {d:α} (hc:Cmp c fun _=>True) {l:List α} (h:za7 f c d l 0 l=0):l.Pairwise (fun a b=>c a b<0):=
 zuj hc l l 0 rfl (Ad _) (by simp) h
theorem zsg {f:α->Int} {c:α->α->Int} {d:α} (hc:Cmp c fun _=>True) {l:List α} (hf: ∀x∈l,f x=0) (hp:l.Pairwise (fun a b=>c a b<0)): ∀(r:List α) (k:Nat),l.drop k=r->za7 f c d l k r=0
 |[],_,_=>rfl
 |x::r,k,hd=>by
   have hx:l[k]? =some x:=by have:=congrArg (fun q:List α=>q[0]?) hd;simpa using this
   have hlt:=zn hx;rw [zlk (hf x (Ab hx)) (fun h0 h=> ?_)];exact zsg hc hf hp r (k+1) (by rw [<-BD (i:=1),hd];rfl);have hy:l[k-1]? =some (l.getD (k-1) d):=getD_some (by omega);have hk1:k-1<l.length:=by omega
   have:=List.pairwise_iff_getElem.1 hp (k-1) k hk1 hlt (by omega);rw [Aa hlt] at hx;rw [Aa hk1] at hy;rw [As hx,As hy] at this;have f1:=hc.flip (l.getD (k-1) d) x trivial trivial
   omega
theorem zek {c d:α->α->Int} (hc:Cmp c fun _=>True) (hd:Cmp d fun _=>True):Cmp (fun a b=>if c a b≠0 then c a b else d a b) fun _=>True where
 flip x y _ _:=by
  have f1:=hc.flip x y trivial trivial;have f2:=hc.flip y x trivial trivial;have f3:=hd.flip x y trivial trivial
  by_cases h:c x y=0
  have h':c y x=0:=by omega
  rw [if_neg (by simp [h]),if_neg (by simp [h'])];exact f3;have h':c y x≠0:=by omega
  rw [if_pos h,if_pos h'];exact f1
 trans x y z _ _ _ h1 h2:=by
  have fxy:=hc.flip x y trivial trivial;have fyx:=hc.flip y x trivial trivial;have fyz:=hc.flip y z trivial trivial;have fzy:=hc.flip z y trivial trivial;have fxz:=hc.flip x z trivial trivial;have fzx:=hc.flip z x trivial trivial;have a1:c x y<=0:=by split at h1<;>omega
  have a2:c y z<=0:=by split at h2<;>omega
  have a3:=hc.trans x y z trivial trivial trivial a1 a2
  by_cases h:c x z=0
  have b1:=hc.trans z x y trivial trivial trivial (by omega) a1;have b2:=hc.trans y z x trivial trivial trivial a2 (by omega);have e1:c x y=0:=by omega
  have e2:c y z=0:=by omega
  rw [if_neg (by simp [e1])] at h1;rw [if_neg (by simp [e2])] at h2;rw [if_neg (by simp [h])];exact hd.trans x y z trivial trivial trivial h1 h2;rw [if_pos h];exact a3
theorem zg9 (f:α->Str):Cmp (fun a b=>zY (f a) (f b)) fun _=>True where
 flip x y _ _:=by rw [zfG (f x) (f y)];omega
 trans x y z _ _ _ h1 h2:=ziF h1 h2
theorem zge (f:α->Int):Cmp (fun a b=>zai (f a) (f b)) fun _=>True where
 flip x y _ _:=by rw [zl0 (f x) (f y)];omega
 trans x y z _ _ _ h1 h2:=by rw [zm7] at*;omega
theorem zE8 (a:Int):orI [a]=a:=by
 by_cases h:a=0<;>simp [orI,h]
theorem zfT (a b:Int) (r:List Int):orI (a::b::r)=if a≠0 then a else orI (b::r):=by rw [orI]
end
theorem zib:Cmp zfn fun _=>True:=by
 have h:=zek (zg9 MendS.Player) (zek (zge MendS.Week) (zek (zg9 MendS.Stat) (zge MendS.Version)));have e:zfn=fun a b=>if zY a.Player b.Player≠0 then zY a.Player b.Player else if zai a.Week b.Week≠0 then zai a.Week b.Week else if zY a.Stat b.Stat≠0 then zY a.Stat b.Stat else zai a.Version b.Version:=by
  funext a b;unfold zfn;rw [zfT,zfT,zdx]
 rw [e];exact h
theorem zfM:Cmp zco fun _=>True:=by
 have h:=zek (zg9 LineS.Player) (zge LineS.Week);have e:zco=fun a b=>if zY a.Player b.Player≠0 then zY a.Player b.Player else zai a.Week b.Week:=by
  funext a b;unfold zco;rw [zdx]
 rw [e];exact h
theorem zyA {a b:Int} (h:(if a≠0 then a else b)=0):a=0/\b=0:=by
 split at h
 contradiction
 rename_i h1;exact ⟨by simpa using h1,h⟩
theorem zlV {a b:LineS}:zco a b=0↔a.Player=b.Player/\a.Week=b.Week:=by
 unfold zco;rw [zdx]
 constructor
 intro h
 obtain ⟨h1,h2⟩:=zyA h;exact ⟨zbi.1 h1,zcH.1 h2⟩;rintro ⟨h1,h2⟩;rw [if_neg (by simp [zbi.2 h1]),zcH.2 h2]
theorem zwG (a b:Str):(Op.bytesLess a b||a==b)=decide (zY a b<=0):=by
 rw [AE,decide_eq_true_iff,zkQ]
 rcases zcR a b with h|h|h
 simp [h,zcQ h]
 subst h;simp [zaJ];have hne:a≠b:=fun e=>by subst e;rw [zaJ] at h;cases h
 simp [h,zcQ h,hne]
/-! what is wrong-/
def zaS (x:MendS):Int:=
 if !(key x.Player)|| !(key x.Stat)|| !(key x.By) then 5
 else if !(zar x.Week)||out x.Count (-100000) 100000|| !(zN x.At)||out x.Version 1 1000 then 1 else 0
def zbY (m:List MendS):Int:=if 500<m.length then 2 else za7 zaS zfn zfq m 0 m
def zaj (s:StatS):Int:=if !(key s.Name) then 5 else if out s.Count (-100000) 100000||decide (s.Count=0) then 1 else 0
def zbr (l:List StatS):Int:=if 40<l.length then 2 else za7 zaj zaU zeK l 0 l
def z8 (x:LineS):Int:=if !(key x.Player) then 5 else if !(zar x.Week) then 1 else zbr x.Stats
def zap (l:List LineS):Int:=if 30000<l.length then 2 else za7 z8 zco zkC l 0 l
theorem zwR {x:MendS} (h:zaS x=0):key x.Player=true/\key x.Stat=true/\zar x.Week=true/\(-100000<=x.Count/\x.Count<=100000)/\zN x.At=true:=by
 unfold zaS at h
 split at h
 omega
 split at h
 omega
 rename_i h1 h2
 simp only [A1,Ct,not_or,Bool.not_eq_false,Ca] at h1 h2;exact ⟨h1.1.1,h1.1.2,h2.1.1.1,zhK h2.1.1.2,h2.1.2⟩
theorem zuL {m:List MendS} (h:zbY m=0):m.length<=500/\(∀x∈m,zaS x=0)/\m.Pairwise (fun a b=>zfn a b<0):=by
 unfold zbY at h
 split at h
 omega
 exact ⟨by omega,zim m 0 h,zky zib h⟩
theorem zfB {s:StatS}:zaj s=0↔key s.Name=true/\(-100000<=s.Count/\s.Count<=100000)/\s.Count≠0:=by
 unfold zaj
 constructor
 intro h
 split at h
 omega
 split at h
 omega
 rename_i h1 h2
 simp only [A1,not_or,Ca,decide_eq_true_eq] at h2;exact ⟨by simpa using h1,zhK h2.1,h2.2⟩;rintro ⟨h1,h2,h3⟩;have h4:out s.Count (-100000) 100000=false:=by simp [out];omega
 rw [h1,h4];simp [h3]
theorem zqi {l:List StatS} (h:zbr l=0):l.length<=40/\(∀x∈l,zaj x=0)/\l.Pairwise (fun a b=>zaU a b<0):=by
 unfold zbr at h
 split at h
 omega
 exact ⟨by omega,zim l 0 h,zky zcn h⟩
theorem zu9 {l:List StatS} (h1:l.length<=40) (h2: ∀x∈l,zaj x=0) (h3:l.Pairwise (fun a b=>zaU a b<0)):zbr l=0:=by
 unfold zbr;rw [if_neg (by omega)];exact zsg zcn h2 h3 l 0 rfl
theorem zez {x:LineS}:z8 x=0↔key x.Player=true/\zar x.Week=true/\zbr x.Stats=0:=by
 unfold z8
 constructor
 intro h
 split at h
 omega
 split at h
 omega
 rename_i h1 h2
 exact ⟨by simpa using h1,by simpa using h2,h⟩;rintro ⟨h1,h2,h3⟩;rw [h1,h2];simp [h3]
theorem zeb {l:List LineS} (h:zap l=0):l.length<=30000/\(∀x∈l,z8 x=0)/\l.Pairwise (fun a b=>zco a b<0):=by
 unfold zap at h
 split at h
 omega
 exact ⟨by omega,zim l 0 h,zky zfM h⟩
theorem zsy {l:List LineS} (h1:l.length<=30000) (h2: ∀x∈l,z8 x=0) (h3:l.Pairwise (fun a b=>zco a b<0)):zap l=0:=by
 unfold zap;rw [if_neg (by omega)];exact zsg zfM h2 h3 l 0 rfl
/-! as a walk tells it-/
theorem zmc {m r:List MendS} {k:Nat} {x:MendS} {c:Int} (hl: ¬500<m.length) (hg:za7 zaS zfn zfq m 0 m=za7 zaS zfn zfq m k (x::r)) (hc:c≠0) (hf:zaS x=c):c=zbY m:=by
 rw [zbY,if_neg hl,hg,zpu (by rw [hf];exact hc),hf]
theorem zuM {m r:List MendS} {k:Nat} {x:MendS} (hl: ¬500<m.length) (hg:za7 zaS zfn zfq m 0 m=za7 zaS zfn zfq m k (x::r)) (hf:zaS x=0) (h0:0<k) (h:zfn x (m.getD (k-1) zfq)<=0):7=zbY m:=by
 rw [zbY,if_neg hl,hg,zpv hf h0 h]
theorem zej {l r:List StatS} {k:Nat} {x:StatS} {c:Int} (hl: ¬40<l.length) (hg:za7 zaj zaU zeK l 0 l=za7 zaj zaU zeK l k (x::r)) (hc:c≠0) (hf:zaj x=c):c=zbr l:=by
 rw [zbr,if_neg hl,hg,zpu (by rw [hf];exact hc),hf]
theorem zjZ {l r:List StatS} {k:Nat} {x:StatS} (hl: ¬40<l.length) (hg:za7 zaj zaU zeK l 0 l=za7 zaj zaU zeK l k (x::r)) (hf:zaj x=0) (h0:0<k) (h:(Op.bytesLess x.Name (l.getD (k-1) zeK).Name||x.Name==(l.getD (k-1) zeK).Name)=true):7=zbr l:=by
 rw [zwG,decide_eq_true_iff] at h;rw [zbr,if_neg hl,hg,zpv hf h0 h]
theorem zAd {l r:List StatS} {k:Nat} {x:StatS} (hf:zaj x=0) (h:0<k->(Op.bytesLess x.Name (l.getD (k-1) zeK).Name||x.Name==(l.getD (k-1) zeK).Name)=false):za7 zaj zaU zeK l k (x::r)=za7 zaj zaU zeK l (k+1) r:=
 zlk hf fun h0 hle=>by
  have:=h h0;rw [zwG,decide_eq_false_iff_not] at this;exact this hle
theorem zbL {l r:List LineS} {k:Nat} {x:LineS} {c:Int} (hl: ¬30000<l.length) (hg:za7 z8 zco zkC l 0 l=za7 z8 zco zkC l k (x::r)) (hc:c≠0) (hf:z8 x=c):c=zap l:=by
 rw [zap,if_neg hl,hg,zpu (by rw [hf];exact hc),hf]
theorem zis {l r:List LineS} {k:Nat} {x:LineS} (hl: ¬30000<l.length) (hg:za7 z8 zco zkC l 0 l=za7 z8 zco zkC l k (x::r)) (hf:z8 x=0) (h0:0<k) (h:zco x (l.getD (k-1) zkC)<=0):7=zap l:=by
 rw [zap,if_neg hl,hg,zpv hf h0 h]
end
section
open Op
structure PlayerS where
 Key:Str
 Name:Str
 Positions:List Str
structure StintS where
 Player:Str
 Club:Str
 Week:Int
structure HealthS where
 Player:Str
 From:Int
 To:Int
 Kind:Int
structure FixS where
 Week:Int
 At:Int
 Home:Str
 Away:Str
structure RuleS where
 Key:Str
 Stat:Str
 Position:Str
 Kind:Int
 Many:Int
 Num:Int
 Den:Int
structure SlotS where
 Key:Str
 Positions:List Str
structure BoundS where
 Most:Int
 Hurt:Int
 Adds:Int
 Hold:Int
structure MoveS where
 At:Int
 Kind:Int
 Team:Str
 Player:Str
structure GameS where
 Week:Int
 Home:Str
 Away:Str
 Played:Bool
 FNum:Int
 FDen:Int
 ONum:Int
 ODen:Int
structure ChoiceS where
 Team:Str
 Week:Int
 At:Int
 Players:List Str
 Captain:Str
structure LeagueS where
 Players:List PlayerS
 Stints:List StintS
 Fixtures:List FixS
 Rules:List RuleS
 Slots:List SlotS
 Bounds:BoundS
 Teams:List Str
 Games:List GameS
 Breaks:List Int
 Trust:List Str
 Start:Int
def HasAB (T:List Str):Prop:=T.contains [116,97]=true/\T.contains [116,98]=true
theorem HasAB.app {T:List Str} (h:HasAB T) (U:List Str):HasAB (T++U):=by
 unfold HasAB at*;simp only [BI,decide_eq_true_eq,List.mem_append] at*;exact ⟨.inl h.1,.inl h.2⟩
abbrev zeU (x:PlayerS):HVal:= .agg [.str x.Key,.str x.Name,eSs x.Positions]
abbrev zbp (l:List PlayerS):HVal:= .slice 3 (l.map zeU)
abbrev zdM (x:StintS):HVal:= .agg [.str x.Player,.str x.Club,.int .i64 x.Week]
abbrev zgf (l:List StintS):HVal:= .slice 3 (l.map zdM)
abbrev zc1 (x:HealthS):HVal:= .agg [.str x.Player,.int .i64 x.From,.int .i64 x.To,.int .i64 x.Kind]
abbrev zde (l:List HealthS):HVal:= .slice 4 (l.map zc1)
abbrev zbl (x:FixS):HVal:= .agg [.int .i64 x.Week,.int .i64 x.At,.str x.Home,.str x.Away]
abbrev znW (l:List FixS):HVal:= .slice 4 (l.map zbl)
abbrev zl1 (x:RuleS):HVal:= .agg [.str x.Key,.str x.Stat,.str x.Position,.int .i64 x.Kind,.int .i64 x.Many,.int .i64 x.Num,.int .i64 x.Den]
abbrev zfv (l:List RuleS):HVal:= .slice 7 (l.map zl1)
abbrev zcm (x:SlotS):HVal:= .agg [.str x.Key,eSs x.Positions]
abbrev zgH (l:List SlotS):HVal:= .slice 2 (l.map zcm)
abbrev zet (x:BoundS):HVal:= .agg [.int .i64 x.Most,.int .i64 x.Hurt,.int .i64 x.Adds,.int .i64 x.Hold]
abbrev zdD (x:MoveS):HVal:= .agg [.int .i64 x.At,.int .i64 x.Kind,.str x.Team,.str x.Player]
abbrev zcA (l:List MoveS):HVal:= .slice 4 (l.map zdD)
abbrev zbb (x:GameS):HVal:= .agg [.int .i64 x.Week,.str x.Home,.str x.Away,.bool x.Played,.int .i64 x.FNum,.int .i64 x.FDen,.int .i64 x.ONum,.int .i64 x.ODen]
abbrev zm8 (l:List GameS):HVal:= .slice 8 (l.map zbb)
abbrev zX (x:ChoiceS):HVal:= .agg [.str x.Team,.int .i64 x.Week,.int .i64 x.At,eSs x.Players,.str x.Captain]
abbrev zd1 (l:List ChoiceS):HVal:= .slice 5 (l.map zX)
abbrev zx9 (g:LeagueS):List HVal:=[zbp g.Players,zgf g.Stints,znW g.Fixtures,zfv g.Rules,zgH g.Slots,.int .i64 g.Bounds.Most,.int .i64 g.Bounds.Hurt,.int .i64 g.Bounds.Adds,.int .i64 g.Bounds.Hold,eSs g.Teams,zm8 g.Games,eIs g.Breaks,eSs g.Trust,.int .i64 g.Start]
abbrev zcj (g:LeagueS):HVal:= .agg (zx9 g)
def zeX:PlayerS:=⟨[],[],[]⟩
def zga:StintS:=⟨[],[],0⟩
def zhe:HealthS:=⟨[],0,0,0⟩
def zmH:FixS:=⟨0,0,[],[]⟩
def zmf:RuleS:=⟨[],[],[],0,0,0,0⟩
def zfr:SlotS:=⟨[],[]⟩
def zkD:MoveS:=⟨0,0,[],[]⟩
def ze3:GameS:=⟨0,[],[],false,0,0,0,0⟩
def zdU:ChoiceS:=⟨[],0,0,[],[]⟩
/-! lists looked through element by element,each with the one ahead-/
section
variable {α:Type}
def za9 (g:Nat->α->α->Int) (d:α) (l:List α):Nat->List α->Int
 |_,[]=>0
 |k,x::r=>if g k x (l.getD (k-1) d)≠0 then g k x (l.getD (k-1) d) else za9 g d l (k+1) r
def zff (n:Nat) (g:Nat->α->α->Int) (d:α) (l:List α):Int:=if n<l.length then 2 else za9 g d l 0 l
variable {g:Nat->α->α->Int} {d:α} {l r:List α} {k n:Nat} {x:α} {e:Int}
theorem za6 (h:g k x (l.getD (k-1) d)=0):za9 g d l k (x::r)=za9 g d l (k+1) r:=by rw [za9,if_neg (fun q=>q h)]
theorem zbn (h:n<l.length):2=zff n g d l:=by rw [zff,if_pos h]
theorem zba (hn: ¬n<l.length) (hg:za9 g d l 0 l=za9 g d l l.length []):0=zff n g d l:=by rw [zff,if_neg hn,hg];rfl
theorem zt (hn: ¬n<l.length) (hg:za9 g d l 0 l=za9 g d l k (x::r)) (he:g k x (l.getD (k-1) d)=e) (h0:e≠0):e=zff n g d l:=by
 rw [zff,if_neg hn,hg,za9,if_pos (by rw [he];exact h0),he]
theorem zwh: ∀{r:List α} {k:Nat},l.drop k=r->za9 g d l k r=0->∀(i:Nat) (x:α),k<=i->l[i]? =some x->g i x (l.getD (i-1) d)=0
 |[],k,hd,_,i,x,hi,hx=>by
   have h1:l.length<=k:=by simpa using hd
   have:=zn hx
   omega
 |y::r,k,hd,h,i,x,hi,hx=>by
   rw [za9] at h
   split at h
   contradiction
   rename_i h0
   rcases Nat.eq_or_lt_of_le hi with e|e
   subst e;have:l[k]? =some y:=by have:=congrArg (fun q:List α=>q[0]?) hd;simpa using this
   rw [this] at hx;cases hx
   simpa using h0
   exact zwh (by rw [<-BD (i:=1),hd];rfl) h i x e hx
theorem zhf (h:zff n g d l=0):l.length<=n/\∀(i:Nat) (x:α),l[i]? =some x->g i x (l.getD (i-1) d)=0:=by
 unfold zff at h
 split at h
 contradiction
 exact ⟨by omega,fun i x hx=>zwh (k:=0) rfl h i x (Ad _) hx⟩
end
/-! what is wrong-/
abbrev leB (a b:Str):Bool:=bytesLess a b||a==b
def zci (l:List Str):Int:=if l.length=0 then 8 else if 10<l.length then 2 else zhg l
def zdo (k:Nat) (x p:PlayerS):Int:=if key x.Key=false then 5 else if 0<k/\leB x.Key p.Key=true then 7 else zci x.Positions
def zdk (l:List PlayerS):Int:=zff 500 zdo zeX l
def zhd (l:List PlayerS) (s:Str):Bool:=(l.map (·.Key)).contains s
def zev (L:List PlayerS) (k:Nat) (x p:StintS):Int:=
 if zhd L x.Player=false then 8 else if x.Club≠[]/\key x.Club=false then 5 else if zar x.Week=false then 1
 else if 0<k/\orI [zY x.Player p.Player,zai x.Week p.Week]<=0 then 7 else 0
def zkd (L:List PlayerS) (l:List StintS):Int:=zff 1000 (zev L) zga l
def zlz (L:List PlayerS) (l:List StintS):Int:=if zdk L≠0 then zdk L else zkd L l
def zcw (L:List PlayerS) (k:Nat) (x p:HealthS):Int:=
 if zhd L x.Player=false then 8 else if out x.To 2 61=true\/out x.From 1 (x.To-1)=true then 1 else if out x.Kind 1 2=true then 4
 else if 0<k/\orI [zY x.Player p.Player,zai x.From p.From]<=0 then 7 else if 0<k/\x.Player=p.Player/\x.From<p.To then 13 else 0
def ztI (L:List PlayerS) (l:List HealthS):Int:=zff 1000 (zcw L) zhe l
def zpK (L:List PlayerS) (l:List HealthS):Int:=if zdk L≠0 then zdk L else ztI L l
def zgK (k:Nat) (x p:FixS):Int:=
 if zar x.Week=false\/zN x.At=false then 1 else if key x.Home=false\/key x.Away=false then 5 else if x.Home=x.Away then 6
 else if 0<k/\orI [zai x.Week p.Week,zai x.At p.At,zY x.Home p.Home]<=0 then 7 else 0
def zj9 (l:List FixS):Int:=zff 1000 zgK zmH l
def zoh (n d:Int):Bool:=Nat.gcd n.natAbs d.natAbs==1
def za2 (n d most:Int):Int:=if d<1\/zoh n d=false then 3 else if (100:Int).tmod d≠0\/out n (-most*d) (most*d)=true then 1 else 0
def zsB (k:Int):Bool:=k==2||k==3
def zeI (k:Nat) (x p:RuleS):Int:=
 if (key x.Key=false\/key x.Stat=false)\/x.Position≠[]/\key x.Position=false then 5 else if 0<k/\leB x.Key p.Key=true then 7
 else if out x.Kind 1 4=true then 4 else if zsB x.Kind=true/\out x.Many 1 100000=true\/zsB x.Kind=false/\x.Many≠0 then 1
 else za2 x.Num x.Den 10000
def zhs (l:List RuleS):Int:=zff 100 zeI zmf l
def zdm (l:List SlotS):Nat->List SlotS->Int
 |_,[]=>0
 |k,x::r=>if key x.Key=false then 5 else if ((l.take k).any fun y=>y.Key==x.Key)=true then 6 else if zci x.Positions≠0 then zci x.Positions else zdm l (k+1) r
def zeS (l:List SlotS):Int:=if l.length=0 then 8 else if 12<l.length then 2 else zdm l 0 l
def zeo (b:BoundS):Int:=if ((out b.Most 1 20=true\/out b.Hurt 0 20=true)\/out b.Adds 0 2000=true)\/out b.Hold 0 1209600000=true then 1 else 0
def zhF (a b:MoveS):Int:=orI [zai a.At b.At,zY a.Team b.Team,zY a.Player b.Player,zai a.Kind b.Kind]
def zfo (k:Nat) (x p:MoveS):Int:=
 if zN x.At=false then 1 else if out x.Kind 1 4=true then 4 else if key x.Team=false\/key x.Player=false then 5
 else if 0<k/\zhF x p<=0 then 7 else 0
def zfg (l:List MoveS):Int:=zff 2000 zfo zkD l
def zdQ (l:List Str):Int:=if 20<l.length then 2 else if l.length<2 then 8 else zhg l
def zg5 (a b:GameS):Int:=orI [zai a.Week b.Week,zY a.Home b.Home,zY a.Away b.Away]
def ziI (x:GameS):Int:=
 if x.Played=false then (if ¬(x.FNum=0/\x.FDen=0)\/¬(x.ONum=0/\x.ODen=0) then 3 else 0)
 else if za2 x.FNum x.FDen 1000000=3\/za2 x.ONum x.ODen 1000000=3 then 3 else orI [za2 x.FNum x.FDen 1000000,za2 x.ONum x.ODen 1000000]
def zcP (T:List Str) (k:Nat) (x p:GameS):Int:=
 if zar x.Week=false then 1 else if T.contains x.Home=false\/T.contains x.Away=false then 8 else if x.Home=x.Away then 6
 else if ziI x≠0 then ziI x else if 0<k/\zg5 x p<=0 then 7 else 0
def zjP (x y:GameS):Bool:=y.Week==x.Week&&(y.Home==x.Home||y.Home==x.Away||y.Away==x.Home||y.Away==x.Away)
def zes (l:List GameS):Nat->List GameS->Bool
 |_,[]=>false
 |k,x::r=>(l.take k).any (zjP x)||zes l (k+1) r
def zeP (T:List Str) (l:List GameS):Int:=if zff 1000 (zcP T) ze3 l≠0 then zff 1000 (zcP T) ze3 l else if zes l 0 l=true then 13 else 0
def zgo (T:List Str) (l:List GameS):Int:=if zdQ T≠0 then zdQ T else zeP T l
def zeZ (l:List Int):Nat->List Int->Int
 |_,[]=>0
 |k,n::r=>if out n 1 5=true then 4 else if (l.take k).contains n=true then 6 else zeZ l (k+1) r
def zi6 (l:List Int):Int:=if 5<l.length then 2 else zeZ l 0 l
end
section
section
variable {α:Type}
def Srt (c:α->α->Int) (l:List α):Prop:=l.Pairwise fun a b=>c a b<=0
theorem Cmp.self {c:α->α->Int} (hc:Cmp c fun _=>True) (x:α):c x x<=0:=by
 have:=hc.flip x x trivial trivial;omega
theorem Srt.get {c:α->α->Int} (hc:Cmp c fun _=>True) {l:List α} (h:Srt c l) {i j:Nat} {x y:α} (hij:i<=j) (hx:l[i]? =some x) (hy:l[j]? =some y):c x y<=0:=by
 rcases AC i j with hlt|hge
 have h1:=zn hx;have h2:=zn hy;have:=List.pairwise_iff_getElem.1 h i j h1 h2 hlt;rw [Aa h1] at hx;rw [Aa h2] at hy;rw [As hx,As hy] at this;exact this;have e:i=j:=by omega
 rw [e,hy] at hx;rw [As hx];exact hc.self _
theorem Srt.take {c:α->α->Int} {l:List α} (h:Srt c l) (k:Nat):Srt c (l.take k):=CC (List.take_sublist k l) h
theorem Srt.drop {c:α->α->Int} {l:List α} (h:Srt c l) (k:Nat):Srt c (l.drop k):=CC (List.drop_sublist k l) h
theorem Srt.nil {c:α->α->Int}:Srt c []:=List.Pairwise.nil
end
end
end Go.HL
section
namespace Go.HL
section
variable {P:Program} {ops:Array Oper} {n:Nat} {S:List MObj->Prop} {ld:List Nat} {K:Env->List MObj->Prop} {e:Env} {M:List MObj} {listed:Array Bool} {fuel:Nat} {d:Nat} {op:Op} {ty:TypeId} {pos:String} {af:Array Edge} {h:HVal}
theorem ztg [Tracks] (i:Nat) {j:Nat} {want c:Bool} (hi:ops[i]? =some ⟨some d,op,ty,pos,af,some (j,want)⟩) (hd:Nat.blt d n=true) (hf:Region.free .any ops listed i=true) (hr:(Region.ready .any ops listed).contains i=true) (hl:i∈ld) (hS:S M)
 (hg:ze4 ops e j want=some c) (hp:c=true->∃e2,OpenTo e e2/\∀M,S M->EOp P e2 M ⟨some d,op,ty,pos,af,some (j,want)⟩ fun x M'=>x=h/\M'=M)
 (k:HAny P ops n S ld K fuel (listed.setIfInBounds i true) (upd e d (.opt c h)) M):HAny P ops n S ld K (fuel+1) listed e M:=
 HAny.first (T:=S) hi (fun t ht=>by simp at ht;subst ht;exact zgx hd) (.inr ⟨rfl,hl⟩) fuel listed e M (Region.free_spec hi hf) (by simpa using hr)
  ⟨c,hg,fun hc M hM=>by
   obtain ⟨e2,h1,h2⟩:=hp hc
   intro I F a w ho hs
   exact zbh (fun _ _ ⟨v,x,M',J,h3,h4,⟨e1,e3⟩,h5,h6⟩=>⟨v,.opt c h,M,J,h3,h4,⟨rfl,rfl⟩,.opt (fun _=>e1▸h5) (fun hf=>by rw [hc] at hf;cases hf),e3▸h6⟩) (h2 M hM I F a w (ho.open h1) hs),
   fun hc=>⟨h,by rw [hc]⟩⟩ hS k
end
theorem zU {k:IntKind} {a b:Int} (h:a=b):some (HVal.int k a)=some (.int k b):=by rw [h]
section
variable {α:Type} {c:α->α->Int}
theorem zq3 (l:List α):zah c (l.take 1)++l.drop 1=l:=by
 cases l with
 |nil=>rfl
 |cons x r=>simp [zah,zeQ,zn9]
theorem zkS {A R:List α} {x:α}:(A++x::R)[A.length]? =some x:=by simp
theorem zsn {A R:List α} {x:α} (h:0<A.length):(A++x::R)[A.length-1]? =some ((A[A.length-1]?).getD x):=by
 rw [Aw (by omega),Aa (by omega)]
 simp [Aa (show A.length-1<A.length by omega)]
theorem zt9 {A:List α} (h:0<A.length): ∃B y,A=B++[y]:=by
 have hne:A≠[]:=fun e=>by subst e;simp at h
 exact ⟨_,_,(BN hne).symm⟩
theorem zuq {A:List α} {y d:α}:((A++[y])[(A++[y]).length-1]?).getD d=y:=by simp
theorem zxu {A R:List α} {x y:α}:(((A++[y])++x::R).set (A++[y]).length y).set ((A++[y]).length-1) x=A++x::y::R:=by
 have e1:((A++[y])++x::R).set (A++[y]).length y=(A++[y])++y::R:=by rw [B9 _ _ (Ae _)];simp
 rw [e1,A9];have e2:(A++[y]).length-1=A.length:=by simp
 rw [e2,B9 _ _ (Ae _)]
 simp
theorem zwC {l A B:List α} {x:α} {k:Nat} (hx:l[k]? =some x) (hB:zeQ c x (zah c (l.take k))=zeQ c x A++B) (h:0<A.length->¬c x ((A[A.length-1]?).getD x)<0):A++x::(B++l.drop (k+1))=zah c (l.take (k+1))++l.drop (k+1):=by
 rw [zW hx,zsu,hB]
 rcases Bf A.length with h0|h0
 obtain rfl:=List.length_eq_zero_iff.1 h0
 simp [zCr]
 obtain ⟨A',y,rfl⟩:=zt9 h0;have:=h h0;rw [zuq] at this;rw [zuB,if_neg this];simp
theorem zwD {A B:List α} {x y:α} {S:List α} (hB:zeQ c x S=zeQ c x (A++[y])++B) (h:c x y<0):zeQ c x S=zeQ c x A++(y::B):=by
 rw [hB,zuB,if_pos h];simp
end
end Go.HL
namespace Go.HL
section
variable {α:Type} {p:α->Bool}
structure DelInv (p:α->Bool) (l:List α) (j:Nat) (D:List α):Prop where
 len:D.length=l.length
 jle:j<=l.length
 lt:((l.take j).filter (fun x=> !p x)).length<j
 kept:D.take ((l.take j).filter (fun x=> !p x)).length=(l.take j).filter (fun x=> !p x)
 rest:D.drop j=l.drop j
theorem zmG {l:List α} {j:Nat} {x:α} (hx:l[j]? =some x):(l.take (j+1)).filter (fun x=> !p x)=(l.take j).filter (fun x=> !p x)++if p x then [] else [x]:=by
 rw [zW hx,AX]
 by_cases h:p x<;>simp [h]
theorem DelInv.get {l D:List α} {j:Nat} {x:α} (h:DelInv p l j D) (hx:l[j]? =some x):D[j]? =some x:=by
 have h1:=congrArg (fun t=>t[0]?) h.rest;simp only [AL,BZ] at h1;rw [h1];exact hx
theorem DelInv.drop1 {l D:List α} {j:Nat} (h:DelInv p l j D):D.drop (j+1)=l.drop (j+1):=by
 have:=congrArg (List.drop 1) h.rest
 simpa [BD] using this
theorem DelInv.skip {l D:List α} {j:Nat} {x:α} (h:DelInv p l j D) (hx:l[j]? =some x) (hp:p x=true):DelInv p l (j+1) D/\((l.take (j+1)).filter (fun x=> !p x)).length=((l.take j).filter (fun x=> !p x)).length:=by
 have e:=zmG (p:=p) hx;rw [if_pos hp,AV] at e;refine ⟨⟨h.len,by have:=zn hx;omega,by rw [e];have:=h.lt;omega,by rw [e];exact h.kept,h.drop1⟩,by rw [e]⟩
theorem DelInv.keep {l D:List α} {j:Nat} {x:α} (h:DelInv p l j D) (hx:l[j]? =some x) (hp:p x=false):
 DelInv p l (j+1) (D.set ((l.take j).filter (fun x=> !p x)).length x)/\((l.take (j+1)).filter (fun x=> !p x)).length=((l.take j).filter (fun x=> !p x)).length+1:=by
 have e:=zmG (p:=p) hx;rw [if_neg (by simp [hp])] at e;have hlt:=h.lt;have hj:=zn hx;have hl:=h.len;have el:((l.take (j+1)).filter (fun x=> !p x)).length=((l.take j).filter (fun x=> !p x)).length+1:=by rw [e];simp
 refine ⟨⟨by simp [hl],by omega,by omega,?_,?_⟩,el⟩
 rw [el,e];have hk:=h.kept
 generalize ((l.take j).filter (fun x=> !p x))=F at*
 rw [zW (Cx (by omega)),List.take_set_of_le (Ae _),hk];rw [List.drop_set_of_lt (by omega)];exact h.drop1
theorem ze6 (p:α->Bool): ∀(l:List α) (k:Int),0<=k->zS p l k≠ -1->∃i:Nat,zS p l k=k+i/\i<l.length/\(∃x,l[i]? =some x/\p x=true)/\∀y∈l.take i,p y=false
 |[],k,_,h=>by simp [zS] at h
 |x::r,k,h0,h=>by
   by_cases hx:p x=true
   exact ⟨0,by simp [zS,hx],by simp,⟨x,rfl,hx⟩,by simp⟩;have e:zS p (x::r) k=zS p r (k+1):=by simp [zS,hx]
   rw [e] at h⊢;obtain ⟨i,h1,h2,⟨y,h3,h4⟩,h5⟩:=ze6 p r (k+1) (by omega) h;refine ⟨i+1,by rw [h1];simp;omega,by simp;omega,⟨y,by simpa using h3,h4⟩,fun z hz=> ?_⟩
   simp only [Cf,BS] at hz
   rcases hz with rfl|hz
   simpa using hx
   exact h5 z hz
theorem zir (p:α->Bool): ∀(l:List α) (k:Int),0<=k->zS p l k= -1->l.filter (fun x=> !p x)=l
 |[],_,_,_=>rfl
 |x::r,k,h0,h=>by
   by_cases hx:p x=true
   simp [zS,hx] at h;omega
   have e:zS p (x::r) k=zS p r (k+1):=by simp [zS,hx]
   rw [e] at h;rw [AO,if_pos (by simp [hx]),zir p r (k+1) (by omega) h]
theorem DelInv.start {l:List α} {i:Nat} {x:α} (hi:i<l.length) (hx:l[i]? =some x) (hp:p x=true) (hb: ∀y∈l.take i,p y=false):DelInv p l (i+1) l/\((l.take (i+1)).filter (fun x=> !p x)).length=i:=by
 have e:=zmG (p:=p) hx;rw [if_pos hp,AV,(Ce (l:=l.take i) (p:=fun x=> !p x)).2 (fun y hy=>by simp [hb y hy])] at e;have hl:(l.take i).length=i:=by simp;omega
 refine ⟨⟨rfl,by omega,by rw [e];omega,by rw [e,hl],rfl⟩,by rw [e,hl]⟩
theorem DelInv.done {l D:List α} (h:DelInv p l l.length D):D.take (l.filter (fun x=> !p x)).length=l.filter (fun x=> !p x):=by
 have:=h.kept
 rwa [Am] at this
end
theorem zh5 {cap off sz m n:Nat} (h1:m<=n) (h2:n<=cap):n-m=0\/zjw cap off sz m=off+m*sz:=by
 unfold zjw
 by_cases h:cap=m
 exact .inl (by omega);exact .inr (by rw [if_neg h])
end Go.HL
namespace Go.HL
end Go.HL
end
namespace Go.HL
section
section
variable {α:Type} {c:α->α->Int}
def Blk (c:α->α->Int) (bs:Nat) (l:List α):Prop:= ∀q,Srt c ((l.drop (bs*q)).take bs)
theorem Blk.all {bs:Nat} {l:List α} (h:Blk c bs l) (hl:l.length<=bs):Srt c l:=by
 have:=h 0;rw [Nat.mul_zero,List.drop_zero,Bz hl] at this;exact this
theorem Blk.nil {bs:Nat}:Blk c bs []:=fun q=>by simp [Srt.nil]
theorem Blk.add {bs k:Nat} {Z W:List α} (h:Blk c bs Z) (hZ:Z.length=bs*k) (hW:Srt c W) (hl:W.length<=bs):Blk c bs (Z++W):=by
 intro q
 rcases BT q k with hq|hq|hq
 have h1:bs*q+bs<=Z.length:=by rw [hZ,<-Nat.mul_succ];exact Nat.mul_le_mul_left bs hq
 rw [List.drop_append_of_le_length (by omega),BK (by rw [BB];omega)];exact h q;rw [hq,<-hZ,List.drop_left,Bz hl];exact hW;have h1:Z.length+bs<=bs*q:=by rw [hZ,<-Nat.mul_succ];exact Nat.mul_le_mul_left bs hq
 rw [List.drop_of_length_le (by rw [Ax];omega)]
 simp [Srt.nil]
theorem Blk.at {bs q a:Nat} {l:List α} (h:Blk c bs l) (ha:a=bs*q):Srt c ((l.drop a).take bs):=by rw [ha];exact h q
theorem zCu {A D:List α} {x:α} (h:0<D.length):((A++D)[(A++D).length-1]?).getD x=(D[D.length-1]?).getD x:=by
 rw [Au (by rw [Ax];omega)]
 congr 2;rw [Ax];omega
theorem zpT {A D:List α} {x:α} (h:0<D.length):((A++D)[A.length+D.length-1]?).getD x=(D[D.length-1]?).getD x:=by
 have:=zCu (A:=A) (x:=x) h;rw [Ax] at this;exact this
theorem zwE {A D:List α} {x y:α}:((A++(D++[y]))[A.length+(D++[y]).length-1]?).getD x=y:=by
 rw [zpT (by simp)];exact zuq
theorem zoc {A D R:List α} {x y:α}:((A++(D++[y]))++x::R)[(A++(D++[y])).length-1]? =some y:=by
 have e:(A++(D++[y]))++x::R=(A++D)++y::x::R:=by simp
 have hl:(A++(D++[y])).length-1=(A++D).length:=by simp [<-Bc]
 rw [e,hl];simp
theorem zyq {A D B E C R:List α} {x:α} (h:D++x::(B++E)=R):(A++D)++x::(B++E++C)=A++R++C:=by rw [<-h];simp
theorem zl7 (hc:Cmp c fun _=>True) (l:List α):Srt c (zah c l):=zex hc (fun _ _=>trivial)
theorem win {l:List α} {a m:Nat}:l.drop a=(l.drop a).take m++l.drop (a+m):=by rw [<-BD,Bo]
theorem zvb {l:List α} {a m:Nat}:l.take (a+m)=l.take a++(l.drop a).take m:=List.take_add
end
end
section
section
variable {α:Type} [DecidableEq α]
def zal (p:Option α):List α->List α
 |[]=>[]
 |x::r=>if p=some x then zal (some x) r else x::zal (some x) r
theorem zpY: ∀(l:List α) (p:Option α) (s:α),s∈zal p l->s∈l
 |[],_,s,h=>by simp [zal] at h
 |x::r,p,s,h=>by
   simp only [zal] at h
   split at h
   exact Al _ (zpY r _ s h)
   rcases List.mem_cons.1 h with h|h
   subst h;simp;exact Al _ (zpY r _ s h)
theorem zs9 (x:α): ∀(A:List α) (p:Option α),zal p (A++[x])=zal p A++if (A.getLast?.or p)=some x then [] else [x]
 |[],p=>by
   by_cases h:p=some x<;>simp [zal,h]
 |y::A,p=>by
   have ih:=zs9 x A (some y);have e:((y::A).getLast?.or p)=(A.getLast?.or (some y)):=by
    cases A with
    |nil=>simp
    |cons z A=>simp [Cr,List.getLast?_cons]
   simp only [A0,zal];rw [e,ih]
   split<;>simp
theorem zkN {l:List α} {k:Nat} {x y:α} (hx:l[k]? =some x) (hy:l[k-1]? =some y) (h0:0<k):zal none (l.take (k+1))=zal none (l.take k)++if x=y then [] else [x]:=by
 have hk:=zn hx;rw [zW hx,zs9];have e:((l.take k).getLast?.or none)=some y:=by
  rw [List.getLast?_eq_getElem?,Az,Ci (by omega),AD (by omega),hy];rfl
 rw [e]
 by_cases h:x=y
 rw [if_pos h,if_pos (by rw [h])];rw [if_neg h,if_neg (by simpa using fun q:y=x=>h q.symm)]
theorem zvd {l:List α} (h:l.length<2):zal none l=l:=by
 match l,h with
 |[],_=>rfl
 |[x],_=>rfl
structure CmpA (l:List α) (j:Nat) (D:List α):Prop where
 len:D.length=l.length
 lo:D.take (zal none (l.take j)).length=zal none (l.take j)
 lt:(zal none (l.take j)).length<j
 hi: ∀i,j<=i+1->D[i]? =l[i]?
theorem CmpA.start {l:List α} {k:Nat} {x y:α} (hx:l[k]? =some x) (hy:l[k-1]? =some y) (h0:0<k) (e:x=y) (h:zal none (l.take k)=l.take k):CmpA l (k+1) l/\(zal none (l.take (k+1))).length=k:=by
 have hk:=zn hx;have h1:zal none (l.take (k+1))=l.take k:=by rw [zkN hx hy h0,if_pos e,h];simp
 have h2:(l.take k).length=k:=by rw [Az];omega
 exact ⟨⟨rfl,by rw [h1,h2],by rw [h1,h2];omega,fun _ _=>rfl⟩,by rw [h1,h2]⟩
theorem CmpA.same {l D:List α} {j:Nat} (h:CmpA l j D) {x y:α} (hx:l[j]? =some x) (hy:l[j-1]? =some y) (e:x=y):CmpA l (j+1) D/\(zal none (l.take (j+1))).length=(zal none (l.take j)).length:=by
 have h0:=h.lt;have h1:zal none (l.take (j+1))=zal none (l.take j):=by rw [zkN hx hy (by omega),if_pos e];simp
 exact ⟨⟨h.len,by rw [h1];exact h.lo,by rw [h1];omega,fun i hi=>h.hi i (by omega)⟩,by rw [h1]⟩
theorem CmpA.more {l D:List α} {j:Nat} (h:CmpA l j D) {x y:α} (hx:l[j]? =some x) (hy:l[j-1]? =some y) (e:x≠y):CmpA l (j+1) (D.set (zal none (l.take j)).length x)/\(zal none (l.take (j+1))).length=(zal none (l.take j)).length+1:=by
 have h0:=h.lt;have hl:=h.len;have hj:=zn hx;have h1:zal none (l.take (j+1))=zal none (l.take j)++[x]:=by rw [zkN hx hy (by omega),if_neg e]
 have h2:(zal none (l.take (j+1))).length=(zal none (l.take j)).length+1:=by rw [h1];simp
 refine ⟨⟨by simpa using hl,?_,by omega,fun i hi=> ?_⟩,h2⟩
 rw [h2,h1];have h3:(D.set (zal none (l.take j)).length x)[(zal none (l.take j)).length]? =some x:=by
  rw [Cx (by omega)]
 rw [zW h3,List.take_set_of_le (Ae _),h.lo];rw [BW (by omega)];exact h.hi i (by omega)
theorem zvc: ∀(l:List α) (p:Option α),(zal p l).length<=l.length
 |[],p=>by simp [zal]
 |x::r,p=>by
   have:=zvc r (some x);simp only [zal]
   split
   simp only [Ah];omega;simp only [Ah];omega
theorem zu5 {cap off sz m:Nat} (h:m<cap):zjw cap off sz m=off+m*sz:=by
 unfold zjw;rw [if_neg (by omega)]
/-! two lists without repeats,each strictly sorted-/
variable {c:α->α->Int}
end
end
end Go.HL
section
namespace Go.HL
def sumF (l:List Asset) (p:List Place):Int:=sumV (zCa (ofP l) p)
def zB8 (l:List Asset) (F:Nat->Int) (q:Option (Nat×Int)) (k:Nat) (x:Asset):Option (Nat×Int):=
 match q with
 |none=>some (k,F k)
 |some (b,n)=>if n<F k\/(F k=n/\x.Value<=(l.getD b zAu).Value) then some (k,F k) else some (b,n)
def zEv (l:List Asset) (F:Nat->Int) (n:Nat):Option (Nat×Int):=(List.range n).foldl (fun q k=>zB8 l F q k (l.getD k zAu)) none
def zIN (l:List Asset) (p:List Place) (k:Nat):Int:=sumF (l.eraseIdx k) p
def dropped (l:List Asset) (p:List Place):Option (Nat×Int):=zEv l (zIN l p) l.length
end Go.HL
namespace Go.HL
end Go.HL
namespace Go.HL
end Go.HL
end
namespace Go.HL
section
structure GL (α:Type) where
 u:Value
 out:List α
 a:Nat
structure GLok {α:Type} (P:α->Prop) (n m:Nat) (q:GL α):Prop where
 len:q.out.length<=n
 all: ∀x∈q.out,P x
 a:q.a<=m
section
variable {α:Type} {P:α->Prop}
theorem GLok.add {n m m':Nat} {u u':Value} {out:List α} {a1 a2:Nat} {x:α} (h:GLok P n m ⟨u,out,a1⟩) (hx:P x) (ha:a2<=m'):GLok P (n+1) m' ⟨u',out++[x],a2⟩:=
 ⟨by have:=h.len;simp at*;omega,fun y hy=>by
  rcases List.mem_append.1 hy with hy|hy
  exact h.all y hy
  simp at hy;subst hy;exact hx,ha⟩
theorem GLok.same {n m m':Nat} {u:Value} {out:List α} {a1 a2:Nat} (h:GLok P n m ⟨u,out,a1⟩) (ha:a2<=m'):GLok P (n+1) m' ⟨u,out,a2⟩:=
 ⟨by have:=h.len;dsimp only at*;omega,h.all,ha⟩
theorem zgd {l:List α} {j:Nat} {y:α} (h: ∀x∈l,P x) (hy:P y): ∀x∈l.set j y,P x:=fun x hx=>by
 rcases zzL hx with rfl|hx
 exact hy;exact h x hx
end
theorem zsK:Sh []:=by simp [Sh]
end
section
structure PairS where
 Name:Str
 Val:Str
end
section

end
section
open Op (bytesLess)
end
section

end
section

end
section

end
section

end
section

end
section
def zn0 {α:Type} (e:α->HVal) (a b:α):Bool:=zfy (zb (e a)) (zb (e b))
def zea {α:Type} (e:α->HVal):List α->List α->Bool
 |[],[]=>true
 |a::l,b::m=>zn0 e a b&&zea e l m
 |_,_=>false
theorem zjR {α:Type} {e:α->HVal}: ∀{l m:List α},l.length≠m.length->zea e l m=false
 |[],[],h=>absurd rfl h
 |[],_::_,_=>rfl
 |_::_,[],_=>rfl
 |a::l,b::m,h=>by
   rw [zea,zjR (by intro q;apply h;simp [q])];simp
end
section
section
variable {α:Type} [DecidableEq α]
end
theorem zwn [Tracks] {P:Program} {f:FuncId} {hargs:List HVal} {v:Value} {sz:Nat} {es:List HVal} {Q:HVal->List MObj->Prop} (h0:v= .slice none 0 0->es=[]->Con P f hargs [.arr v sz es] Q)
 (h1: ∀b off cap,v= .slice (some ⟨b,off,none⟩) es.length cap->Con P f hargs [.arr v sz es] Q):Con P f hargs [.arr v sz es] Q:=fun I F w args ha hs=>by
 rcases hs.obj (.arr v sz es) (by simp) with ⟨g1,g2⟩|⟨b,off,cap,rc,el,fr,g1,_⟩
 exact h0 g1 g2 I F w args ha hs;exact h1 b off cap g1 I F w args ha hs
end
section

end
section

end
section
theorem zn8 (s:Str): ∀(l:List Str) (k:Int),0<=k->(zce s l k= -1/\s∉l)\/∃i:Nat,zce s l k=k+i/\l[i]? =some s/\∀j:Nat,j<i->l[j]?≠some s
 |[],k,_=> .inl ⟨rfl,by simp⟩
 |x::r,k,h=>by
   simp only [zce]
   by_cases e:s=x
   subst e;rw [if_pos rfl];exact .inr ⟨0,by simp,rfl,fun j hj=>by omega⟩;rw [if_neg e]
   rcases zn8 s r (k+1) (by omega) with ⟨h1,h2⟩|⟨i,h1,h2,h3⟩
   exact .inl ⟨h1,by simp [e,h2]⟩;refine .inr ⟨i+1,by rw [h1];omega,h2,fun j hj=> ?_⟩
   cases j with
   |zero=>simp;exact fun q=>e q.symm
   |succ j=>exact h3 j (by omega)
theorem zsk {α:Type} {q:α->Bool}: ∀{l:List α} {k:Nat} {s:α},l[k]? =some s->q s=true->(∀j t,j<k->l[j]? =some t->q t=false)->l.find? q=some s
 |[],k,s,h,_,_=>by simp at h
 |x::r,0,s,h,hq,_=>by
   simp at h;subst h;rw [Cw hq]
 |x::r,k+1,s,h,hq,hm=>by
   rw [Cv (by rw [hm 0 x (by omega) rfl];simp)];exact zsk (k:=k) (by simpa using h) hq fun j t hj ht=>hm (j+1) t (by omega) (by simpa using ht)
def zmO (trust:List Str) (n:Int) (m:Str) (p:Play):Prop:=p.Match=m/\p.At<=n/\0<=zce p.Source trust 0
def zmN (trust:List Str) (n:Int) (m:Str) (B:List (Str×Int)) (l:List Play):Prop:=
 (alk m B=none/\∀p∈l,¬zmO trust n m p)\/∃k,alk m B=some k/\(∃p∈l,zmO trust n m p/\zce p.Source trust 0=k)/\∀p∈l,zmO trust n m p->k<=zce p.Source trust 0
theorem zwa {trust:List Str} {n:Int} {m:Str} {B:List (Str×Int)} {l:List Play} (x:Play) (h:zmN trust n m B l):zmN trust n m (zd0 trust n B x) (l++[x]):=by
 have hold: ¬zmO trust n m x->zmN trust n m B (l++[x]):=fun hx=>by
  rcases h with ⟨h1,h2⟩|⟨k,h1,⟨p,hp,h2⟩,h3⟩
  refine .inl ⟨h1,fun p hp=> ?_⟩
  rcases List.mem_append.1 hp with hp|hp
  exact h2 p hp;rw [List.mem_singleton.1 hp];exact hx;refine .inr ⟨k,h1,⟨p,Ap _ hp,h2⟩,fun p hp hc=> ?_⟩
  rcases List.mem_append.1 hp with hp|hp
  exact h3 p hp hc;rw [List.mem_singleton.1 hp] at hc;exact absurd hc hx
 unfold zd0
 by_cases c1:n<x.At\/zce x.Source trust 0<0
 rw [if_pos c1];exact hold fun hx=>by have:=hx.2;omega
 rw [if_neg c1]
 by_cases hm:x.Match=m
 have hcan:zmO trust n m x:=⟨hm,by omega,by omega⟩;rw [hm]
 rcases h with ⟨h1,h2⟩|⟨k,h1,⟨p,hp,h2,h2'⟩,h3⟩
 rw [h1,if_pos (.inl rfl)];refine .inr ⟨zce x.Source trust 0,by rw [za3,if_pos rfl],⟨x,by simp,hcan,rfl⟩,fun p hp hc=> ?_⟩
 rcases List.mem_append.1 hp with hp|hp
 exact absurd hc (h2 p hp);rw [List.mem_singleton.1 hp];exact Int.le_refl _;rw [h1]
 by_cases c2:zce x.Source trust 0<k
 rw [if_pos (.inr c2)];refine .inr ⟨zce x.Source trust 0,by rw [za3,if_pos rfl],⟨x,by simp,hcan,rfl⟩,fun p hp hc=> ?_⟩
 rcases List.mem_append.1 hp with hp|hp
 have:=h3 p hp hc;omega;rw [List.mem_singleton.1 hp];exact Int.le_refl _;rw [if_neg (by simp;omega)];refine .inr ⟨k,h1,⟨p,Ap _ hp,h2,h2'⟩,fun p hp hc=> ?_⟩
 rcases List.mem_append.1 hp with hp|hp
 exact h3 p hp hc;rw [List.mem_singleton.1 hp];omega;have hno: ¬zmO trust n m x:=fun hx=>hm hx.1
 have:=hold hno
 split
 unfold zmN at*;rw [za3,if_neg (fun e=>hm e.symm)];exact this;exact this
theorem zEm (l:List Play) (trust:List Str) (n:Int) (m:Str):zmN trust n m (zfm l trust n) l:=by
 have key: ∀k,k<=l.length->zmN trust n m (zfm (l.take k) trust n) (l.take k):=by
  intro k
  induction k with
  |zero=>intro _;exact .inl ⟨rfl,by simp⟩
  |succ k ih=>
    intro hk
    have hx:=Aa (l:=l) (i:=k) (by omega);rw [zkp hx,zW hx];exact zwa _ (ih (by omega))
 have:=key l.length (Ae _)
 rwa [Am] at this
def zjU (l:List Play) (m:Str) (n:Int) (s:Str):Bool:=l.any fun x=>x.Source==s&&x.Match==m&&decide (x.At<=n)
theorem zxr (l:List Play) (trust:List Str) (n:Int) (m:Str):zjx l trust n m=trust.find? (zjU l m n):=by
 unfold zjx
 rcases zEm l trust n m with ⟨h1,h2⟩|⟨k,h1,⟨p,hp,⟨c1,c2,c3⟩,h2⟩,h3⟩
 rw [h1]
 symm
 refine List.find?_eq_none.2 fun s hs hq=> ?_
 unfold zjU at hq;rw [A6] at hq;obtain ⟨x,hx,hq⟩:=hq;simp only [AZ,beq_iff_eq,decide_eq_true_eq] at hq;refine h2 x hx ⟨hq.1.2,hq.2,?_⟩
 rcases zn8 x.Source trust 0 (by omega) with ⟨_,q⟩|⟨i,q,_⟩
 rw [hq.1.1] at q;exact absurd hs q
 omega
 rw [h1]
 rcases zn8 p.Source trust 0 (by omega) with ⟨q,_⟩|⟨i,q1,q2,q3⟩
 omega
 have hk:k.toNat=i:=by omega
 have e:trust.getD k.toNat []=p.Source:=by rw [hk];simp [List.getD,q2]
 rw [AI,e]
 symm
 refine zsk q2 ?_ fun j t hj ht=> ?_
 unfold zjU;rw [A6];exact ⟨p,hp,by simp [c1,c2]⟩;rw [B5]
 intro hq
 unfold zjU at hq;rw [A6] at hq;obtain ⟨x,hx,hq⟩:=hq;simp only [AZ,beq_iff_eq,decide_eq_true_eq] at hq
 rcases zn8 x.Source trust 0 (by omega) with ⟨_,r⟩|⟨i',r1,r2,r3⟩
 rw [hq.1.1] at r;exact r (Ab ht);have hle:=h3 x hx ⟨hq.1.2,hq.2,by omega⟩;have: ¬j<i':=fun hji=>r3 j hji (by rw [hq.1.1];exact ht)
 omega
def zfH (l:List Play) (trust:List Str) (m:Str) (n:Int):Str:=(trust.find? (zjU l m n)).getD []
theorem zln (l:List Play) (trust:List Str) (m:Str) (n:Int):zfH l trust m n=(zjx l trust n m).getD []:=by
 rw [zxr];rfl
end
section
theorem Cmp.lt_trans {α:Type} {c:α->α->Int} {s:α->Prop} (h:Cmp c s) {x y z:α} (hx:s x) (hy:s y) (hz:s z) (h1:c x y<0) (h2:c y z<0):c x z<0:=by
 rcases Int.lt_or_le (c x z) 0 with q|q
 exact q
 exfalso
 have a1:=h.flip y z hy hz;have a2:=h.flip z x hz hx;have hzx:c z x<=0:=by
  rcases Int.lt_or_le 0 (c z x) with r|r
  have:=h.flip x z hx hz;omega;exact r
 have:=h.trans z x y hz hx hy hzx (by omega)
 omega
theorem zjB (x y:Play):byNo x y= -byNo y x:=by
 unfold byNo;rw [zl0,zfG x.Source,zw0]
theorem zx8 (x y:Play):byNo x y=if zY x.Source y.Source≠0 then zY x.Source y.Source else zai x.No y.No:=by unfold byNo;rw [zdx]
theorem zoI {a b c:Str} (h1:zY a b<=0) (h2:zY b c<=0) (h:zY a c=0):zY a b=0/\zY b c=0:=by
 have e:=zbi.1 h;subst e;rw [zfG b a] at*
 omega
theorem zBV:Cmp byNo (fun _=>True) where
 flip x y _ _:=by rw [zjB x y];omega
 trans x y z _ _ _ h1 h2:=by
  rw [zx8] at*;have k1:zY x.Source y.Source<=0:=by split at h1<;>omega
  have k2:zY y.Source z.Source<=0:=by split at h2<;>omega
  have k3:=ziF k1 k2
  split
  exact k3
  rename_i hz
  have hz':zY x.Source z.Source=0:=by simpa using hz
  obtain ⟨e1,e2⟩:=zoI k1 k2 hz';rw [if_neg (by simp [e1]),zm7] at h1;rw [if_neg (by simp [e2]),zm7] at h2;rw [zm7];omega
theorem zq6 {l:List Play}: ∀(r:List Play) (k:Nat),zca l k r=0->r=l.drop k->∀(i:Nat) (x y:Play),k<=i->0<i->l[i]? =some x->l[i-1]? =some y->0<byNo x y
 |[],k,_,e,i,x,y,hk,h0,hx,hy=>by
   have:=zn hx;have h2:=congrArg List.length e
   simp at h2;omega
 |p::r,k,h,e,i,x,y,hk,h0,hx,hy=>by
   rw [zca] at h
   split at h
   contradiction
   split at h
   omega
   rename_i h1 h2
   have hp:l[k]? =some p:=by
    have:=congrArg (·[0]?) e
    simpa using this.symm
   rcases Nat.eq_or_lt_of_le hk with q|q
   subst q;rw [hp] at hx;cases hx;have:l.getD (k-1) zkG=y:=by simp [List.getD,hy]
   rw [this] at h2
   omega
   refine zq6 r (k+1) h ?_ i x y q h0 hx hy
   have:=congrArg List.tail e
   simpa using this
theorem zz0 {l:List Play} (h:zb7 l=0):l.Pairwise fun a b=>byNo a b<0:=by
 have hadj:=zq6 l 0 (zme h).2 rfl;rw [List.pairwise_iff_getElem]
 intro i j hi hj hij
 have key: ∀d (hd:i+d+1<l.length),byNo l[i] l[i+d+1]<0:=by
  intro d
  induction d with
  |zero=>
    intro hd
    have:=hadj (i+1) _ _ (Ad _) (by omega) (Aa hd) (Aa (by omega:i+1-1<l.length));rw [zjB] at this;simp only [BE] at this;have h':byNo l[i] l[i+0+1]<0:=by omega
    exact h'
  |succ d ih=>
    intro hd
    have h1:=ih (by omega);have h2:=hadj (i+(d+1)+1) _ _ (Ad _) (by omega) (Aa hd) (Aa (by omega:i+(d+1)+1-1<l.length));rw [zjB] at h2;simp only [BE] at h2;exact zBV.lt_trans trivial trivial trivial h1 (by
     have e:i+(d+1)=i+d+1:=by omega
     simp only [e] at h2⊢;omega)
 have:=key (j-i-1) (by omega);have e:i+(j-i-1)+1=j:=by omega
 simpa only [e] using this
def zgN (p:Play):Num:=(p.Source,p.No)
def zk1 (l:List Play):Prop:= ∀(i j:Nat) (x y:Play),l[i]? =some x->l[j]? =some y->zgN x=zgN y->i=j
theorem zBp {l:List Play} (h:zb7 l=0):zk1 l:=by
 intro i j x y hx hy e
 obtain ⟨hi,rfl⟩:=List.getElem?_eq_some_iff.1 hx;obtain ⟨hj,rfl⟩:=List.getElem?_eq_some_iff.1 hy;have hp:=List.pairwise_iff_getElem.1 (zz0 h);simp only [zgN,Prod.mk.injEq] at e;have hz: ∀a b:Play,a.Source=b.Source/\a.No=b.No->byNo a b=0:=fun a b q=>by
  rw [zx8,q.1,q.2,if_neg (by simp [zbi]),zcH]
 rcases BT i j with q|q|q
 have:=hp i j hi hj q;rw [hz _ _ e] at this;omega;exact q;have:=hp j i hj hi q;rw [hz _ _ ⟨e.1.symm,e.2.symm⟩] at this;omega
theorem zBm {l:List Play} (h:zk1 l) (n:Int) (x:Num) (q:Play):alk x (zhq l n)=some q↔q∈l/\q.At<=n/\zgN q=x:=by
 have key: ∀k,k<=l.length->(alk x (zhq (l.take k) n)=some q↔q∈l.take k/\q.At<=n/\zgN q=x):=by
  intro k
  induction k with
  |zero=>intro _;simp [zhq,alk]
  |succ k ih=>
    intro hk
    have hx:=Aa (l:=l) (i:=k) (by omega)
    generalize l[k]=p at hx
    have ih:=ih (by omega);rw [zp2 hx,zW hx];unfold znh;have hnew: ∀y∈l.take k,zgN y≠zgN p:=fun y hy e=>by
     obtain ⟨i,hi,rfl⟩:=AR hy;rw [List.getElem_take] at e;simp only [Az] at hi;have:=h i k _ _ (Aa (by omega)) hx e
     omega
    by_cases hp:p.At<=n
    rw [if_pos hp,za3]
    by_cases e:x=(p.Source,p.No)
    rw [if_pos e]
    constructor
    intro hq;cases hq
    exact ⟨by simp,hp,e.symm⟩;rintro ⟨h1,h2,h3⟩
    rcases List.mem_append.1 h1 with h1|h1
    exact absurd (h3.trans e) (hnew q h1);rw [List.mem_singleton.1 h1];rw [if_neg e,ih]
    constructor
    rintro ⟨h1,h2⟩;exact ⟨Ap _ h1,h2⟩;rintro ⟨h1,h2,h3⟩
    rcases List.mem_append.1 h1 with h1|h1
    exact ⟨h1,h2,h3⟩;rw [List.mem_singleton.1 h1] at h3;exact absurd h3.symm e;rw [if_neg hp,ih]
    constructor
    rintro ⟨h1,h2⟩;exact ⟨Ap _ h1,h2⟩;rintro ⟨h1,h2,h3⟩
    rcases List.mem_append.1 h1 with h1|h1
    exact ⟨h1,h2,h3⟩;rw [List.mem_singleton.1 h1] at h2;exact absurd h2 hp
 have:=key l.length (Ae _)
 rwa [Am] at this
def zh9 (n:Int) (p q:Play):Prop:=p.At<=n/\p.Undo≠0/\q.At<=n/\zgN q=(p.Source,p.Undo)/\zlB q p=true
theorem zEF {l:List Play} (h:zk1 l) (n:Int) (x:Num):zjV l n x=true↔∃p∈l,∃q∈l,zgN q=x/\zh9 n p q:=by
 have key: ∀m:List Play,((alk x (zhB (zhq l n) n m)).getD false=true↔∃p∈m,∃q∈l,zgN q=x/\zh9 n p q)/\∀v,alk x (zhB (zhq l n) n m)=some v->v=true:=by
  intro m
  have kk: ∀k,k<=m.length->((alk x (zhB (zhq l n) n (m.take k))).getD false=true↔∃p∈m.take k,∃q∈l,zgN q=x/\zh9 n p q)/\∀v,alk x (zhB (zhq l n) n (m.take k))=some v->v=true:=by
   intro k
   induction k with
   |zero=>intro _;simp [zhB,alk]
   |succ k ih=>
     intro hk
     have hx:=Aa (l:=m) (i:=k) (by omega)
     generalize m[k]=p at hx
     obtain ⟨i1,i2⟩:=ih (by omega);rw [zjs hx,zW hx];have hno:(¬∃q∈l,zgN q=x/\zh9 n p q)->((∃p'∈m.take k++[p],∃q∈l,zgN q=x/\zh9 n p' q)↔∃p'∈m.take k,∃q∈l,zgN q=x/\zh9 n p' q):=fun hq=>by
      constructor
      rintro ⟨p',h1,h2⟩
      rcases List.mem_append.1 h1 with h1|h1
      exact ⟨p',h1,h2⟩;rw [List.mem_singleton.1 h1] at h2;exact absurd h2 hq;rintro ⟨p',h1,h2⟩;exact ⟨p',Ap _ h1,h2⟩
     unfold zje
     by_cases c1:n<p.At\/p.Undo=0
     rw [if_pos c1,hno (by rintro ⟨q,_,_,t1,t2,_⟩;omega)];exact ⟨i1,i2⟩;rw [if_neg c1]
     by_cases c2:(alk (p.Source,p.Undo) (zhq l n)).isSome=true/\zlB ((alk (p.Source,p.Undo) (zhq l n)).getD zkG) p=true
     rw [if_pos c2];obtain ⟨q,hq⟩:=Option.isSome_iff_exists.1 c2.1;have c3:=c2.2;rw [hq,Br] at c3;obtain ⟨g1,g2,g3⟩:=(zBm h n _ q).1 hq;rw [za3]
     by_cases e:x=(p.Source,p.Undo)
     rw [if_pos e];exact ⟨⟨fun _=>⟨p,by simp,q,g1,g3.trans e.symm,by omega,by omega,g2,g3,c3⟩,fun _=>rfl⟩,fun v hv=>by cases hv;rfl⟩;rw [if_neg e,hno (by rintro ⟨q',_,t0,_,_,_,t4,_⟩;exact e (t0.symm.trans t4))];exact ⟨i1,i2⟩;rw [if_neg c2,hno ?_];exact ⟨i1,i2⟩;rintro ⟨q,hq,t0,t1,t2,t3,t4,t5⟩;have:=(zBm h n (p.Source,p.Undo) q).2 ⟨hq,t3,t4⟩;exact c2 ⟨by rw [this];rfl,by rw [this];exact t5⟩
  have:=kk m.length (Ae _)
  rwa [Am] at this
 exact (key l).1
def zj0 (l:List Play) (n:Int) (x y:Play):Bool:=y.Source==x.Source&&y.No==x.Undo&&y.Undo==0&&decide (y.At<=n)&&y.Match==x.Match&&y.Player==x.Player&&y.Stat==x.Stat
def ziU (l:List Play) (x:Play) (n:Int):Option Nat:=if x.Undo=0\/n<x.At then none else l.findIdx? (zj0 l n x)
theorem zoA (l:List Play) (n:Int) (x y:Play):zj0 l n x y=true↔y.At<=n/\zgN y=(x.Source,x.Undo)/\zlB y x=true:=by
 unfold zj0 zlB zgN;simp only [AZ,beq_iff_eq,decide_eq_true_eq,Prod.mk.injEq]
 constructor
 rintro ⟨⟨⟨⟨⟨⟨a,b⟩,c⟩,d⟩,e⟩,f⟩,g⟩;exact ⟨d,⟨a,b⟩,⟨⟨c,e⟩,f⟩,g⟩;rintro ⟨d,⟨a,b⟩,⟨⟨c,e⟩,f⟩,g⟩;exact ⟨⟨⟨⟨⟨⟨a,b⟩,c⟩,d⟩,e⟩,f⟩,g⟩
theorem zn6 {l:List Play} (h:zk1 l) (n:Int) {i:Nat} {x:Play} (hx:l[i]? =some x):zjV l n (zgN x)=true↔∃p∈l,ziU l p n=some i:=by
 rw [zEF h]
 constructor
 rintro ⟨p,hp,q,hq,e,t1,t2,t3,t4,t5⟩;obtain ⟨j,hj,rfl⟩:=AR hq;have hij:=h j i _ _ (Aa hj) hx e;subst hij;refine ⟨p,hp,?_⟩
 unfold ziU;rw [if_neg (by omega),List.findIdx?_eq_some_iff_getElem];refine ⟨hj,(zoA l n p _).2 ⟨t3,t4,t5⟩,fun k hk hq=> ?_⟩
 obtain ⟨a,b,c⟩:=(zoA l n p _).1 hq;have:=h k j _ _ (Aa (by omega)) (Aa hj) (b.trans t4.symm)
 omega
 rintro ⟨p,hp,ht⟩;unfold ziU at ht
 split at ht
 cases ht
 rename_i hc
 obtain ⟨hi,h1,_⟩:=List.findIdx?_eq_some_iff_getElem.1 ht;obtain ⟨_,rfl⟩:=List.getElem?_eq_some_iff.1 hx;obtain ⟨a,b,c⟩:=(zoA l n p _).1 h1;exact ⟨p,hp,_,Bg hi,rfl,by omega,by omega,a,b,c⟩
end
section
def SLt (a b:Str):Prop:=a<=b/\a≠b
theorem zoz {a b:List Str} (ha:a.Pairwise SLt) (hb:b.Pairwise SLt) (h: ∀x,x∈a↔x∈b):a=b:=by
 have na:a.Nodup:=ha.imp fun q=>q.2
 have nb:b.Nodup:=hb.imp fun q=>q.2
 have hp:a.Perm b:=(Bi na nb).2 h;exact Cl (le:=SLt) (fun x y _ _ h1 h2=>List.le_antisymm h1.1 h2.1) ha hb hp
theorem zsE: ∀(l:List Str) (p:Option Str) (s:Str),s∈l->s∈zds p l\/p=some s
 |[],_,_,h=>by cases h
 |x::r,p,s,h=>by
   simp only [zds]
   rcases List.mem_cons.1 h with rfl|h
   split
   rename_i e;exact .inr e
   exact .inl (by simp)
   rcases zsE r (some x) s h with q|q
   split
   exact .inl q;exact .inl (Al _ q)
   cases q
   split
   rename_i e;exact .inr e
   exact .inl (by simp)
theorem zql: ∀(l:List Str) (p:Option Str),l.Pairwise (fun x y=>x<=y)->(∀q,p=some q->∀x∈l,q<=x)->(zds p l).Pairwise SLt/\∀q,p=some q->∀y∈zds p l,SLt q y
 |[],_,_,_=>⟨by simp [zds],fun q _ y hy=>by simp [zds] at hy⟩
 |x::r,p,h,hp=>by
   obtain ⟨h1,h2⟩:=List.pairwise_cons.1 h;obtain ⟨i1,i2⟩:=zql r (some x) h2 (fun q e y hy=>by cases e;exact h1 y hy);simp only [zds]
   split
   rename_i e
   refine ⟨i1,fun q eq y hy=> ?_⟩
   rw [e] at eq;cases eq;exact i2 x rfl y hy
   rename_i e
   refine ⟨List.pairwise_cons.2 ⟨fun y hy=>i2 x rfl y hy,i1⟩,fun q eq y hy=> ?_⟩
   have hqx:SLt q x:=⟨hp q eq x (by simp),fun he=>e (by rw [eq,he])⟩
   rcases List.mem_cons.1 hy with rfl|hy
   exact hqx;have hxy:=i2 x rfl y hy;refine ⟨List.le_trans hqx.1 hxy.1,fun he=> ?_⟩
   subst he;exact hqx.2 (List.le_antisymm hqx.1 hxy.1)
def zdX (l:List Str):List Str:=Lib.compact (zaB l)
theorem zp4 (l:List Str):(zdX l).Pairwise SLt:=by
 unfold zdX;rw [ziG];exact (zql _ none (zqf l) (fun q e=>by cases e)).1
theorem zpX {l:List Str} {s:Str}:s∈zdX l↔s∈l:=by
 constructor
 exact zF8
 intro h
 unfold zdX;rw [ziG]
 rcases zsE (zaB l) none s ((A2 _ _).mem_iff.2 h) with q|q
 exact q
 cases q
theorem ziT {l:List Str} (h:l.Nodup):(zaB l).Pairwise SLt:=by
 have hn:(zaB l).Nodup:=(A2 _ _).nodup_iff.2 h;have hs:=zqf l;rw [List.pairwise_iff_getElem] at*
 intro i j hi hj hij
 exact ⟨hs i j hi hj hij,List.pairwise_iff_getElem.1 hn i j hi hj hij⟩
theorem zxW {l:List Str} (h:l.Nodup):zdX l=zaB l:=
 zoz (zp4 l) (ziT h) fun x=>by rw [zpX,zaB,(A2 _ _).mem_iff]
def zEf (l:List Play) (trust:List Str) (n:Int):List PairS:=((zdX (l.map (·.Match))).filter fun m=>zfH l trust m n !=[]).map fun m=>⟨m,zfH l trust m n⟩
theorem zJk {l:List Play} {trust:List Str} {n:Int} {O:List (Str×Str)} (hn:ANodup O) (hO: ∀m,alk m O=zjx l trust n m) (ht: ∀s∈trust,s≠[]):
 ((zaB (O.map (·.1))).map fun m=>(⟨m,(alk m O).getD []⟩:PairS))=zEf l trust n:=by
 unfold zEf;have e:zaB (O.map (·.1))=(zdX (l.map (·.Match))).filter fun m=>zfH l trust m n !=[]:=by
  refine zoz (ziT hn) ((zp4 _).filter _) fun m=> ?_
  rw [zaB,(A2 _ _).mem_iff,List.mem_filter,zpX];have hk:m∈O.map (·.1)↔¬alk m O=none:=by rw [zdt];exact Decidable.not_not.symm
  rw [hk,hO,zln]
  constructor
  intro h
  obtain ⟨s,hs⟩:=Option.ne_none_iff_exists'.1 h;rw [hs];rw [zxr] at hs;have h1:=List.find?_some hs;have h2:=BG hs;unfold zjU at h1;rw [A6] at h1;obtain ⟨x,hx,hq⟩:=h1;simp only [AZ,beq_iff_eq,decide_eq_true_eq] at hq;exact ⟨List.mem_map.2 ⟨x,hx,hq.1.2⟩,by simpa using ht s h2⟩;rintro ⟨_,h⟩ hc;rw [hc] at h;simp at h
 rw [e];refine BM fun m _=> ?_
 rw [zln,hO]
def zbN {κ:Type} (c:List ((Str×κ)×Int)) (s:Str):List (κ×Int):=(c.filter fun e=>e.1.1==s).map fun e=>(e.1.2,e.2)
theorem zuA {κ:Type} [DecidableEq κ] (s:Str) (st:κ) (v:Int) (s':Str): ∀c:List ((Str×κ)×Int),zbN (zp (s,st) v c) s'=if s'=s then zp st v (zbN c s) else zbN c s'
 |[]=>by
   by_cases e:s'=s
   subst e;simp [zbN,zp];have: ¬s=s':=fun q=>e q.symm
   simp [zbN,zp,e,this]
 |p::r=>by
   have ih:=zuA s st v s' r;obtain ⟨⟨a,b⟩,w⟩:=p;simp only [zp,Prod.mk.injEq]
   by_cases h1:s=a
   subst h1
   by_cases h2:st=b
   subst h2;rw [if_pos ⟨rfl,rfl⟩]
   by_cases e:s'=s
   subst e;simp [zbN,zp];have: ¬s=s':=fun q=>e q.symm
   simp [zbN,e,this]
   rw [if_neg (fun q=>h2 q.2)]
   by_cases e:s'=s
   subst e;rw [if_pos rfl] at ih⊢;simp only [zbN,AO,beq_self_eq_true,if_true,Ao,zp,if_neg h2] at ih⊢;rw [ih];have: ¬s=s':=fun q=>e q.symm
   rw [if_neg e] at ih⊢;simp only [zbN,AO,beq_iff_eq,if_neg this] at ih⊢;exact ih;rw [if_neg (fun q=>h1 q.1)]
   by_cases e:s'=s
   subst e;have: ¬a=s':=fun q=>h1 q.symm
   rw [if_pos rfl] at ih⊢;simp only [zbN,AO,beq_iff_eq,if_neg this] at ih⊢;exact ih;rw [if_neg e] at ih⊢
   by_cases h3:a=s'
   simp only [zbN,AO,beq_iff_eq,if_pos h3,Ao] at ih⊢;rw [ih];simp only [zbN,AO,beq_iff_eq,if_neg h3] at ih⊢;exact ih
theorem zl6 {κ:Type} [DecidableEq κ] (s:Str) (st:κ): ∀c:List ((Str×κ)×Int),alk st (zbN c s)=alk (s,st) c
 |[]=>rfl
 |⟨⟨a,b⟩,w⟩::r=>by
   have ih:=zl6 s st r
   by_cases h:a=s
   subst h;simp only [zbN,AO,beq_self_eq_true,if_true,Ao,alk,Prod.mk.injEq,true_and] at ih⊢;rw [ih];have: ¬s=a:=fun q=>h q.symm
   simp only [zbN,AO,beq_iff_eq,if_neg h,alk,Prod.mk.injEq,this,false_and,if_false] at ih⊢;exact ih
def zgX (E:List (Str×Int)):List StatS:=zah zaU ((E.filter fun e=>e.2 !=0).map fun e=>⟨e.1,e.2⟩)
theorem zt5 (c:List (Of2×Int)) (s:Str):za0 c s=((zbN c s).filter fun e=>e.2 !=0).map fun e=>⟨e.1,e.2⟩:=by
 unfold za0 zbN;rw [List.filter_map,AW,List.filter_filter]
 congr 1
 refine List.filter_congr fun e _=> ?_
 simp [Bool.and_comm]
theorem zvy (c:List (Of2×Int)) (s:Str):zck c s=zgX (zbN c s):=by unfold zck zgX;rw [zt5]
end
section
theorem zFk {l:List Str} {s:Str} (hs:SortedS l) (h:l.contains s=true):l[zeF l s]? =some s/\∀(j:Nat) (z:Str),j<zeF l s->l[j]? =some z->z≠s:=by
 obtain ⟨k,hk,e⟩:=AR (by simpa using h);have hk':l[k]? =some s:=by rw [Aa hk,e]
 have hp:zeF l s=k:=zqE (by omega) (fun j x hj hx=>hs.get hj hx hk') (fun j x hj hx=>by
  rcases Nat.lt_or_eq_of_le hj with q|q
  exact zcQ (hs.get q hk' hx);subst q;rw [hk'] at hx;cases hx;exact zaJ _)
 rw [hp];refine ⟨hk',fun j z hj hz e2=> ?_⟩
 have:=hs.get hj hz hk';rw [e2,zaJ] at this;cases this
/-! as a walk tells it-/
section
variable {α:Type} {f:α->Int} {c:α->α->Int} {d:α} {l r:List α} {k:Nat} {x:α} {e:Int}
end
theorem zkR {a b:Str}:zY a b<0↔Op.bytesLess a b=true:=by
 have h1:=zfG a b
 constructor
 intro h
 rcases zcR a b with q|q|q
 exact q;rw [zbi.2 q] at h;omega;have:=zkQ.2 (zcQ q);omega
 intro h
 have h2: ¬zY a b=0:=fun e=>by rw [zbi.1 e,zaJ] at h;cases h
 have h3:=zkQ.2 (zcQ h)
 omega
end
section
open Op
theorem znm {l:List Str} (h: ∀(j:Nat) (x y:Str),l[j]? =some x->l[j+1]? =some y->bytesLess x y=true):SortedS l:=by
 have key: ∀(d i:Nat) (a b:Str),l[i]? =some a->l[i+d+1]? =some b->bytesLess a b=true:=by
  intro d
  induction d with
  |zero=>intro i a b ha hb;exact h i a b ha hb
  |succ d ih=>
    intro i a b ha hb
    have hl:=zn hb;obtain ⟨c,hc⟩: ∃c,l[i+d+1]? =some c:=⟨_,Aa (by omega)⟩
    exact zfR (ih i a c ha hc) (h (i+d+1) c b hc (by rw [<-hb];congr 1))
 refine List.pairwise_iff_getElem.2 fun i j hi hj hij=> ?_
 exact key (j-i-1) i _ _ (Aa hi) (by rw [show i+(j-i-1)+1=j by omega];exact Aa hj)
end
section
/-! sets of numbers as bits-/
abbrev zGe:Int:= -1000
inductive WayB (al:Nat->Nat->Bool) (can:List (List Nat)) (fr:Nat) (g:List Nat):List Nat->Int->Prop
 |nil:WayB al can fr g [] 0
 |snoc {q:List Nat} {c:Int} {k:Nat} (h:WayB al can fr g q c) (hk:k∈(fr+q.length)::can.getD (fr+q.length) []) (ha:al (fr+q.length) k=true) (hn:k∉g++q):
    WayB al can fr g (q++[k]) (c+if k=fr+q.length then 0 else 1)
theorem WayB.bd {al:Nat->Nat->Bool} {can:List (List Nat)} {fr:Nat} {g q:List Nat} {c:Int} (h:WayB al can fr g q c):0<=c/\c<=q.length:=by
 induction h with
 |nil=>simp
 |snoc h hk ha hn ih=>rw [Ax,CD];split<;>omega
structure CanOk (can:List (List Nat)):Prop where
 lt: ∀i,∀k∈can.getD i [],k<can.length
 ne: ∀i,i∉can.getD i []
 len:can.length<=14
section
variable {al:Nat->Nat->Bool} {can:List (List Nat)} {fr:Nat} {g:List Nat}
theorem WayB.lt {q:List Nat} {c:Int} (hc:CanOk can) (h:WayB al can fr g q c) (hl:fr+q.length<=can.length): ∀k∈q,k<can.length:=by
 induction h with
 |nil=>simp
 |snoc h hk ha hn ih=>
   rw [Ax,CD] at hl
   intro k hm
   rcases List.mem_append.1 hm with hm|hm
   exact ih (by omega) k hm;rw [List.mem_singleton.1 hm]
   rcases List.mem_cons.1 hk with e|e
   omega
   exact hc.lt _ _ e
end
end
section
/-! ways by their heads-/
section
variable {al:Nat->Nat->Bool} {can:List (List Nat)}
end
end
section
def zIY (S:List Bool) (i:Nat):Int:=if S.getD i false=true then 0 else 1
def cS (S:List Bool):Nat->Nat->Int
 |_,0=>0
 |fr,m+1=>zIY S fr+cS S (fr+1) m
section
variable {can:List (List Nat)} {S:List Bool}
end
end
section
def BdB (m:Int) (l:List Int):Prop:= ∀t,l.getD t 0=zGe\/(0<=l.getD t 0/\l.getD t 0<=m)
theorem BdB.mono {m m':Int} {l:List Int} (h:BdB m l) (hm:m<=m'):BdB m' l:=fun t=>by
 rcases h t with e|e
 exact .inl e;exact .inr ⟨e.1,by omega⟩
end
section
open Op
end
section
open Go
section
variable {P:Program} {e:Env} {dst:Option Tmp} {ty:TypeId} {pos:String} {af:Array Edge} {g:Option (Nat×Bool)} {M:List MObj} {K:HVal->List MObj->Prop}
def zcK {α:Type} (x:Str):List (Str×α)->List (Str×α)
 |[]=>[]
 |p::r=>if x=p.1 then r else p::zcK x r
theorem zu2 {s:Str}: ∀{l:List (Str×HVal)},(∀j h,z7 s l=some (j,h)->zcK s l=l.eraseIdx j)/\(z7 s l=none->zcK s l=l)
 |[]=>⟨fun j h hh=>by simp [z7] at hh,fun _=>rfl⟩
 |(k,x)::r=>by
   obtain ⟨h1,h2⟩:=zu2 (s:=s) (l:=r)
   by_cases hk:s=k
   refine ⟨fun j h hh=> ?_,fun hh=> ?_⟩
   simp [z7,hk] at hh;rw [<-hh.1];simp [zcK,hk]
   simp [z7,hk] at hh
   refine ⟨fun j h hh=> ?_,fun hh=> ?_⟩
   simp only [z7,if_neg hk] at hh
   cases hr:z7 s r with
   |none=>rw [hr] at hh;simp at hh
   |some p=>
     rw [hr] at hh
     simp at hh
     rw [<-hh.1,zcK,if_neg hk,h1 p.1 p.2 hr];rfl
   simp only [z7,if_neg hk] at hh
   cases hr:z7 s r with
   |none=>rw [zcK,if_neg hk,h2 hr]
   |some p=>rw [hr] at hh;simp at hh
theorem zx4 {α:Type} {f:α->HVal} {s:Str}: ∀L:List (Str×α),zcK s (em f L)=em f (zcK s L)
 |[]=>rfl
 |p::r=>by
   have ih:=zx4 (f:=f) (s:=s) r;simp only [Ao,zcK] at ih⊢
   by_cases h:s=p.1
   rw [if_pos h,if_pos h];rw [if_neg h,if_neg h,ih];rfl
theorem BornOk.erase {es:Array MapEntry} {clk:Nat} (h:BornOk es clk) {k:Nat} (hk:k<es.size):BornOk (es.eraseIdx k hk) clk:=by
 have key: ∀i m,(es.eraseIdx k hk)[i]? =some m->es[if i<k then i else i+1]? =some m:=fun i m hm=>by
  rw [Array.getElem?_eraseIdx] at hm;split at hm<;>rename_i hi<;>simp [hi,hm]
 refine ⟨fun i m hm=>h.1 _ m (key i m hm),fun i j m n hm hn he=> ?_⟩
 have:=h.2 _ _ m n (key i m hm) (key j n hn) he
 split at this<;>split at this<;>omega
theorem zsV {at':Array TypeId} {xs:Array Operand} {ρ:Operand->Value} (w:World):
 (execOp ρ ⟨dst,.call ⟨.builtin .delete,xs,at'⟩,ty,pos,af,g⟩).run P w=((Builtin.delete_ at' ty (xs.map ρ)).run P w).andThen (fun v w=> .ok (.value v) w):=by
 simp [execOp,resolve,invoke,builtin]
theorem zzv [Tracks] {α:Type} {x y:Operand} {t kt et:TypeId} {size bytes s2 b2:Nat} {zero z2:Value} {i b:Nat} {f:α->HVal} {L:List (Str×α)} {s:Str}
 (hf:Fits P t (.map kt et) size bytes zero) (hkt:Fits P kt .str s2 b2 z2) (hx:zh e x=some (.raw (.map (some b)))) (hy:zh e y=some (.str s)) (hm:M[i]? =some (.map b (sk (em f L))))
 (hk:K (.tup []) (M.set i (.map b (sk (em f (zcK s L)))))):EOp P e M ⟨dst,.call ⟨.builtin .delete,#[x,y],#[t,kt]⟩,ty,pos,af,g⟩ K:=
 EOp.of_run fun I F a w ho hs=>by
  have h1:=(ho.one (x:=x) (by simp [Op.operands,Call.operands]) hx).raw_inv;have h2:=(ho.one (x:=y) (by simp [Op.operands,Call.operands]) hy).str_inv;have hp:=hs.pull hm;obtain ⟨es,clk,h3,h4,h5⟩:=hp.obj _ Ai;obtain ⟨h6,h7⟩:=ziK h4.1 h5;obtain ⟨n1,n2⟩:=zjT (I:=I) (s:=s) es.toList (em f L) 0 h6 h7;obtain ⟨d1,d2⟩:=zu2 (s:=s) (l:=em f L);rw [zx4] at d1 d2;have hlt:b<w.heap.size:=(Array.getElem?_eq_some_iff.1 h3).1;have fin: ∀(es':Array MapEntry),es'.size=(sk (em f (zcK s L))).length/\BornOk es' clk->
   (∀(i:Nat) (p:HVal×HVal) (m:MapEntry),(sk (em f (zcK s L)))[i]? =some p->es'[i]? =some m->V I p.1 m.key/\V I p.2 m.val)->
   Sat P I (M.set i (.map b (sk (em f (zcK s L))))++F) {w with heap:=w.heap.setIfInBounds b (.map es' clk)}:=fun es' e1 e2=>by
   refine zcc hm (hp.change (m':= .map b (sk (em f (zcK s L)))) (fun k hk hnk=> ?_) (fun k hk=> .inl hk) (by simp [MObj.blocks]) ⟨es',clk,by simp [hlt],e1,e2⟩ rfl rfl rfl)
   have:k≠b:=by simpa [MObj.blocks] using hnk
   simp [AJ (Ne.symm this)]
  cases hq:z7 s (em f L) with
  |none=>
    rw [d2 hq] at fin;refine ⟨.tuple #[],.tup [],_,{w with heap:=w.heap.setIfInBounds b (.map es clk)},I,?_,.refl I,hk,.tup rfl (fun j c v h _=>by simp at h),?_⟩
    rw [zsV];simp only [Cb,Ao,A7,h1,h2,Builtin.delete_,A8,A3,AN,Sem.run_bind,run_underlying hf.mapD,Result.andThen_ok,zaW h3,zc4 hkt.strD,Instr.findKey,run_underlying hkt.strD,n1 hq,Sem.run_pure,zee h3];rw [d2 hq];exact fin es h4 h5
  |some q=>
    obtain ⟨j0,h'⟩:=q;obtain ⟨v,g1,g2⟩:=n2 j0 h' hq;have hj0:=zrL hq;have hjl:=zn hj0;have hsz:es.size=(em f L).length:=by simpa [sk] using h4.1
    have hjs:j0<es.size:=by omega
    have hes:es.eraseIdxIfInBounds j0=es.eraseIdx j0 hjs:=by unfold Array.eraseIdxIfInBounds;rw [dif_pos hjs]
    have hd:sk (em f (zcK s L))=(sk (em f L)).eraseIdx j0:=by
     rw [d1 j0 h' hq];have e1: ∀(l:List (Str×HVal)) (j:Nat),sk (l.eraseIdx j)=(sk l).eraseIdx j:=fun l=>by
      induction l with
      |nil=>intro j;rfl
      |cons p r ih=>
        intro j
        cases j with
        |zero=>rfl
        |succ j=>simp only [Cq,sk,Ao] at ih⊢;rw [ih]
     exact e1 _ _
    refine ⟨.tuple #[],.tup [],_,{w with heap:=w.heap.setIfInBounds b (.map (es.eraseIdx j0 hjs) clk)},I,?_,.refl I,hk,.tup rfl (fun j c v h _=>by simp at h),fin (es.eraseIdx j0 hjs) ⟨?_,h4.2.erase hjs⟩ fun p q m a1 a2=> ?_⟩
    rw [zsV];simp only [Cb,Ao,A7,h1,h2,Builtin.delete_,A8,A3,AN,Sem.run_bind,run_underlying hf.mapD,Result.andThen_ok,zaW h3,zc4 hkt.strD,Instr.findKey,run_underlying hkt.strD,g1,Sem.run_pure,Bk,hes,zee h3];rw [hd,Array.size_eraseIdx,List.length_eraseIdx];have:(sk (em f L)).length=es.size:=h4.1.symm;rw [this,if_pos hjs];rw [hd,List.getElem?_eraseIdx] at a1;rw [Array.getElem?_eraseIdx] at a2
    split at a1
    rename_i hp1;rw [if_pos hp1] at a2;exact h5 _ _ _ a1 a2
    rename_i hp1;rw [if_neg hp1] at a2;exact h5 _ _ _ a1 a2
end
end
section
open Go
section
variable {P:Program} {e:Env} {dst:Option Tmp} {ty:TypeId} {pos:String} {af:Array Edge} {g:Option (Nat×Bool)} {M:List MObj} {K:HVal->List MObj->Prop}
end
/-! a row that fills up-/
end
section
open Go
section
variable {P:Program} {e:Env} {dst:Option Tmp} {ty:TypeId} {pos:String} {af:Array Edge} {g:Option (Nat×Bool)}
end
end
section
open Op
def zgm:List Int->List Int->Int
 |[],[]=>0
 |[],_::_=> -1
 |_::_,[]=>1
 |x::a,y::b=>if zai x y≠0 then zai x y else zgm a b
end
section
open Op
theorem zEX {s:Str} (h:key s=true):leB s []=false:=by
 have hn:s≠[]:=by
  rintro rfl;have:key ([]:Str)=false:=by decide
  rw [this] at h;cases h
 cases s with
 |nil=>exact absurd rfl hn
 |cons a t=>rfl
theorem ord2 {a b:Str} {m n:Int}:orI [zY a b,zai m n]<=0↔bytesLess a b=true\/a=b/\m<=n:=by
 rw [zdx]
 split
 rename_i h
 have h0:a≠b:=fun e=>h (zbi.2 e)
 rw [<-zkR]
 constructor
 intro q;left;omega
 rintro (q|q)
 omega
 exact absurd q.1 h0
 rename_i h
 have h0:a=b:=zbi.1 (by simpa using h);subst h0;rw [zm7]
 constructor
 intro q;exact .inr ⟨rfl,q⟩
 rintro (q|q);rw [zaJ] at q;cases q;exact q.2
def zow (n:Int):Int:=if n<0 then-1 else if 0<n then 1 else 0
theorem zDd {a b:Int}:zow (a-b)=zai a b:=by
 unfold zow zai
 (repeat' split)<;>first|rfl|omega
theorem zB1 {a b c d:Int}:zgm [a,b] [c,d]=orI [zai a c,zai b d]:=by
 rw [zdx,zgm,zgm,zgm]
 split
 rfl
 split
 rfl
 rename_i h;have:zai b d=0:=by simpa using h
 rw [this]
theorem zEz {x p:FixS}:orI [zai x.Week p.Week,zai x.At p.At,zY x.Home p.Home]<=0↔0<zgm [p.Week,p.At] [x.Week,x.At]\/zgm [p.Week,p.At] [x.Week,x.At]=0/\bytesLess p.Home x.Home=false:=by
 rw [zB1,zdx,<-zkQ];unfold orI
 by_cases h1:x.Week=p.Week
 by_cases h2:x.At=p.At
 have e1:zai x.Week p.Week=0:=zcH.2 h1;have e2:zai x.At p.At=0:=zcH.2 h2;have e3:zai p.Week x.Week=0:=zcH.2 h1.symm;have e4:zai p.At x.At=0:=zcH.2 h2.symm;simp only [e1,e2,e3,e4];rw [zdx]
 constructor
 intro h
 refine .inr ⟨rfl,?_⟩
 simpa [orI] using h
 rintro (h|⟨_,h⟩);exact absurd h (by decide)
 simpa [orI] using h
 have e1:zai x.Week p.Week=0:=zcH.2 h1;have e3:zai p.Week x.Week=0:=zcH.2 h1.symm;have e2:zai x.At p.At≠0:=fun e=>h2 (zcH.1 e)
 have e4:=zl0 x.At p.At;simp only [e1,e3];rw [zdx,if_pos e2]
 simp
 omega
 have e1:zai x.Week p.Week≠0:=fun e=>h1 (zcH.1 e)
 have e3:=zl0 x.Week p.Week;have e4:zai p.Week x.Week≠0:=by omega
 rw [if_pos e1,if_pos e4]
 omega
end
section
open Op
structure BookS where
 League:LeagueS
 Moves:List MoveS
 Plays:List Play
 Mends:List MendS
 Health:List HealthS
 Choices:List ChoiceS
abbrev zy3 (b:BookS):List HVal:=[zbp b.League.Players,zgf b.League.Stints,znW b.League.Fixtures,zfv b.League.Rules,zgH b.League.Slots,.int .i64 b.League.Bounds.Most,.int .i64 b.League.Bounds.Hurt,.int .i64 b.League.Bounds.Adds,.int .i64 b.League.Bounds.Hold,
 eSs b.League.Teams,zm8 b.League.Games,eIs b.League.Breaks,eSs b.League.Trust,.int .i64 b.League.Start,zcA b.Moves,zbK b.Plays,zcq b.Mends,zde b.Health,zd1 b.Choices]
abbrev zaP (b:BookS):HVal:= .agg (zy3 b)
def zlS (a b:ChoiceS):Int:=orI [zY a.Team b.Team,zai a.Week b.Week,zai a.At b.At]
def zcx (s:Str):Bool:=s==[]||key s
def zcv (T:List Str) (n:Nat) (k:Nat) (x p:ChoiceS):Int:=
 if T.contains x.Team=false then 8 else if zar x.Week=false\/zN x.At=false then 1 else if x.Players.length≠n then 3
 else if ((x.Players++[x.Captain]).all zcx)=false then 5 else if 0<k/\zlS x p<=0 then 7 else 0
def ztC (T:List Str) (n:Nat) (l:List ChoiceS):Int:=zff 1000 (zcv T n) zdU l
def ziJ (g:LeagueS):Int:=orI [zlz g.Players g.Stints,zj9 g.Fixtures,zhs g.Rules,zeS g.Slots,zeo g.Bounds,zgo g.Teams g.Games]
def zmJ (g:LeagueS):Int:=orI [zi6 g.Breaks,zcB g.Trust]
def zdy (l:List GameS):Bool:=l.any (·.Played)
def zbQ (g:LeagueS):Int:=
 if ziJ g≠0 then ziJ g else if zdy g.Games=true then 11 else if zmJ g≠0 then zmJ g
 else if zN g.Start=false\/345686400000<g.Start+36288000000 then 1 else 0
def zbz (b:BookS):Int:=if zbQ b.League≠0 then zbQ b.League else orI [zfg b.Moves,zb7 b.Plays,zbY b.Mends,ztI b.League.Players b.Health,ztC b.League.Teams b.League.Slots.length b.Choices]
theorem zdi: ∀{a b:List Int},orI (a++b)=if orI a≠0 then orI a else orI b
 |[],b=>by simp [orI]
 |x::a,b=>by
   rw [A0,orI,orI,zdi]
   by_cases h:x≠0
   rw [if_pos h,if_pos h,if_pos h];rw [if_neg h,if_neg h]
theorem zCG {a r:List Int}:orI (orI a::r)=orI (a++r):=by rw [zdi,orI]
theorem ztO (g:LeagueS):ziJ g=orI ([zdk g.Players]++([zkd g.Players g.Stints,zj9 g.Fixtures,zhs g.Rules,zeS g.Slots,zeo g.Bounds,zdQ g.Teams]++[zeP g.Teams g.Games])):=by
 have e1:zlz g.Players g.Stints=orI [zdk g.Players,zkd g.Players g.Stints]:=by rw [zdx];rfl
 have e2:zgo g.Teams g.Games=orI [zdQ g.Teams,zeP g.Teams g.Games]:=by rw [zdx];rfl
 unfold ziJ;rw [e1,zCG]
 show orI [zdk g.Players,zkd g.Players g.Stints,zj9 g.Fixtures,zhs g.Rules,zeS g.Slots,zeo g.Bounds,zgo g.Teams g.Games]=orI [zdk g.Players,zkd g.Players g.Stints,zj9 g.Fixtures,zhs g.Rules,zeS g.Slots,zeo g.Bounds,zdQ g.Teams,zeP g.Teams g.Games]
 have e3: ∀l:List Int,orI (l++[zgo g.Teams g.Games])=orI (l++[zdQ g.Teams,zeP g.Teams g.Games]):=fun l=>by
  rw [zdi,zdi,e2]
  congr 1
  rw [orI]
  split
  rfl
  rename_i h;have h0:orI [zdQ g.Teams,zeP g.Teams g.Games]=0:=by simpa using h
  rw [h0];rfl
 exact e3 [zdk g.Players,zkd g.Players g.Stints,zj9 g.Fixtures,zhs g.Rules,zeS g.Slots,zeo g.Bounds]
theorem zA4 {g:LeagueS} (h:zdk g.Players≠0):zdk g.Players=zbQ g:=by
 have e:ziJ g=zdk g.Players:=by rw [ztO,zdi,zE8,if_pos h]
 rw [zbQ,e,if_pos h]
def zkb (g:LeagueS):Int:=orI [zkd g.Players g.Stints,zj9 g.Fixtures,zhs g.Rules,zeS g.Slots,zeo g.Bounds,zdQ g.Teams]
theorem zF2 {g:LeagueS} (h:zdk g.Players=0) (h2:zkb g≠0):zkb g=zbQ g:=by
 have e:ziJ g=zkb g:=by
  rw [ztO,zdi,if_neg (by simp [orI,h]),zdi];exact if_pos h2
 rw [zbQ,e,if_pos h2]
theorem zvK {g:LeagueS} (h:zdk g.Players=0) (h2:zkb g=0):ziJ g=zeP g.Teams g.Games:=by
 rw [ztO,zdi,if_neg (by simp [orI,h]),zdi,if_neg (by rw [show orI [zkd g.Players g.Stints,zj9 g.Fixtures,zhs g.Rules,zeS g.Slots,zeo g.Bounds,zdQ g.Teams]=zkb g from rfl,h2];simp)];rw [orI]
 split
 rfl
 rename_i h;simp at h;rw [h];rfl
theorem zCv {g:LeagueS} (h2:zkb g=0):zdQ g.Teams=0:=by
 unfold zkb at h2;have e:([zkd g.Players g.Stints,zj9 g.Fixtures,zhs g.Rules,zeS g.Slots,zeo g.Bounds,zdQ g.Teams]:List Int)=[zkd g.Players g.Stints,zj9 g.Fixtures,zhs g.Rules,zeS g.Slots,zeo g.Bounds]++[zdQ g.Teams]:=rfl;rw [e,zdi] at h2
 split at h2
 contradiction
 rw [orI] at h2
 split at h2
 contradiction
 rename_i h;simpa using h
theorem zED {T:List Str} {l:List GameS} (h:zdQ T=0):zgo T l=zeP T l:=by rw [zgo,if_neg (by simp [h])]
theorem zF3 {g:LeagueS} (h:zdk g.Players=0) (h2:zkb g=0) (h3:zeP g.Teams g.Games≠0):zeP g.Teams g.Games=zbQ g:=by
 rw [zbQ,zvK h h2,if_pos h3]
theorem zF4 {g:LeagueS} (h:zdk g.Players=0) (h2:zkb g=0) (h3:zeP g.Teams g.Games=0) (h4:zdy g.Games=true):11=zbQ g:=by
 rw [zbQ,zvK h h2,if_neg (by simp [h3]),if_pos h4]
def zwF (g:LeagueS):Int:=orI [zi6 g.Breaks,zcB g.Trust,if zN g.Start then 0 else 1]
theorem zyt (g:LeagueS):zwF g=if zmJ g≠0 then zmJ g else if zN g.Start=false then 1 else 0:=by
 unfold zwF zmJ;rw [show ([zi6 g.Breaks,zcB g.Trust,if zN g.Start then 0 else 1]:List Int)=[zi6 g.Breaks,zcB g.Trust]++[if zN g.Start then 0 else 1] from rfl,zdi]
 congr 1
 rw [orI]
 cases zN g.Start<;>rfl
theorem zF5 {g:LeagueS} (h:zdk g.Players=0) (h2:zkb g=0) (h3:zeP g.Teams g.Games=0) (h4:zdy g.Games=false) (h5:zwF g≠0):zwF g=zbQ g:=by
 rw [zbQ,zvK h h2,if_neg (by simp [h3]),if_neg (by rw [h4];simp)];rw [zyt] at h5⊢
 split
 rfl
 rename_i h6
 rw [if_neg h6] at h5
 cases h7:zN g.Start with
 |false=>simp
 |true=>rw [h7] at h5;simp at h5
theorem zA5 {g:LeagueS} (h:zdk g.Players=0) (h2:zkb g=0) (h3:zeP g.Teams g.Games=0) (h4:zdy g.Games=false) (h5:zwF g=0):zbQ g=if 345686400000<g.Start+36288000000 then 1 else 0:=by
 rw [zbQ,zvK h h2,if_neg (by simp [h3]),if_neg (by rw [h4];simp)];rw [zyt] at h5
 split at h5
 contradiction
 rename_i h6
 rw [if_neg h6]
 cases h7:zN g.Start with
 |false=>rw [h7] at h5;simp at h5
 |true=>simp
def zdF:List Str:=[[77,97,114,121,32,74,111,32,83,109,105,116,104],[77,97,120,32,77,97,114,116,105,110],[74,111],[65,110,97,32,77,97,114,105,97,32,77,97],[79,39,78,101,105,108,32,109],[90,111,195,171,32,77,97]]
/-! what generated leagues and books are-/
end
section
open Op
def zn2 (N:List Str) (s:Str):Int:=if N.contains s=true then ((zeF N s:Nat):Int) else-1
theorem zuo {N:List Str} {s:Str}:zn2 N s<0↔N.contains s=false:=by
 unfold zn2
 cases N.contains s with
 |true=>simp
 |false=>simp
theorem zAz {l:List PlayerS} {s:Str} {i:Nat}:(bif decide ((i:Int)<(l.length:Int)) then zY (l.getD i zeX).Key s==0 else false)=((l.map (·.Key))[i]? ==some s):=by
 by_cases h:i<l.length
 obtain ⟨x,hx⟩: ∃x,l[i]? =some x:=⟨_,Aa h⟩
 have e:l.getD i zeX=x:=by rw [Ag,hx];rfl
 rw [Aj,hx,e];have h2:(i:Int)<(l.length:Int):=by omega
 simp only [h2,decide_true,cond_true,AI];rw [AE]
 simp [zbi]
 have h2: ¬(i:Int)<(l.length:Int):=by omega
 rw [AH (by simpa using Nat.le_of_not_lt h)]
 simp [h2]
theorem zsO {L:List PlayerS} {s:Str}:zS (fun x:PlayerS=>x.Key==s) L 0<0↔zhd L s=false:=by
 have h:=zb9 (fun x:PlayerS=>x.Key==s) L 0 (by omega);have e:L.any (fun x:PlayerS=>x.Key==s)=zhd L s:=by
  unfold zhd;rw [AE,A6,Bd,B8]
  constructor
  rintro ⟨x,h1,h2⟩;exact ⟨x,h1,by simpa using h2⟩;rintro ⟨x,h1,h2⟩;exact ⟨x,h1,by simpa using h2⟩
 rw [e] at h
 constructor
 intro q;rw [<-h];simp;omega
 intro q;rw [q] at h;simp at h;omega
theorem zom {l:List PlayerS} (h:zdk l=0):SortedS (l.map (·.Key)):=by
 obtain ⟨_,h2⟩:=zhf h;have nx: ∀(j:Nat) (x y:Str),(l.map (·.Key))[j]? =some x->(l.map (·.Key))[j+1]? =some y->bytesLess x y=true:=by
  intro j x y hx hy
  rw [Aj] at hx hy;obtain ⟨a,ha,rfl⟩:=Option.map_eq_some_iff.1 hx;obtain ⟨b,hb,rfl⟩:=Option.map_eq_some_iff.1 hy;have:=h2 (j+1) b hb;have ed:l.getD (j+1-1) zeX=a:=by rw [BE,Ag,ha];rfl
  rw [ed] at this;unfold zdo at this
  split at this
  omega
  split at this
  omega
  rename_i h3
  have h4:leB b.Key a.Key=false:=by
   cases e:leB b.Key a.Key with
   |false=>rfl
   |true=>exact absurd ⟨by omega,e⟩ h3
  unfold leB at h4;rw [A4] at h4
  rcases zcR a.Key b.Key with q|q|q
  exact q;rw [q] at h4;simp at h4;rw [q] at h4;cases h4.1
 exact znm nx
/-! games-/
def zkK (l:List GameS):List ((Str×Int)×Bool):=l.foldl (fun L x=>zp (x.Away,x.Week) true (zp (x.Home,x.Week) true L)) []
def ofG (t:Str) (w:Int) (y:GameS):Bool:=y.Week==w&&(y.Home==t||y.Away==t)
theorem zBF {l:List GameS} {x:GameS}:zkK (l++[x])=zp (x.Away,x.Week) true (zp (x.Home,x.Week) true (zkK l)):=by unfold zkK;rw [Ba];rfl
theorem zu0 {t:Str} {w:Int}: ∀{l:List GameS} {L:List ((Str×Int)×Bool)},(alk (t,w) (l.foldl (fun L x=>zp (x.Away,x.Week) true (zp (x.Home,x.Week) true L)) L)).getD false=((alk (t,w) L).getD false||l.any (ofG t w))
 |[],L=>by simp
 |x::l,L=>by
   rw [Bv,zu0,Bs,<-Cy]
   congr 1
   rw [za3,za3];unfold ofG
   by_cases h1:(t,w)=(x.Away,x.Week)
   rw [if_pos h1]
   cases h1
   simp
   rw [if_neg h1]
   by_cases h2:(t,w)=(x.Home,x.Week)
   rw [if_pos h2]
   cases h2
   simp
   rw [if_neg h2];have e:(x.Week==w&&(x.Home==t||x.Away==t))=false:=by
    rw [B5]
    intro h
    simp at h
    rcases h.2 with q|q
    exact h2 (by rw [h.1,q]);exact h1 (by rw [h.1,q])
   rw [e,BA]
theorem zyO {t:Str} {w:Int} {l:List GameS}:(alk (t,w) (zkK l)).getD false=l.any (ofG t w):=by
 unfold zkK;rw [zu0];rfl
theorem zAD {l:List GameS} {x:GameS}:l.any (zjP x)=(l.any (ofG x.Home x.Week)||l.any (ofG x.Away x.Week)):=by
 induction l with
 |nil=>rfl
 |cons y l ih=>
   rw [Bs,Bs,Bs,ih];unfold zjP ofG
   cases y.Week==x.Week<;>cases y.Home==x.Home<;>cases y.Home==x.Away<;>cases y.Away==x.Home<;>cases y.Away==x.Away<;>simp
def zlm (l:List GameS) (k:Nat):Bool:=(List.range k).any fun i=>(l.take i).any (zjP (l.getD i ze3))
theorem zwp {l:List GameS} {k:Nat} {x:GameS} (h:l[k]? =some x):zlm l (k+1)=(zlm l k||(l.take k).any (zjP x)):=by
 unfold zlm;rw [List.range_succ,List.any_append,Bs,List.any_nil,BA,Ag,h];rfl
theorem zwo {l:List GameS}: ∀{r:List GameS} {k:Nat},l.drop k=r->k<=l.length->(zlm l k||zes l k r)=zlm l l.length
 |[],k,hd,hk=>by
   have:l.length<=k:=by simpa using hd
   have e:k=l.length:=by omega
   subst e;rw [zes,BA]
 |x::r,k,hd,hk=>by
   have hx:l[k]? =some x:=by have:=congrArg (fun q:List GameS=>q[0]?) hd;simpa using this
   have hkl:=zn hx;rw [zes,<-Cy,<-zwp hx];exact zwo (by rw [<-BD (i:=1),hd];rfl) (by omega)
theorem zEt {l:List GameS}:zes l 0 l=zlm l l.length:=by
 have:=zwo (l:=l) (r:=l) (k:=0) rfl (Ad _);rw [<-this];rfl
end
section
open Op
theorem zpG {a b:Nat}:Nat.gcd b (a%b)=Nat.gcd a b:=by rw [Nat.gcd_comm b,<-Nat.gcd_rec,Nat.gcd_comm]
theorem zp0 {s:Str} (h:s∈zdF):out (s.length:Int) 1 60=false:=by
 revert h;revert s;decide
structure LeaB (g:LeagueS):Prop where
 pl:g.Players.length<=1000000
 nm: ∀p∈g.Players,p.Name∈zdF
 po: ∀p∈g.Players,p.Positions.length<=1000000
 st:g.Stints.length<=1000000
 fx:g.Fixtures.length<=1000000
 ru:g.Rules.length<=1000000
 rw': ∀x∈g.Rules,(-1000000000<=x.Num/\x.Num<=1000000000)/\ -1000000000<=x.Den/\x.Den<=1000000000
 sl:g.Slots.length<=1000000
 sp: ∀x∈g.Slots,x.Positions.length<=1000000
 tm:g.Teams.length<=1000000
 ga:g.Games.length<=1000000
 gb: ∀x∈g.Games,((-1000000000<=x.FNum/\x.FNum<=1000000000)/\ -1000000000<=x.FDen/\x.FDen<=1000000000)/\(-1000000000<=x.ONum/\x.ONum<=1000000000)/\ -1000000000<=x.ODen/\x.ODen<=1000000000
 br:g.Breaks.length<=1000000
 tr:g.Trust.length<=1000000
 sta: -1000000000000000<=g.Start/\g.Start<=1000000000000000
structure BookB (b:BookS):Prop where
 lea:LeaB b.League
 mv:b.Moves.length<=1000000
 pl:b.Plays.length<=1000000
 me:b.Mends.length<=1000000
 he:b.Health.length<=1000000
 ch:b.Choices.length<=1000000
 cp: ∀x∈b.Choices,x.Players.length<=1000000
/-! slots,breaks-/
theorem zxq {l:List SlotS} (h0:l.length≠0) (h1: ¬12<l.length) (hg:zdm l 0 l=zdm l l.length []):0=zeS l:=by
 rw [zeS,if_neg h0,if_neg h1,hg];rfl
theorem zjo {l r:List SlotS} {k:Nat} {x:SlotS} {e:Int} (h0:l.length≠0) (h1: ¬12<l.length) (hg:zdm l 0 l=zdm l k (x::r)) (he:zdm l k (x::r)=e):e=zeS l:=by
 rw [zeS,if_neg h0,if_neg h1,hg,he]
theorem zx7 {l:List Int} (h1: ¬5<l.length) (hg:zeZ l 0 l=zeZ l l.length []):0=zi6 l:=by rw [zi6,if_neg h1,hg];rfl
theorem zqq {l r:List Int} {k:Nat} {x:Int} {e:Int} (h1: ¬5<l.length) (hg:zeZ l 0 l=zeZ l k (x::r)) (he:zeZ l k (x::r)=e):e=zi6 l:=by rw [zi6,if_neg h1,hg,he]
/-! names of a choice-/
theorem zE3 {s:Str} (h1:s≠[]) (h2:key s=false):zcx s=false:=by
 unfold zcx;rw [h2,BA,beq_eq_false_iff_ne];exact h1
theorem zE4 {s:Str} (h:s≠[]->key s=true):zcx s=true:=by
 unfold zcx
 by_cases e:s=[]
 rw [e];rfl;rw [h e,Bool.or_true]
theorem zBl {l:List Str} {s:Str} (hs:s∈l) (h:zcx s=false):l.all zcx=false:=by
 rw [List.all_eq_false];exact ⟨s,hs,by rw [h];simp⟩
/-! games-/
def inC (l:List GameS) (x:GameS) (k j:Nat):Bool:=zlm l k||([x.Home,x.Away].take j).any fun t=>(l.take k).any (ofG t x.Week)
def inM (l:List GameS) (x:GameS) (k j:Nat):List ((Str×Int)×Bool):=([x.Home,x.Away].take j).foldl (fun L t=>zp (t,x.Week) true L) (zkK (l.take k))
theorem zEO {l:List GameS} {x:GameS} {k j:Nat} {s:Str} (hne:x.Home≠x.Away) (hs:[x.Home,x.Away][j]? =some s):
 (inC l x k j||(alk (s,x.Week) (inM l x k j)).getD false)=inC l x k (j+1)/\zp (s,x.Week) true (inM l x k j)=inM l x k (j+1):=by
 match j,hs with
 |0,hs=>
   simp at hs;subst hs
   refine ⟨?_,rfl⟩
   unfold inC inM;simp only [List.take_zero,List.any_nil,BA,List.foldl_nil,Cf,Bs];rw [zyO]
 |1,hs=>
   simp at hs;subst hs
   refine ⟨?_,rfl⟩
   unfold inC inM;simp only [List.take_zero,List.any_nil,BA,List.foldl_nil,Cf,Bs,Bv];rw [za3,if_neg (fun e=>by have e9:=congrArg Prod.fst e;first|exact hne e9|exact hne e9.symm),zyO,Cy]
theorem zyp {l:List GameS} {x:GameS} {k:Nat}:inC l x k 0=zlm l k/\inM l x k 0=zkK (l.take k):=by
 unfold inC inM;simp
theorem zFY {l:List GameS} {x:GameS} {k:Nat} (hx:l[k]? =some x):inC l x k 2=zlm l (k+1)/\inM l x k 2=zkK (l.take (k+1)):=by
 refine ⟨?_,?_⟩
 rw [zwp hx,zAD];unfold inC
 simp
 rw [zW hx,zBF];unfold inM
 simp
theorem zyf {T:List Str} {l:List GameS} (hn: ¬1000<l.length) (hg:za9 (zcP T) ze3 l 0 l=za9 (zcP T) ze3 l l.length []):zeP T l=if zlm l l.length=true then 13 else 0:=by
 have h0:zff 1000 (zcP T) ze3 l=0:=(zba hn hg).symm;rw [zeP,h0,if_neg (by simp),zEt]
theorem zeV {T:List Str} {l:List GameS} {e:Int} (h:e=zff 1000 (zcP T) ze3 l) (h0:e≠0):e=zeP T l:=by
 rw [zeP,<-h,if_pos h0]
theorem zBO {m:Int} (h1: -18446744073709551616<=m) (h2:m<0):IntKind.wrap .u64 m=m+18446744073709551616:=by
 unfold IntKind.wrap
 simp [IntKind.bits,IntKind.signed]
 omega
theorem zFW {b:BookS} (h: ¬zbQ b.League≠0):zpK b.League.Players b.Health=ztI b.League.Players b.Health:=by
 have h0:zbQ b.League=0:=by simpa using h
 have h1:zdk b.League.Players=0:=by
  refine Classical.byContradiction fun hq=> ?_
  have:=zA4 hq;rw [h0] at this;exact hq this
 rw [zpK,if_neg (by simp [h1])]
end
section
open Go
def spl (c:UInt8):Str->List Str
 |[]=>[[]]
 |b::l=>if b=c then []::spl c l else match spl c l with
   |[]=>[[b]]
   |x::r=>(b::x)::r
def jn (c:UInt8):List Str->Str
 |[]=>[]
 |[x]=>x
 |x::r=>x++c::jn c r
theorem zEQ {c:UInt8} {x:Str} {r:List Str} (h:r≠[]):jn c (x::r)=x++c::jn c r:=by
 cases r with
 |nil=>exact absurd rfl h
 |cons y r=>rfl
theorem ztK (c:UInt8): ∀l:List Str,Lib.join l [c]=jn c l
 |[]=>rfl
 |[x]=>Lib.join_one x [c]
 |x::y::r=>by
   rw [zEQ (by simp),<-ztK c (y::r),Lib.join_cons,Lib.join_cons]
   simp [Lib.joinTail]
end
end Go.HL
