/- Part 2 of the proof: a program logic, contracts of functions and plain facts; no conditions. -/
import Derived.Test.YtnfmbjchkjijpaaGreatDoorQTopTableIsOfResults1
import Derived.Carry
import Derived.KernelRfl
import Derived.Laws.MakeOwn
import Derived.Lib.Bytealg
import Derived.Lib.LaidTab
import Derived.OpenShut
import Derived.Shelf.SlSortCmp.Insertion
import Derived.Shelf.Strconv.Atoi
import Derived.Shelf.Strconv.Itoa3
import Derived.Shelf.Strings.Prefix
import Derived.Test.YtnfmbjchkjijpaaGreatDoorProg
import Derived.WideKeyRuns
import GoSem.ClaimJoined
set_option linter.unusedVariables false
set_option linter.unusedSimpArgs false
set_option maxHeartbeats 16000000
namespace Go.Proofs.YtnfmbjchkjijpaaGreatDoor
set_option maxRecDepth 100000
section
open Go.Proofs.Tryz
open Go.HL
instance ti3:FitsI prog 3 (.int .i64) 1 8 (.int .i64 0):=⟨⟨by kernel_rfl,by kernel_rfl⟩⟩
abbrev ty3:=ti3.ok
instance ti4:FitsI prog 4 .bool 1 1 (.bool false):=⟨⟨by kernel_rfl,by kernel_rfl⟩⟩
abbrev ty4:=ti4.ok
theorem ty5:Fits prog 5 (.int .u8) 1 1 (.int .u8 0):=⟨by kernel_rfl,by kernel_rfl⟩
instance ti9:FitsI prog 9 .str 1 16 (.string ⟨#[]⟩):=⟨⟨by kernel_rfl,by kernel_rfl⟩⟩
abbrev ty9:=ti9.ok
instance ti22:FitsI prog 22 (.slice 3) 1 24 (.slice none 0 0):=⟨⟨by kernel_rfl,by kernel_rfl⟩⟩
abbrev zX:=ti22.ok
instance ti25:FitsI prog 25 (.struct [(0,22),(1,3)]) 2 32 (.agg #[.slice none 0 0,.int .i64 0]):=⟨⟨by kernel_rfl,by kernel_rfl⟩⟩
abbrev ty25:=ti25.ok
instance ti26:FitsI prog 26 (.slice 225) 1 24 (.slice none 0 0):=⟨⟨by kernel_rfl,by kernel_rfl⟩⟩
abbrev znD:=ti26.ok
instance ti27:FitsI prog 27 (.slice 239) 1 24 (.slice none 0 0):=⟨⟨by kernel_rfl,by kernel_rfl⟩⟩
abbrev zhG:=ti27.ok
instance ti28:FitsI prog 28 (.slice 227) 1 24 (.slice none 0 0):=⟨⟨by kernel_rfl,by kernel_rfl⟩⟩
abbrev zde:=ti28.ok
instance ti29:FitsI prog 29 (.slice 235) 1 24 (.slice none 0 0):=⟨⟨by kernel_rfl,by kernel_rfl⟩⟩
abbrev zpl:=ti29.ok
instance ti30:FitsI prog 30 (.slice 63) 1 24 (.slice none 0 0):=⟨⟨by kernel_rfl,by kernel_rfl⟩⟩
abbrev zf0:=ti30.ok
instance ti32:FitsI prog 32 (.struct [(0,3),(1,3),(2,3),(3,3)]) 4 32 (.agg #[.int .i64 0,.int .i64 0,.int .i64 0,.int .i64 0]):=⟨⟨by kernel_rfl,by kernel_rfl⟩⟩
abbrev zjB:=ti32.ok
instance ti33:FitsI prog 33 (.slice 9) 1 24 (.slice none 0 0):=⟨⟨by kernel_rfl,by kernel_rfl⟩⟩
abbrev zp:=ti33.ok
instance ti34:FitsI prog 34 (.slice 94) 1 24 (.slice none 0 0):=⟨⟨by kernel_rfl,by kernel_rfl⟩⟩
abbrev zcG:=ti34.ok
instance ti36:FitsI prog 36 (.struct [(0,26),(1,27),(2,28),(3,29),(4,30),(5,32),(9,33),(10,34),(11,22),(12,33),(13,3)]) 14 256 (.agg #[.slice none 0 0,.slice none 0 0,.slice none 0 0,.slice none 0 0,.slice none 0 0,.int .i64 0,.int .i64 0,.int .i64 0,.int .i64 0,.slice none 0 0,.slice none 0 0,.slice none 0 0,.slice none 0 0,.int .i64 0]):=⟨⟨by kernel_rfl,by kernel_rfl⟩⟩
abbrev zaS:=ti36.ok
instance ti37:FitsI prog 37 (.slice 110) 1 24 (.slice none 0 0):=⟨⟨by kernel_rfl,by kernel_rfl⟩⟩
abbrev zcv:=ti37.ok
instance ti38:FitsI prog 38 (.slice 74) 1 24 (.slice none 0 0):=⟨⟨by kernel_rfl,by kernel_rfl⟩⟩
abbrev zhH:=ti38.ok
instance ti39:FitsI prog 39 (.slice 163) 1 24 (.slice none 0 0):=⟨⟨by kernel_rfl,by kernel_rfl⟩⟩
abbrev zg7:=ti39.ok
instance ti40:FitsI prog 40 (.slice 167) 1 24 (.slice none 0 0):=⟨⟨by kernel_rfl,by kernel_rfl⟩⟩
abbrev zjC:=ti40.ok
instance ti41:FitsI prog 41 (.slice 116) 1 24 (.slice none 0 0):=⟨⟨by kernel_rfl,by kernel_rfl⟩⟩
abbrev zgA:=ti41.ok
instance ti43:FitsI prog 43 (.struct [(0,36),(14,37),(15,38),(16,39),(17,40),(18,41)]) 19 376 (.agg #[.slice none 0 0,.slice none 0 0,.slice none 0 0,.slice none 0 0,.slice none 0 0,.int .i64 0,.int .i64 0,.int .i64 0,.int .i64 0,.slice none 0 0,.slice none 0 0,.slice none 0 0,.slice none 0 0,.int .i64 0,.slice none 0 0,.slice none 0 0,.slice none 0 0,.slice none 0 0,.slice none 0 0]):=⟨⟨by kernel_rfl,by kernel_rfl⟩⟩
abbrev zbo:=ti43.ok
instance ti46:FitsI prog 46 (.int .i64) 1 8 (.int .i64 0):=⟨⟨by kernel_rfl,by kernel_rfl⟩⟩
abbrev zgB:=ti46.ok
instance ti49:FitsI prog 49 (.slice 59) 1 24 (.slice none 0 0):=⟨⟨by kernel_rfl,by kernel_rfl⟩⟩
abbrev zcp:=ti49.ok
instance ti57:FitsI prog 57 (.struct [(0,3),(1,3)]) 2 16 (.agg #[.int .i64 0,.int .i64 0]):=⟨⟨by kernel_rfl,by kernel_rfl⟩⟩
abbrev zaj:=ti57.ok
instance ti59:FitsI prog 59 (.struct [(0,3),(1,9),(2,3),(3,3),(4,3),(5,3),(6,57),(8,57)]) 10 88 (.agg #[.int .i64 0,.string ⟨#[]⟩,.int .i64 0,.int .i64 0,.int .i64 0,.int .i64 0,.int .i64 0,.int .i64 0,.int .i64 0,.int .i64 0]):=⟨⟨by kernel_rfl,by kernel_rfl⟩⟩
abbrev zcq:=ti59.ok
instance ti63:FitsI prog 63 (.struct [(0,9),(1,33)]) 2 40 (.agg #[.string ⟨#[]⟩,.slice none 0 0]):=⟨⟨by kernel_rfl,by kernel_rfl⟩⟩
abbrev zdM:=ti63.ok
instance ti66:FitsI prog 66 (.ptr 43) 1 8 (.pointer none):=⟨⟨by kernel_rfl,by kernel_rfl⟩⟩
abbrev zbJ:=ti66.ok
instance ti68:FitsI prog 68 (.struct [(0,66),(1,3)]) 2 16 (.agg #[.pointer none,.int .i64 0]):=⟨⟨by kernel_rfl,by kernel_rfl⟩⟩
abbrev zb6:=ti68.ok
instance ti70:FitsI prog 70 (.slice 89) 1 24 (.slice none 0 0):=⟨⟨by kernel_rfl,by kernel_rfl⟩⟩
abbrev znE:=ti70.ok
instance ti74:FitsI prog 74 (.struct [(0,9),(1,3),(2,3),(3,3),(4,9),(5,9),(6,9),(7,3),(8,3)]) 9 104 (.agg #[.string ⟨#[]⟩,.int .i64 0,.int .i64 0,.int .i64 0,.string ⟨#[]⟩,.string ⟨#[]⟩,.string ⟨#[]⟩,.int .i64 0,.int .i64 0]):=⟨⟨by kernel_rfl,by kernel_rfl⟩⟩
abbrev zb7:=ti74.ok
instance ti76:FitsI prog 76 (.struct [(0,33),(1,3),(2,3),(3,33),(4,3),(5,3)]) 6 80 (.agg #[.slice none 0 0,.int .i64 0,.int .i64 0,.slice none 0 0,.int .i64 0,.int .i64 0]):=⟨⟨by kernel_rfl,by kernel_rfl⟩⟩
abbrev zyE:=ti76.ok
instance ti82:FitsI prog 82 (.struct [(0,9),(1,9),(2,3)]) 3 40 (.agg #[.string ⟨#[]⟩,.string ⟨#[]⟩,.int .i64 0]):=⟨⟨by kernel_rfl,by kernel_rfl⟩⟩
abbrev zdE:=ti82.ok
instance ti83:FitsI prog 83 (.slice 82) 1 24 (.slice none 0 0):=⟨⟨by kernel_rfl,by kernel_rfl⟩⟩
abbrev ziR:=ti83.ok
instance ti85:FitsI prog 85 (.struct [(0,9),(1,3)]) 2 24 (.agg #[.string ⟨#[]⟩,.int .i64 0]):=⟨⟨by kernel_rfl,by kernel_rfl⟩⟩
abbrev zpm:=ti85.ok
instance ti86:FitsI prog 86 (.slice 85) 1 24 (.slice none 0 0):=⟨⟨by kernel_rfl,by kernel_rfl⟩⟩
abbrev zBt:=ti86.ok
instance ti87:FitsI prog 87 (.slice 278) 1 24 (.slice none 0 0):=⟨⟨by kernel_rfl,by kernel_rfl⟩⟩
abbrev zdf:=ti87.ok
instance ti89:FitsI prog 89 (.struct [(0,9),(1,3),(2,87)]) 3 48 (.agg #[.string ⟨#[]⟩,.int .i64 0,.slice none 0 0]):=⟨⟨by kernel_rfl,by kernel_rfl⟩⟩
abbrev zcZ:=ti89.ok
theorem ty92:Fits prog 92 (.map 100 4) 1 8 (.map none):=⟨by kernel_rfl,by kernel_rfl⟩
instance ti94:FitsI prog 94 (.struct [(0,3),(1,9),(2,9),(3,4),(4,57),(6,57)]) 8 80 (.agg #[.int .i64 0,.string ⟨#[]⟩,.string ⟨#[]⟩,.bool false,.int .i64 0,.int .i64 0,.int .i64 0,.int .i64 0]):=⟨⟨by kernel_rfl,by kernel_rfl⟩⟩
abbrev za8:=ti94.ok
instance ti100:FitsI prog 100 (.struct [(0,9),(1,3)]) 2 24 (.agg #[.string ⟨#[]⟩,.int .i64 0]):=⟨⟨by kernel_rfl,by kernel_rfl⟩⟩
abbrev zrZ:=ti100.ok
instance ti110:FitsI prog 110 (.struct [(0,3),(1,3),(2,9),(3,9)]) 4 48 (.agg #[.int .i64 0,.int .i64 0,.string ⟨#[]⟩,.string ⟨#[]⟩]):=⟨⟨by kernel_rfl,by kernel_rfl⟩⟩
abbrev zG:=ti110.ok
instance ti116:FitsI prog 116 (.struct [(0,9),(1,3),(2,3),(3,33),(4,9)]) 5 72 (.agg #[.string ⟨#[]⟩,.int .i64 0,.int .i64 0,.slice none 0 0,.string ⟨#[]⟩]):=⟨⟨by kernel_rfl,by kernel_rfl⟩⟩
abbrev zeJ:=ti116.ok
instance ti117:FitsI prog 117 (.ptr 116) 1 8 (.pointer none):=⟨⟨by kernel_rfl,by kernel_rfl⟩⟩
abbrev zj2:=ti117.ok
instance ti131:FitsI prog 131 (.slice 208) 1 24 (.slice none 0 0):=⟨⟨by kernel_rfl,by kernel_rfl⟩⟩
abbrev zyA:=ti131.ok
instance ti133:FitsI prog 133 (.slice 137) 1 24 (.slice none 0 0):=⟨⟨by kernel_rfl,by kernel_rfl⟩⟩
abbrev zyB:=ti133.ok
instance ti137:FitsI prog 137 (.struct [(0,3),(1,9),(2,9)]) 3 40 (.agg #[.int .i64 0,.string ⟨#[]⟩,.string ⟨#[]⟩]):=⟨⟨by kernel_rfl,by kernel_rfl⟩⟩
abbrev zpH:=ti137.ok
instance ti146:FitsI prog 146 (.slice 46) 1 24 (.slice none 0 0):=⟨⟨by kernel_rfl,by kernel_rfl⟩⟩
abbrev zej:=ti146.ok
instance ti163:FitsI prog 163 (.struct [(0,9),(1,3),(2,9),(3,3),(4,3),(5,3),(6,9)]) 7 80 (.agg #[.string ⟨#[]⟩,.int .i64 0,.string ⟨#[]⟩,.int .i64 0,.int .i64 0,.int .i64 0,.string ⟨#[]⟩]):=⟨⟨by kernel_rfl,by kernel_rfl⟩⟩
abbrev zbv:=ti163.ok
instance ti167:FitsI prog 167 (.struct [(0,9),(1,3),(2,3),(3,3)]) 4 40 (.agg #[.string ⟨#[]⟩,.int .i64 0,.int .i64 0,.int .i64 0]):=⟨⟨by kernel_rfl,by kernel_rfl⟩⟩
abbrev zcE:=ti167.ok
instance ti169:FitsI prog 169 .func 1 8 (.nilFunc):=⟨⟨by kernel_rfl,by kernel_rfl⟩⟩
abbrev zHs:=ti169.ok
theorem ziY:Fits prog 180 (.map 9 4) 1 8 (.map none):=⟨by kernel_rfl,by kernel_rfl⟩
instance ti181:FitsI prog 181 (.map 9 3) 1 8 (.map none):=⟨⟨by kernel_rfl,by kernel_rfl⟩⟩
abbrev ze1:=ti181.ok
instance ti189:FitsI prog 189 (.slice 331) 1 24 (.slice none 0 0):=⟨⟨by kernel_rfl,by kernel_rfl⟩⟩
abbrev ziq:=ti189.ok
instance ti190:FitsI prog 190 (.slice 269) 1 24 (.slice none 0 0):=⟨⟨by kernel_rfl,by kernel_rfl⟩⟩
abbrev zlF:=ti190.ok
instance ti195:FitsI prog 195 (.map 9 9) 1 8 (.map none):=⟨⟨by kernel_rfl,by kernel_rfl⟩⟩
abbrev ziZ:=ti195.ok
theorem zCw:Fits prog 197 (.map 202 4) 1 8 (.map none):=⟨by kernel_rfl,by kernel_rfl⟩
theorem zux:Fits prog 200 (.map 204 3) 1 8 (.map none):=⟨by kernel_rfl,by kernel_rfl⟩
instance ti202:FitsI prog 202 (.struct [(0,9),(1,3)]) 2 24 (.agg #[.string ⟨#[]⟩,.int .i64 0]):=⟨⟨by kernel_rfl,by kernel_rfl⟩⟩
abbrev znB:=ti202.ok
instance ti204:FitsI prog 204 (.struct [(0,9),(1,9)]) 2 32 (.agg #[.string ⟨#[]⟩,.string ⟨#[]⟩]):=⟨⟨by kernel_rfl,by kernel_rfl⟩⟩
abbrev zr0:=ti204.ok
instance ti208:FitsI prog 208 (.struct [(0,3),(1,9),(2,9)]) 3 40 (.agg #[.int .i64 0,.string ⟨#[]⟩,.string ⟨#[]⟩]):=⟨⟨by kernel_rfl,by kernel_rfl⟩⟩
abbrev znC:=ti208.ok
theorem zi0:Fits prog 216 (.slice 219) 1 24 (.slice none 0 0):=⟨by kernel_rfl,by kernel_rfl⟩
instance ti219:FitsI prog 219 (.struct [(0,9),(1,3),(2,3),(3,3)]) 4 40 (.agg #[.string ⟨#[]⟩,.int .i64 0,.int .i64 0,.int .i64 0]):=⟨⟨by kernel_rfl,by kernel_rfl⟩⟩
abbrev zf9:=ti219.ok
theorem zuy:Fits prog 221 (.map 3 49) 1 8 (.map none):=⟨by kernel_rfl,by kernel_rfl⟩
instance ti225:FitsI prog 225 (.struct [(0,9),(1,9),(2,33)]) 3 56 (.agg #[.string ⟨#[]⟩,.string ⟨#[]⟩,.slice none 0 0]):=⟨⟨by kernel_rfl,by kernel_rfl⟩⟩
abbrev ze2:=ti225.ok
instance ti227:FitsI prog 227 (.struct [(0,3),(1,3),(2,9),(3,9)]) 4 48 (.agg #[.int .i64 0,.int .i64 0,.string ⟨#[]⟩,.string ⟨#[]⟩]):=⟨⟨by kernel_rfl,by kernel_rfl⟩⟩
abbrev zaR:=ti227.ok
instance ti235:FitsI prog 235 (.struct [(0,9),(1,9),(2,9),(3,3),(4,3),(5,57)]) 7 80 (.agg #[.string ⟨#[]⟩,.string ⟨#[]⟩,.string ⟨#[]⟩,.int .i64 0,.int .i64 0,.int .i64 0,.int .i64 0]):=⟨⟨by kernel_rfl,by kernel_rfl⟩⟩
abbrev zgV:=ti235.ok
instance ti239:FitsI prog 239 (.struct [(0,9),(1,9),(2,3)]) 3 40 (.agg #[.string ⟨#[]⟩,.string ⟨#[]⟩,.int .i64 0]):=⟨⟨by kernel_rfl,by kernel_rfl⟩⟩
abbrev zcR:=ti239.ok
instance ti241:FitsI prog 241 .func 1 8 (.nilFunc):=⟨⟨by kernel_rfl,by kernel_rfl⟩⟩
abbrev zHt:=ti241.ok
theorem zi1:Fits prog 245 (.int .u64) 1 8 (.int .u64 0):=⟨by kernel_rfl,by kernel_rfl⟩
instance ti269:FitsI prog 269 (.struct [(0,9),(1,9)]) 2 32 (.agg #[.string ⟨#[]⟩,.string ⟨#[]⟩]):=⟨⟨by kernel_rfl,by kernel_rfl⟩⟩
abbrev zga:=ti269.ok
theorem zCx:Fits prog 274 (.map 202 74) 1 8 (.map none):=⟨by kernel_rfl,by kernel_rfl⟩
theorem zyC:Fits prog 276 (.map 9 87) 1 8 (.map none):=⟨by kernel_rfl,by kernel_rfl⟩
instance ti278:FitsI prog 278 (.struct [(0,9),(1,3)]) 2 24 (.agg #[.string ⟨#[]⟩,.int .i64 0]):=⟨⟨by kernel_rfl,by kernel_rfl⟩⟩
abbrev zcl:=ti278.ok
theorem zpI:Fits prog 288 (.int .u64) 1 8 (.int .u64 0):=⟨by kernel_rfl,by kernel_rfl⟩
theorem zlG:Fits prog 316 (.arr 256 4) 256 256 (.agg #[.bool false,.bool false,.bool false,.bool false,.bool false,.bool false,.bool false,.bool false,.bool false,.bool false,.bool false,.bool false,.bool false,.bool false,.bool false,.bool false,.bool false,.bool false,.bool false,.bool false,.bool false,.bool false,.bool false,.bool false,.bool false,.bool false,.bool false,.bool false,.bool false,.bool false,.bool false,.bool false,.bool false,.bool false,.bool false,.bool false,.bool false,.bool false,.bool false,.bool false,.bool false,.bool false,.bool false,.bool false,.bool false,.bool false,.bool false,.bool false,.bool false,.bool false,.bool false,.bool false,.bool false,.bool false,.bool false,.bool false,.bool false,.bool false,.bool false,.bool false,.bool false,.bool false,.bool false,.bool false,.bool false,.bool false,.bool false,.bool false,.bool false,.bool false,.bool false,.bool false,.bool false,.bool false,.bool false,.bool false,.bool false,.bool false,.bool false,.bool false,.bool false,.bool false,.bool false,.bool false,.bool false,.bool false,.bool false,.bool false,.bool false,.bool false,.bool false,.bool false,.bool false,.bool false,.bool false,.bool false,.bool false,.bool false,.bool false,.bool false,.bool false,.bool false,.bool false,.bool false,.bool false,.bool false,.bool false,.bool false,.bool false,.bool false,.bool false,.bool false,.bool false,.bool false,.bool false,.bool false,.bool false,.bool false,.bool false,.bool false,.bool false,.bool false,.bool false,.bool false,.bool false,.bool false,.bool false,.bool false,.bool false,.bool false,.bool false,.bool false,.bool false,.bool false,.bool false,.bool false,.bool false,.bool false,.bool false,.bool false,.bool false,.bool false,.bool false,.bool false,.bool false,.bool false,.bool false,.bool false,.bool false,.bool false,.bool false,.bool false,.bool false,.bool false,.bool false,.bool false,.bool false,.bool false,.bool false,.bool false,.bool false,.bool false,.bool false,.bool false,.bool false,.bool false,.bool false,.bool false,.bool false,.bool false,.bool false,.bool false,.bool false,.bool false,.bool false,.bool false,.bool false,.bool false,.bool false,.bool false,.bool false,.bool false,.bool false,.bool false,.bool false,.bool false,.bool false,.bool false,.bool false,.bool false,.bool false,.bool false,.bool false,.bool false,.bool false,.bool false,.bool false,.bool false,.bool false,.bool false,.bool false,.bool false,.bool false,.bool false,.bool false,.bool false,.bool false,.bool false,.bool false,.bool false,.bool false,.bool false,.bool false,.bool false,.bool false,.bool false,.bool false,.bool false,.bool false,.bool false,.bool false,.bool false,.bool false,.bool false,.bool false,.bool false,.bool false,.bool false,.bool false,.bool false,.bool false,.bool false,.bool false,.bool false,.bool false,.bool false,.bool false,.bool false,.bool false,.bool false,.bool false,.bool false,.bool false,.bool false,.bool false,.bool false,.bool false,.bool false,.bool false,.bool false,.bool false,.bool false,.bool false,.bool false,.bool false,.bool false]):=⟨by kernel_rfl,by kernel_rfl⟩
theorem zir:Fits prog 325 (.struct [(0,9),(1,33),(2,33)]) 3 64 (.agg #[.string ⟨#[]⟩,.slice none 0 0,.slice none 0 0]):=⟨by kernel_rfl,by kernel_rfl⟩
theorem zHu:Fits prog 328 (.ptr 225) 1 8 (.pointer none):=⟨by kernel_rfl,by kernel_rfl⟩
instance ti331:FitsI prog 331 (.struct [(0,9),(1,33),(2,57),(4,4)]) 5 64 (.agg #[.string ⟨#[]⟩,.slice none 0 0,.int .i64 0,.int .i64 0,.bool false]):=⟨⟨by kernel_rfl,by kernel_rfl⟩⟩
abbrev zdl:=ti331.ok
instance ti424:FitsI prog 424 (.map 9 33) 1 8 (.map none):=⟨⟨by kernel_rfl,by kernel_rfl⟩⟩
abbrev zdL:=ti424.ok
instance ti425:FitsI prog 425 (.map 458 3) 1 8 (.map none):=⟨⟨by kernel_rfl,by kernel_rfl⟩⟩
abbrev zj3:=ti425.ok
instance ti427:FitsI prog 427 (.struct [(0,32),(4,424),(5,424),(6,195),(7,181),(8,425)]) 9 72 (.agg #[.int .i64 0,.int .i64 0,.int .i64 0,.int .i64 0,.map none,.map none,.map none,.map none,.map none]):=⟨⟨by kernel_rfl,by kernel_rfl⟩⟩
abbrev zCy:=ti427.ok
theorem zlH:Fits prog 443 (.map 446 87) 1 8 (.map none):=⟨by kernel_rfl,by kernel_rfl⟩
instance ti446:FitsI prog 446 (.struct [(0,9),(1,3)]) 2 24 (.agg #[.string ⟨#[]⟩,.int .i64 0]):=⟨⟨by kernel_rfl,by kernel_rfl⟩⟩
abbrev zhp:=ti446.ok
theorem zyD:Fits prog 458 (.struct [(0,9),(1,3)]) 2 24 (.agg #[.string ⟨#[]⟩,.int .i64 0]):=⟨by kernel_rfl,by kernel_rfl⟩
theorem pl25:Places prog [(0,22),(1,3)] [(0,1),(1,1)]:=⟨rfl,⟨_,_,_,zX⟩,⟨rfl,⟨_,_,_,ty3⟩,trivial⟩⟩
theorem pl32:Places prog [(0,3),(1,3),(2,3),(3,3)] [(0,1),(1,1),(2,1),(3,1)]:=⟨rfl,⟨_,_,_,ty3⟩,⟨rfl,⟨_,_,_,ty3⟩,⟨rfl,⟨_,_,_,ty3⟩,⟨rfl,⟨_,_,_,ty3⟩,trivial⟩⟩⟩⟩
theorem zkT:Places prog [(0,26),(1,27),(2,28),(3,29),(4,30),(5,32),(9,33),(10,34),(11,22),(12,33),(13,3)] [(0,1),(1,1),(2,1),(3,1),(4,1),(5,4),(9,1),(10,1),(11,1),(12,1),(13,1)]:=⟨rfl,⟨_,_,_,znD⟩,⟨rfl,⟨_,_,_,zhG⟩,⟨rfl,⟨_,_,_,zde⟩,⟨rfl,⟨_,_,_,zpl⟩,⟨rfl,⟨_,_,_,zf0⟩,⟨rfl,⟨_,_,_,zjB⟩,⟨rfl,⟨_,_,_,zp⟩,⟨rfl,⟨_,_,_,zcG⟩,⟨rfl,⟨_,_,_,zX⟩,⟨rfl,⟨_,_,_,zp⟩,⟨rfl,⟨_,_,_,ty3⟩,trivial⟩⟩⟩⟩⟩⟩⟩⟩⟩⟩⟩
theorem pl43:Places prog [(0,36),(14,37),(15,38),(16,39),(17,40),(18,41)] [(0,14),(14,1),(15,1),(16,1),(17,1),(18,1)]:=⟨rfl,⟨_,_,_,zaS⟩,⟨rfl,⟨_,_,_,zcv⟩,⟨rfl,⟨_,_,_,zhH⟩,⟨rfl,⟨_,_,_,zg7⟩,⟨rfl,⟨_,_,_,zjC⟩,⟨rfl,⟨_,_,_,zgA⟩,trivial⟩⟩⟩⟩⟩⟩
theorem zl8:Places prog [(0,3),(1,3)] [(0,1),(1,1)]:=⟨rfl,⟨_,_,_,ty3⟩,⟨rfl,⟨_,_,_,ty3⟩,trivial⟩⟩
theorem pl59:Places prog [(0,3),(1,9),(2,3),(3,3),(4,3),(5,3),(6,57),(8,57)] [(0,1),(1,1),(2,1),(3,1),(4,1),(5,1),(6,2),(8,2)]:=⟨rfl,⟨_,_,_,ty3⟩,⟨rfl,⟨_,_,_,ty9⟩,⟨rfl,⟨_,_,_,ty3⟩,⟨rfl,⟨_,_,_,ty3⟩,⟨rfl,⟨_,_,_,ty3⟩,⟨rfl,⟨_,_,_,ty3⟩,⟨rfl,⟨_,_,_,zaj⟩,⟨rfl,⟨_,_,_,zaj⟩,trivial⟩⟩⟩⟩⟩⟩⟩⟩
theorem zA5:Places prog [(0,9),(1,33)] [(0,1),(1,1)]:=⟨rfl,⟨_,_,_,ty9⟩,⟨rfl,⟨_,_,_,zp⟩,trivial⟩⟩
theorem pl68:Places prog [(0,66),(1,3)] [(0,1),(1,1)]:=⟨rfl,⟨_,_,_,zbJ⟩,⟨rfl,⟨_,_,_,ty3⟩,trivial⟩⟩
theorem zvC:Places prog [(0,9),(1,3),(2,3),(3,3),(4,9),(5,9),(6,9),(7,3),(8,3)] [(0,1),(1,1),(2,1),(3,1),(4,1),(5,1),(6,1),(7,1),(8,1)]:=⟨rfl,⟨_,_,_,ty9⟩,⟨rfl,⟨_,_,_,ty3⟩,⟨rfl,⟨_,_,_,ty3⟩,⟨rfl,⟨_,_,_,ty3⟩,⟨rfl,⟨_,_,_,ty9⟩,⟨rfl,⟨_,_,_,ty9⟩,⟨rfl,⟨_,_,_,ty9⟩,⟨rfl,⟨_,_,_,ty3⟩,⟨rfl,⟨_,_,_,ty3⟩,trivial⟩⟩⟩⟩⟩⟩⟩⟩⟩
theorem pl76:Places prog [(0,33),(1,3),(2,3),(3,33),(4,3),(5,3)] [(0,1),(1,1),(2,1),(3,1),(4,1),(5,1)]:=⟨rfl,⟨_,_,_,zp⟩,⟨rfl,⟨_,_,_,ty3⟩,⟨rfl,⟨_,_,_,ty3⟩,⟨rfl,⟨_,_,_,zp⟩,⟨rfl,⟨_,_,_,ty3⟩,⟨rfl,⟨_,_,_,ty3⟩,trivial⟩⟩⟩⟩⟩⟩
theorem pl82:Places prog [(0,9),(1,9),(2,3)] [(0,1),(1,1),(2,1)]:=⟨rfl,⟨_,_,_,ty9⟩,⟨rfl,⟨_,_,_,ty9⟩,⟨rfl,⟨_,_,_,ty3⟩,trivial⟩⟩⟩
theorem pl85:Places prog [(0,9),(1,3)] [(0,1),(1,1)]:=⟨rfl,⟨_,_,_,ty9⟩,⟨rfl,⟨_,_,_,ty3⟩,trivial⟩⟩
theorem pl89:Places prog [(0,9),(1,3),(2,87)] [(0,1),(1,1),(2,1)]:=⟨rfl,⟨_,_,_,ty9⟩,⟨rfl,⟨_,_,_,ty3⟩,⟨rfl,⟨_,_,_,zdf⟩,trivial⟩⟩⟩
theorem pl94:Places prog [(0,3),(1,9),(2,9),(3,4),(4,57),(6,57)] [(0,1),(1,1),(2,1),(3,1),(4,2),(6,2)]:=⟨rfl,⟨_,_,_,ty3⟩,⟨rfl,⟨_,_,_,ty9⟩,⟨rfl,⟨_,_,_,ty9⟩,⟨rfl,⟨_,_,_,ty4⟩,⟨rfl,⟨_,_,_,zaj⟩,⟨rfl,⟨_,_,_,zaj⟩,trivial⟩⟩⟩⟩⟩⟩
theorem zHc:Places prog [(0,9),(1,3)] [(0,1),(1,1)]:=⟨rfl,⟨_,_,_,ty9⟩,⟨rfl,⟨_,_,_,ty3⟩,trivial⟩⟩
theorem zHd:Places prog [(0,3),(1,3),(2,9),(3,9)] [(0,1),(1,1),(2,1),(3,1)]:=⟨rfl,⟨_,_,_,ty3⟩,⟨rfl,⟨_,_,_,ty3⟩,⟨rfl,⟨_,_,_,ty9⟩,⟨rfl,⟨_,_,_,ty9⟩,trivial⟩⟩⟩⟩
theorem zHe:Places prog [(0,9),(1,3),(2,3),(3,33),(4,9)] [(0,1),(1,1),(2,1),(3,1),(4,1)]:=⟨rfl,⟨_,_,_,ty9⟩,⟨rfl,⟨_,_,_,ty3⟩,⟨rfl,⟨_,_,_,ty3⟩,⟨rfl,⟨_,_,_,zp⟩,⟨rfl,⟨_,_,_,ty9⟩,trivial⟩⟩⟩⟩⟩
theorem zHf:Places prog [(0,3),(1,9),(2,9)] [(0,1),(1,1),(2,1)]:=⟨rfl,⟨_,_,_,ty3⟩,⟨rfl,⟨_,_,_,ty9⟩,⟨rfl,⟨_,_,_,ty9⟩,trivial⟩⟩⟩
theorem zHg:Places prog [(0,9),(1,3),(2,9),(3,3),(4,3),(5,3),(6,9)] [(0,1),(1,1),(2,1),(3,1),(4,1),(5,1),(6,1)]:=⟨rfl,⟨_,_,_,ty9⟩,⟨rfl,⟨_,_,_,ty3⟩,⟨rfl,⟨_,_,_,ty9⟩,⟨rfl,⟨_,_,_,ty3⟩,⟨rfl,⟨_,_,_,ty3⟩,⟨rfl,⟨_,_,_,ty3⟩,⟨rfl,⟨_,_,_,ty9⟩,trivial⟩⟩⟩⟩⟩⟩⟩
theorem zHh:Places prog [(0,9),(1,3),(2,3),(3,3)] [(0,1),(1,1),(2,1),(3,1)]:=⟨rfl,⟨_,_,_,ty9⟩,⟨rfl,⟨_,_,_,ty3⟩,⟨rfl,⟨_,_,_,ty3⟩,⟨rfl,⟨_,_,_,ty3⟩,trivial⟩⟩⟩⟩
theorem zyj:Places prog [(0,9),(1,3)] [(0,1),(1,1)]:=⟨rfl,⟨_,_,_,ty9⟩,⟨rfl,⟨_,_,_,ty3⟩,trivial⟩⟩
theorem zHi:Places prog [(0,9),(1,9)] [(0,1),(1,1)]:=⟨rfl,⟨_,_,_,ty9⟩,⟨rfl,⟨_,_,_,ty9⟩,trivial⟩⟩
theorem zCl:Places prog [(0,9),(1,3),(2,3),(3,3)] [(0,1),(1,1),(2,1),(3,1)]:=⟨rfl,⟨_,_,_,ty9⟩,⟨rfl,⟨_,_,_,ty3⟩,⟨rfl,⟨_,_,_,ty3⟩,⟨rfl,⟨_,_,_,ty3⟩,trivial⟩⟩⟩⟩
theorem zHj:Places prog [(0,9),(1,9),(2,33)] [(0,1),(1,1),(2,1)]:=⟨rfl,⟨_,_,_,ty9⟩,⟨rfl,⟨_,_,_,ty9⟩,⟨rfl,⟨_,_,_,zp⟩,trivial⟩⟩⟩
theorem zHk:Places prog [(0,3),(1,3),(2,9),(3,9)] [(0,1),(1,1),(2,1),(3,1)]:=⟨rfl,⟨_,_,_,ty3⟩,⟨rfl,⟨_,_,_,ty3⟩,⟨rfl,⟨_,_,_,ty9⟩,⟨rfl,⟨_,_,_,ty9⟩,trivial⟩⟩⟩⟩
theorem zHl:Places prog [(0,9),(1,9),(2,9),(3,3),(4,3),(5,57)] [(0,1),(1,1),(2,1),(3,1),(4,1),(5,2)]:=⟨rfl,⟨_,_,_,ty9⟩,⟨rfl,⟨_,_,_,ty9⟩,⟨rfl,⟨_,_,_,ty9⟩,⟨rfl,⟨_,_,_,ty3⟩,⟨rfl,⟨_,_,_,ty3⟩,⟨rfl,⟨_,_,_,zaj⟩,trivial⟩⟩⟩⟩⟩⟩
theorem zHm:Places prog [(0,9),(1,9),(2,3)] [(0,1),(1,1),(2,1)]:=⟨rfl,⟨_,_,_,ty9⟩,⟨rfl,⟨_,_,_,ty9⟩,⟨rfl,⟨_,_,_,ty3⟩,trivial⟩⟩⟩
theorem zHn:Places prog [(0,9),(1,9)] [(0,1),(1,1)]:=⟨rfl,⟨_,_,_,ty9⟩,⟨rfl,⟨_,_,_,ty9⟩,trivial⟩⟩
theorem zCm:Places prog [(0,9),(1,3)] [(0,1),(1,1)]:=⟨rfl,⟨_,_,_,ty9⟩,⟨rfl,⟨_,_,_,ty3⟩,trivial⟩⟩
theorem zHo:Places prog [(0,9),(1,33),(2,33)] [(0,1),(1,1),(2,1)]:=⟨rfl,⟨_,_,_,ty9⟩,⟨rfl,⟨_,_,_,zp⟩,⟨rfl,⟨_,_,_,zp⟩,trivial⟩⟩⟩
theorem zCn:Places prog [(0,9),(1,33),(2,57),(4,4)] [(0,1),(1,1),(2,2),(4,1)]:=⟨rfl,⟨_,_,_,ty9⟩,⟨rfl,⟨_,_,_,zp⟩,⟨rfl,⟨_,_,_,zaj⟩,⟨rfl,⟨_,_,_,ty4⟩,trivial⟩⟩⟩⟩
theorem zHp:Places prog [(0,32),(4,424),(5,424),(6,195),(7,181),(8,425)] [(0,4),(4,1),(5,1),(6,1),(7,1),(8,1)]:=⟨rfl,⟨_,_,_,zjB⟩,⟨rfl,⟨_,_,_,zdL⟩,⟨rfl,⟨_,_,_,zdL⟩,⟨rfl,⟨_,_,_,ziZ⟩,⟨rfl,⟨_,_,_,ze1⟩,⟨rfl,⟨_,_,_,zj3⟩,trivial⟩⟩⟩⟩⟩⟩
theorem zCo:Places prog [(0,9),(1,3)] [(0,1),(1,1)]:=⟨rfl,⟨_,_,_,ty9⟩,⟨rfl,⟨_,_,_,ty3⟩,trivial⟩⟩
theorem zCp:Places prog [(0,9),(1,3)] [(0,1),(1,1)]:=⟨rfl,⟨_,_,_,ty9⟩,⟨rfl,⟨_,_,_,ty3⟩,trivial⟩⟩
theorem zsv:EqOk prog 57:=⟨by kernel_rfl,by kernel_rfl,by kernel_rfl⟩
theorem zGX:EqOk prog 100:=⟨by kernel_rfl,by kernel_rfl,by kernel_rfl⟩
theorem zCc:EqOk prog 110:=⟨by kernel_rfl,by kernel_rfl,by kernel_rfl⟩
theorem zGY:EqOk prog 202:=⟨by kernel_rfl,by kernel_rfl,by kernel_rfl⟩
theorem zGZ:EqOk prog 204:=⟨by kernel_rfl,by kernel_rfl,by kernel_rfl⟩
theorem zG0:EqOk prog 446:=⟨by kernel_rfl,by kernel_rfl,by kernel_rfl⟩
theorem zG1:EqOk prog 458:=⟨by kernel_rfl,by kernel_rfl,by kernel_rfl⟩
theorem ca4:Callable prog 4:=⟨_,func4,by kernel_rfl,by kernel_rfl⟩
theorem ca5:Callable prog 5:=⟨_,func5,by kernel_rfl,by kernel_rfl⟩
theorem ca6:Callable prog 6:=⟨_,func6,by kernel_rfl,by kernel_rfl⟩
theorem ca7:Callable prog 7:=⟨_,func7,by kernel_rfl,by kernel_rfl⟩
theorem ca8:Callable prog 8:=⟨_,func8,by kernel_rfl,by kernel_rfl⟩
theorem ca9:Callable prog 9:=⟨_,func9,by kernel_rfl,by kernel_rfl⟩
theorem ca10:Callable prog 10:=⟨_,func10,by kernel_rfl,by kernel_rfl⟩
theorem ca11:Callable prog 11:=⟨_,func11,by kernel_rfl,by kernel_rfl⟩
theorem ca12:Callable prog 12:=⟨_,func12,by kernel_rfl,by kernel_rfl⟩
theorem ca13:Callable prog 13:=⟨_,func13,by kernel_rfl,by kernel_rfl⟩
theorem zjr:Callable prog 14:=⟨_,func14,by kernel_rfl,by kernel_rfl⟩
theorem ca15:Callable prog 15:=⟨_,func15,by kernel_rfl,by kernel_rfl⟩
theorem ca16:Callable prog 16:=⟨_,func16,by kernel_rfl,by kernel_rfl⟩
theorem ca17:Callable prog 17:=⟨_,func17,by kernel_rfl,by kernel_rfl⟩
theorem ca18:Callable prog 18:=⟨_,func18,by kernel_rfl,by kernel_rfl⟩
theorem ca19:Callable prog 19:=⟨_,func19,by kernel_rfl,by kernel_rfl⟩
theorem ca20:Callable prog 20:=⟨_,func20,by kernel_rfl,by kernel_rfl⟩
theorem ca21:Callable prog 21:=⟨_,func21,by kernel_rfl,by kernel_rfl⟩
theorem zm7:Callable prog 22:=⟨_,func22,by kernel_rfl,by kernel_rfl⟩
theorem zh9:Callable prog 23:=⟨_,func23,by kernel_rfl,by kernel_rfl⟩
theorem ca24:Callable prog 24:=⟨_,func24,by kernel_rfl,by kernel_rfl⟩
theorem ca25:Callable prog 25:=⟨_,func25,by kernel_rfl,by kernel_rfl⟩
theorem zkC:Callable prog 26:=⟨_,func26,by kernel_rfl,by kernel_rfl⟩
theorem ca27:Callable prog 27:=⟨_,func27,by kernel_rfl,by kernel_rfl⟩
theorem ca28:Callable prog 28:=⟨_,func28,by kernel_rfl,by kernel_rfl⟩
theorem ca29:Callable prog 29:=⟨_,func29,by kernel_rfl,by kernel_rfl⟩
theorem ca30:Callable prog 30:=⟨_,func30,by kernel_rfl,by kernel_rfl⟩
theorem ca31:Callable prog 31:=⟨_,func31,by kernel_rfl,by kernel_rfl⟩
theorem zg2:Callable prog 32:=⟨_,func32,by kernel_rfl,by kernel_rfl⟩
theorem zcn:Callable prog 33:=⟨_,func33,by kernel_rfl,by kernel_rfl⟩
theorem ca34:Callable prog 34:=⟨_,func34,by kernel_rfl,by kernel_rfl⟩
theorem ca35:Callable prog 35:=⟨_,func35,by kernel_rfl,by kernel_rfl⟩
theorem ca36:Callable prog 36:=⟨_,func36,by kernel_rfl,by kernel_rfl⟩
theorem ca37:Callable prog 37:=⟨_,func37,by kernel_rfl,by kernel_rfl⟩
theorem zeO:Callable prog 38:=⟨_,func38,by kernel_rfl,by kernel_rfl⟩
theorem zkD:Callable prog 39:=⟨_,func39,by kernel_rfl,by kernel_rfl⟩
theorem ca40:Callable prog 40:=⟨_,func40,by kernel_rfl,by kernel_rfl⟩
theorem zAa:Callable prog 41:=⟨_,func41,by kernel_rfl,by kernel_rfl⟩
theorem ca42:Callable prog 42:=⟨_,func42,by kernel_rfl,by kernel_rfl⟩
theorem ca43:Callable prog 43:=⟨_,func43,by kernel_rfl,by kernel_rfl⟩
theorem ca44:Callable prog 44:=⟨_,func44,by kernel_rfl,by kernel_rfl⟩
theorem ca45:Callable prog 45:=⟨_,func45,by kernel_rfl,by kernel_rfl⟩
theorem ca46:Callable prog 46:=⟨_,func46,by kernel_rfl,by kernel_rfl⟩
theorem zAb:Callable prog 47:=⟨_,func47,by kernel_rfl,by kernel_rfl⟩
theorem ca48:Callable prog 48:=⟨_,func48,by kernel_rfl,by kernel_rfl⟩
theorem zkE:Callable prog 49:=⟨_,func49,by kernel_rfl,by kernel_rfl⟩
theorem ca50:Callable prog 50:=⟨_,func50,by kernel_rfl,by kernel_rfl⟩
theorem zAc:Callable prog 51:=⟨_,func51,by kernel_rfl,by kernel_rfl⟩
theorem ca52:Callable prog 52:=⟨_,func52,by kernel_rfl,by kernel_rfl⟩
theorem ca53:Callable prog 53:=⟨_,func53,by kernel_rfl,by kernel_rfl⟩
theorem ca54:Callable prog 54:=⟨_,func54,by kernel_rfl,by kernel_rfl⟩
theorem ca55:Callable prog 55:=⟨_,func55,by kernel_rfl,by kernel_rfl⟩
theorem ca56:Callable prog 56:=⟨_,func56,by kernel_rfl,by kernel_rfl⟩
theorem ca57:Callable prog 57:=⟨_,func57,by kernel_rfl,by kernel_rfl⟩
theorem ca58:Callable prog 58:=⟨_,func58,by kernel_rfl,by kernel_rfl⟩
theorem ca59:Callable prog 59:=⟨_,func59,by kernel_rfl,by kernel_rfl⟩
theorem ca60:Callable prog 60:=⟨_,func60,by kernel_rfl,by kernel_rfl⟩
theorem zxJ:Callable prog 61:=⟨_,func61,by kernel_rfl,by kernel_rfl⟩
theorem zct:Callable prog 62:=⟨_,func62,by kernel_rfl,by kernel_rfl⟩
theorem ca63:Callable prog 63:=⟨_,func63,by kernel_rfl,by kernel_rfl⟩
theorem zxK:Callable prog 64:=⟨_,func64,by kernel_rfl,by kernel_rfl⟩
theorem zia:Callable prog 65:=⟨_,func65,by kernel_rfl,by kernel_rfl⟩
theorem zd4:Callable prog 66:=⟨_,func66,by kernel_rfl,by kernel_rfl⟩
theorem zc3:Callable prog 67:=⟨_,func67,by kernel_rfl,by kernel_rfl⟩
theorem zAd:Callable prog 68:=⟨_,func68,by kernel_rfl,by kernel_rfl⟩
theorem ca69:Callable prog 69:=⟨_,func69,by kernel_rfl,by kernel_rfl⟩
theorem ca70:Callable prog 70:=⟨_,func70,by kernel_rfl,by kernel_rfl⟩
theorem ca71:Callable prog 71:=⟨_,func71,by kernel_rfl,by kernel_rfl⟩
theorem ca72:Callable prog 72:=⟨_,func72,by kernel_rfl,by kernel_rfl⟩
theorem zAe:Callable prog 73:=⟨_,func73,by kernel_rfl,by kernel_rfl⟩
theorem zxL:Callable prog 74:=⟨_,func74,by kernel_rfl,by kernel_rfl⟩
theorem zsn:Callable prog 75:=⟨_,func75,by kernel_rfl,by kernel_rfl⟩
theorem zso:Callable prog 76:=⟨_,func76,by kernel_rfl,by kernel_rfl⟩
theorem zoB:Callable prog 77:=⟨_,func77,by kernel_rfl,by kernel_rfl⟩
theorem zm8:Callable prog 78:=⟨_,func78,by kernel_rfl,by kernel_rfl⟩
theorem ca79:Callable prog 79:=⟨_,func79,by kernel_rfl,by kernel_rfl⟩
theorem ca80:Callable prog 80:=⟨_,func80,by kernel_rfl,by kernel_rfl⟩
theorem ca81:Callable prog 81:=⟨_,func81,by kernel_rfl,by kernel_rfl⟩
theorem ca82:Callable prog 82:=⟨_,func82,by kernel_rfl,by kernel_rfl⟩
theorem ca83:Callable prog 83:=⟨_,func83,by kernel_rfl,by kernel_rfl⟩
theorem ca84:Callable prog 84:=⟨_,func84,by kernel_rfl,by kernel_rfl⟩
theorem zAf:Callable prog 85:=⟨_,func85,by kernel_rfl,by kernel_rfl⟩
theorem zqr:Callable prog 86:=⟨_,func86,by kernel_rfl,by kernel_rfl⟩
theorem ca87:Callable prog 87:=⟨_,func87,by kernel_rfl,by kernel_rfl⟩
theorem ca88:Callable prog 88:=⟨_,func88,by kernel_rfl,by kernel_rfl⟩
theorem ca89:Callable prog 89:=⟨_,func89,by kernel_rfl,by kernel_rfl⟩
theorem ca90:Callable prog 90:=⟨_,func90,by kernel_rfl,by kernel_rfl⟩
theorem ca91:Callable prog 91:=⟨_,func91,by kernel_rfl,by kernel_rfl⟩
theorem ca92:Callable prog 92:=⟨_,func92,by kernel_rfl,by kernel_rfl⟩
theorem ca93:Callable prog 93:=⟨_,func93,by kernel_rfl,by kernel_rfl⟩
theorem ca94:Callable prog 94:=⟨_,func94,by kernel_rfl,by kernel_rfl⟩
theorem ca95:Callable prog 95:=⟨_,func95,by kernel_rfl,by kernel_rfl⟩
theorem ca96:Callable prog 96:=⟨_,func96,by kernel_rfl,by kernel_rfl⟩
theorem zAg:Callable prog 97:=⟨_,func97,by kernel_rfl,by kernel_rfl⟩
theorem ca98:Callable prog 98:=⟨_,func98,by kernel_rfl,by kernel_rfl⟩
theorem ca99:Callable prog 99:=⟨_,func99,by kernel_rfl,by kernel_rfl⟩
theorem zEJ:Callable prog 100:=⟨_,func100,by kernel_rfl,by kernel_rfl⟩
theorem zuc:Callable prog 101:=⟨_,func101,by kernel_rfl,by kernel_rfl⟩
theorem zBz:Callable prog 102:=⟨_,func102,by kernel_rfl,by kernel_rfl⟩
theorem zgJ:Callable prog 103:=⟨_,func103,by kernel_rfl,by kernel_rfl⟩
theorem zh8:Callable prog 104:=⟨_,func104,by kernel_rfl,by kernel_rfl⟩
theorem zEK:Callable prog 105:=⟨_,func105,by kernel_rfl,by kernel_rfl⟩
theorem zEL:Callable prog 106:=⟨_,func106,by kernel_rfl,by kernel_rfl⟩
theorem zjL:Callable prog 107:=⟨_,func107,by kernel_rfl,by kernel_rfl⟩
theorem zxz:Callable prog 108:=⟨_,func108,by kernel_rfl,by kernel_rfl⟩
theorem zm6:Callable prog 109:=⟨_,func109,by kernel_rfl,by kernel_rfl⟩
theorem zEM:Callable prog 110:=⟨_,func110,by kernel_rfl,by kernel_rfl⟩
theorem zud:Callable prog 111:=⟨_,func111,by kernel_rfl,by kernel_rfl⟩
theorem zBA:Callable prog 112:=⟨_,func112,by kernel_rfl,by kernel_rfl⟩
theorem zBB:Callable prog 113:=⟨_,func113,by kernel_rfl,by kernel_rfl⟩
theorem zEN:Callable prog 114:=⟨_,func114,by kernel_rfl,by kernel_rfl⟩
theorem zEO:Callable prog 115:=⟨_,func115,by kernel_rfl,by kernel_rfl⟩
theorem zBC:Callable prog 116:=⟨_,func116,by kernel_rfl,by kernel_rfl⟩
theorem zBD:Callable prog 117:=⟨_,func117,by kernel_rfl,by kernel_rfl⟩
theorem zEP:Callable prog 118:=⟨_,func118,by kernel_rfl,by kernel_rfl⟩
theorem zEQ:Callable prog 119:=⟨_,func119,by kernel_rfl,by kernel_rfl⟩
theorem zER:Callable prog 120:=⟨_,func120,by kernel_rfl,by kernel_rfl⟩
theorem zES:Callable prog 121:=⟨_,func121,by kernel_rfl,by kernel_rfl⟩
theorem zET:Callable prog 122:=⟨_,func122,by kernel_rfl,by kernel_rfl⟩
theorem zEU:Callable prog 123:=⟨_,func123,by kernel_rfl,by kernel_rfl⟩
theorem zbK:Callable prog 124:=⟨_,func124,by kernel_rfl,by kernel_rfl⟩
theorem zEV:Callable prog 125:=⟨_,func125,by kernel_rfl,by kernel_rfl⟩
theorem zEW:Callable prog 126:=⟨_,func126,by kernel_rfl,by kernel_rfl⟩
theorem zEX:Callable prog 127:=⟨_,func127,by kernel_rfl,by kernel_rfl⟩
theorem zEY:Callable prog 128:=⟨_,func128,by kernel_rfl,by kernel_rfl⟩
theorem zEZ:Callable prog 129:=⟨_,func129,by kernel_rfl,by kernel_rfl⟩
theorem zE0:Callable prog 130:=⟨_,func130,by kernel_rfl,by kernel_rfl⟩
theorem zE1:Callable prog 131:=⟨_,func131,by kernel_rfl,by kernel_rfl⟩
theorem zE2:Callable prog 132:=⟨_,func132,by kernel_rfl,by kernel_rfl⟩
theorem zE3:Callable prog 133:=⟨_,func133,by kernel_rfl,by kernel_rfl⟩
theorem zE4:Callable prog 134:=⟨_,func134,by kernel_rfl,by kernel_rfl⟩
theorem zBE:Callable prog 135:=⟨_,func135,by kernel_rfl,by kernel_rfl⟩
theorem zBF:Callable prog 136:=⟨_,func136,by kernel_rfl,by kernel_rfl⟩
theorem zE5:Callable prog 137:=⟨_,func137,by kernel_rfl,by kernel_rfl⟩
theorem zE6:Callable prog 138:=⟨_,func138,by kernel_rfl,by kernel_rfl⟩
theorem zBG:Callable prog 139:=⟨_,func139,by kernel_rfl,by kernel_rfl⟩
theorem zue:Callable prog 140:=⟨_,func140,by kernel_rfl,by kernel_rfl⟩
theorem zE7:Callable prog 141:=⟨_,func141,by kernel_rfl,by kernel_rfl⟩
theorem zE8:Callable prog 142:=⟨_,func142,by kernel_rfl,by kernel_rfl⟩
theorem zE9:Callable prog 143:=⟨_,func143,by kernel_rfl,by kernel_rfl⟩
theorem zxA:Callable prog 144:=⟨_,func144,by kernel_rfl,by kernel_rfl⟩
theorem zFa:Callable prog 145:=⟨_,func145,by kernel_rfl,by kernel_rfl⟩
theorem zFb:Callable prog 146:=⟨_,func146,by kernel_rfl,by kernel_rfl⟩
theorem zBH:Callable prog 147:=⟨_,func147,by kernel_rfl,by kernel_rfl⟩
theorem zFc:Callable prog 148:=⟨_,func148,by kernel_rfl,by kernel_rfl⟩
theorem zFd:Callable prog 149:=⟨_,func149,by kernel_rfl,by kernel_rfl⟩
theorem zFe:Callable prog 150:=⟨_,func150,by kernel_rfl,by kernel_rfl⟩
theorem zFf:Callable prog 151:=⟨_,func151,by kernel_rfl,by kernel_rfl⟩
theorem zBI:Callable prog 152:=⟨_,func152,by kernel_rfl,by kernel_rfl⟩
theorem zFg:Callable prog 153:=⟨_,func153,by kernel_rfl,by kernel_rfl⟩
theorem zFh:Callable prog 154:=⟨_,func154,by kernel_rfl,by kernel_rfl⟩
theorem zBJ:Callable prog 155:=⟨_,func155,by kernel_rfl,by kernel_rfl⟩
theorem zBK:Callable prog 156:=⟨_,func156,by kernel_rfl,by kernel_rfl⟩
theorem zuf:Callable prog 158:=⟨_,func158,by kernel_rfl,by kernel_rfl⟩
theorem zxB:Callable prog 159:=⟨_,func159,by kernel_rfl,by kernel_rfl⟩
theorem zFi:Callable prog 161:=⟨_,func161,by kernel_rfl,by kernel_rfl⟩
theorem zFj:Callable prog 162:=⟨_,func162,by kernel_rfl,by kernel_rfl⟩
theorem zFk:Callable prog 163:=⟨_,func163,by kernel_rfl,by kernel_rfl⟩
theorem zBL:Callable prog 164:=⟨_,func164,by kernel_rfl,by kernel_rfl⟩
theorem zxC:Callable prog 165:=⟨_,func165,by kernel_rfl,by kernel_rfl⟩
theorem zxD:Callable prog 166:=⟨_,func166,by kernel_rfl,by kernel_rfl⟩
theorem zBM:Callable prog 167:=⟨_,func167,by kernel_rfl,by kernel_rfl⟩
theorem zFl:Callable prog 168:=⟨_,func168,by kernel_rfl,by kernel_rfl⟩
theorem zBN:Callable prog 169:=⟨_,func169,by kernel_rfl,by kernel_rfl⟩
theorem zFm:Callable prog 170:=⟨_,func170,by kernel_rfl,by kernel_rfl⟩
theorem zFn:Callable prog 171:=⟨_,func171,by kernel_rfl,by kernel_rfl⟩
theorem zFo:Callable prog 172:=⟨_,func172,by kernel_rfl,by kernel_rfl⟩
theorem zBO:Callable prog 173:=⟨_,func173,by kernel_rfl,by kernel_rfl⟩
theorem zBP:Callable prog 174:=⟨_,func174,by kernel_rfl,by kernel_rfl⟩
theorem zBQ:Callable prog 175:=⟨_,func175,by kernel_rfl,by kernel_rfl⟩
theorem zBR:Callable prog 176:=⟨_,func176,by kernel_rfl,by kernel_rfl⟩
theorem zFp:Callable prog 177:=⟨_,func177,by kernel_rfl,by kernel_rfl⟩
theorem zFq:Callable prog 178:=⟨_,func178,by kernel_rfl,by kernel_rfl⟩
theorem zxE:Callable prog 179:=⟨_,func179,by kernel_rfl,by kernel_rfl⟩
theorem zFr:Callable prog 180:=⟨_,func180,by kernel_rfl,by kernel_rfl⟩
theorem zFs:Callable prog 181:=⟨_,func181,by kernel_rfl,by kernel_rfl⟩
theorem zBS:Callable prog 182:=⟨_,func182,by kernel_rfl,by kernel_rfl⟩
theorem zBT:Callable prog 183:=⟨_,func183,by kernel_rfl,by kernel_rfl⟩
theorem zBU:Callable prog 184:=⟨_,func184,by kernel_rfl,by kernel_rfl⟩
theorem zFt:Callable prog 185:=⟨_,func185,by kernel_rfl,by kernel_rfl⟩
theorem zFu:Callable prog 186:=⟨_,func186,by kernel_rfl,by kernel_rfl⟩
theorem zFv:Callable prog 187:=⟨_,func187,by kernel_rfl,by kernel_rfl⟩
theorem zFw:Callable prog 188:=⟨_,func188,by kernel_rfl,by kernel_rfl⟩
theorem zBV:Callable prog 189:=⟨_,func189,by kernel_rfl,by kernel_rfl⟩
theorem zBW:Callable prog 190:=⟨_,func190,by kernel_rfl,by kernel_rfl⟩
theorem zFx:Callable prog 191:=⟨_,func191,by kernel_rfl,by kernel_rfl⟩
theorem zFy:Callable prog 192:=⟨_,func192,by kernel_rfl,by kernel_rfl⟩
theorem zBX:Callable prog 193:=⟨_,func193,by kernel_rfl,by kernel_rfl⟩
theorem zFz:Callable prog 194:=⟨_,func194,by kernel_rfl,by kernel_rfl⟩
theorem zFA:Callable prog 195:=⟨_,func195,by kernel_rfl,by kernel_rfl⟩
theorem zBY:Callable prog 196:=⟨_,func196,by kernel_rfl,by kernel_rfl⟩
theorem zFB:Callable prog 197:=⟨_,func197,by kernel_rfl,by kernel_rfl⟩
theorem zFC:Callable prog 198:=⟨_,func198,by kernel_rfl,by kernel_rfl⟩
theorem zBZ:Callable prog 199:=⟨_,func199,by kernel_rfl,by kernel_rfl⟩
theorem zFD:Callable prog 200:=⟨_,func200,by kernel_rfl,by kernel_rfl⟩
theorem zFE:Callable prog 201:=⟨_,func201,by kernel_rfl,by kernel_rfl⟩
theorem zFF:Callable prog 202:=⟨_,func202,by kernel_rfl,by kernel_rfl⟩
theorem zB0:Callable prog 203:=⟨_,func203,by kernel_rfl,by kernel_rfl⟩
theorem zB1:Callable prog 204:=⟨_,func204,by kernel_rfl,by kernel_rfl⟩
theorem zFG:Callable prog 205:=⟨_,func205,by kernel_rfl,by kernel_rfl⟩
theorem zFH:Callable prog 206:=⟨_,func206,by kernel_rfl,by kernel_rfl⟩
theorem zFI:Callable prog 207:=⟨_,func207,by kernel_rfl,by kernel_rfl⟩
theorem zFJ:Callable prog 208:=⟨_,func208,by kernel_rfl,by kernel_rfl⟩
theorem zFK:Callable prog 209:=⟨_,func209,by kernel_rfl,by kernel_rfl⟩
theorem zjM:Callable prog 211:=⟨_,func211,by kernel_rfl,by kernel_rfl⟩
theorem zB2:Callable prog 212:=⟨_,func212,by kernel_rfl,by kernel_rfl⟩
theorem zFL:Callable prog 213:=⟨_,func213,by kernel_rfl,by kernel_rfl⟩
theorem zug:Callable prog 214:=⟨_,func214,by kernel_rfl,by kernel_rfl⟩
theorem zFM:Callable prog 215:=⟨_,func215,by kernel_rfl,by kernel_rfl⟩
theorem zFN:Callable prog 216:=⟨_,func216,by kernel_rfl,by kernel_rfl⟩
theorem zFO:Callable prog 217:=⟨_,func217,by kernel_rfl,by kernel_rfl⟩
theorem zFP:Callable prog 218:=⟨_,func218,by kernel_rfl,by kernel_rfl⟩
theorem zB3:Callable prog 219:=⟨_,func219,by kernel_rfl,by kernel_rfl⟩
theorem zFQ:Callable prog 220:=⟨_,func220,by kernel_rfl,by kernel_rfl⟩
theorem zFR:Callable prog 221:=⟨_,func221,by kernel_rfl,by kernel_rfl⟩
theorem zFS:Callable prog 222:=⟨_,func222,by kernel_rfl,by kernel_rfl⟩
theorem zFT:Callable prog 223:=⟨_,func223,by kernel_rfl,by kernel_rfl⟩
theorem zB4:Callable prog 233:=⟨_,func233,by kernel_rfl,by kernel_rfl⟩
theorem zFU:Callable prog 235:=⟨_,func235,by kernel_rfl,by kernel_rfl⟩
theorem zB5:Callable prog 236:=⟨_,func236,by kernel_rfl,by kernel_rfl⟩
theorem zFV:Callable prog 237:=⟨_,func237,by kernel_rfl,by kernel_rfl⟩
theorem zFW:Callable prog 238:=⟨_,func238,by kernel_rfl,by kernel_rfl⟩
theorem zB6:Callable prog 240:=⟨_,func240,by kernel_rfl,by kernel_rfl⟩
theorem zFX:Callable prog 241:=⟨_,func241,by kernel_rfl,by kernel_rfl⟩
theorem zFY:Callable prog 242:=⟨_,func242,by kernel_rfl,by kernel_rfl⟩
theorem zFZ:Callable prog 243:=⟨_,func243,by kernel_rfl,by kernel_rfl⟩
theorem zF0:Callable prog 244:=⟨_,func244,by kernel_rfl,by kernel_rfl⟩
theorem zF1:Callable prog 245:=⟨_,func245,by kernel_rfl,by kernel_rfl⟩
theorem zF2:Callable prog 246:=⟨_,func246,by kernel_rfl,by kernel_rfl⟩
theorem zF3:Callable prog 249:=⟨_,func249,by kernel_rfl,by kernel_rfl⟩
theorem zF4:Callable prog 250:=⟨_,func250,by kernel_rfl,by kernel_rfl⟩
theorem zxF:Callable prog 251:=⟨_,func251,by kernel_rfl,by kernel_rfl⟩
theorem zF5:Callable prog 252:=⟨_,func252,by kernel_rfl,by kernel_rfl⟩
theorem zB7:Callable prog 253:=⟨_,func253,by kernel_rfl,by kernel_rfl⟩
theorem zF6:Callable prog 254:=⟨_,func254,by kernel_rfl,by kernel_rfl⟩
theorem zF7:Callable prog 255:=⟨_,func255,by kernel_rfl,by kernel_rfl⟩
theorem zF8:Callable prog 256:=⟨_,func256,by kernel_rfl,by kernel_rfl⟩
theorem zF9:Callable prog 257:=⟨_,func257,by kernel_rfl,by kernel_rfl⟩
theorem zGa:Callable prog 258:=⟨_,func258,by kernel_rfl,by kernel_rfl⟩
theorem zGb:Callable prog 259:=⟨_,func259,by kernel_rfl,by kernel_rfl⟩
theorem zGc:Callable prog 260:=⟨_,func260,by kernel_rfl,by kernel_rfl⟩
theorem zGd:Callable prog 261:=⟨_,func261,by kernel_rfl,by kernel_rfl⟩
theorem zGe:Callable prog 262:=⟨_,func262,by kernel_rfl,by kernel_rfl⟩
theorem zxG:Callable prog 263:=⟨_,func263,by kernel_rfl,by kernel_rfl⟩
theorem zGf:Callable prog 264:=⟨_,func264,by kernel_rfl,by kernel_rfl⟩
theorem zB8:Callable prog 265:=⟨_,func265,by kernel_rfl,by kernel_rfl⟩
theorem zGg:Callable prog 266:=⟨_,func266,by kernel_rfl,by kernel_rfl⟩
theorem zGh:Callable prog 270:=⟨_,func270,by kernel_rfl,by kernel_rfl⟩
theorem zGi:Callable prog 271:=⟨_,func271,by kernel_rfl,by kernel_rfl⟩
theorem zGj:Callable prog 277:=⟨_,func277,by kernel_rfl,by kernel_rfl⟩
theorem zGk:Callable prog 280:=⟨_,func280,by kernel_rfl,by kernel_rfl⟩
theorem zGl:Callable prog 281:=⟨_,func281,by kernel_rfl,by kernel_rfl⟩
theorem zuh:Callable prog 289:=⟨_,func289,by kernel_rfl,by kernel_rfl⟩
theorem zGm:Callable prog 290:=⟨_,func290,by kernel_rfl,by kernel_rfl⟩
theorem zGn:Callable prog 291:=⟨_,func291,by kernel_rfl,by kernel_rfl⟩
theorem zxH:Callable prog 292:=⟨_,func292,by kernel_rfl,by kernel_rfl⟩
theorem zui:Callable prog 294:=⟨_,func294,by kernel_rfl,by kernel_rfl⟩
theorem zGo:Callable prog 295:=⟨_,func295,by kernel_rfl,by kernel_rfl⟩
theorem zB9:Callable prog 306:=⟨_,func306,by kernel_rfl,by kernel_rfl⟩
theorem zGp:Callable prog 311:=⟨_,func311,by kernel_rfl,by kernel_rfl⟩
theorem zGq:Callable prog 312:=⟨_,func312,by kernel_rfl,by kernel_rfl⟩
theorem zGr:Callable prog 313:=⟨_,func313,by kernel_rfl,by kernel_rfl⟩
theorem zGs:Callable prog 314:=⟨_,func314,by kernel_rfl,by kernel_rfl⟩
theorem zGt:Callable prog 315:=⟨_,func315,by kernel_rfl,by kernel_rfl⟩
theorem zGu:Callable prog 316:=⟨_,func316,by kernel_rfl,by kernel_rfl⟩
theorem zGv:Callable prog 317:=⟨_,func317,by kernel_rfl,by kernel_rfl⟩
theorem zGw:Callable prog 318:=⟨_,func318,by kernel_rfl,by kernel_rfl⟩
theorem zGx:Callable prog 319:=⟨_,func319,by kernel_rfl,by kernel_rfl⟩
theorem zGy:Callable prog 320:=⟨_,func320,by kernel_rfl,by kernel_rfl⟩
theorem zGz:Callable prog 321:=⟨_,func321,by kernel_rfl,by kernel_rfl⟩
theorem zGA:Callable prog 331:=⟨_,func331,by kernel_rfl,by kernel_rfl⟩
theorem zGB:Callable prog 345:=⟨_,func345,by kernel_rfl,by kernel_rfl⟩
theorem zGC:Callable prog 353:=⟨_,func353,by kernel_rfl,by kernel_rfl⟩
theorem zGD:Callable prog 362:=⟨_,func362,by kernel_rfl,by kernel_rfl⟩
theorem zGE:Callable prog 363:=⟨_,func363,by kernel_rfl,by kernel_rfl⟩
theorem zGF:Callable prog 364:=⟨_,func364,by kernel_rfl,by kernel_rfl⟩
theorem zGG:Callable prog 365:=⟨_,func365,by kernel_rfl,by kernel_rfl⟩
theorem zGH:Callable prog 366:=⟨_,func366,by kernel_rfl,by kernel_rfl⟩
theorem zGI:Callable prog 367:=⟨_,func367,by kernel_rfl,by kernel_rfl⟩
theorem zGJ:Callable prog 368:=⟨_,func368,by kernel_rfl,by kernel_rfl⟩
theorem zGK:Callable prog 387:=⟨_,func387,by kernel_rfl,by kernel_rfl⟩
theorem zCa:Callable prog 388:=⟨_,func388,by kernel_rfl,by kernel_rfl⟩
theorem zGL:Callable prog 389:=⟨_,func389,by kernel_rfl,by kernel_rfl⟩
theorem zGM:Callable prog 390:=⟨_,func390,by kernel_rfl,by kernel_rfl⟩
theorem zGN:Callable prog 391:=⟨_,func391,by kernel_rfl,by kernel_rfl⟩
theorem zGO:Callable prog 392:=⟨_,func392,by kernel_rfl,by kernel_rfl⟩
theorem zGP:Callable prog 393:=⟨_,func393,by kernel_rfl,by kernel_rfl⟩
theorem zGQ:Callable prog 398:=⟨_,func398,by kernel_rfl,by kernel_rfl⟩
theorem zGR:Callable prog 400:=⟨_,func400,by kernel_rfl,by kernel_rfl⟩
theorem zxI:Callable prog 401:=⟨_,func401,by kernel_rfl,by kernel_rfl⟩
theorem zuj:Callable prog 402:=⟨_,func402,by kernel_rfl,by kernel_rfl⟩
theorem zGS:Callable prog 412:=⟨_,func412,by kernel_rfl,by kernel_rfl⟩
theorem zGT:Callable prog 413:=⟨_,func413,by kernel_rfl,by kernel_rfl⟩
theorem zGU:Callable prog 414:=⟨_,func414,by kernel_rfl,by kernel_rfl⟩
theorem zuk:Callable prog 415:=⟨_,func415,by kernel_rfl,by kernel_rfl⟩
theorem zul:Callable prog 416:=⟨_,func416,by kernel_rfl,by kernel_rfl⟩
theorem zCb:Callable prog 420:=⟨_,func420,by kernel_rfl,by kernel_rfl⟩
theorem mixed:prog.follows .mixedOrders=true:=by kernel_rfl
end
end Go.Proofs.YtnfmbjchkjijpaaGreatDoor
namespace Go.HL
section
abbrev Str:=List UInt8
theorem zg {α:Type} {l:List α} {k:Nat} {x:α} (h:l[k]? =some x):l.drop k=x::l.drop (k+1):=by
 have hlt:=zm h;rw [Aa hlt] at h;rw [BK hlt]
 simp at h
 rw [h]
theorem zR {α:Type} {l:List α} {k:Nat} {x:α} (h:l[k]? =some x):l.take (k+1)=l.take k++[x]:=by
 have hlt:=zm h;rw [Aa hlt] at h;rw [List.take_succ_eq_append_getElem hlt]
 simp at h
 rw [h]
theorem zC {α:Type} {l:List α} {k:Nat} (h:l.length<=k):l.drop k=[]:=Bm h
theorem hd0 {s:Str} (h:s≠[]):s[0]? =some (s.headD 0):=by
 cases s with
 |nil=>exact absurd rfl h
 |cons a r=>rfl
abbrev eSs (l:List Str):HVal:= .slice 1 (l.map .str)
abbrev eIs (l:List Int):HVal:= .slice 1 (l.map (.int .i64))
def out (n lo hi:Int):Bool:=decide (n<lo)||decide (hi<n)
theorem zfy {n lo hi:Int} (h:out n lo hi=false):lo<=n/\n<=hi:=by simp [out] at h;omega
theorem zrz {a b A B:Int} (h1:0<=a) (h2:a<=A) (h3:0<=b) (h4:b<=B):0<=a*b/\a*b<=A*B:=
 ⟨Int.mul_nonneg h1 h3,Int.mul_le_mul h2 h4 h3 (by omega)⟩
def zac (n:Int):Bool:= !(out n 0 345686399999)
def zhn (c:UInt8):Bool:=(decide (97<=c.toNat)&&decide (c.toNat<=122))||(decide (48<=c.toNat)&&decide (c.toNat<=57))||c.toNat==45||c.toNat==95
def zjP (s:Str):Bool:=s !=[]&&decide (s.length<=40)&&decide (97<=(s.headD 0).toNat)&&decide ((s.headD 0).toNat<=122)
theorem zC6 {s:Str} (h:((¬s=[]/\(s.length:Int)<=40)/\97<=(((List.head? s).getD 0).toNat:Int))/\(((List.head? s).getD 0).toNat:Int)<=122):zjP s=true:=by
 obtain ⟨⟨⟨h1,h2⟩,h3⟩,h4⟩:=h
 simp [zjP];exact ⟨⟨⟨h1,by omega⟩,by omega⟩,by omega⟩
theorem zC5 {s:Str} (h:((s=[]\/40<(s.length:Int))\/(((List.head? s).getD 0).toNat:Int)<97)\/122<(((List.head? s).getD 0).toNat:Int)):zjP s=false:=by
 rw [Cn];simp [zjP]
 intro h1 h2 h3
 rcases h with ((h|h)|h)|h
 ·exact absurd h h1
 all_goals omega
theorem zC4 {x:UInt8} (h:(x.toNat:Int)<97\/122<(x.toNat:Int)->(x.toNat:Int)<48\/57<(x.toNat:Int)->¬(x.toNat:Int)=45->(x.toNat:Int)=95):zhn x=true:=by
 simp [zhn];omega
theorem zC3 {x:UInt8} (h:((((x.toNat:Int)<97\/122<(x.toNat:Int))/\((x.toNat:Int)<48\/57<(x.toNat:Int)))/\¬(x.toNat:Int)=45)/\¬(x.toNat:Int)=95):zhn x=false:=by
 rw [Cn];simp [zhn];omega
def key (s:Str):Bool:=zjP s&&s.all zhn
def zdH (s:Str):List Str->Int->Int
 |[],_=> -1
 |x::r,k=>if s=x then k else zdH s r (k+1)
theorem zo0 (s:Str): ∀(l:List Str) (k:Int),0<=k->decide (0<=zdH s l k)=l.contains s
 |[],k,h=>by simp [zdH]
 |x::r,k,h=>by
   have ih:=zo0 s r (k+1) (by omega)
   by_cases hx:s=x
   simp [zdH,hx,h]
   have e1:zdH s (x::r) k=zdH s r (k+1):=by simp [zdH,hx]
   rw [e1,ih];simp [hx]
end
end Go.HL
namespace Go.Proofs.YtnfmbjchkjijpaaGreatDoor
set_option maxRecDepth 100000
set_option linter.unusedVariables false
set_option linter.unusedSimpArgs false
section
open Go.Proofs.Tryz
open Go.HL
theorem zai [Tracks] {n lo hi:Int}:ConP prog 62 [.int .i64 n,.int .i64 lo,.int .i64 hi] (.bool (out n lo hi)):=by
 refine uOb func62 ntmps62 ?_;refine ziG ?_;refine zt rfl ?_
 simp [out]
theorem zbD [Tracks] {n:Int}:ConP prog 49 [.int .i64 n] (.bool (zac n)):=by
 refine uOb func49 ntmps49 ?_;refine gz5 ?_;refine dq (uCl zct rfl zai) ?_;refine gz4 ?_;refine zt rfl ?_
 rfl
theorem zak [Tracks] {s:Str}:ConP prog 124 [.str s] (.bool (key s)):=by
 refine uOb func124 ntmps124 ?_;refine zda ?_;refine uGr rfl (fun hc=>zaU (j:=0) (b:=s.headD 0) ty9 rfl rfl rfl (hd0 uSa)) ?_;refine gz4 ?_;refine uGr rfl (fun hc=>zaU (j:=0) (b:=s.headD 0) ty9 rfl rfl rfl (hd0 uSa)) ?_;refine gz3 ?_;refine uCo (fun h1=> ?_) fun h2=> ?_
 refine gz4 ?_;refine zt rfl ?_
 (rw [key,zC5 h1];rfl)
 refine gz9 ?_;refine uT1 [2,3,24,30] (fun k=>[(24,.int .i64 k)]) (fun k=>[]) (fun k=>k<=s.length/\key s=(s.drop k).all zhn) (fun k=>s.length-k) (0) ?_ ?_;exact ⟨Ad _,by rw [key,zC6 h2];rfl⟩;rintro k ⟨hk,hg⟩;refine gz4 ?_;refine uCo (fun h3=> ?_) fun h4=> ?_
 obtain ⟨x,hx⟩: ∃x,s[k]? =some x:=⟨_,Aa h3⟩
 have hd:=zg hx;rw [hd] at hg;refine zco ?_;refine dq (zaU ty9 rfl rfl rfl (by assumption)) ?_;refine gz27 ?_;refine uCo (fun h5=> ?_) fun h6=> ?_
 refine gz4 ?_;refine zt rfl ?_
 (rw [hg,Ca,zC3 h5];rfl)
 refine gz7 ?_;refine ⟨k+1,?_,?_,⟨rfl,trivial⟩,uK,Ac _⟩
 refine ⟨by omega,?_⟩
 rw [hg,Ca,zC4 h6];rfl
 dsimp only;omega
 rw [zC uO] at hg;refine gz2 ?_;refine zu ?_;refine gz6 ?_;refine zt rfl ?_
 (rw [hg];rfl)
theorem ze4 [Tracks] {l:List Str} {s:Str} (hl:l.length<=1000000000):ConP prog 63 [eSs l,.str s] (.int .i64 (zdH s l 0)):=by
 refine uOb func63 ntmps63 ?_;refine zay ?_;refine uT1 [4,2,8,11] (fun k=>[(8,.int .i64 k)]) (fun k=>[]) (fun k=>k<=l.length/\zdH s l 0=zdH s (l.drop k) k) (fun k=>l.length-k) (0) ?_ ?_
 simp
 rintro k ⟨hk,hg⟩;refine gz4 ?_;refine uCo (fun h1=> ?_) fun h2=> ?_
 obtain ⟨x,hx⟩: ∃x,l[k]? =some x:=⟨_,Aa h1⟩
 have hd:=zg hx;rw [hd] at hg;refine zoW ?_;refine uCo (fun h3=> ?_) fun h4=> ?_
 refine gz5 ?_;refine zt rfl ?_
 (congr 1;simp_all [zdH])
 refine gz7 ?_;refine ⟨k+1,?_,?_,⟨rfl,trivial⟩,uK,Ac _⟩
 refine ⟨by omega,?_⟩
 rw [hg,zdH,if_neg h4];rfl
 dsimp only;omega
 rw [zC uSa] at hg;refine gz2 ?_;refine zu ?_;refine gz6 ?_;refine zt rfl ?_
 (rw [hg];rfl)
theorem zO [Tracks] {l:List Str} {s:Str} (hl:l.length<=1000000000):ConP prog 23 [eSs l,.str s] (.bool (l.contains s)):=by
 refine uOb func23 ntmps23 ?_;refine gz6 ?_;refine dq (uCl ca63 rfl (ze4 (by assumption))) ?_;refine gz4 ?_;refine zt rfl ?_
 congr 1;exact zo0 s l 0 uO
end
end Go.Proofs.YtnfmbjchkjijpaaGreatDoor
namespace Go.HL
section
theorem getD_some {α:Type} {l:List α} {k:Nat} {d:α} (h:k<l.length):l[k]? =some (l.getD k d):=by
 simp [Aa h,List.getD]
def leS (s p:Str):Bool:=Op.bytesLess s p||s==p
structure Room where
 Teams:List Str
 Rounds:Int
 Way:Int
 Players:List Str
 Clock:Int
 Start:Int
structure Keep where
 Team:Str
 Player:Str
 Round:Int
structure Swap where
 Round:Int
 Of:Str
 Team:Str
structure Pick where
 No:Int
 Team:Str
 Player:Str
 At:Int
 Auto:Bool
structure Turn where
 round:Int
 of:Str
 team:Str
abbrev zrd (r:Room):HVal:= .agg [eSs r.Teams,.int .i64 r.Rounds,.int .i64 r.Way,eSs r.Players,.int .i64 r.Clock,.int .i64 r.Start]
abbrev zGW (x:Swap):HVal:= .agg [.int .i64 x.Round,.str x.Of,.str x.Team]
abbrev zrf (x:Turn):HVal:= .agg [.int .i64 x.round,.str x.of,.str x.team]
abbrev zoH (l:List Swap):HVal:= .slice 3 (l.map zGW)
abbrev zDY (l:List Turn):HVal:= .slice 3 (l.map zrf)
def zuw:Swap:=⟨0,[],[]⟩
def zCg:Keep:=⟨[],[],0⟩
def zbP (l:List Str):Nat->List Str->Int
 |_,[]=>0
 |k,s::r=>if !key s then 5 else if decide (0<k)&&leS s (l.getD (k-1) []) then 7 else zbP l (k+1) r
def zdV (l:List Str):Int:=zbP l 0 l
def ziQ (l:List Str):Nat->List Str->Int
 |_,[]=>0
 |k,s::r=>if !key s then 5 else if (l.take k).contains s then 6 else ziQ l (k+1) r
def teamsFault (l:List Str):Int:=if l.length=0 then 8 else if 20<l.length then 2 else ziQ l 0 l
def playersFault (l:List Str):Int:=if 500<l.length then 2 else zdV l
def zb1 (r:Room):Int:=
 if teamsFault r.Teams !=0 then teamsFault r.Teams
 else if out r.Rounds 1 30 then 1 else if out r.Way 1 3 then 4
 else if playersFault r.Players !=0 then playersFault r.Players
 else if out r.Clock 1000 86400000|| !(zac r.Start) then 1
 else if (r.Players.length:Int)<r.Teams.length*r.Rounds then 12 else 0
def backwards (way round:Int):Bool:=
 if way=2 then round.tmod 2==0 else if way=3 then round==2||(decide (2<round)&&round.tmod 2==1) else false
def owner (round:Int) (of:Str):List Swap->Str
 |[]=>of
 |s::r=>if s.Round=round/\s.Of=of then s.Team else owner round of r
end
end Go.HL
namespace Go.Proofs.YtnfmbjchkjijpaaGreatDoor
set_option maxRecDepth 100000
set_option linter.unusedVariables false
set_option linter.unusedSimpArgs false
section
open Go.Proofs.Tryz
open Go.HL
theorem zhi [Tracks] {l:List Str} (hl:l.length<=1000000):ConP prog 61 [eSs l] (.int .i64 (zdV l)):=by
 refine uOb func61 ntmps61 ?_;refine zay ?_;refine uT1 [2,3,7,20] (fun k=>[(7,.int .i64 k)]) (fun k=>[]) (fun k=>k<=l.length/\(zdV l=zbP l k (l.drop k))) (fun k=>l.length-k) (0) ?_ ?_;exact ⟨Ad _,rfl⟩;rintro k ⟨hk,hg⟩;refine gz4 ?_;refine uCo (fun h1=> ?_) fun h2=> ?_
 obtain ⟨x,hx⟩: ∃x,l[k]? =some x:=⟨_,Aa h1⟩
 have hdx:=zg hx;rw [hdx] at hg;refine zda ?_;refine dq (uCl zbK rfl zak) ?_;refine gz2 ?_;refine uCo (fun h3=> ?_) fun h4=> ?_
 refine gz4 ?_;refine uRp ?_;rw [hg];simp_all [zbP,leS];refine zay ?_;refine uGr rfl (fun hc=>by have hq:=hc;(try simp at hq);exact zB (j:=k-1) (a:=l.getD (k-1) []) zp ty9 rfl rfl uO (getD_some uO)) ?_;refine gz4 ?_;refine uCo (fun h5=> ?_) fun h6=> ?_
 refine gz4 ?_;refine uRp ?_;rw [hg];simp_all [zbP,leS];refine gz7 ?_;refine ⟨k+1,?_,?_,⟨rfl,trivial⟩,uK,Ac _⟩
 refine ⟨by omega,?_⟩
 rw [hg];simp_all [zbP,leS]
 dsimp only;omega
 have hnk:l.length<=k:=by omega
 obtain rfl:k=l.length:=by omega
 rw [zC (Ae _)] at hg;refine gz2 ?_;refine zu ?_;refine gz6 ?_;refine uRp ?_;rw [hg];simp_all [zbP,leS]
theorem zol [Tracks] {l:List Str} (hl:l.length<=1000000):ConP prog 205 [eSs l] (.int .i64 (teamsFault l)):=by
 refine uOb func205 ntmps205 ?_;refine zco ?_;refine uCo (fun h1=> ?_) fun h2=> ?_
 refine gz4 ?_;refine uRp ?_
 (rw [teamsFault,if_pos uSa])
 refine gz6 ?_;refine uCo (fun h3=> ?_) fun h4=> ?_
 refine gz4 ?_;refine uRp ?_
 (rw [teamsFault,if_neg uSa,if_pos uO])
 refine zay ?_;refine uT1 [2,3,15,14] (fun k=>[(15,.int .i64 k)]) (fun k=>[]) (fun k=>k<=l.length/\(teamsFault l=ziQ l k (l.drop k))) (fun k=>l.length-k) (0) ?_ ?_;refine ⟨Ad _,?_⟩
 rw [teamsFault,if_neg uSa,if_neg uO];rfl;rintro k ⟨hk,hg⟩;refine gz4 ?_;refine uCo (fun h5=> ?_) fun h6=> ?_
 obtain ⟨x,hx⟩: ∃x,l[k]? =some x:=⟨_,Aa h5⟩
 have hdx:=zg hx;rw [hdx] at hg;refine zda ?_;refine dq (uCl zbK rfl zak) ?_;refine gz2 ?_;refine uCo (fun h7=> ?_) fun h8=> ?_
 refine gz4 ?_;refine uRp ?_
 (rw [hg];simp_all [ziQ])
 refine gz5 ?_;refine dq (zaK zp ty9 rfl rfl ⟨_,_,rfl,rfl⟩ uO uO) ?_;refine gz1 ?_;refine dq (uCl zh9 rfl (zO uSo)) ?_;refine gz1 ?_;refine uCo (fun h9=> ?_) fun h10=> ?_
 refine gz4 ?_;refine uRp ?_
 (rw [hg];simp_all [ziQ])
 refine gz7 ?_;refine ⟨k+1,?_,?_,⟨rfl,trivial⟩,uK,Ac _⟩
 refine ⟨by omega,?_⟩
 rw [hg];simp_all [ziQ]
 dsimp only;omega
 have hnk:l.length<=k:=by omega
 obtain rfl:k=l.length:=by omega
 rw [zC (Ae _)] at hg;refine gz2 ?_;refine zu ?_;refine gz6 ?_;refine uRp ?_
 (rw [hg];simp_all [ziQ])
theorem zmT [Tracks] {l:List Str} (hl:l.length<=1000000):ConP prog 206 [eSs l] (.int .i64 (playersFault l)):=by
 refine uOb func206 ntmps206 ?_;refine gz9 ?_;refine uCo (fun h1=> ?_) fun h2=> ?_
 refine gz4 ?_;refine uRp ?_;unfold playersFault
 split<;>first|rfl|(exfalso;omega)
 refine gz4 ?_;refine dq (uCl zxJ rfl (zhi (by assumption))) ?_;refine gz3 ?_;refine uRp ?_;unfold playersFault
 split<;>first|rfl|(exfalso;omega)
theorem zpL [Tracks] {r:Room} (ht:r.Teams.length<=1000000) (hp:r.Players.length<=1000000):ConP prog 128 [zrd r] (.int .i64 (zb1 r)):=by
 refine uOb func128 ntmps128 ?_;refine gz8 ?_;refine dq (uCl zFG rfl (zol (by assumption))) ?_;refine gz6 ?_;refine uCo (fun h1=> ?_) fun h2=> ?_
 refine gz5 ?_;refine uRp ?_
 simp_all [zb1]
 refine gz7 ?_;refine dq (uCl zct rfl zai) ?_;refine gz2 ?_;refine uCo (fun h3=> ?_) fun h4=> ?_
 refine gz4 ?_;refine uRp ?_
 simp_all [zb1]
 refine gz3 ?_;refine dq (uCl zct rfl zai) ?_;refine gz2 ?_;refine uCo (fun h5=> ?_) fun h6=> ?_
 refine gz4 ?_;refine uRp ?_
 simp_all [zb1]
 refine gz7 ?_;refine dq (uCl zFH rfl (zmT (by assumption))) ?_;refine gz6 ?_;refine uCo (fun h7=> ?_) fun h8=> ?_
 refine gz5 ?_;refine uRp ?_
 simp_all [zb1]
 refine gz7 ?_;refine dq (uCl zct rfl zai) ?_;refine gz3 ?_;refine uGr rfl (fun hc=>uCl zkE rfl zbD) ?_;refine gz4 ?_;refine uCo (fun h9=> ?_) fun h10=> ?_
 refine gz4 ?_;refine uRp ?_
 simp_all [zb1]
 refine gz9 ?_;have hR:=zfy (n:=r.Rounds) (lo:=1) (hi:=30) uSa;have hm:=zrz (a:=(r.Teams.length:Int)) (b:=r.Rounds) (A:=1000000) (B:=30) uO uO uO uO;refine dq (zcA rfl rfl uO uO) ?_;refine gz3 ?_;refine uCo (fun h11=> ?_) fun h12=> ?_
 refine gz4 ?_;refine uRp ?_
 simp_all [zb1]
 refine gz7 ?_;refine uRp ?_
 simp_all [zb1]
theorem zpM [Tracks] {way round:Int}:ConP prog 129 [.int .i64 way,.int .i64 round] (.bool (backwards way round)):=by
 refine uOb func129 ntmps129 ?_;refine zc9 ?_;refine uCo (fun h1=> ?_) fun h2=> ?_
 refine gz2 ?_;refine dq (zcT rfl rfl uO) ?_;refine gz4 ?_;refine zt rfl ?_
 show HVal.bool _=_
 simp_all [backwards]
 refine gz4 ?_;refine uCo (fun h3=> ?_) fun h4=> ?_
 refine gz8 ?_;refine uGr rfl (fun hc=>by have hq:=hc;(try simp at hq);exact zcT rfl rfl uO) ?_;refine gz6 ?_;refine zt rfl ?_
 show HVal.bool _=_
 simp_all [backwards]
 refine gz7 ?_;refine zt rfl ?_
 show HVal.bool _=_
 simp_all [backwards]
theorem ztR [Tracks] {l:List Swap} {round:Int} {of:Str} (hl:l.length<=1000000):ConP prog 131 [zoH l,.int .i64 round,.str of] (.str (owner round of l)):=by
 refine uOb func131 ntmps131 ?_;refine zay ?_;refine uT1 [6,1,8,1,11,17] (fun k=>[(11,.int .i64 k)]) (fun k=>[]) (fun k=>k<=l.length/\(owner round of l=owner round of (l.drop k))) (fun k=>l.length-k) (0) ?_ ?_;exact ⟨Ad _,by simp_all⟩;rintro k ⟨hk,hg⟩;refine gz4 ?_;refine uCo (fun h1=> ?_) fun h2=> ?_
 obtain ⟨x,hx⟩: ∃x,l[k]? =some x:=⟨_,Aa h1⟩
 have hdx:=zg hx;rw [hdx] at hg;refine gz7 ?_;refine de rfl (zj znC rfl fun b8=> ?_)
 refine de0 (zn znC rfl rfl rfl rfl rfl ?_)
 refine gz1 ?_;refine ze (zo 8 rfl) ?_;refine zc9 ?_;refine uCo (fun h3=> ?_) fun h4=> ?_
 refine gz6 ?_;refine zt rfl ?_
 show HVal.str _=_
 rw [hg];simp_all [owner];refine gz7 ?_;refine ⟨k+1,?_,?_,⟨rfl,trivial⟩,uK,Ac _⟩
 refine ⟨by omega,?_⟩
 rw [hg];simp_all [owner]
 dsimp only;omega
 have hnk:l.length<=k:=by omega
 obtain rfl:k=l.length:=by omega
 rw [zC (Ae _)] at hg;refine gz2 ?_;refine zu ?_;refine gz7 ?_;refine zt rfl ?_
 show HVal.str _=_
 rw [hg];simp_all [owner]
end
end Go.Proofs.YtnfmbjchkjijpaaGreatDoor
namespace Go.HL
section
open Op (bytesLess)
def zab (a b:Int):Int:=if a<b then-1 else if b<a then 1 else 0
def orI:List Int->Int
 |[]=>0
 |x::r=>if x≠0 then x else orI r
abbrev zZ (a b:Str):Int:=Lib.compareBytes a b
theorem zaz: ∀a:Str,bytesLess a a=false
 |[]=>rfl
 |x::r=>by simp [bytesLess,zaz r]
theorem zeG: ∀{a b c:Str},bytesLess a b=true->bytesLess b c=true->bytesLess a c=true
 |_,[],_,h,_=>by simp [bytesLess] at h
 |_,_::_,[],_,h=>by simp [bytesLess] at h
 |[],_::_,_::_,_,_=>by simp [bytesLess]
 |x::a,y::b,z::c,h1,h2=>by
   simp only [bytesLess,Bk,decide_eq_true_eq,Bi,beq_iff_eq] at h1 h2⊢
   rcases h1 with h1|⟨rfl,h1⟩
   rcases h2 with h2|⟨rfl,h2⟩
   exact .inl (UInt8.lt_trans h1 h2);exact .inl h1
   rcases h2 with h2|⟨rfl,h2⟩
   exact .inl h2;exact .inr ⟨rfl,zeG h1 h2⟩
theorem zcf: ∀a b:Str,bytesLess a b=true\/a=b\/bytesLess b a=true
 |[],[]=> .inr (.inl rfl)
 |[],_::_=> .inl (by simp [bytesLess])
 |_::_,[]=> .inr (.inr (by simp [bytesLess]))
 |x::a,y::b=>by
   rcases UInt8.lt_or_lt_of_ne' x y with h|h|h
   exact .inl (by simp [bytesLess,h]);subst h
   rcases zcf a b with h|h|h
   exact .inl (by simp [bytesLess,h]);exact .inr (.inl (by rw [h]));exact .inr (.inr (by simp [bytesLess,h]));exact .inr (.inr (by simp [bytesLess,h]))
where
 UInt8.lt_or_lt_of_ne' (x y:UInt8):x<y\/x=y\/y<x:=by
  rcases B1 x.toNat y.toNat with h|h|h
  exact .inl (UInt8.lt_iff_toNat_lt.2 h);exact .inr (.inl (UInt8.toNat_inj.1 h));exact .inr (.inr (UInt8.lt_iff_toNat_lt.2 h))
theorem zbU {a b:Str} (h:bytesLess a b=true):bytesLess b a=false:=by
 cases h2:bytesLess b a with
 |false=>rfl
 |true=>have:=zeG h h2;rw [zaz] at this;cases this
theorem zC9 {a b:Str}:leS a b= !(bytesLess b a):=by
 unfold leS
 rcases zcf a b with h|h|h
 simp [h,zbU h]
 subst h;simp [zaz];have hne:a≠b:=fun e=>by subst e;rw [zaz] at h;cases h
 simp [h,zbU h,hne]
theorem zgL: ∀a b:Str,zZ a b=if bytesLess a b then-1 else if a=b then 0 else 1
 |[],[]=>rfl
 |[],_::_=>rfl
 |_::_,[]=>rfl
 |x::a,y::b=>by
   have ih:=zgL a b;simp only [zZ,Lib.compareBytes] at ih⊢
   by_cases h1:x<y
   simp [bytesLess,h1]
   by_cases h2:y<x
   have hne: ¬x=y:=fun e=>by subst e;exact absurd h2 h1
   simp [bytesLess,h1,h2,hne]
   have he:x=y:=by
    rcases B1 x.toNat y.toNat with h|h|h
    exact absurd (UInt8.lt_iff_toNat_lt.2 h) h1;exact UInt8.toNat_inj.1 h;exact absurd (UInt8.lt_iff_toNat_lt.2 h) h2
   subst he
   simp [bytesLess,h1,ih]
theorem zvr {i j:Nat} (h:i+j<=2000000):HVal.int .i64 (IntKind.wrap .i64 ((IntKind.wrap .u64 ((i:Int)+(j:Int))).fdiv (2^min (Int.toNat 1) (IntKind.bits .u64))))= .int .i64 (((i+j)/2:Nat):Int):=by
 have h1:IntKind.wrap .u64 ((i:Int)+(j:Int))=((i+j:Nat):Int):=by simp [IntKind.wrap,IntKind.bits,IntKind.signed];omega
 have h2:min (Int.toNat 1) (IntKind.bits .u64)=1:=by decide
 rw [h1,h2];have h3:(((i+j:Nat):Int).fdiv (2^1))=(((i+j)/2:Nat):Int):=by
  rw [Int.fdiv_eq_ediv_of_nonneg _ (by decide)];rfl
 rw [h3,zmH (by omega) (by omega)]
def SortedS (l:List Str):Prop:=List.Pairwise (fun a b=>bytesLess a b=true) l
theorem SortedS.get {l:List Str} (h:SortedS l) {i j:Nat} {a b:Str} (hij:i<j) (ha:l[i]? =some a) (hb:l[j]? =some b):bytesLess a b=true:=by
 have h1:=zm ha;have h2:=zm hb;have:=List.pairwise_iff_getElem.1 h i j h1 h2 hij;rw [Aa h1] at ha;rw [Aa h2] at hb
 simp at ha hb
 rw [<-ha,<-hb];exact this
theorem zxr {l:List Str} (hs:SortedS l) {s x:Str} {m:Nat} (hx:l[m]? =some x) (h:Op.bytesLess x s=true): ∀(k:Nat) (y:Str),k<m+1->l[k]? =some y->Op.bytesLess y s=true:=fun k y hk hy=>by
 by_cases e:k=m
 subst e;rw [hx] at hy;cases hy;exact h;exact zeG (hs.get (by omega:k<m) hy hx) h
theorem zub {l:List Str} (hs:SortedS l) {s x:Str} {m:Nat} (hx:l[m]? =some x) (h:Op.bytesLess x s=false): ∀(k:Nat) (y:Str),m<=k->l[k]? =some y->Op.bytesLess y s=false:=fun k y hk hy=>by
 by_cases e:k=m
 subst e;rw [hx] at hy;cases hy;exact h
 cases hq:Op.bytesLess y s with
 |false=>rfl
 |true=>have:=zeG (hs.get (by omega:m<k) hx hy) hq;rw [h] at this;cases this
theorem zz7 {l:List Str} {s:Str} {i:Nat} (b:Bool):(bif decide ((i:Int)<(l.length:Int)) then bif l.getD i []==s then true else bif false then b else false else false)=(l[i]? ==some s):=by
 by_cases h:i<l.length
 have h':(i:Int)<(l.length:Int):=by omega
 simp only [h',decide_true,cond_true,cond_false,getD_some (d:=[]) h]
 cases hb:l.getD i []==s with
 |true=>simp at hb;simp [hb]
 |false=>simp at hb;simp [hb]
 have h': ¬(i:Int)<(l.length:Int):=by omega
 simp [h',AC (by omega:l.length<=i)]
def zck (l:List Str) (s:Str):Nat:=l.countP fun x=>bytesLess x s
theorem zmy {l:List Str} {s:Str} {i:Nat} (hi:i<=l.length) (h1: ∀(k:Nat) (x:Str),k<i->l[k]? =some x->bytesLess x s=true) (h2: ∀(k:Nat) (x:Str),i<=k->l[k]? =some x->bytesLess x s=false):
 zck l s=i:=by
 unfold zck;have e:l=l.take i++l.drop i:=(A0 i l).symm;rw [e,List.countP_append];have a1:(l.take i).countP (fun x=>bytesLess x s)=(l.take i).length:=by
  rw [List.countP_eq_length]
  intro x hx
  obtain ⟨k,hk,rfl⟩:=AS hx;simp only [Am] at hk;refine h1 k _ (by omega) ?_;rw [List.getElem_take];exact Aa (by omega)
 have a2:(l.drop i).countP (fun x=>bytesLess x s)=0:=by
  rw [List.countP_eq_zero]
  intro x hx
  obtain ⟨k,hk,rfl⟩:=AS hx
  simp at hk
  have:=h2 (i+k) (l[i+k]) (by omega) (Aa (by omega));rw [List.getElem_drop]
  simp [this]
 rw [a1,a2]
 simp;omega
theorem zqv {l:List Str} {s:Str} (hs:SortedS l) {i:Nat} (hi:i<=l.length) (h1: ∀(k:Nat) (x:Str),k<i->l[k]? =some x->bytesLess x s=true) (h2: ∀(k:Nat) (x:Str),i<=k->l[k]? =some x->bytesLess x s=false):
 (l[i]? ==some s)=l.contains s:=by
 rw [AF]
 simp
 constructor
 intro h;exact Ab h
 intro h
 obtain ⟨k,hk,rfl⟩:=AS h;have hk':=Aa hk
 rcases B1 k i with h3|h3|h3
 have:=h1 k _ h3 hk';rw [zaz] at this;cases this;subst h3;exact hk';have hii:i<l.length:=by omega
 have hlt:=hs.get h3 (Aa hii) hk';have:=h2 i _ (Ae _) (Aa hii);rw [hlt] at this;cases this
def zW {α:Type} (p:α->Bool):List α->Int->Int
 |[],_=> -1
 |x::r,k=>if p x then k else zW p r (k+1)
theorem zcH {α:Type} (p:α->Bool): ∀(l:List α) (k:Int),0<=k->decide (0<=zW p l k)=l.any p
 |[],k,h=>by simp [zW]
 |x::r,k,h=>by
   have ih:=zcH p r (k+1) (by omega)
   by_cases hx:p x=true
   simp [zW,hx,h]
   have e1:zW p (x::r) k=zW p r (k+1):=by simp [zW,hx]
   rw [e1,ih];simp [hx]
end
end Go.HL
namespace Go.Proofs.YtnfmbjchkjijpaaGreatDoor
set_option maxRecDepth 100000
set_option linter.unusedVariables false
set_option linter.unusedSimpArgs false
section
open Go.Proofs.Tryz
open Go.HL
theorem zlo [Tracks] {n:Int}:ConP prog 136 [.int .i64 n] (.bool false):=by
 refine uOb func136 ntmps136 ?_;refine zay ?_;refine zt rfl ?_
 simp
theorem zeA [Tracks] {s:Str}:ConP prog 294 [.str s] (.bool false):=by
 refine uOb func294 ntmps294 ?_;refine zay ?_;refine zt rfl ?_
 simp
theorem zhO [Tracks] {s:Str}:ConP prog 420 [.str s] (.bool false):=by
 refine uOb func420 ntmps420 ?_;refine zay ?_;refine zt rfl ?_
 simp
theorem zU [Tracks] {a b:Int}:ConP prog 66 [.int .i64 a,.int .i64 b] (.int .i64 (zab a b)):=by
 refine uOb func66 ntmps66 ?_;refine gz5 ?_;refine dq (uCl zBF rfl zlo) ?_;refine gz4 ?_;refine dq (uCl zBF rfl zlo) ?_;refine gz6 ?_;refine zdQ rfl ?_;refine gz6 ?_;refine zdQ rfl ?_;refine gz8 ?_;refine uCo (fun h1=> ?_) fun h2=> ?_
 refine gz4 ?_;refine uRp ?_;unfold zab;(repeat' split)<;>first|rfl|omega
 refine gz8 ?_;refine uCo (fun h3=> ?_) fun h4=> ?_
 refine gz4 ?_;refine uRp ?_;unfold zab;(repeat' split)<;>first|rfl|omega
 refine gz6 ?_;refine uRp ?_;unfold zab;(repeat' split)<;>first|rfl|omega
theorem zbe [Tracks] {l:List Int} (hl:l.length<=1000000):ConP prog 65 [eIs l] (.int .i64 (orI l)):=by
 refine uOb func65 ntmps65 ?_;refine zdy ?_;refine uT1 [2,1,5,1,8,9] (fun k=>[(8,.int .i64 k)]) (fun k=>[]) (fun k=>k<=l.length/\(orI l=orI (l.drop k))) (fun k=>l.length-k) (0) ?_ ?_;exact ⟨Ad _,by simp_all⟩;rintro k ⟨hk,hg⟩;refine gz4 ?_;refine uCo (fun h1=> ?_) fun h2=> ?_
 obtain ⟨x,hx⟩: ∃x,l[k]? =some x:=⟨_,Aa h1⟩
 have hdx:=zg hx;rw [hdx] at hg;refine zda ?_;refine uCo (fun h3=> ?_) fun h4=> ?_
 refine gz5 ?_;refine uRp ?_;rw [hg];simp_all [orI];refine gz7 ?_;refine ⟨k+1,?_,?_,⟨rfl,trivial⟩,uK,Ac _⟩
 refine ⟨by omega,?_⟩
 rw [hg];simp_all [orI]
 dsimp only;omega
 have hnk:l.length<=k:=by omega
 obtain rfl:k=l.length:=by omega
 rw [zC (Ae _)] at hg;refine gz2 ?_;refine zu ?_;refine gz7 ?_;refine uRp ?_;rw [hg];simp_all [orI]
theorem zgf [Tracks] {l:List Int} (hl:l.length<=1000000):ConP prog 41 [eIs l] (.int .i64 (orI l)):=by
 refine uOb func41 ntmps41 ?_;refine zdy ?_;refine uT1 [2,1,5,1,8,9] (fun k=>[(8,.int .i64 k)]) (fun k=>[]) (fun k=>k<=l.length/\(orI l=orI (l.drop k))) (fun k=>l.length-k) (0) ?_ ?_;exact ⟨Ad _,by simp_all⟩;rintro k ⟨hk,hg⟩;refine gz4 ?_;refine uCo (fun h1=> ?_) fun h2=> ?_
 obtain ⟨x,hx⟩: ∃x,l[k]? =some x:=⟨_,Aa h1⟩
 have hdx:=zg hx;rw [hdx] at hg;refine zda ?_;refine uCo (fun h3=> ?_) fun h4=> ?_
 refine gz5 ?_;refine uRp ?_;rw [hg];simp_all [orI];refine gz7 ?_;refine ⟨k+1,?_,?_,⟨rfl,trivial⟩,uK,Ac _⟩
 refine ⟨by omega,?_⟩
 rw [hg];simp_all [orI]
 dsimp only;omega
 have hnk:l.length<=k:=by omega
 obtain rfl:k=l.length:=by omega
 rw [zC (Ae _)] at hg;refine gz2 ?_;refine zu ?_;refine gz7 ?_;refine uRp ?_;rw [hg];simp_all [orI]
theorem zb0 [Tracks] {l:List Int} (hl:l.length<=1000000):ConP prog 26 [eIs l] (.int .i64 (orI l)):=by
 refine uOb func26 ntmps26 ?_;refine zay ?_;refine uT1 [2,1,4,1,7,8] (fun k=>[(7,.int .i64 k)]) (fun k=>[]) (fun k=>k<=l.length/\(orI l=orI (l.drop k))) (fun k=>l.length-k) (0) ?_ ?_;exact ⟨Ad _,by simp_all⟩;rintro k ⟨hk,hg⟩;refine gz4 ?_;refine uCo (fun h1=> ?_) fun h2=> ?_
 obtain ⟨x,hx⟩: ∃x,l[k]? =some x:=⟨_,Aa h1⟩
 have hdx:=zg hx;rw [hdx] at hg;refine zdy ?_;refine uCo (fun h3=> ?_) fun h4=> ?_
 refine gz5 ?_;refine uRp ?_;rw [hg];simp_all [orI];refine gz7 ?_;refine ⟨k+1,?_,?_,⟨rfl,trivial⟩,uK,Ac _⟩
 refine ⟨by omega,?_⟩
 rw [hg];simp_all [orI]
 dsimp only;omega
 have hnk:l.length<=k:=by omega
 obtain rfl:k=l.length:=by omega
 rw [zC (Ae _)] at hg;refine gz2 ?_;refine zu ?_;refine gz6 ?_;refine uRp ?_;rw [hg];simp_all [orI]
theorem zht [Tracks] {a b:Str}:ConP prog 137 [.str a,.str b] (.int .i64 (zZ a b)):=by
 refine uOb func137 ntmps137 ?_;refine gz6 ?_;refine dq (zyk func210 (by kernel_rfl) (by kernel_rfl) (by kernel_rfl) (by kernel_rfl) rfl rfl rfl) ?_;refine gz3 ?_;refine zt rfl ?_
 rfl
theorem zN [Tracks] {a b:Str}:ConP prog 67 [.str a,.str b] (.int .i64 (zZ a b)):=by
 refine uOb func67 ntmps67 ?_;refine gz6 ?_;refine dq (uCl zE5 rfl zht) ?_;refine gz3 ?_;refine zt rfl ?_
 rfl
theorem zpK [Tracks] {a b:Str}:ConP prog 277 [.str a,.str b] (.bool (Op.bytesLess a b)):=by
 refine uOb func277 ntmps277 ?_;refine gz5 ?_;refine dq (uCl zui rfl zeA) ?_;refine gz2 ?_;refine uGr rfl (fun hc=>uCl zui rfl zeA) ?_;refine zay ?_;refine zt rfl ?_
 rfl
theorem ziB [Tracks] {l m:List Str} (hl:l.length<=1000000):ConP prog 20 [eSs l,eSs m] (.bool (l==m)):=by
 refine uOb func20 ntmps20 ?_;refine zco ?_;refine uCo (fun h1=> ?_) fun h2=> ?_
 refine gz4 ?_;refine zt rfl ?_
 show HVal.bool _=_
 (congr 1;symm;rw [beq_eq_false_iff_ne];intro h;subst h;omega)
 refine gz9 ?_;refine uT1 [4,2,13,13] (fun k=>[(13,.int .i64 k)]) (fun k=>[]) (fun k=>k<=l.length/\(l.length=m.length/\(l==m)=(l.drop k==m.drop k))) (fun k=>l.length-k) (0) ?_ ?_;refine ⟨Ad _,?_,rfl⟩
 omega
 rintro k ⟨hk,hg⟩;refine gz4 ?_;refine uCo (fun h3=> ?_) fun h4=> ?_
 obtain ⟨x,hx⟩: ∃x,l[k]? =some x:=⟨_,Aa h3⟩
 have hdx:=zg hx;obtain ⟨y,hy⟩: ∃y,m[k]? =some y:=⟨_,Aa uO⟩
 rw [hdx,zg hy] at hg;refine gz8 ?_;refine uDr mixed ?_;refine zay ?_;refine uCo (fun h5=> ?_) fun h6=> ?_
 refine gz4 ?_;refine zt rfl ?_
 show HVal.bool _=_
 (rw [hg.2];simp_all)
 refine gz7 ?_;refine ⟨k+1,?_,?_,⟨rfl,trivial⟩,uK,Ac _⟩
 refine ⟨by omega,hg.1,?_⟩
 rw [hg.2];simp_all
 dsimp only;omega
 have hnk:l.length<=k:=by omega
 obtain rfl:k=l.length:=by omega
 rw [zC (Ae _)] at hg;refine gz2 ?_;refine zu ?_;refine gz6 ?_;refine zt rfl ?_
 show HVal.bool _=_
 (rw [hg.2];simp_all)
end
end Go.Proofs.YtnfmbjchkjijpaaGreatDoor
namespace Go.HL
section
def ziP (r:Room) (l:List Swap):Nat->List Swap->Int
 |_,[]=>0
 |k,x::t=>if out x.Round 1 r.Rounds then 1 else if !(r.Teams.contains x.Of)|| !(r.Teams.contains x.Team) then 8
   else if decide (0<k)&&decide (orI [zab x.Round (l.getD (k-1) zuw).Round,zZ x.Of (l.getD (k-1) zuw).Of]<=0) then 7 else ziP r l (k+1) t
def zdh (r:Room) (l:List Swap):Int:=if zb1 r !=0 then zb1 r else if 600<l.length then 2 else ziP r l 0 l
def zsA (r:Room) (l:List Keep):Nat->List Str->Bool->List Keep->Int
 |_,_,tw,[]=>if tw then 6 else 0
 |k,kept,tw,x::t=>if !(r.Teams.contains x.Team)|| !(r.Players.contains x.Player) then 8 else if out x.Round 1 r.Rounds then 1
   else if decide (0<k)&&decide (orI [zZ x.Team (l.getD (k-1) zCg).Team,zab x.Round (l.getD (k-1) zCg).Round]<=0) then 7
   else zsA r l (k+1) (zci x.Player kept) (tw||kept.contains x.Player) t
def zjY (r:Room) (sw:List Swap) (round:Int):List Turn:=
 (if backwards r.Way round then r.Teams.reverse else r.Teams).map fun t=>⟨round,t,owner round t sw⟩
def zeI (r:Room) (sw:List Swap):Nat->List Turn
 |0=>[]
 |n+1=>zeI r sw n++zjY r sw (n+1)
def turns (r:Room) (sw:List Swap):List Turn:=zeI r sw r.Rounds.toNat
theorem zjA (r:Room) (sw:List Swap): ∀n,(zeI r sw n).length=n*r.Teams.length
 |0=>by simp [zeI]
 |n+1=>by
   have:(zjY r sw ((n:Int)+1)).length=r.Teams.length:=by unfold zjY;split<;>simp
   simp only [zeI,Ax,zjA r sw n,this,Nat.succ_mul]
theorem zrQ {l:List Str}: ∀(k:Nat),k<=l.length->zbP l k (l.drop k)=0->∀(i j:Nat) (a b:Str),k<=j->i+1=j->l[i]? =some a->l[j]? =some b->Op.bytesLess a b=true:=by
 intro k hk
 generalize hm:l.length-k=m
 induction m generalizing k with
 |zero=>
   intro _ i j a b h1 h2 ha hb
   have:=zm hb;omega
 |succ m ih=>
   intro h i j a b h1 h2 ha hb
   have hlt:k<l.length:=by omega
   have hx:=Aa hlt;rw [zg hx,zbP] at h
   by_cases hkey:key l[k]=true
   simp only [hkey,Bool.not_true,AM,if_false] at h
   by_cases hle:(decide (0<k)&&leS l[k] (l.getD (k-1) []))=true
   rw [if_pos hle] at h;omega;rw [if_neg hle] at h
   by_cases hj:k+1<=j
   exact ih (k+1) (by omega) (by omega) h i j a b hj h2 ha hb;obtain rfl:j=k:=by omega
   have h0:0<j:=by omega
   simp only [h0,decide_true,Cr] at hle;have e1:l.getD (j-1) []=a:=by
    have:j-1=i:=by omega
    rw [this];simp [List.getD,ha]
   have e2:l[j]=b:=by rw [hx] at hb;simpa using hb
   rw [e1,e2,zC9] at hle
   simpa using hle
   simp [hkey] at h
theorem zmA {l:List Str} (h:zdV l=0):SortedS l:=by
 have hadj:=zrQ (l:=l) 0 (Ad _) (by simpa [zdV] using h);have key: ∀(d i:Nat) (a b:Str),l[i]? =some a->l[i+d+1]? =some b->Op.bytesLess a b=true:=by
  intro d
  induction d with
  |zero=>intro i a b ha hb;exact hadj i (i+1) a b (by omega) rfl ha hb
  |succ d ih=>
    intro i a b ha hb
    have hlt:=zm hb;have hc:=Aa (l:=l) (i:=i+d+1) (by omega);have h1:=ih i a _ ha hc;have h2:=hadj (i+d+1) (i+(d+1)+1) _ b (by omega) (by omega) hc hb;exact zeG h1 h2
 refine List.pairwise_iff_getElem.2 fun i j hi hj hij=> ?_
 refine key (j-i-1) i _ _ (Aa hi) ?_;have:i+(j-i-1)+1=j:=by omega
 rw [this];exact Aa hj
theorem zoD {r:Room} (h:zb1 r=0):SortedS r.Players/\r.Teams.length<=20/\0<r.Teams.length/\1<=r.Rounds/\r.Rounds<=30/\r.Players.length<=500:=by
 unfold zb1 at h
 by_cases h1:teamsFault r.Teams=0
 rw [if_neg (by simp [h1])] at h
 by_cases h2:out r.Rounds 1 30=true
 rw [if_pos h2] at h;omega;rw [if_neg h2] at h
 by_cases h3:out r.Way 1 3=true
 rw [if_pos h3] at h;omega;rw [if_neg h3] at h
 by_cases h4:playersFault r.Players=0
 have h2':=zfy (by simpa using h2);unfold teamsFault at h1;unfold playersFault at h4
 split at h4
 omega
 split at h1
 omega
 split at h1
 omega
 exact ⟨zmA h4,by omega,by omega,h2'.1,h2'.2,by omega⟩;rw [if_pos (by simpa using h4)] at h;exact absurd h h4;rw [if_pos (by simpa using h1)] at h;exact absurd h h1
end
end Go.HL
namespace Go.Proofs.YtnfmbjchkjijpaaGreatDoor
set_option maxRecDepth 100000
set_option linter.unusedVariables false
set_option linter.unusedSimpArgs false
section
open Go.Proofs.Tryz
open Go.HL
theorem zgH [Tracks] {l:List Str} {s:Str} (hl:l.length<=1000000) (hs:SortedS l):ConP prog 413 [eSs l,.str s] (.tup [.int .i64 (zck l s),.bool (l.contains s)]):=by
 refine uOb func413 ntmps413 ?_;refine zoW ?_;refine uT2 [7,3,13,18] (fun i j=>[(7,.int .i64 i),(8,.int .i64 j)]) (fun i j=>[]) (fun i j=>i<=j/\j<=l.length/\(∀(k:Nat) (x:Str),k<i->l[k]? =some x->Op.bytesLess x s=true)/\(∀(k:Nat) (x:Str),j<=k->l[k]? =some x->Op.bytesLess x s=false)) (fun i j=>j-i) (0) (l.length) ?_ ?_;exact ⟨Ad _,Ae _,fun k x h=>by omega,fun k x h1 h2=>by have:=zm h2;omega⟩;rintro i j ⟨hij,hjl,ha,hb⟩;refine gz6 ?_;refine uCo (fun h1=> ?_) fun h2=> ?_
 obtain ⟨x,hx⟩: ∃x,l[(i+j)/2]? =some x:=⟨_,Aa uO⟩
 have hm:(i+j)/2<j/\i<=(i+j)/2:=by omega
 refine gz7 ?_;refine dq (zbO ty3 zi1 rfl) ?_;refine dq (zsF rfl rfl uO) ?_;refine dq (zY (zbO zi1 ty3 rfl) (zvr (i:=i) (j:=j) uO)) ?_;refine gz5 ?_;refine dq (zB (j:=(i+j)/2) (a:=x) zp ty9 rfl rfl rfl hx) ?_;refine gz2 ?_;refine dq (uCl zGj rfl zpK) ?_;refine gz1 ?_;refine uCo (fun h3=> ?_) fun h4=> ?_
 refine gz6 ?_;exact ⟨(i+j)/2+1,j,⟨by omega,hjl,zxr hs hx h3,hb⟩,uD,⟨rfl,rfl,trivial⟩,uK,Ac _⟩;refine gz5 ?_;exact ⟨i,(i+j)/2,⟨by omega,by omega,ha,zub hs hx h4⟩,uD,⟨rfl,rfl,trivial⟩,uK,Ac _⟩;obtain rfl:i=j:=by omega
 refine gz2 ?_;refine zI ?_;refine zay ?_;refine uGr rfl (fun hc=>by have hq:=hc;(try simp at hq);exact zB (j:=i) (a:=l.getD i []) zp ty9 rfl rfl rfl (getD_some uO)) ?_;refine gz6 ?_;refine uGr rfl (fun hc=>zB (j:=i) (a:=l.getD i []) zp ty9 rfl rfl rfl (getD_some uSa)) ?_;refine gz1 ?_;refine uGr rfl (fun hc=>uCl zCb rfl zhO) ?_;refine gz2 ?_;refine uGr rfl (fun hc=>uCl zCb rfl zhO) ?_;refine gz7 ?_;refine zt rfl ?_;rw [zmy hjl ha hb,<-zqv hs hjl ha hb,<-zz7 false]
theorem zok [Tracks] {r:Room} {l:List Swap} (ht:r.Teams.length<=1000000) (hp:r.Players.length<=1000000) (hl:l.length<=1000000):ConP prog 56 [zrd r,zoH l] (.int .i64 (zdh r l)):=by
 refine uOb func56 ntmps56 ?_;refine gz7 ?_;refine dq (uCl zEY rfl (zpL (by assumption) (by assumption))) ?_;refine gz6 ?_;refine uCo (fun h1=> ?_) fun h2=> ?_
 refine gz5 ?_;refine uRp ?_
 (rw [zdh,if_pos uSa])
 refine gz8 ?_;refine uCo (fun h3=> ?_) fun h4=> ?_
 refine gz4 ?_;refine uRp ?_
 (rw [zdh,if_neg uSa,if_pos uO])
 refine gz9 ?_;refine uT1 [4,1,6,2,18,53] (fun k=>[(18,.int .i64 k)]) (fun k=>[]) (fun k=>k<=l.length/\(zdh r l=ziP r l k (l.drop k))) (fun k=>l.length-k) (0) ?_ ?_;refine ⟨Ad _,?_⟩
 rw [zdh,if_neg uSa,if_neg uO];rfl;rintro k ⟨hk,hg⟩;refine gz4 ?_;refine uCo (fun h5=> ?_) fun h6=> ?_
 obtain ⟨x,hx⟩: ∃x,l[k]? =some x:=⟨_,Aa h5⟩
 have hdx:=zg hx;rw [hdx] at hg;refine gz8 ?_;refine de rfl (zj znC rfl fun b7=> ?_)
 refine gz1 ?_;refine de0 (zn znC rfl rfl rfl rfl rfl ?_)
 refine gz1 ?_;refine ze (zo 7 rfl) ?_;refine gz6 ?_;refine dq (uCl zct rfl zai) ?_;refine gz2 ?_;refine uCo (fun h7=> ?_) fun h8=> ?_
 refine gz4 ?_;refine uRp ?_
 (rw [hg,ziP];simp_all)
 refine gz5 ?_;refine dq (uCl zh9 rfl (zO uO)) ?_;refine gz6 ?_;refine uGr rfl (fun hc=>by have hq:=hc;(try simp at hq);exact uCl zh9 rfl (zO uO)) ?_;refine gz4 ?_;refine uCo (fun h9=> ?_) fun h10=> ?_
 refine gz4 ?_;refine uRp ?_
 (rw [hg,ziP];simp_all)
 refine uDr mixed ?_;refine gz8 ?_;refine uGy 8 rfl rfl (fun hc=>by have hq:=hc;(try simp at hq);exact zB (j:=k-1) (a:=l.getD (k-1) zuw) zyA znC rfl rfl uO (getD_some uO)) ?_;refine gz2 ?_;refine uGy 11 rfl rfl (fun hc=>uCl zd4 rfl zU) ?_;refine gz5 ?_;refine uGy 17 rfl rfl (fun hc=>by have hq:=hc;(try simp at hq);exact zB (j:=k-1) (a:=l.getD (k-1) zuw) zyA znC rfl rfl uO (getD_some uO)) ?_;refine gz2 ?_;refine uGy 20 rfl rfl (fun hc=>uCl zc3 rfl zN) ?_;refine uGy 21 rfl rfl (fun hc=>za (hs:=[_,_]) zX ty3 rfl rfl (by decide) (by decide) rfl) ?_;refine uGy 22 rfl rfl (fun hc=>uCl zia rfl (zbe (l:=[_,_]) (by simp))) ?_;refine gz4 ?_;refine uCo (fun h11=> ?_) fun h12=> ?_
 refine gz4 ?_;refine uRp ?_
 (rw [hg,ziP];simp_all)
 refine gz8 ?_;refine ⟨k+1,?_,?_,⟨rfl,trivial⟩,uK,Ac _⟩
 refine ⟨by omega,?_⟩
 rw [hg,ziP];simp_all
 intro h1 h2;have:=h12 h1;omega
 dsimp only;omega
 have hnk:l.length<=k:=by omega
 obtain rfl:k=l.length:=by omega
 rw [zC (Ae _)] at hg;refine gz2 ?_;refine zu ?_;refine gz6 ?_;refine uRp ?_
 (rw [hg];rfl)
end
end Go.Proofs.YtnfmbjchkjijpaaGreatDoor
namespace Go.HL
section
def Rev (l c:List Str) (i:Nat):Prop:=c.length=l.length/\∀k,k<l.length->c[k]? =if k<i\/l.length-i<=k then l[l.length-1-k]? else l[k]?
theorem zzL (l:List Str):Rev l l 0:=⟨rfl,fun k hk=>by rw [if_neg (by omega)]⟩
theorem zBk {l c:List Str} {i:Nat} {a b:Str} (h:Rev l c i) (hi:i<l.length-1-i) (ha:c[i]? =some a) (hb:c[l.length-1-i]? =some b):Rev l ((c.set i b).set (l.length-1-i) a) (i+1):=by
 obtain ⟨h1,h2⟩:=h;refine ⟨by simp [h1],fun k hk=> ?_⟩
 have ea:=h2 i (by omega);have eb:=h2 (l.length-1-i) (by omega);rw [if_neg (by omega),ha] at ea;rw [if_neg (by omega),hb] at eb
 by_cases e1:k=l.length-1-i
 subst e1;rw [if_pos (by omega)];have:l.length-1-(l.length-1-i)=i:=by omega
 rw [this,<-ea,BA (by simp;omega)];rw [A3 (by omega)]
 by_cases e2:k=i
 subst e2;rw [if_pos (by omega),<-eb,BA (by omega)];rw [A3 (by omega),h2 k hk]
 by_cases e3:k<i\/l.length-i<=k
 rw [if_pos e3,if_pos (by omega)];rw [if_neg e3,if_neg (by omega)]
theorem zDD {l c:List Str} {i:Nat} (h:Rev l c i) (hi:l.length<=2*i+1):c=l.reverse:=by
 obtain ⟨h1,h2⟩:=h
 apply B0
 intro k
 by_cases hk:k<l.length
 rw [h2 k hk];rw [List.getElem?_reverse hk]
 by_cases e:k<i\/l.length-i<=k
 rw [if_pos e];rw [if_neg e]
 congr 1;omega
 rw [AC (by omega),AC (by simp;omega)]
end
end Go.HL
namespace Go.Proofs.YtnfmbjchkjijpaaGreatDoor
set_option maxRecDepth 100000
set_option linter.unusedVariables false
set_option linter.unusedSimpArgs false
section
open Go.Proofs.Tryz
open Go.HL
theorem zaf [Tracks] {l:List Str} (hl:l.length<=1000000):zuB prog 39 [eSs l] 1 (l.map .str):=by
 refine uOb func39 ntmps39 ?_;refine gz6 ?_;refine de rfl (zoI zp rfl rfl fun b4 hb4=> ?_)
 refine gz1 ?_;refine uCo (fun h1=> ?_) fun h2=> ?_
 refine gz4 ?_;exact zao (zK 1) rfl ⟨_,rfl,by simp_all⟩;refine gz3 ?_;refine de rfl (zsu zp ty9 fun v5=> ?_)
 refine gz1 ?_;refine de rfl (zL (i:=0) zp ty9 rfl rfl rfl rfl rfl (by simp [zat,zb]) uSo fun v7=> ?_)
 refine gz3 ?_;exact zuu rfl rfl
theorem zh6 [Tracks] {l:List Str} {v:Value} (hl:l.length<=1000000):Con prog 130 [.raw v] [.arr v 1 (l.map .str)] (fun x M'=>x= .tup []/\M'=[.arr v 1 (l.reverse.map .str)]):=by
 refine uOb func130 ntmps130 ?_;refine gz2 ?_;refine de rfl (zwH (i:=0) zp rfl rfl ?_)
 rw [Af];refine gz5 ?_;refine uU3 [2,2,7,21] (fun (i:Nat) (j:Int) (c:List Str)=>[(2,.int .i64 i),(3,.int .i64 j)]) (fun (i:Nat) (j:Int) (c:List Str)=>[.arr v 1 (c.map .str)]) (fun (i:Nat) (j:Int) (c:List Str)=>i<=l.length/\j=(l.length:Int)-1-i/\Rev l c i) (fun (i:Nat) (j:Int) (c:List Str)=>l.length-i) (0) ((l.length:Int)-1) (l) ?_ ?_;exact ⟨Ad _,by omega,zzL l⟩;rintro i j c ⟨hi,hj,hr⟩;refine gz6 ?_;refine uCo (fun h1=> ?_) fun h2=> ?_
 have hlen:=hr.1;obtain ⟨x,hx⟩: ∃x,c[i]? =some x:=⟨_,Aa uO⟩
 obtain ⟨y,hy⟩: ∃y,c[l.length-1-i]? =some y:=⟨_,Aa uO⟩
 refine zD5 (i:=0) rfl (fun h0 he=> ?_) (fun b off cap hv=> ?_)
 exfalso;simp at he;subst he;simp at hlen;omega
 subst hv;refine gz4 ?_;refine zba (fun M=>M=[.arr (.slice (some ⟨b,off,none⟩) (c.map HVal.str).length cap) 1 (c.map .str)]) [7,11] mixed ?_;refine gz6 ?_;refine uB 6 rfl (zv (j:=l.length-1-i) zp ty9 rfl rfl uO uSo) ?_;refine uM 7 rfl rfl (fun M hM=>by subst hM;exact zib (i:=0) (j:=l.length-1-i) (f:=0) (y:= .str y) ty9 rfl rfl rfl (by simp [hy]) (.inl ⟨rfl,rfl⟩) ⟨rfl,rfl⟩) ?_;refine gz2 ?_;refine uB 10 rfl (zv (j:=i) zp ty9 rfl rfl rfl uSo) ?_;refine uM 11 rfl rfl (fun M hM=>by subst hM;exact zib (i:=0) (j:=i) (f:=0) (y:= .str x) ty9 rfl rfl rfl (by simp [hx]) (.inl ⟨rfl,rfl⟩) ⟨rfl,rfl⟩) ?_;refine uB 12 rfl (zv (j:=i) zp ty9 rfl rfl rfl uSo) ?_;refine uF 13 ?_;refine zy (zV (i:=0) (j:=i) (f:=0) (y:= .str x) (y':= .str y) ty9 rfl rfl rfl rfl (by simp [hx]) rfl rfl (by simp [zb]) rfl ?_)
 refine ⟨uE,?_⟩
 refine uB 14 rfl (zv (j:=l.length-1-i) zp ty9 rfl rfl uO uSo) ?_;refine uF 15 ?_;refine zy (zV (i:=0) (j:=l.length-1-i) (f:=0) (y:= .str y) (y':= .str x) ty9 rfl rfl rfl rfl (by simp [Co];rw [if_neg uO];simp [hy]) rfl rfl (by simp [zb]) rfl ?_)
 refine ⟨uE,?_⟩
 refine zco ?_;refine ⟨i+1,j-1,(c.set i y).set (l.length-1-i) x,?_,?_,⟨rfl,rfl,trivial⟩,uK,zk (by simp [List.map_set])⟩
 exact ⟨by omega,by omega,zBk hr uO hx hy⟩
 dsimp only;omega
 have hend:=zDD hr uO;refine gz2 ?_;refine zcN ?_;refine gz1 ?_;exact ⟨_,_,Ghost.sub (Sub.refl _),_,_,rfl,Weak.refl _,rfl,by rw [hend]⟩
end
end Go.Proofs.YtnfmbjchkjijpaaGreatDoor
namespace Go.HL
section
def zlE (r:Room) (s:List Swap):List Str:=if zdh r s !=0 then [] else (turns r s).map (·.team)
theorem znO {r:Room} {l:List Swap} (h:zdh r l=0):zb1 r=0/\l.length<=600:=by
 unfold zdh at h
 by_cases h1:zb1 r=0
 rw [if_neg (by simp [h1])] at h
 split at h
 omega
 exact ⟨h1,by omega⟩;rw [if_pos (by simpa using h1)] at h;exact absurd h h1
theorem zAY {a b:Int} (h:orI [a,b]=0):a=0/\b=0:=by
 simp only [orI] at h
 split at h<;>simp_all
theorem zzZ {r:Room} {s:List Swap} (h:zb1 r=0):(turns r s).length<=600:=by
 obtain ⟨_,h1,_,h2,h3,_⟩:=zoD h;unfold turns;rw [zjA];have:=Nat.mul_le_mul (show r.Rounds.toNat<=30 by omega) h1
 omega
end
end Go.HL
namespace Go.Proofs.YtnfmbjchkjijpaaGreatDoor
set_option maxRecDepth 100000
set_option linter.unusedVariables false
set_option linter.unusedSimpArgs false
section
open Go.Proofs.Tryz
open Go.HL
theorem ztS [Tracks] {r:Room} {s:List Swap} (ht:r.Teams.length<=20) (hr0:1<=r.Rounds) (hr:r.Rounds<=30) (hl:s.length<=1000000):ConP prog 57 [.vptr (zb (zrd r)) 0,zoH s] (zDY (turns r s)):=by
 refine uOb func57 ntmps57 ?_;refine gz6 ?_;refine ze (zK 3) ?_;refine gz5 ?_;refine uU2 [5,3,9,39] (fun (n:Nat) (v:Value)=>[(6,.int .i64 ((n:Int)+1)),(5,.raw v)]) (fun (n:Nat) (v:Value)=>[.arr v 3 ((zeI r s n).map zrf)]) (fun (n:Nat) (v:Value)=>n<=r.Rounds.toNat) (fun (n:Nat) (v:Value)=>r.Rounds.toNat-n) (0) (.slice none 0 0) ?_ ?_;exact Ad _
 intro n v hn
 refine gz9 ?_;refine uCo (fun h1=> ?_) fun h2=> ?_
 have hn30:n<r.Rounds.toNat:=by omega
 refine gz9 ?_;refine de rfl (uCa zkD rfl (zaf uO) fun v22=> ?_)
 refine gz2 ?_;refine uVj [23,8] (fun (L:List Str)=>[]) (fun (L:List Str)=>[.arr v22 1 (L.map .str),.arr v 3 ((zeI r s n).map zrf)]) (fun (L:List Str)=>L=if backwards r.Way ((n:Int)+1) then r.Teams.reverse else r.Teams) ?_ ?_
 skip
 refine gz6 ?_;refine dq (uCl zEZ rfl zpM) ?_;refine gz1 ?_;refine uCo (fun h3=> ?_) fun h4=> ?_
 refine gz2 ?_;refine de rfl (zaV (M1:=[_]) (R:=[_]) zE0 rfl (WeakL.refl _) (Ac _) (zh6 (l:=r.Teams) uO) ?_)
 rintro _ _ ⟨rfl,rfl⟩;refine gz1 ?_;refine ⟨_,?_,trivial,uK,Ac _⟩
 simp_all
 refine gz1 ?_;refine ⟨_,?_,trivial,uK,Ac _⟩
 simp_all
 intro L hL
 have hLl:L.length=r.Teams.length:=by rw [hL];split<;>simp
 have hb:=zjA r s n;have hm:=Nat.mul_le_mul (show n<=30 by omega) (show r.Teams.length<=20 by omega);refine ze (zn7 7 rfl) ?_;refine gz6 ?_;refine uV2 [5,1,9,1,33,15] (fun (k:Nat) (u:Value)=>[(33,.int .i64 k),(5,.raw u)]) (fun (k:Nat) (u:Value)=>[.arr u 3 ((zeI r s n).map zrf++(L.take k).map fun t=>zrf ⟨(n:Int)+1,t,owner ((n:Int)+1) t s⟩)]) (fun (k:Nat) (u:Value)=>k<=L.length/\(True)) (fun (k:Nat) (u:Value)=>L.length-k) (0) (v) ?_ ?_ ?_ ?_;exact ⟨Ad _,by simp_all⟩;exact ⟨rfl,rfl,trivial⟩;exact zk (by simp)
 intro k u hinv
 obtain ⟨hk,-⟩:=hinv;refine gz4 ?_;refine uCo (fun h5=> ?_) fun h6=> ?_
 obtain ⟨x,hx⟩: ∃x,L[k]? =some x:=⟨_,Aa h5⟩
 have hdx:=zg hx;refine zoW ?_;refine dq (uCl zE1 rfl (ztR (by assumption))) ?_;refine dq (zF (cs:=[_,_,_]) zpH zHf rfl) ?_;refine dq (za (hs:=[_]) zyB zpH rfl rfl (by decide) (by decide) rfl) ?_;refine de rfl (zL (i:=0) zyB zpH rfl rfl rfl rfl rfl (by simp [zat,zb]) uSo fun v46=> ?_)
 refine gz8 ?_;refine ⟨k+1,_,?_,?_,⟨rfl,rfl,trivial⟩,uK,zk (by simp [List.take_add_one,hx])⟩
 exact ⟨by omega,trivial⟩
 dsimp only;omega
 have hnk:L.length<=k:=by omega
 obtain rfl:k=L.length:=by omega
 refine gz2 ?_;refine zI ?_;refine gz8 ?_;refine ⟨n+1,_,?_,?_,⟨rfl,rfl,trivial⟩,uK,zk (by simp [zeI,zjY,hL,Aq,Function.comp_def])⟩
 omega
 dsimp only;omega
 obtain rfl:n=r.Rounds.toNat:=by omega
 refine gz2 ?_;refine zI ?_;refine gz7 ?_;exact zmz (M:=[]) 4 rfl rfl rfl
theorem ztQ [Tracks] {r:Room} {s:List Swap} (ht:r.Teams.length<=1000000) (hp:r.Players.length<=1000000) (hl:s.length<=1000000):ConP prog 18 [zrd r,zoH s] (.tup [eSs (zlE r s),.int .i64 (zdh r s)]):=by
 refine uOb func18 ntmps18 ?_;refine gz9 ?_;refine dq (uCl ca56 rfl (zok (by assumption) (by assumption) (by assumption))) ?_;refine gz6 ?_;refine uCo (fun h1=> ?_) fun h2=> ?_
 refine gz6 ?_;exact zbz rfl (zad (by rw [zlE,if_pos uSa];exact zM 1) (Weak.refl _));refine gz5 ?_;refine ze (zK 1) ?_;refine gz2 ?_;obtain ⟨_,hq1,_,hq2,hq3,_⟩:=zoD (r:=r) ((znO (l:=s) h2).1);have hlen:=zzZ (r:=r) (s:=s) (znO h2).1;refine gz1 ?_;refine dq (uCl ca57 rfl (ztS (by assumption) (by assumption) (by assumption) (by assumption))) ?_;refine gz4 ?_;refine uV2 [7,1,9,1,19,10] (fun (k:Nat) (u:Value)=>[(19,.int .i64 k),(7,.raw u)]) (fun (k:Nat) (u:Value)=>[.arr u 1 (((turns r s).take k).map fun t=> .str t.team)]) (fun (k:Nat) (u:Value)=>k<=(turns r s).length/\(True)) (fun (k:Nat) (u:Value)=>(turns r s).length-k) (0) (.slice none 0 0) ?_ ?_ ?_ ?_;exact ⟨Ad _,by simp_all⟩;exact ⟨rfl,rfl,trivial⟩;exact zk (by simp)
 intro k u hinv
 obtain ⟨hk,-⟩:=hinv;refine gz4 ?_;refine uCo (fun h3=> ?_) fun h4=> ?_
 obtain ⟨x,hx⟩: ∃x,(turns r s)[k]? =some x:=⟨_,Aa h3⟩
 have hdx:=zg hx;refine gz7 ?_;refine de rfl (zj zpH rfl fun b9=> ?_)
 refine de0 (zn zpH rfl rfl rfl rfl rfl ?_)
 refine gz1 ?_;refine ze (zo 9 rfl) ?_;refine gz4 ?_;refine dq (za (hs:=[_]) zp ty9 rfl rfl (by decide) (by decide) rfl) ?_;refine de rfl (zL (i:=0) zp ty9 rfl rfl rfl rfl rfl (by simp [zat,zb]) uSo fun v27=> ?_)
 refine gz8 ?_;refine ⟨k+1,_,?_,?_,⟨rfl,rfl,trivial⟩,uK,zk (by simp [List.take_add_one,hx])⟩
 exact ⟨by omega,trivial⟩
 dsimp only;omega
 have hnk:(turns r s).length<=k:=by omega
 obtain rfl:k=(turns r s).length:=by omega
 refine gz2 ?_;refine zI ?_;refine gz8 ?_
 (refine zmz (M:=[]) 4 rfl rfl ?_
  simp_all [zlE,eSs,Function.comp_def,zaM,za6])
end
end Go.Proofs.YtnfmbjchkjijpaaGreatDoor
namespace Go.HL
section
def asciiSet (l:List UInt8):List HVal:=(List.range 256).map fun i=> .bool (l.contains (UInt8.ofNat i))
theorem zdY (l:List UInt8):(asciiSet l).length=256:=by simp [asciiSet]
theorem zod (l:List UInt8) (c:UInt8):(asciiSet l)[c.toNat]? =some (.bool (l.contains c)):=by
 have:=c.toNat_lt
 simp [asciiSet,BQ,this]
theorem zrm {α:Type} (f:α->Bool): ∀l:List α,zat (l.map fun i=> .bool (f i))=true
 |[]=>rfl
 |x::l=>by simp only [Aw,zat];exact zrm f l
theorem ztN (l:List UInt8):zat (asciiSet l)=true:=zrm _ _
theorem zuS (l:List UInt8) (c:UInt8):zaG (asciiSet l) (0+c.toNat*1) [.bool true]=asciiSet (l++[c]):=by
 have hc:=c.toNat_lt;have hl:0+c.toNat*1=c.toNat:=by omega
 rw [hl]
 apply B0
 intro i
 have hlen:=zdY l;simp only [zaG,B5]
 by_cases hi:i<c.toNat
 rw [Au (by simp;omega),Au (by simp [hlen];omega),AD hi];have h256:i<256:=by omega
 have hne:UInt8.ofNat i≠c:=fun h=>by
  have:=congrArg UInt8.toNat h;rw [UInt8.toNat_ofNat_of_lt' (by simpa [UInt8.size] using h256)] at this;omega
 simp [asciiSet,BQ,h256,hne]
 by_cases he:i=c.toNat
 subst he;rw [Au (by simp [hlen];omega),Ap (by simp [hlen];omega)];rw [zod]
 simp [hlen,BF (Nat.le_of_lt hc)]
 rw [Ap (by simp [hlen];omega),AG];have e1:c.toNat+1+(i-((asciiSet l).take c.toNat++[HVal.bool true]).length)=i:=by simp [hlen];omega
 rw [e1]
 by_cases h256:i<256
 have hne:UInt8.ofNat i≠c:=fun h=>by
  have:=congrArg UInt8.toNat h;rw [UInt8.toNat_ofNat_of_lt' (by simpa [UInt8.size] using h256)] at this;omega
 simp [asciiSet,BQ,h256,hne]
 rw [AC (by rw [zdY];omega),AC (by rw [zdY];omega)]
def zdI (p:UInt8->Bool) (s:Str):Str:=(s.reverse.dropWhile p).reverse
theorem zgT (p:UInt8->Bool) (s:Str) (c:UInt8):zdI p (s++[c])=if p c then zdI p s else s++[c]:=by
 unfold zdI;rw [List.reverse_append];simp only [List.reverse_cons,List.reverse_nil,Bu,BD,Bf]
 split<;>simp
theorem zy1 (p:UInt8->Bool): ∀s:Str,(s.dropWhile p).length<=s.length
 |[]=>Ae _
 |x::s=>by
   rw [Bf]
   split
   exact Nat.le_succ_of_le (zy1 p s);exact Ae _
theorem zty (p:UInt8->Bool) (s:Str):(zdI p s).length<=s.length:=by
 unfold zdI;rw [List.length_reverse];have:=zy1 p s.reverse
 rwa [List.length_reverse] at this
theorem zy2 (p:UInt8->Bool): ∀s:Str,s.dropWhile p=[]->∀c∈s,p c=true
 |[],_,c,h=>by cases h
 |x::s,h,c,hc=>by
   rw [Bf] at h
   by_cases hx:p x=true
   rw [if_pos hx] at h
   rcases List.mem_cons.1 hc with rfl|hc
   exact hx;exact zy2 p s h c hc;rw [if_neg hx] at h;cases h
theorem zBr (p:UInt8->Bool) (s:Str):((zdI p s).dropWhile p==[])=s.all p:=by
 induction s using List.reverseRecOn' with
 |nil=>rfl
 |snoc s c ih=>
   rw [zgT]
   by_cases hc:p c=true
   rw [if_pos hc,ih];simp [hc];rw [if_neg hc];have:(s++[c]).all p=false:=by simp [hc]
   rw [this]
   cases hd:(s++[c]).dropWhile p with
   |nil=>exact absurd (zy2 _ _ hd c (by simp)) hc
   |cons _ _=>rfl
where
 List.reverseRecOn' {motive:Str->Prop} (nil:motive []) (snoc: ∀s c,motive s->motive (s++[c])) (l:Str):motive l:=by
  have: ∀n (l:Str),l.length=n->motive l:=by
   intro n
   induction n with
   |zero=>intro l h;rw [List.length_eq_zero_iff.1 h];exact nil
   |succ n ih=>
     intro l h
     have hne:l≠[]:=fun h0=>by subst h0;simp at h
     rw [<-Bx hne];exact snoc _ _ (ih _ (by simp [h]))
  exact this l.length l rfl
def zhk:Str:=[97,98,99,100,101,102,103,104,105,106,107,108,109,110,111,112,113,114,115,116,117,118,119,120,121,122,48,49,50,51,52,53,54,55,56,57,45,95]
def zkc:Str:=[97,98,99,100,101,102,103,104,105,106,107,108,109,110,111,112,113,114,115,116,117,118,119,120,121,122]
theorem zuP {p:UInt8->Bool} (h:(List.range 256).all (fun i=>p (UInt8.ofNat i))=true) (c:UInt8):p c=true:=by
 have:=List.all_eq_true.1 h c.toNat (List.mem_range.2 c.toNat_lt)
 simpa using this
theorem zAm (c:UInt8):zhk.contains c=zhn c:=by
 have:=zuP (p:=fun c=>zhk.contains c==zhn c) (by kernel_rfl) c
 simpa using this
theorem zrU (c:UInt8):decide (0<=Lib.indexByte zkc c)=(decide (97<=c.toNat)&&decide (c.toNat<=122)):=by
 have:=zuP (p:=fun c=>decide (0<=Lib.indexByte zkc c)==(decide (97<=c.toNat)&&decide (c.toNat<=122))) (by kernel_rfl) c
 simpa using this
theorem zC7 (s:Str):key s=((!(out s.length 1 40)&&((zdI (zhk.contains ·) s).dropWhile (zhk.contains ·)==[]))&&decide (0<=Lib.indexByte zkc (s.headD 0))):=by
 rw [zBr,zrU];have:(fun x=>zhk.contains x)=zhn:=funext zAm;rw [this];unfold key zjP
 cases s with
 |nil=>simp [out]
 |cons x r=>
   simp only [List.headD_cons];have h1:(!(out ((x::r).length:Int) 1 40))=decide ((x::r).length<=40):=by
    simp only [out,Aj];rw [AF];simp;omega
   rw [h1];have h2:((x::r) !=[])=true:=rfl;rw [h2];have hb: ∀a b c d:Bool,(true&&a&&c&&d&&b)=(a&&b&&(c&&d)):=by decide
   exact hb _ _ _ _
theorem zyd (n:Int):(if out n 0 345686399999 then (1:Int) else 0)=if zac n then 0 else 1:=by
 have:out n 0 345686399999= !(zac n):=by
  simp only [out,zac];rw [AF];simp;try omega
 rw [this];cases zac n<;>rfl
end
end Go.HL
namespace Go.Proofs.YtnfmbjchkjijpaaGreatDoor
set_option maxRecDepth 100000
set_option linter.unusedVariables false
set_option linter.unusedSimpArgs false
section
open Go.Proofs.Tryz
open Go.HL
theorem zlY [Tracks] {l:Str} (hl:l.length<=1000000) (ha: ∀c∈l,c.toNat<128):ConP prog 244 [.str l] (.tup [.agg (asciiSet l),.bool true]):=by
 refine za5 func244 rfl ntmps244 rfl rfl ?_;refine gz1 ?_;refine de rfl (zj zlG rfl fun b2=> ?_)
 refine gz7 ?_;refine uV1 [3,17] (fun (k:Nat)=>[(4,.int .i64 k)]) (fun (k:Nat)=>[.cells b2 (asciiSet (l.take k))]) (fun (k:Nat)=>k<=l.length/\(True)) (fun (k:Nat)=>l.length-k) (0) ?_ ?_ ?_ ?_;exact ⟨Ad _,by simp_all⟩;exact ⟨rfl,trivial⟩;exact zk rfl
 intro k hinv
 obtain ⟨hk,-⟩:=hinv;refine gz7 ?_;refine uCo (fun h1=> ?_) fun h2=> ?_
 obtain ⟨x,hx⟩: ∃x,l[k]? =some x:=⟨_,Aa h1⟩
 have hdx:=zg hx;have hc:=ha x (Ab hx);refine gz7 ?_;refine dq (zaU ty9 rfl rfl rfl (by assumption)) ?_;refine gz7 ?_;refine z7 rfl (fun h3=> ?_) (fun h3=> ?_)
 exfalso
 try simp at h3
 omega
 try simp at h3
 refine gz4 ?_;refine dq (zvE zlG ty4 rfl rfl rfl uO) ?_;refine de0 (zoN (i:=0) ty4 rfl rfl rfl rfl rfl (by rw [zdY];omega) ?_)
 refine gz8 ?_;refine ⟨k+1,?_,?_,⟨rfl,trivial⟩,uK,zk (by show [MObj.cells b2 (zaG _ (0+x.toNat*1) [.bool true])]=_;rw [zuS];dsimp only;rw [List.take_add_one,hx];rfl)⟩
 exact ⟨by omega,trivial⟩
 dsimp only;omega
 have hnk:l.length<=k:=by omega
 obtain rfl:k=l.length:=by omega
 refine gz2 ?_;refine zu ?_;refine gz2 ?_;refine ze (zbl (M':=[.cells b2 (asciiSet l)]) (by rw [Ai])) ?_;refine gz1 ?_;refine de rfl (zhS (i:=0) (h:= .agg (asciiSet l)) zlG rfl rfl rfl rfl (zdY l) ?_)
 refine de0 (zn (h:= .agg (asciiSet l)) zlG rfl rfl (by simp [zeb,zdY]) (ztN l) (zdY l) ?_)
 refine gz3 ?_;refine ⟨_,_,zo 2 rfl,[_,_],_,⟨⟨_,_,_,_,_,rfl,zlG,.inr ⟨rfl,rfl,rfl⟩⟩,⟨rfl,trivial⟩⟩,Weak.refl _,?_,rfl⟩
 rfl
theorem zfj [Tracks] {l:Str} {c:UInt8}:ConP prog 306 [.vptr (asciiSet l) 0,.int .u8 c.toNat] (.bool (l.contains c)):=by
 have hc:=c.toNat_lt;refine uOb func306 ntmps306 ?_;refine gz7 ?_;refine dq (zBa zlG ty4 rfl rfl rfl uO) ?_;refine dq (zJ ty4 rfl rfl (by rw [show 0+c.toNat*1=c.toNat from by omega];exact zod l c)) ?_;refine gz3 ?_;refine zt rfl ?_
 rfl
theorem zk7 [Tracks] {s l:Str} (hl:s.length<=1000000):ConP prog 245 [.str s,.vptr (asciiSet l) 0] (.str (s.dropWhile (l.contains ·))):=by
 refine uOb func245 ntmps245 ?_;refine gz5 ?_;refine uU1 [0,1,5,10] (fun (t:Str)=>[(0,.str t)]) (fun (t:Str)=>[]) (fun (t:Str)=>t.length<=s.length/\s.dropWhile (l.contains ·)=t.dropWhile (l.contains ·)) (fun (t:Str)=>t.length) (s) ?_ ?_;exact ⟨Ae _,rfl⟩;rintro t ⟨ht,hg⟩;refine gz6 ?_;refine uCo (fun h1=> ?_) fun h2=> ?_
 obtain ⟨x,u,rfl⟩: ∃x u,t=x::u:=by cases t with|nil=>simp at h1|cons x u=>exact ⟨x,u,rfl⟩
 have hlen:(x::u).length=u.length+1:=rfl;refine gz7 ?_;refine dq (zaU (j:=0) (b:=x) ty9 rfl rfl rfl rfl) ?_;refine dq (uCl zB9 rfl zfj) ?_;refine gz2 ?_;refine uCo (fun h3=> ?_) fun h4=> ?_
 refine gz3 ?_;refine zu ?_;refine gz7 ?_;refine zt rfl ?_
 show HVal.str _=_
 rw [hg];simp_all [Bf];refine gz4 ?_;refine dq (zik (l:=1) ty9 rfl ⟨_,_,rfl,rfl⟩ rfl uO uO) ?_;refine gz3 ?_;refine ⟨_,?_,?_,⟨rfl,trivial⟩,uK,Ac _⟩
 refine ⟨by simp at ht⊢;omega,?_⟩
 rw [hg];simp_all [Bf]
 dsimp only;simp
 obtain rfl:t=[]:=by simpa using h2
 refine gz2 ?_;refine zu ?_;refine gz7 ?_;refine zt rfl ?_
 show HVal.str _=_
 rw [hg];simp_all [Bf]
theorem zkB [Tracks] {s l:Str} (hl:s.length<=1000000):ConP prog 246 [.str s,.vptr (asciiSet l) 0] (.str (zdI (l.contains ·) s)):=by
 refine uOb func246 ntmps246 ?_;refine gz5 ?_;refine uU1 [0,1,5,16] (fun (t:Str)=>[(0,.str t)]) (fun (t:Str)=>[]) (fun (t:Str)=>t.length<=s.length/\zdI (l.contains ·) s=zdI (l.contains ·) t) (fun (t:Str)=>t.length) (s) ?_ ?_;exact ⟨Ae _,rfl⟩;rintro t ⟨ht,hg⟩;refine gz6 ?_;refine uCo (fun h1=> ?_) fun h2=> ?_
 obtain ⟨u,x,rfl⟩: ∃u x,t=u++[x]:=⟨_,_,(Bx (by intro h0;subst h0;simp at h1)).symm⟩
 have hlen:(u++[x]).length=u.length+1:=by simp
 refine zay ?_;refine dq (zaU (j:=u.length) (b:=x) ty9 rfl rfl uO (by simp)) ?_;refine dq (uCl zB9 rfl zfj) ?_;refine gz2 ?_;refine uCo (fun h3=> ?_) fun h4=> ?_
 refine gz3 ?_;refine zu ?_;refine gz7 ?_;refine zt rfl ?_
 show HVal.str _=_
 rw [hg];first|rfl|(rw [zgT,if_neg uSa])
 refine gz7 ?_;refine dq (zik (l:=0) (h:=u.length) ty9 rfl rfl ⟨_,_,rfl,by omega⟩ uO uO) ?_;refine gz3 ?_;refine ⟨_,?_,?_,⟨rfl,trivial⟩,uK,Ac _⟩
 refine ⟨by simp at ht⊢;omega,?_⟩
 rw [hg,zgT,if_pos uSa];simp
 dsimp only;simp
 obtain rfl:t=[]:=by simpa using h2
 refine gz2 ?_;refine zu ?_;refine gz7 ?_;refine zt rfl ?_
 show HVal.str _=_
 rw [hg];first|rfl|(rw [zgT,if_neg uSa])
theorem zsm [Tracks] {s l:Str} (hs:s.length<=1000000) (hl:l.length<=1000000) (h2l:2<=l.length) (ha: ∀c∈l,c.toNat<128):ConP prog 175 [.str s,.str l] (.str ((zdI (l.contains ·) s).dropWhile (l.contains ·))):=by
 refine uOb func175 ntmps175 ?_;refine zc9 ?_;refine uCo (fun h1=> ?_) fun h2=> ?_
 refine gz5 ?_;refine zt rfl ?_
 show HVal.str _=_
 focus (rcases h1 with rfl|rfl<;>first|(simp at h2l;done)|(simp [zdI];done))
 refine gz9 ?_;refine uGr rfl (fun hc=>zaU (j:=0) (b:=l.headD 0) ty9 rfl rfl rfl (hd0 (by intro h0;subst h0;simp at h2l))) ?_;refine gz3 ?_;refine z7 rfl (fun h3=> ?_) (fun h3=> ?_)
 exfalso
 try simp at h3
 omega
 try simp at h3
 refine gz5 ?_;refine dq (uCl zF0 rfl (zlY (by assumption) (by assumption))) ?_;refine gz3 ?_;refine de rfl (zj zlG rfl fun b5=> ?_)
 refine de0 (zn zlG rfl rfl rfl rfl rfl ?_)
 refine gz2 ?_;refine ze (zo 5 rfl) ?_;refine gz3 ?_;refine zs8 rfl ?_;refine gz2 ?_;refine dq (uCl zF2 rfl (zkB (by assumption))) ?_;refine dq (uCl zF1 rfl (zk7 (Ar (zty _ _) hs))) ?_;refine gz3 ?_;refine zt rfl ?_
 show HVal.str _=_
 rfl
theorem zhu [Tracks] {s:Str} {c:Int}:ConP prog 249 [.str s,.int .u8 c] (.int .i64 (Lib.indexByte s c.toNat.toUInt8)):=by
 refine uOb func249 ntmps249 ?_;refine gz6 ?_;refine dq (zua func310 (by kernel_rfl) (by kernel_rfl) (by kernel_rfl) (by kernel_rfl) rfl rfl rfl) ?_;refine gz3 ?_;refine zt rfl ?_
 rfl
theorem ziy [Tracks] {s:Str} {c:Int}:ConP prog 176 [.str s,.int .u8 c] (.int .i64 (Lib.indexByte s c.toNat.toUInt8)):=by
 refine uOb func176 ntmps176 ?_;refine gz6 ?_;refine dq (uCl zF3 rfl zhu) ?_;refine gz3 ?_;refine zt rfl ?_
 rfl
theorem zc2 [Tracks] {n lo hi:Int}:ConP prog 109 [.int .i64 n,.int .i64 lo,.int .i64 hi] (.bool (!(out n lo hi))):=by
 refine uOb func109 ntmps109 ?_;refine ziG ?_;refine zt rfl ?_
 show HVal.bool _=_
 congr 1;simp [out];rw [AF];simp;try omega
theorem zbS [Tracks] {s:Str} (hs:s.length<=1000000):ConP prog 107 [.str s] (.bool (key s)):=by
 refine uOb func107 ntmps107 ?_;refine gz6 ?_;refine dq (uCl zm6 rfl zc2) ?_;refine gz2 ?_;refine uGr rfl (fun hc=>uCl zBQ rfl (zsm (l:=zhk) hs (by decide) (by decide) (by decide))) ?_;refine gz4 ?_;refine uGr rfl (fun hc=>zaU (j:=0) (b:=s.headD 0) ty9 rfl rfl rfl (hd0 (by rintro rfl;simp [out] at hc))) ?_;refine uGr rfl (fun hc=>uCl zBR rfl ziy) ?_;refine gz5 ?_;refine zt rfl ?_
 show HVal.bool _=_
 rw [zC7]
 simp [zhk,zkc]
theorem zhJ [Tracks] {n lo hi:Int}:ConP prog 173 [.int .i64 n,.int .i64 lo,.int .i64 hi] (.int .i64 (if out n lo hi then 1 else 0)):=by
 refine uOb func173 ntmps173 ?_;refine gz8 ?_;refine dq (uCl zm6 rfl zc2) ?_;refine gz2 ?_;refine uCo (fun h1=> ?_) fun h2=> ?_
 refine gz4 ?_;refine uRp ?_
 simp_all
 refine gz6 ?_;refine uRp ?_
 simp_all
theorem zc0 [Tracks] {n:Int}:ConP prog 101 [.int .i64 n] (.int .i64 (if zac n then 0 else 1)):=by
 refine uOb func101 ntmps101 ?_;refine gz5 ?_;refine dq (uCl zBO rfl zhJ) ?_;refine gz3 ?_;refine uRp ?_;rw [zyd]
end
end Go.Proofs.YtnfmbjchkjijpaaGreatDoor
namespace Go.HL
section

end
section
open Op (bytesLess)
theorem zlq (a b:Int):zab a b= -zab b a:=by
 unfold zab;split<;>split<;>(try split)<;>omega
theorem zfk (a b:Str):zZ a b= -zZ b a:=by
 rw [zgL,zgL]
 rcases zcf a b with h|h|h
 have hne:a≠b:=fun e=>by subst e;rw [zaz] at h;cases h
 simp [h,zbU h,hne.symm]
 subst h;simp [zaz];have hne:a≠b:=fun e=>by subst e;rw [zaz] at h;cases h
 simp [h,zbU h,hne]
theorem zvw (a b:Int):orI [-a,-b]= -orI [a,b]:=by
 by_cases h1:a=0<;>by_cases h2:b=0<;>simp [orI,h1,h2]
end
section
section
variable {α:Type} (c:α->α->Int)
def znj (x:α):List α->List α
 |[]=>[x]
 |y::t=>if c x y<0 then y::znj x t else x::y::t
def zcY (x:α) (S:List α):List α:=(znj c x S.reverse).reverse
def zQ (l:List α):List α:=l.foldl (fun S x=>zcY c x S) []
theorem zAG (x:α):zcY c x []=[x]:=rfl
theorem zte (x y:α) (S:List α):zcY c x (S++[y])=if c x y<0 then zcY c x S++[y] else S++[y,x]:=by
 unfold zcY;rw [List.reverse_append];simp only [List.reverse_cons,List.reverse_nil,Bu,BD,znj]
 split<;>simp
theorem zrq (l:List α) (x:α):zQ c (l++[x])=zcY c x (zQ c l):=by simp [zQ,A2]
theorem zo2 (x:α): ∀l,(znj c x l).Perm (x::l)
 |[]=> .refl _
 |y::t=>by
   simp only [znj];split
   ·exact ((zo2 x t).cons y).trans (.swap _ _ _)
   ·exact .refl _
theorem zzj (x:α) (S:List α):(zcY c x S).Perm (x::S):=by
 unfold zcY;exact (List.reverse_perm _).trans ((zo2 c x _).trans ((List.reverse_perm S).cons x))
theorem zrn: ∀(l S:List α),(l.foldl (fun S x=>zcY c x S) S).Perm (S++l)
 |[],S=>by simp
 |x::l,S=>by
   simp only [Bt];refine (zrn l _).trans ?_;refine ((zzj c x S).append_right l).trans ?_;exact (B8 (a:=x) (l₁:=S) (l₂:=l)).symm
theorem zbh (l:List α):(zQ c l).Perm l:=by
 have:=zrn c l []
 simpa [zQ] using this
theorem zaw (l:List α):(zQ c l).length=l.length:=(zbh c l).length_eq
theorem zeE {l:List α} {x:α}:x∈zQ c l↔x∈l:=(zbh c l).mem_iff
structure Cmp (s:α->Prop):Prop where
 flip: ∀x y,s x->s y->(c x y<0↔0<c y x)
 trans: ∀x y z,s x->s y->s z->c x y<=0->c y z<=0->c x z<=0
variable {c}
theorem zp2 {s:α->Prop} (hc:Cmp c s) {x:α} (hx:s x): ∀{l:List α},(∀y∈l,s y)->l.Pairwise (fun a b=>c b a<=0)->(znj c x l).Pairwise (fun a b=>c b a<=0)
 |[],_,_=>by simp [znj]
 |y::t,hs,hp=>by
   have hy:=hs y (by simp);have ht: ∀z∈t,s z:=fun z hz=>hs z (Ao _ hz)
   obtain ⟨h1,h2⟩:=List.pairwise_cons.1 hp;simp only [znj]
   split
   rename_i hlt
   refine List.pairwise_cons.2 ⟨fun z hz=> ?_,zp2 hc hx ht h2⟩
   rcases List.mem_cons.1 ((zo2 c x t).mem_iff.1 hz) with rfl|hz
   omega
   exact h1 z hz
   rename_i hge
   have hyx:c y x<=0:=by
    have:=(hc.flip x y hx hy)
    omega
   refine List.pairwise_cons.2 ⟨fun z hz=> ?_,hp⟩
   rcases List.mem_cons.1 hz with rfl|hz
   exact hyx;exact hc.trans z y x (ht z hz) hy hx (h1 z hz) hyx
theorem zwk {s:α->Prop} (hc:Cmp c s) {x:α} (hx:s x) {l:List α} (hs: ∀y∈l,s y) (hp:l.Pairwise (fun a b=>c a b<=0)):(zcY c x l).Pairwise (fun a b=>c a b<=0):=by
 unfold zcY;rw [List.pairwise_reverse];exact zp2 hc hx (fun y hy=>hs y (List.mem_reverse.1 hy)) (List.pairwise_reverse.2 hp)
theorem zgt {s:α->Prop} (hc:Cmp c s) {l:List α} (hs: ∀y∈l,s y):(zQ c l).Pairwise (fun a b=>c a b<=0):=by
 have key: ∀(n:Nat),n<=l.length->(zQ c (l.take n)).Pairwise (fun a b=>c a b<=0):=by
  intro n
  induction n with
  |zero=>intro _;simp [zQ]
  |succ n ih=>
    intro hn
    have hx:=Aa (l:=l) (i:=n) (by omega);rw [zR hx,zrq];exact zwk hc (hs _ (Ab hx)) (fun y hy=>hs y (AJ ((zbh c _).mem_iff.1 hy))) (ih (by omega))
 have:=key l.length (Ae _)
 rwa [Ai] at this
end
end
section
abbrev pAt (b:Nat):HVal:= .raw (.pointer (some ⟨b,0,none⟩))
abbrev St (b:Nat) (l:List Int) (a:Nat):MObj:= .cells b [.slice 1 (l.map (.int .i64)),.int .i64 (a:Int)]
def below (x n:Int):Int:=if n<1 then 0 else if x.tmod n<0 then x.tmod n+n else x.tmod n
theorem zoe (x n:Int): ∃y:Nat,below x n=(y:Int)/\(y:Int)<max n 1:=by
 have h:0<=below x n/\below x n<max n 1:=by
  unfold below
  split
  omega
  have h1:=BV x (show 0<n by omega);have h2: -n<x.tmod n:=by
   have:=Int.neg_lt_tmod_of_pos' x n (by omega);exact this
  split<;>omega
 exact ⟨(below x n).toNat,by omega,by omega⟩
where
 Int.neg_lt_tmod_of_pos' (x n:Int) (h:0<n): -n<x.tmod n:=by
  rcases Int.le_total 0 x with hx|hx
  have:=Cv n hx;omega;have e:x.tmod n= -((-x).tmod n):=by rw [Int.neg_tmod];simp
  have:=BV (-x) h
  omega
theorem getI {L:List Int} {y:Nat} (h:(y:Int)<max (L.length:Int) 1) (h0:0<L.length): ∃z,L[y]? =some z/\z∈L:=
 ⟨L[y]'(by omega),Aa _,BM _⟩
theorem getS {L:List Str} {y:Nat} (h:(y:Int)<max (L.length:Int) 1) (h0:0<L.length): ∃z,L[y]? =some z/\z∈L:=
 ⟨L[y]'(by omega),Aa _,BM _⟩
theorem zqH (a b:Nat):((a:Int)).tmod (b:Int)=((a%b:Nat):Int):=by
 exact (Int.ofNat_tmod a b).symm
end
section

end
section
open Op (bytesLess)
theorem zvU (l:List Str):(zbk l).Pairwise (fun x y=>x<=y):=by
 have:=List.pairwise_mergeSort (le:=fun x y:Str=>decide (x<=y)) (fun a b c h1 h2=>by
  simp only [decide_eq_true_eq] at*;exact List.le_trans h1 h2) (fun a b=>by
  simp only [Bk,decide_eq_true_eq];exact List.le_total a b) l
 exact this.imp (fun h=>by simpa using h)
theorem zBm (s t:Str) (l:List Str):t∈zci s l↔t=s\/t∈l:=by
 unfold zci
 split
 rename_i h
 simp only [B4] at h
 constructor
 exact .inr;rintro (rfl|h');exact h;exact h'
 simp [or_comm]
end
section
def Sh (s:Str):Prop:=s.length<=1000000
structure KLs where
 u:Value
 out:List Keep
 lv:Value
 left:List Str
 a:Nat
structure KLok (n a:Nat) (q:KLs):Prop where
 out:q.out.length<=n
 left:q.left.length<=20
 ls: ∀s∈q.left,Sh s
 os: ∀x∈q.out,Sh x.Team/\Sh x.Player
 a:q.a<=a+2*n
theorem KLok.add {n a:Nat} {u u' lv lv':Value} {out:List Keep} {left:List Str} {a1 a2 k:Nat} {t p:Str} {rd:Int} (h:KLok n a ⟨u,out,lv,left,a1⟩) (h1:a2<=a1+2) (ht:Sh t) (hp:left[k]? =some p):
 KLok (n+1) a ⟨u',out++[⟨t,p,rd⟩],lv',left.eraseIdx k,a2⟩:=
 ⟨by have:=h.out;simp at*;omega,by have:=h.left;have:=List.length_eraseIdx_le left k;dsimp only at*;omega,fun s hs=>h.ls s (List.mem_of_mem_eraseIdx hs),fun x hx=>by
  rcases List.mem_append.1 hx with hx|hx
  exact h.os x hx
  simp at hx;subst hx;exact ⟨ht,h.ls p (Ab hp)⟩,by have:=h.a;dsimp only at*;omega⟩
theorem zaL {α:Type} {l:List α} {j:Nat} {x y:α} (h:l[j]? =some y):(l.set j x)[j]? =some x:=by
 rw [BA (zm h)]
theorem za3 {α β:Type} {f:α->β} {l:List α} {j:Nat} {x:α} (h:l[j]? =some x):(l.map f)[j]? =some (f x):=by
 rw [Ah,h];rfl
theorem zyc {α:Type} {l:List α} {j:Nat} {x y:α} (h:x∈l.set j y):x=y\/x∈l:=by
 rcases Ch h with h|h
 exact .inr h;exact .inl h
structure SLs where
 u:Value
 out:List Swap
 row:List Str
 a:Nat
structure SLok (n a:Nat) (q:SLs):Prop where
 out:q.out.length<=n
 row:q.row.length<=4
 rs: ∀s∈q.row,Sh s
 os: ∀x∈q.out,Sh x.Of/\Sh x.Team
 a:q.a<=a+2*n
theorem SLok.mono {n m a:Nat} {q:SLs} (h:SLok n a q) (hm:n<=m):SLok m a q:=
 ⟨by have:=h.out;omega,h.row,h.rs,h.os,by have:=h.a;omega⟩
theorem KLok.mono {n m a:Nat} {q:KLs} (h:KLok n a q) (hm:n<=m):KLok m a q:=
 ⟨by have:=h.out;omega,h.left,h.ls,h.os,by have:=h.a;omega⟩
theorem SLok.add {n a:Nat} {u u':Value} {out:List Swap} {row:List Str} {a1 a2:Nat} {t p:Str} {rd:Int} (h:SLok n a ⟨u,out,row,a1⟩) (h1:a2<=a1+2) (ht:Sh t) (hp:Sh p):
 SLok (n+1) a ⟨u',out++[⟨rd,t,p⟩],row,a2⟩:=
 ⟨by have:=h.out;simp at*;omega,h.row,h.rs,fun x hx=>by
  rcases List.mem_append.1 hx with hx|hx
  exact h.os x hx
  simp at hx;subst hx;exact ⟨ht,hp⟩,by have:=h.a;dsimp only at*;omega⟩
end
section
open Op (bytesLess)
structure Asset where
 Player:Str
 Position:Str
 Value:Int
structure Place where
 Position:Str
 Many:Int
abbrev zb2 (x:Asset):HVal:= .agg [.str x.Player,.str x.Position,.int .i64 x.Value]
abbrev zDX (x:Place):HVal:= .agg [.str x.Position,.int .i64 x.Many]
abbrev zj8 (l:List Asset):HVal:= .slice 3 (l.map zb2)
abbrev zpt (l:List Place):HVal:= .slice 2 (l.map zDX)
def zkm:Asset:=⟨[],[],0⟩
def zvD:Place:=⟨[],0⟩
def assetFault (x:Asset):Int:=if !(key x.Player)|| !(key x.Position) then 5 else if out x.Value (-1000000) 1000000 then 1 else 0
def zfp (l:List Asset):Nat->List Asset->Int
 |_,[]=>0
 |k,x::t=>if assetFault x !=0 then assetFault x else if decide (0<k)&&leS x.Player (l.getD (k-1) zkm).Player then 7 else zfp l (k+1) t
def zdN (l:List Asset):Int:=if 300<l.length then 2 else zfp l 0 l
def zeP (l:List Place):Nat->List Place->Int
 |_,[]=>0
 |k,x::t=>if !(key x.Position) then 5 else if out x.Many 0 12 then 1 else if decide (0<k)&&leS x.Position (l.getD (k-1) zvD).Position then 7 else zeP l (k+1) t
def zdO (l:List Place):Int:=if 10<l.length then 2 else zeP l 0 l
def byValue (a b:Asset):Int:=orI [zab b.Value a.Value,zZ a.Player b.Player]
def zh0 (l:List Asset) (pos:Str):List Asset:=l.filter (fun x=>x.Position==pos)
def ofP (l:List Asset) (pos:Str):List Asset:=zQ byValue (zh0 l pos)
def zgn (o:List Asset) (zig:Int):List Asset:=(o.take (min zig o.length).toNat).filter (fun y=>decide (0<y.Value))
def zaI (of:Str->List Asset) (p:List Place):List Asset:=p.flatMap fun x=>zgn (of x.Position) x.Many
def zfg (l:List Asset):Int:=(l.map (·.Value)).sum
def zrC (l:List Asset):List Str:=zbk (l.map (·.Player))
theorem zqQ {l:List Asset} {k:Nat} {x:Asset} {pos:Str} (h:l[k]? =some x):zh0 (l.take (k+1)) pos=zh0 (l.take k) pos++if x.Position==pos then [x] else []:=by
 rw [zR h];unfold zh0;rw [Bq]
 by_cases hx:x.Position==pos<;>simp [hx]
theorem zqg (l:List Asset) (pos:Str):(zh0 l pos).length<=l.length:=AV _ _
theorem zDg (l:List Asset) (pos:Str):(ofP l pos).length<=l.length:=by unfold ofP;rw [zaw];exact zqg l pos
end
section
open Op (bytesLess)
theorem zAQ {l:List Asset} {k:Nat}:(l.map (·.Player)).getD k []=(l.getD k zkm).Player:=by
 by_cases h:k<l.length
 simp [List.getD,Aa h]
 simp [List.getD,AC (Nat.le_of_not_lt h),zkm]
theorem znI {x:Asset} (h:assetFault x=0):key x.Player=true/\key x.Position=true/\ -1000000<=x.Value/\x.Value<=1000000:=by
 unfold assetFault at h
 by_cases h1:(!(key x.Player)|| !(key x.Position))=true
 rw [if_pos h1] at h;omega;rw [if_neg h1] at h
 by_cases h2:out x.Value (-1000000) 1000000=true
 rw [if_pos h2] at h;omega;have:=zfy (by simpa using h2)
 simp at h1
 exact ⟨h1.1,h1.2,this.1,this.2⟩
theorem zpY (l:List Asset): ∀(t:List Asset) (k:Nat),zfp l k t=0->zbP (l.map (·.Player)) k (t.map (·.Player))=0/\∀x∈t,assetFault x=0
 |[],_,_=>⟨rfl,fun x h=>by cases h⟩
 |x::t,k,h=>by
   simp only [zfp] at h
   by_cases h1:assetFault x=0
   rw [if_neg (by simpa using h1)] at h
   by_cases h2:(decide (0<k)&&leS x.Player (l.getD (k-1) zkm).Player)=true
   rw [if_pos h2] at h;omega;rw [if_neg h2] at h;obtain ⟨h3,h4⟩:=zpY l t (k+1) h;refine ⟨?_,fun y hy=> ?_⟩
   simp only [Aw,zbP,zAQ];rw [if_neg (by simp [(znI h1).1]),if_neg h2];exact h3
   rcases List.mem_cons.1 hy with rfl|hy
   exact h1;exact h4 y hy;rw [if_pos (by simpa using h1)] at h;exact absurd h h1
theorem zsp {l:List Asset} (h:zdN l=0):SortedS (l.map (·.Player))/\∀x∈l,assetFault x=0:=by
 unfold zdN at h
 split at h
 omega
 obtain ⟨h1,h2⟩:=zpY l l 0 h;exact ⟨zmA (by simpa [zdV] using h1),h2⟩
theorem zp6 (l:List Place): ∀(t:List Place) (k:Nat),zeP l k t=0->∀x∈t,0<=x.Many/\x.Many<=12
 |[],_,_=>fun x h=>by cases h
 |x::t,k,h=>by
   simp only [zeP] at h
   by_cases h1:(!(key x.Position))=true
   rw [if_pos h1] at h;omega;rw [if_neg h1] at h
   by_cases h2:out x.Many 0 12=true
   rw [if_pos h2] at h;omega;rw [if_neg h2] at h
   by_cases h3:(decide (0<k)&&leS x.Position (l.getD (k-1) zvD).Position)=true
   rw [if_pos h3] at h;omega;rw [if_neg h3] at h
   intro y hy
   rcases List.mem_cons.1 hy with rfl|hy
   exact zfy (by simpa using h2);exact zp6 l t (k+1) h y hy
theorem zsq {l:List Place} (h:zdO l=0):(∀x∈l,0<=x.Many/\x.Many<=12)/\l.length<=10:=by
 unfold zdO at h
 split at h
 omega
 exact ⟨zp6 l l 0 h,by omega⟩
theorem zj7 {a b:Str}:zZ a b<=0↔bytesLess b a=false:=by
 rw [zgL]
 rcases zcf a b with h|h|h
 simp [h,zbU h]
 subst h;simp [zaz];have hne:a≠b:=fun e=>by subst e;rw [zaz] at h;cases h
 simp [h,zbU h,hne]
theorem zbs {a b:Str}:zZ a b=0↔a=b:=by
 rw [zgL]
 rcases zcf a b with h|h|h
 have hne:a≠b:=fun e=>by subst e;rw [zaz] at h;cases h
 simp [h,hne]
 subst h;simp [zaz];have hne:a≠b:=fun e=>by subst e;rw [zaz] at h;cases h
 simp [zbU h,hne]
theorem zjO {a b c:Str} (h1:zZ a b<=0) (h2:zZ b c<=0):zZ a c<=0:=by
 rw [zj7] at*
 rcases zcf a b with h|h|h
 rcases zcf b c with h'|h'|h'
 exact zbU (zeG h h');subst h';exact zbU h;rw [h'] at h2;cases h2;subst h;exact h2;rw [h] at h1;cases h1
theorem zeo (a b:Int):orI [a,b]=if a≠0 then a else b:=by
 simp only [orI]
 by_cases ha:a=0<;>by_cases hb:b=0<;>simp [ha,hb]
theorem zwD {a b:Int}:zab a b<=0↔a<=b:=by unfold zab;split<;>(try split)<;>omega
theorem zcW {a b:Int}:zab a b=0↔a=b:=by unfold zab;split<;>(try split)<;>omega
end
section
variable {P:Program}
section
variable {P:Program} {e:Env} {dst:Option Tmp} {ty:TypeId} {pos:String} {af:Array Edge} {g:Option (Nat×Bool)} {M:List MObj} {K:HVal->List MObj->Prop}
theorem z6 [Tracks] {α:Type} {f:α->HVal} {x:Operand} {t:TypeId} {d:TD} {size bytes:Nat} {zero:Value} {i b off cap n sz j o:Nat} {es:List α} {y:α} (hf:Fits P t d size bytes zero)
 (hx:zi e x=some (.raw (.pointer (some ⟨b,o,none⟩)))) (ho':o=off+j*sz) (hm:M[i]? =some (.arr (.slice (some ⟨b,off,none⟩) n cap) sz (es.map f))) (hj:es[j]? =some y)
 (hd:d.isAgg=true) (hs:size=(zb (f y)).length) (hv:f y= .agg (zb (f y))) (hk:K (f y) M):EOp P e M ⟨dst,.load t x,ty,pos,af,g⟩ K:=
 zib (j:=j) (f:=0) (y:=f y) hf hx (by omega) hm (by rw [Ah,hj];rfl) (.inr ⟨hd,by omega,by rw [Cl,hs,Ai];exact hv⟩) hk
theorem zaH [Tracks] {α:Type} {f:α->HVal} {x z:Operand} {t:TypeId} {d:TD} {size bytes:Nat} {zero:Value} {i b off cap n sz j o:Nat} {es:List α} {y y':α} (hf:Fits P t d size bytes zero)
 (hx:zi e x=some (.raw (.pointer (some ⟨b,o,none⟩)))) (ho':o=off+j*sz) (hz:zi e z=some (f y')) (hm:M[i]? =some (.arr (.slice (some ⟨b,off,none⟩) n cap) sz (es.map f))) (hj:es[j]? =some y)
 (hok:zeb size (f y')=true) (hfl:zat (zb (f y'))=true) (hle:(zb (f y')).length=(zb (f y)).length)
 (hk:K .junk (M.set i (.arr (.slice (some ⟨b,off,none⟩) n cap) sz ((es.set j y').map f)))):EOp P e M ⟨dst,.store t x z,ty,pos,af,g⟩ K:=by
 have h0:=(zec hok).1;refine zV (j:=j) (f:=0) (y:=f y) (y':=f y') hf hx (by omega) hz hm (by rw [Ah,hj];rfl) hok hfl (by omega) ?_ ?_;rw [zvS hle];rw [List.map_set] at hk;exact hk
end
theorem Sat.arr_take [Tracks] {I:Imm} {F:List MObj} {w:World} {b off n cap sz m:Nat} {es:List HVal} (hm:m<=es.length) (h:Sat P I (.arr (.slice (some ⟨b,off,none⟩) n cap) sz es::F) w):
 Sat P I (.arr (.slice (some ⟨b,off,none⟩) m cap) sz (es.take m)::F) w:=by
 obtain ⟨_,rc,el,fr,h2,h3,h4,h5,h6,h7⟩:=zkl h;refine h.change (m':= .arr (.slice (some ⟨b,off,none⟩) m cap) sz (es.take m)) (fun _ _ _=>rfl) (fun c hc=> .inl hc) (by simp [MObj.blocks]) ?_ rfl rfl rfl
 have hl:(es.take m).length=m:=by simp;omega
 refine .inr ⟨b,off,cap,rc,el,fr,by rw [hl],h2,h3,fun e he=>h4 e (AJ he),by omega,h6,fun i j e c v a1 a2 a3=> ?_⟩
 have hi:=zm a1;rw [AD (by omega)] at a1;exact h7 i j e c v a1 a2 a3
theorem Ghost.take [Tracks] {e:Env} {M:List MObj} {b off n cap sz m:Nat} {es:List HVal} (hm:m<=es.length):Ghost e (.arr (.slice (some ⟨b,off,none⟩) n cap) sz es::M) e (.arr (.slice (some ⟨b,off,none⟩) m cap) sz (es.take m)::M):=
 fun _ I F tmps w h1 h2=>⟨I,.refl I,h1,h2.arr_take hm⟩
def ziX (cap off sz lo:Nat):Nat:=if cap=lo then off else off+lo*sz
section
variable {P:Program} {e:Env} {dst:Option Tmp} {ty:TypeId} {pos:String} {af:Array Edge} {g:Option (Nat×Bool)} {M:List MObj} {K:HVal->List MObj->Prop}
theorem zfn [Tracks] {x:Operand} {lo hi:Option Operand} {t el:TypeId} {size bytes sz b2:Nat} {zero z2:Value} {d:TD} {b off n cap l h:Nat}
 (hf:Fits P t (.slice el) size bytes zero) (hel:Fits P el d sz b2 z2) (hx:zi e x=some (.raw (.slice (some ⟨b,off,none⟩) n cap))) (hlo:zbL e lo 0 l) (hhi:zbL e hi n h) (h1:l<=h) (h2:h<=n) (hc:n<=cap):
 POp P e ⟨dst,.slice t x lo hi none,ty,pos,af,g⟩ (.raw (.slice (some ⟨b,ziX cap off sz l,none⟩) (h-l) (cap-l))):=
 zD fun I a w ho=>by
  have h3:=(ho.one (x:=x) (by simp [Op.operands]) hx).raw_inv;have hb:(Instr.sliceBounds true n cap (Option.map a.eval lo) (Option.map a.eval hi) none).run P w= .ok (l,h,cap) w:=
   zjZ (P:=P) (e:=e) (lo:=lo) (hi:=hi) (l:=l) (h:=h) (len:=n) (cap:=cap) ho (by intro y hy;simp [Op.operands,hy]) (by intro y hy;simp [Op.operands,hy]) hlo hhi h1 h2 hc true w
  refine ⟨_,?_,.raw _ rfl⟩
  simp [execOp,Instr.sliceAt,run_underlying hf.slice,h3,Instr.slice,hb,hel.run_sizeOf,ziX]
  try (split<;>simp_all [zdX])
  try omega
theorem ze9 [Tracks] {x:Operand} {t el:TypeId} {size bytes sz b2:Nat} {zero z2:Value} {d:TD} {i b off n cap m q o c2:Nat} {es:List HVal} (m':Nat)
 (hf:Fits P t (.slice el) size bytes zero) (hel:Fits P el d sz b2 z2) (hz:z2.cells.size=sz) (hz1:z2.cells.toList.all Value.oneCell'=true)
 (hx:zi e x=some (.raw (.slice (some ⟨b,o,none⟩) q c2))) (ho':q=0\/o=off+m*sz) (hm:M[i]? =some (.arr (.slice (some ⟨b,off,none⟩) n cap) sz es)) (hmq:m+q<=cap) (hmm:m'<=m) (hme:m'<=es.length)
 (hk:K .junk (M.set i (.arr (.slice (some ⟨b,off,none⟩) m' cap) sz (es.take m')))):EOp P e M ⟨dst,.call ⟨.builtin .clear,#[x],#[t]⟩,ty,pos,af,g⟩ K:=
 EOp.of_run fun I F a w ho hs=>by
  have h1:=(ho.one (x:=x) (by simp [Op.operands,Call.operands]) hx).raw_inv;have hp:=hs.pull hm;obtain ⟨_,rc,el',fr,h2,h3,h4,h5,h6,h7⟩:=zkl hp;have hrun:(execOp a.eval ⟨dst,.call ⟨.builtin .clear,#[x],#[t]⟩,ty,pos,af,g⟩).run P w=((Builtin.clear_ #[t] ty #[a.eval x]).run P w).andThen fun v w=> .ok (.value v) w:=by
   simp [execOp,resolve,invoke,builtin]
  rcases Bb q with h0|h0
  refine ⟨.tuple #[],.junk,_,w,I,?_,.refl I,hk,.junk _,?_⟩
  rw [hrun,h1,h0]
  simp [Builtin.clear_,run_underlying hf.slice]
  exact zbQ hm (hp.arr_take hme);have hso:o=off+m*sz:=by rcases ho' with h|h;omega;exact h
  have hmul:(m+q)*sz<=cap*sz:=AB _ hmq;rw [AR] at hmul;have hlen:(Builtin.zeroCells z2.cells q).toList.length=q*sz:=by rw [AP,zmI,hz]
  have hone: ∀v∈(Builtin.zeroCells z2.cells q).toList,v.oneCell'=true:=fun v hv=>by
   simp only [Builtin.zeroCells,Array.toList_map,List.mem_map] at hv;obtain ⟨r,hr,rfl⟩:=hv;have hq':r<q*z2.cells.size:=by simpa using hr
   have hpos:0<z2.cells.size:=by
    rcases Bb z2.cells.size with h|h
    rw [h] at hq';simp at hq';exact h
   have hlt:r%z2.cells.size<z2.cells.size:=BW _ hpos;rw [getElem!_pos z2.cells _ hlt];exact List.all_eq_true.1 hz1 _ (by simp)
  obtain ⟨w',rc',g1,g2,g3,g4,g5,g6,g7,g8,g9⟩:=zfe (P:=P) b el' fr (off+m*sz) (Builtin.zeroCells z2.cells q).toList 0 w rc h2 h3 hone (by rw [hlen];omega);refine ⟨.tuple #[],.junk,_,w',I,?_,.refl I,hk,.junk _,?_⟩
  rw [hrun,h1,hso];obtain ⟨r,rfl⟩: ∃r,q=r+1:=⟨q-1,by omega⟩
  simp [Builtin.clear_,run_underlying hf.slice,hel.run_zero,g1]
  refine zbQ hm (hp.change (m':= .arr (.slice (some ⟨b,off,none⟩) m' cap) sz (es.take m')) (fun k hk hnk=>g5 k (by simpa [MObj.blocks] using hnk)) (fun k hk=> .inl hk) (by simp [MObj.blocks]) ?_ g7 g8 g9.1 (fun _=>Bv g9.2.symm))
  have hl:(es.take m').length=m':=by simp;omega
  refine .inr ⟨b,off,cap,rc',el',fr,by rw [hl],g2,by rw [g3];exact h3,fun e he=>h4 e (AJ he),by omega,by rw [g3];exact h6,fun p q' y c v a1 a2 a3=> ?_⟩
  have hi:=zm a1;rw [AD (by omega)] at a1;have hq:=zm a2;rw [h4 y (Ab a1)] at hq;have hpm:(p+1)*sz<=m*sz:=AB _ (by omega);rw [AR] at hpm;rw [g4,if_neg (by omega)] at a3;exact h7 p q' y c v a1 a2 a3
theorem zwv [Tracks] {I:Imm} {a:Act} {o:Oper} (ho:Opds I e a o) {lo hi:Option Operand} (hlo: ∀x,lo=some x->x∈o.op.operands) (hhi: ∀x,hi=some x->x∈o.op.operands)
 {len cap l h:Nat} (h1:zbL e lo 0 l) (h2:zbL e hi len h) (h3:l<=h) (h4:h<=cap) (b:Bool) (w:World):
 (Instr.sliceBounds b len cap (lo.map a.eval) (hi.map a.eval) none).run P w= .ok (l,h,cap) w:=by
 unfold Instr.sliceBounds
 cases lo with
 |none=>
   simp only [zbL] at h1;subst h1
   cases hi with
   |none=>simp only [zbL] at h2;subst h2;simp
   |some y=>
     obtain ⟨k,i,h6,rfl⟩:=h2;have h7:=(ho.one (hhi y rfl) h6).int_inv
     simp [h7,zcC h4]
 |some x=>
   obtain ⟨k',i',h8,rfl⟩:=h1;have h9:=(ho.one (hlo x rfl) h8).int_inv
   cases hi with
   |none=>simp only [zbL] at h2;subst h2;simp [h9,zcC h3]
   |some y=>
     obtain ⟨k,i,h6,rfl⟩:=h2;have h7:=(ho.one (hhi y rfl) h6).int_inv
     simp [h7,h9,zcC h4,zcC h3]
theorem zyo [Tracks] {x:Operand} {lo hi:Option Operand} {t el:TypeId} {size bytes sz b2:Nat} {zero z2:Value} {d:TD} {b off n cap l h:Nat}
 (hf:Fits P t (.slice el) size bytes zero) (hel:Fits P el d sz b2 z2) (hx:zi e x=some (.raw (.slice (some ⟨b,off,none⟩) n cap))) (hlo:zbL e lo 0 l) (hhi:zbL e hi n h) (h1:l<=h) (h2:h<=cap):
 POp P e ⟨dst,.slice t x lo hi none,ty,pos,af,g⟩ (.raw (.slice (some ⟨b,ziX cap off sz l,none⟩) (h-l) (cap-l))):=
 zD fun I a w ho=>by
  have h3:=(ho.one (x:=x) (by simp [Op.operands]) hx).raw_inv;have hb:(Instr.sliceBounds true n cap (Option.map a.eval lo) (Option.map a.eval hi) none).run P w= .ok (l,h,cap) w:=
   zwv (P:=P) (e:=e) (lo:=lo) (hi:=hi) (l:=l) (h:=h) (len:=n) (cap:=cap) ho (by intro y hy;simp [Op.operands,hy]) (by intro y hy;simp [Op.operands,hy]) hlo hhi h1 h2 true w
  refine ⟨_,?_,.raw _ rfl⟩
  simp [execOp,Instr.sliceAt,run_underlying hf.slice,h3,Instr.slice,hb,hel.run_sizeOf,ziX]
  try (split<;>simp_all [zdX])
  try omega
theorem zgS [Tracks] {x:Operand} {hi:Option Operand} {t el:TypeId} {size bytes sz b2:Nat} {zero z2:Value} {d:TD} {b off n cap h:Nat}
 (hf:Fits P t (.slice el) size bytes zero) (hel:Fits P el d sz b2 z2) (hx:zi e x=some (.raw (.slice (some ⟨b,off,none⟩) n cap))) (hhi:zbL e hi n h) (h2:h<=cap):
 POp P e ⟨dst,.slice t x none hi none,ty,pos,af,g⟩ (.raw (.slice (some ⟨b,off,none⟩) h cap)):=by
 have:=zyo (P:=P) (dst:=dst) (ty:=ty) (pos:=pos) (af:=af) (g:=g) (lo:=none) (l:=0) hf hel hx rfl hhi (Ad _) h2;have e1:ziX cap off sz 0=off:=by unfold ziX;split<;>omega
 rwa [e1,Nat.sub_zero,Nat.sub_zero] at this
end
end
section
variable {P:Program}
open Go.ChangeShapes Go.WideShapes Go.RowKit
theorem zof [Tracks] {W W':World} {J:Imm} {M:List MObj} (hl:Le (zcF W) J) (hs:Sat P J M W'):Below W.heap.size W W':=by
 have hb: ∀k,k<W.heap.size->W'.heap[k]? =W.heap[k]?:=fun k hk=>by
  have h1:W.heap[k]? =some W.heap[k]:=by simp [hk]
  rw [h1];exact hs.imm _ _ (hl.heap _ _ h1)
 exact {
  os:=hs.os.trans hl.os
  tape:=hs.tape.trans hl.tape
  output:=hs.output.trans hl.output
  size:=by
   rcases Bb W.heap.size with h|h
   omega
   have h1:=hb (W.heap.size-1) (by omega);have h2:W.heap[W.heap.size-1]? =some (W.heap[W.heap.size-1]'(by omega)):=by simp
   rw [h2] at h1
   rcases AE (W.heap.size-1) W'.heap.size with h3|h3
   omega
   rw [Av h3] at h1;cases h1
  block:=hb}
theorem zxf [Tracks] {W:World} (ht:TabI P (zcF W)):Sat P (zcF W) [] W:=⟨fun _ _ h=>h,fun _ h=>by simp at h,by simp [blocks],fun _ h=>by simp [blocks] at h,rfl,rfl,rfl,ht,fun _=>Ae _⟩
theorem zu5 [Tracks] {P:Program} {f:FuncId} {l:List Int} (hc:ConP P f [.slice 1 (l.map (.int .i64))] (.bool true)) {W:World} (ht:TabI P (zcF W)) {v:Value} (hv:V (zcF W) (.slice 1 (l.map (.int .i64))) v):
 Calls P f #[v] W fun e W'=>e= .returned (.bool true)/\Below W.heap.size W W':=by
 refine (hc (zcF W) [] W [v] (VL.cons hv VL.nil) (zxf ht)).mono ?_;rintro e W' ⟨u,h,M',J,rfl,hle,⟨rfl,rfl⟩,hV,hs⟩;exact ⟨by rw [hV.bool_inv],zof hle hs⟩
theorem zED [Tracks] {W:World} {a:Addr} {len cap:Nat} {zs:List Int} (hcell: ∀i,i<zs.length->W.cell? (a.add i)=some (.int .i64 (zs.getD i 0))) (hl:len<=zs.length) (hc:len<=cap):
 V (zcF W) (.slice 1 ((zs.take len).map (.int .i64))) (.slice (some a) len cap):=by
 rcases Bb len with h0|h0
 subst h0;exact .slice0 _ _ _;obtain ⟨b,off,rfl,hj⟩:=ints_at hcell (by omega);have hc0:=hj 0 (by omega);unfold World.cell? at hc0
 cases hh:W.heap[b]? with
 |none=>rw [hh] at hc0;simp at hc0
 |some o=>
   cases o with
   |cells rc el fr=>
     have hrc: ∀j,j<zs.length->rc[off+j]? =some (.int .i64 (zs.getD j 0)):=fun j hj'=>by
      have:=hj j hj';unfold World.cell? at this
      simpa [hh] using this
     have hlen:((zs.take len).map (HVal.int .i64)).length=len:=by simp;omega
     have hsz:off+zs.length<=rc.size:=by
      have:=hrc (zs.length-1) (by omega)
      rcases AE (off+(zs.length-1)) rc.size with h3|h3
      omega
      rw [Av h3] at this;cases this
     have:=V.slice (I:=zcF W) (sz:=1) (es:=(zs.take len).map (.int .i64)) (b:=b) (off:=off) (cap:=cap) (rc:=rc) (el:=el) (fr:=fr) hh
      (fun e he=>by obtain ⟨n,_,rfl⟩:=List.mem_map.1 he;rfl) (by omega) (by omega) (fun i j e c v h1 h2 h3=>by
        have hi:=zm h1;rw [hlen] at hi;rw [Ah,AD hi] at h1;have e1:zs[i]? =some zs[i]:=Aa (by omega);rw [e1] at h1;simp only [AK,Az] at h1;subst h1
        cases j with
        |succ j=>simp [zb] at h2
        |zero=>
          simp only [zb,AW,Az] at h2;subst h2;have h4:=hrc i (by omega);rw [Nat.mul_one,BO,h4] at h3;simp only [Az] at h3;subst h3;have:zs.getD i 0=zs[i]:=by simp [List.getD,e1]
          rw [this];exact .int _ _)
     rw [hlen] at this;exact this
   |_=>rw [hh] at hc0;simp at hc0
end
section
open Go.Sort Go.Proofs Go.RowKit
variable {P:Program}
theorem zsB {w:World} {name:String} {d:DataW Unit}: ∀{laid:List (String×DataW Unit)} {ps:List MemPlace},DataW.LaidVars P w laid ps->∀(i:Nat),laid[i]? =some (name,d)->
 ∃g t cs fuel p,P.globalNamed name=some g/\(P.globals[g]?).map (·.type)=some t/\w.var? P name=some cs/\DataW.trod (fun _=>()) P w 0 (fun _=>true) false fuel t cs.toList=some (d,p)
 |[],_,_,i,h=>by simp at h
 |(n,x)::r,ps,h,0,hi=>by
   simp at hi
   obtain ⟨rfl,rfl⟩:=hi;obtain ⟨g,t,cs,fuel,p,q,h1,h2,h3,h4,_,_⟩:=h;exact ⟨g,t,cs,fuel,p,h1,h2,h3,h4⟩
 |(n,x)::r,ps,h,i+1,hi=>by
   obtain ⟨g,t,cs,fuel,p,q,_,_,_,_,h5,_⟩:=h;exact zsB h5 i (by simpa using hi)
theorem Sat.maxLen [Tracks] {I:Imm} {M:List MObj} {w:World} (hs:Sat P I M w) {g:Nat} (hg:P.globalNamed "internal/bytealg.MaxLen" =some g): ∃m,w.cell? ⟨g,0,none⟩=some (.int .i64 m):=by
 obtain ⟨c,t,fr,m,h1,h2⟩:=hs.tab.2.1 g hg;have h3:=hs.imm _ _ h1;exact ⟨m,by rw [zcm h3];exact h2⟩
theorem Sat.utf8 [Tracks] {I:Imm} {M:List MObj} {w:World} (hs:Sat P I M w) {g3 g4:Nat} (h3:P.globalNamed "unicode/utf8.first" =some g3) (h4:P.globalNamed "unicode/utf8.acceptRanges" =some g4):
 (∀c,c<256->w.cell? ⟨g3,c,none⟩=some (.int .u8 (Lib.firstT c)))/\(∀i,i<16->w.cell? ⟨g4,2*i,none⟩=some (.int .u8 (Lib.accLo i))/\w.cell? ⟨g4,2*i+1,none⟩=some (.int .u8 (Lib.accHi i))):=by
 obtain ⟨c3,t3,f3,c4,t4,f4,e3,e4,u1,u2⟩:=hs.tab.2.2 g3 g4 h3 h4;exact ⟨fun c hc=>by rw [zcm (hs.imm _ _ e3)];exact u1 c hc,fun i hi=>⟨by rw [zcm (hs.imm _ _ e4)];exact (u2 i hi).1,by rw [zcm (hs.imm _ _ e4)];exact (u2 i hi).2⟩⟩
theorem Sat.lt [Tracks] {I:Imm} {M:List MObj} {w:World} (hs:Sat P I M w):(∀b,(∃o,I.heap b=some o)->b<w.heap.size)/\∀b∈blocks M,b<w.heap.size:=by
 have key: ∀b o,w.heap[b]? =some o->b<w.heap.size:=fun b o h=>by
  rcases AE b w.heap.size with h'|h'
  exact h'
  simp [Av h'] at h
 refine ⟨fun b ⟨o,h⟩=>key b o (hs.imm b o h),fun b hb=> ?_⟩
 simp only [blocks,Bp] at hb;obtain ⟨m,hm,hb⟩:=hb;obtain ⟨o,ho⟩:=(hs.obj m hm).lies hb;exact key b o ho
end
section
section
variable {P:Program} {e:Env} {dst:Option Tmp} {ty:TypeId} {pos:String} {af:Array Edge} {g:Option (Nat×Bool)} {M:List MObj} {K:HVal->List MObj->Prop}
end
end
section
section
variable {P:Program} {e:Env} {dst:Option Tmp} {ty:TypeId} {pos:String} {af:Array Edge} {g:Option (Nat×Bool)} {M:List MObj} {K:HVal->List MObj->Prop}
theorem zki [Tracks] {I:Imm} {c d:HVal} {u v:Value} (h1:V I c u) (h2:V I d v):V I (.tup [c,d]) (.tuple #[u,v]):=
 .tup (by simp) (fun j c v h3 h4=>(VL.cons h1 (VL.cons h2 VL.nil)).2 j c v h3 (by simpa using h4))
theorem zwh [Tracks] {x y:Operand} {t kt et:TypeId} {size bytes s2 b2 s3 b3:Nat} {zero z2 z3:Value} {d:TD} {i b:Nat} {ls:List (List UInt8×HVal)} {s:List UInt8}
 (hf:Fits P t (.map kt et) size bytes zero) (hkt:Fits P kt .str s2 b2 z2) (het:Fits P et d s3 b3 z3) (hx:zi e x=some (.raw (.map (some b)))) (hy:zi e y=some (.str s)) (hm:M[i]? =some (.map b (sk ls)))
 (hk:K (.tup [match z8 s ls with|some p=>p.2|none=>zaM z3,.bool (z8 s ls).isSome]) M):EOp P e M ⟨dst,.lookup t x y true,ty,pos,af,g⟩ K:=
 EOp.of_run fun I F a w ho hs=>by
  have h1:=(ho.one (x:=x) (by simp [Op.operands]) hx).raw_inv;have h2:=(ho.one (x:=y) (by simp [Op.operands]) hy).str_inv;obtain ⟨es,clk,h3,h4,h5⟩:=hs.obj _ (An _ (Ab hm));obtain ⟨h6,h7⟩:=zih h4.1 h5;obtain ⟨n1,n2⟩:=zji (I:=I) (s:=s) es.toList ls 0 h6 h7
  cases hq:z8 s ls with
  |none=>
    rw [hq] at hk;refine ⟨.tuple #[z3,.bool false],_,M,w,I,?_,.refl I,hk,zki (zgF I z3) (.bool _),hs⟩
    simp only [execOp,h1,h2,Instr.lookup,Sem.run_bind,run_underlying hf.mapD,Result.andThen_ok,zaQ h3,Sem.run_pure,zcB hkt.strD,Instr.findKey,run_underlying hkt.strD,n1 hq,het.run_zero]
    simp
  |some p=>
    obtain ⟨j,h⟩:=p;rw [hq] at hk;obtain ⟨v,g1,g2⟩:=n2 j h hq;refine ⟨.tuple #[v,.bool true],_,M,w,I,?_,.refl I,hk,zki g2 (.bool _),hs⟩
    simp only [execOp,h1,h2,Instr.lookup,Sem.run_bind,run_underlying hf.mapD,Result.andThen_ok,zaQ h3,Sem.run_pure,zcB hkt.strD,Instr.findKey,run_underlying hkt.strD,g1]
    simp
end
section
variable {P:Program}
end
end
section
section
variable {κ:Type} [DecidableEq κ]
def kk (ek:κ->HVal) (l:List (κ×HVal)):List (HVal×HVal):=l.map fun p=>(ek p.1,p.2)
def zbG (x:κ):List (κ×HVal)->Option Nat
 |[]=>none
 |p::r=>if x=p.1 then some 0 else (zbG x r).map (· +1)
def klk (x:κ):List (κ×HVal)->Option HVal
 |[]=>none
 |p::r=>if x=p.1 then some p.2 else klk x r
def zd9 (x:κ) (h:HVal):List (κ×HVal)->List (κ×HVal)
 |[]=>[(x,h)]
 |p::r=>if x=p.1 then (x,h)::r else p::zd9 x h r
theorem zeF {x:κ}: ∀{l:List (κ×HVal)} {j:Nat},zbG x l=some j->∃h,l[j]? =some (x,h)/\klk x l=some h/\∀h',zd9 x h' l=l.set j (x,h')
 |[],j,h=>by simp [zbG] at h
 |p::r,j,h=>by
   simp only [zbG] at h
   by_cases e:x=p.1
   rw [if_pos e] at h
   simp at h;subst h
   exact ⟨p.2,by simp [e],by simp [klk,e],fun h'=>by simp [zd9,e]⟩;rw [if_neg e] at h
   cases hr:zbG x r with
   |none=>rw [hr] at h;simp at h
   |some j'=>
     rw [hr] at h;simp at h;subst h;obtain ⟨y,h1,h2,h3⟩:=zeF hr;exact ⟨y,by simpa using h1,by simp [klk,e,h2],fun h'=>by simp [zd9,e,h3]⟩
theorem zfl {x:κ}: ∀{l:List (κ×HVal)},zbG x l=none->klk x l=none/\∀h',zd9 x h' l=l++[(x,h')]
 |[],_=>⟨rfl,fun _=>rfl⟩
 |p::r,h=>by
   simp only [zbG] at h
   by_cases e:x=p.1
   rw [if_pos e] at h;simp at h;rw [if_neg e] at h;have hr:zbG x r=none:=by cases hq:zbG x r with|none=>rfl|some j=>rw [hq] at h;simp at h
   obtain ⟨h1,h2⟩:=zfl hr;exact ⟨by simp [klk,e,h1],fun h'=>by simp [zd9,e,h2]⟩
def KNodup (l:List (κ×HVal)):Prop:=(l.map (·.1)).Nodup
theorem ztg {x y:κ} {h:HVal}: ∀{l:List (κ×HVal)},y∈(zd9 x h l).map (·.1)↔y=x\/y∈l.map (·.1)
 |[]=>by simp [zd9]
 |p::r=>by
   simp only [zd9]
   split
   rename_i e;subst e;simp
   simp only [Aw,BS,ztg]
   constructor
   rintro (a|a|a);exact .inr (.inl a);exact .inl a;exact .inr (.inr a);rintro (a|a|a);exact .inr (.inl a);exact .inl a;exact .inr (.inr a)
theorem KNodup.put {x:κ} {h:HVal}: ∀{l:List (κ×HVal)},KNodup l->KNodup (zd9 x h l)
 |[],_=>by simp [KNodup,zd9]
 |p::r,hn=>by
   unfold KNodup at*;simp only [Aw,Cx] at hn;simp only [zd9]
   split
   rename_i e;subst e;simpa using hn
   rename_i e
   simp only [Aw,Cx];refine ⟨fun q=> ?_,KNodup.put (l:=r) hn.2⟩
   rcases ztg.1 q with q|q
   exact e q.symm;exact hn.1 q
structure KeyOk (P:Program) (kt:TypeId) (ek:κ->HVal):Prop where
 check: ∀(I:Imm) (x:κ) (v:Value) (b:Bool) (w:World),V I (ek x) v->(Instr.checkKey b 10000 kt v).run P w= .ok () w
 eq: ∀(I:Imm) (x y:κ) (u v:Value) (w:World),V I (ek x) u->V I (ek y) v->(Op.equal kt u v).run P w= .ok (decide (x=y)) w
 find: ∀(I:Imm) (x:κ) (v:Value) (es:List MapEntry) (w:World),V I (ek x) v->(∀m∈es,∃y,V I (ek y) m.key)->(Instr.findKey kt v es).run P w=(Instr.findAsking kt v es).run P w
 same: ∀(I:Imm) (x:κ) (u v:Value),V I (ek x) u->V I (ek x) v->Instr.sameBits 10000 u v=true
variable {P:Program} {kt:TypeId} {ek:κ->HVal}
theorem KeyOk.run_key (ok:KeyOk P kt ek) {I:Imm} {x:κ} {v:Value} (hv:V I (ek x) v) (w:World) (es:List MapEntry) (ls:List (κ×HVal)) (hl:es.length=ls.length)
 (hV: ∀(j:Nat) (p:κ×HVal) (m:MapEntry),ls[j]? =some p->es[j]? =some m->V I (ek p.1) m.key/\V I p.2 m.val):(Instr.findKey kt v es).run P w=(Instr.findAsking kt v es).run P w:=
 ok.find I x v es w hv fun m hm=>by
  obtain ⟨j,hj⟩:=Bd hm;have h1:=zm hj;exact ⟨_,(hV j _ m (Aa (by omega)) hj).1⟩
theorem ziL (ok:KeyOk P kt ek) {I:Imm} {x:κ} {v:Value} (hv:V I (ek x) v) (w:World): ∀(es:List MapEntry) (ls:List (κ×HVal)) (i:Nat),es.length=ls.length->
 (∀(j:Nat) (p:κ×HVal) (m:MapEntry),ls[j]? =some p->es[j]? =some m->V I (ek p.1) m.key/\V I p.2 m.val)->
 (zbG x ls=none->(Instr.findAsking kt v es i).run P w= .ok none w)/\∀j,zbG x ls=some j->∃m h,es[j]? =some m/\ls[j]? =some (x,h)/\V I h m.val/\(Instr.findAsking kt v es i).run P w= .ok (some (i+j,m.val)) w
 |[],[],i,_,_=>⟨fun _=>by simp [Instr.findAsking],fun j h=>by simp [zbG] at h⟩
 |[],_::_,i,hl,_=>by simp at hl
 |_::_,[],i,hl,_=>by simp at hl
 |m::es,p::ls,i,hl,hV=>by
   obtain ⟨h1,h2⟩:=hV 0 p m rfl rfl;obtain ⟨ih1,ih2⟩:=ziL ok hv w es ls (i+1) (by simpa using hl) fun j q n a b=>hV (j+1) q n (by simpa using a) (by simpa using b)
   simp only [Instr.findAsking,Sem.run_bind,ok.eq I x p.1 v m.key w hv h1,Result.andThen_ok,zbG]
   by_cases e:x=p.1
   rw [if_pos e];simp only [e,decide_true,if_true,Sem.run_pure];refine ⟨fun h=>by simp at h,fun j h=> ?_⟩
   simp at h;subst h
   exact ⟨m,p.2,rfl,by simp,h2,by simp⟩;rw [if_neg e];simp only [e,decide_false,AM,if_false];refine ⟨fun h=>ih1 (by cases hq:zbG x ls with|none=>rfl|some j=>rw [hq] at h;simp at h),fun j h=> ?_⟩
   cases hq:zbG x ls with
   |none=>rw [hq] at h;simp at h
   |some j'=>
     rw [hq] at h;simp at h;subst h;obtain ⟨n,y,g1,g2,g3,g4⟩:=ih2 j' hq;exact ⟨n,y,by simpa using g1,by simpa using g2,g3,by rw [g4];congr 3;omega⟩
theorem zo4 {A:Type} {eA:A->HVal} {I:Imm} {ls:List (A×HVal)} {es:Array MapEntry} (hl:es.size=(kk eA ls).length)
 (hv: ∀(i:Nat) (p:HVal×HVal) (m:MapEntry),(kk eA ls)[i]? =some p->es[i]? =some m->V I p.1 m.key/\V I p.2 m.val):
 es.toList.length=ls.length/\∀(j:Nat) (p:A×HVal) (m:MapEntry),ls[j]? =some p->es.toList[j]? =some m->V I (eA p.1) m.key/\V I p.2 m.val:=by
 refine ⟨by simpa [kk] using hl,fun j p m a b=> ?_⟩
 exact hv j (eA p.1,p.2) m (by simp [kk,a]) (by simpa using b)
variable [Tracks] {e:Env} {dst:Option Tmp} {ty:TypeId} {pos:String} {af:Array Edge} {g:Option (Nat×Bool)} {M:List MObj} {K:HVal->List MObj->Prop}
theorem zwi {x y:Operand} {t et:TypeId} {size bytes s3 b3:Nat} {zero z3:Value} {d:TD} {i b:Nat} {ls:List (κ×HVal)} {s:κ}
 (hf:Fits P t (.map kt et) size bytes zero) (ok:KeyOk P kt ek) (het:Fits P et d s3 b3 z3) (hx:zi e x=some (.raw (.map (some b)))) (hy:zi e y=some (ek s)) (hm:M[i]? =some (.map b (kk ek ls)))
 (hk:K ((klk s ls).getD (zaM z3)) M):EOp P e M ⟨dst,.lookup t x y false,ty,pos,af,g⟩ K:=
 EOp.of_run fun I F a w ho hs=>by
  have h1:=(ho.one (x:=x) (by simp [Op.operands]) hx).raw_inv;have h2:=ho.one (x:=y) (by simp [Op.operands]) hy;obtain ⟨es,clk,h3,h4,h5⟩:=hs.obj _ (An _ (Ab hm));obtain ⟨h6,h7⟩:=zo4 h4.1 h5;obtain ⟨n1,n2⟩:=ziL ok h2 w es.toList ls 0 h6 h7;have hfk:=ok.run_key h2 w es.toList ls h6 h7
  cases hq:zbG s ls with
  |none=>
    rw [(zfl hq).1] at hk;refine ⟨z3,_,M,w,I,?_,.refl I,hk,zgF I z3,hs⟩
    simp only [execOp,h1,Instr.lookup,Sem.run_bind,run_underlying hf.mapD,Result.andThen_ok,zaQ h3,Sem.run_pure,ok.check I s _ _ w h2,hfk,n1 hq,het.run_zero]
    simp
  |some j=>
    obtain ⟨m,h,g1,g2,g3,g4⟩:=n2 j hq;obtain ⟨h',g5,g6,_⟩:=zeF hq;rw [g5] at g2;cases g2;rw [g6] at hk;refine ⟨m.val,_,M,w,I,?_,.refl I,hk,g3,hs⟩
    simp only [execOp,h1,Instr.lookup,Sem.run_bind,run_underlying hf.mapD,Result.andThen_ok,zaQ h3,Sem.run_pure,ok.check I s _ _ w h2,hfk,g4]
    simp
theorem zu7 {x y:Operand} {t et:TypeId} {size bytes s3 b3:Nat} {zero z3:Value} {d:TD} {i b:Nat} {ls:List (κ×HVal)} {s:κ}
 (hf:Fits P t (.map kt et) size bytes zero) (ok:KeyOk P kt ek) (het:Fits P et d s3 b3 z3) (hx:zi e x=some (.raw (.map (some b)))) (hy:zi e y=some (ek s)) (hm:M[i]? =some (.map b (kk ek ls)))
 (hk:K (.tup [(klk s ls).getD (zaM z3),.bool (klk s ls).isSome]) M):EOp P e M ⟨dst,.lookup t x y true,ty,pos,af,g⟩ K:=
 EOp.of_run fun I F a w ho hs=>by
  have h1:=(ho.one (x:=x) (by simp [Op.operands]) hx).raw_inv;have h2:=ho.one (x:=y) (by simp [Op.operands]) hy;obtain ⟨es,clk,h3,h4,h5⟩:=hs.obj _ (An _ (Ab hm));obtain ⟨h6,h7⟩:=zo4 h4.1 h5;obtain ⟨n1,n2⟩:=ziL ok h2 w es.toList ls 0 h6 h7;have hfk:=ok.run_key h2 w es.toList ls h6 h7
  cases hq:zbG s ls with
  |none=>
    rw [(zfl hq).1] at hk;refine ⟨.tuple #[z3,.bool false],_,M,w,I,?_,.refl I,hk,zki (zgF I z3) (.bool _),hs⟩
    simp only [execOp,h1,Instr.lookup,Sem.run_bind,run_underlying hf.mapD,Result.andThen_ok,zaQ h3,Sem.run_pure,ok.check I s _ _ w h2,hfk,n1 hq,het.run_zero]
    simp
  |some j=>
    obtain ⟨m,h,g1,g2,g3,g4⟩:=n2 j hq;obtain ⟨h',g5,g6,_⟩:=zeF hq;rw [g5] at g2;cases g2;rw [g6] at hk;refine ⟨.tuple #[m.val,.bool true],_,M,w,I,?_,.refl I,hk,zki g3 (.bool _),hs⟩
    simp only [execOp,h1,Instr.lookup,Sem.run_bind,run_underlying hf.mapD,Result.andThen_ok,zaQ h3,Sem.run_pure,ok.check I s _ _ w h2,hfk,g4]
    simp
theorem zwj {x y z:Operand} {t et:TypeId} {size bytes:Nat} {zero:Value} {i b:Nat} {ls:List (κ×HVal)} {s:κ} {h:HVal}
 (hf:Fits P t (.map kt et) size bytes zero) (ok:KeyOk P kt ek) (hx:zi e x=some (.raw (.map (some b)))) (hy:zi e y=some (ek s)) (hz:zi e z=some h) (hm:M[i]? =some (.map b (kk ek ls)))
 (hk:K .junk (M.set i (.map b (kk ek (zd9 s h ls))))):EOp P e M ⟨dst,.mapUpdate t x y z,ty,pos,af,g⟩ K:=
 zg9 fun I F a w ho hs=>by
  have h1:=(ho.one (x:=x) (by simp [Op.operands]) hx).raw_inv;have h2:=ho.one (x:=y) (by simp [Op.operands]) hy;have h0:=ho.one (x:=z) (by simp [Op.operands]) hz;have hp:=hs.pull hm;obtain ⟨es,clk,h3,h4,h5⟩:=hp.obj _ Al;obtain ⟨h6,h7⟩:=zo4 h4.1 h5;obtain ⟨n1,n2⟩:=ziL ok h2 w es.toList ls 0 h6 h7;have hfk:=ok.run_key h2 w es.toList ls h6 h7;have hlt:b<w.heap.size:=by
   rcases AE b w.heap.size with h'|h'
   exact h'
   simp [Av h'] at h3
  have hsz:es.size=ls.length:=by simpa using h6
  have fin: ∀(es':Array MapEntry) (clk':Nat),es'.size=(kk ek (zd9 s h ls)).length/\BornOk es' clk'->
   (∀(i:Nat) (p:HVal×HVal) (m:MapEntry),(kk ek (zd9 s h ls))[i]? =some p->es'[i]? =some m->V I p.1 m.key/\V I p.2 m.val)->
   Sat P I (M.set i (.map b (kk ek (zd9 s h ls)))++F) {w with heap:=w.heap.setIfInBounds b (.map es' clk')}:=fun es' clk' e1 e2=>by
   refine zbQ hm (hp.change (m':= .map b (kk ek (zd9 s h ls))) (fun k hk hnk=> ?_) (fun k hk=> .inl hk) (by simp [MObj.blocks]) ⟨es',clk',by simp [hlt],e1,e2⟩ rfl rfl rfl)
   have:k≠b:=by simpa [MObj.blocks] using hnk
   simp [AI (Ne.symm this)]
  cases hq:zbG s ls with
  |none=>
    have hput:=(zfl hq).2 h;refine ⟨_,_,I,?_,.refl I,hk,fin (es.push ⟨a.eval y,a.eval z,clk⟩) (clk+1) ⟨by rw [hput];simp [kk,hsz],h4.2.push rfl⟩ fun j p m a1 a2=> ?_⟩
    simp only [execOp,h1,Instr.mapUpdate,Sem.run_bind,run_underlying hf.mapD,Result.andThen_ok,zaQ h3,ok.check I s _ _ w h2,hfk,n1 hq,Sem.run_pure,zdJ h3];rw [hput] at a1;simp only [kk,Aq,Aw,Be] at a1
    by_cases hj:j<ls.length
    rw [Au (by simpa using hj)] at a1;rw [AO,if_neg (by omega)] at a2;exact h5 j p m (by simpa [kk] using a1) a2;rw [Ap (by simp;omega)] at a1;rw [AO] at a2
    by_cases hje:j=es.size
    rw [if_pos hje] at a2
    simp at a2
    subst a2;have:j-(ls.map fun p=>(ek p.1,p.2)).length=0:=by simp;omega
    rw [this] at a1
    simp at a1
    subst a1;exact ⟨h2,h0⟩;rw [if_neg hje,Av (by omega)] at a2
    cases a2
  |some j0=>
    obtain ⟨m0,h',g1,g2,g3,g4⟩:=n2 j0 hq;obtain ⟨_,_,_,hput⟩:=zeF hq;have hm0:es[j0]? =some m0:=by simpa using g1
    have hjl:=zm g2;have hkey:=(h7 j0 (s,h') m0 g2 g1).1;refine ⟨_,_,I,?_,.refl I,hk,fin (es.modify j0 fun e=>{e with key:=a.eval y,val:=a.eval z}) clk ⟨by rw [hput];simp [kk,hsz],h4.2.modify _ fun _=>rfl⟩ fun j p m a1 a2=> ?_⟩
    have hstay:(Instr.keyThatStays (((es[j0]?).map (·.key)).getD (a.eval y)) (a.eval y)).run P w= .ok (a.eval y) w:=by
     rw [hm0];simp only [AK,B9,Instr.keyThatStays];rw [if_pos (ok.same I s _ _ hkey h2)];rfl
    simp only [execOp,h1,Instr.mapUpdate,Sem.run_bind,run_underlying hf.mapD,Result.andThen_ok,zaQ h3,ok.check I s _ _ w h2,hfk,g4,Sem.run_pure,Bn,hstay,zdJ h3];rw [hput] at a1;simp only [kk] at a1;rw [AL] at a2;rw [Ah,Co] at a1
    by_cases hj:j0=j
    subst hj;rw [if_pos rfl,hm0] at a2;rw [if_pos rfl,if_pos hjl] at a1
    simp at a1 a2
    subst a1 a2;exact ⟨h2,h0⟩;rw [if_neg hj] at a1 a2;exact h5 j p m (by simp only [kk,Ah];exact a1) a2
end
end
section
def zph:List HVal->Bool
 |[]=>true
 | .int _ _::r=>zph r
 | .str _::r=>zph r
 | .bool _::r=>zph r
 |_=>false
theorem zvP: ∀{cs:List HVal} {j:Nat} {c:HVal},zph cs=true->cs[j]? =some c->(∃k n,c= .int k n)\/(∃s,c= .str s)\/∃b,c= .bool b
 |[],j,c,_,h=>by simp at h
 |x::r,0,c,hs,h=>by
   simp at h;subst h
   cases x<;>simp [zph] at hs
   exact .inr (.inr ⟨_,rfl⟩);exact .inl ⟨_,_,rfl⟩;exact .inr (.inl ⟨_,rfl⟩)
 |x::r,j+1,c,hs,h=>by
   simp at h
   cases x<;>simp [zph] at hs<;>exact zvP hs h
theorem zzQ {I:Imm} {cs:List HVal} {xs ys:List Value} (hs:zph cs=true) (hx:VL I cs xs) (hy:VL I cs ys):xs=ys/\∀v∈xs,∀n,Instr.sameBits n v v=true:=by
 have key: ∀(j:Nat) (u v:Value),xs[j]? =some u->ys[j]? =some v->u=v/\∀n,Instr.sameBits n u u=true:=fun j u v h1 h2=>by
  have hj:j<cs.length:=by rw [<-hx.1];exact zm h1
  have hc:=Aa hj;have hu:=hx.2 j _ u hc h1;have hv:=hy.2 j _ v hc h2
  rcases zvP hs hc with ⟨k,n,e⟩|⟨s,e⟩|⟨b,e⟩
  rw [e] at hu hv
  haveI:Tracks:=⟨true⟩
  rw [hu.int_inv,hv.int_inv];exact ⟨rfl,fun m=>by cases m<;>simp [Instr.sameBits]⟩;rw [e] at hu hv
  haveI:Tracks:=⟨true⟩
  rw [hu.str_inv,hv.str_inv];exact ⟨rfl,fun m=>by cases m<;>simp [Instr.sameBits,zi6]⟩;rw [e] at hu hv
  haveI:Tracks:=⟨true⟩
  rw [hu.bool_inv,hv.bool_inv];exact ⟨rfl,fun m=>by cases m<;>simp [Instr.sameBits]⟩
 have hl:xs.length=ys.length:=by rw [hx.1,hy.1]
 refine ⟨B0 fun j=> ?_,fun v hv n=> ?_⟩
 rcases AE j xs.length with h|h
 rw [Aa h,Aa (by omega)]
 congr 1
 exact (key j _ _ (Aa h) (Aa (by omega))).1;rw [AC h,AC (by omega)];obtain ⟨j,hj⟩:=Bd hv;have hlt:=zm hj;exact (key j v _ hj (Aa (by omega))).2 n
section
variable {P:Program}
theorem zhD {t:TypeId} {d:TD} {s by':Nat} {z:Value} (hf:Fits P t d s by' z) {a:HVal} (hk:zdD d a a=true) {I:Imm} {u:Value} (hu:V I a u) (em:Bool) (n:Nat) (w:World):(Instr.checkKey em (n+1) t u).run P w= .ok () w:=by
 haveI:Tracks:=⟨true⟩
 cases d<;>cases a<;>focus first|(simp [zdD] at hk;done)|skip
 rw [hu.bool_inv];simp [Instr.checkKey,run_underlying hf.boolD];rw [hu.int_inv];simp [Instr.checkKey,run_underlying hf.intD];rw [hu.str_inv];simp [Instr.checkKey,run_underlying hf.strD]
theorem zrg {I:Imm} {xs:Array Value} {cs:List HVal} (hx:VL I cs xs.toList) (em:Bool) (n:Nat) (w:World):
 ∀(fs:List Field) (k:Nat),zjQ P (fs.map fun f=>(f.offset,f.type)) k (cs.drop k) (cs.drop k)->∀f∈fs,∃a,(part f.type xs f.offset).run P w= .ok a w/\(Instr.checkKey em (n+1) f.type a).run P w= .ok () w
 |[],k,_,f,hf=>by simp at hf
 |g::fs,k,hk,f,hf=>by
   haveI:Tracks:=⟨true⟩
   simp only [Aw] at hk
   cases hc:cs.drop k with
   |nil=>rw [hc] at hk;exact hk.elim
   |cons a r=>
     rw [hc] at hk;obtain ⟨h1,⟨d,s,by',z,h2,h3⟩,h4⟩:=hk;simp only at h1 h2;have ha:cs[k]? =some a:=by have:=congrArg (fun l:List HVal=>l[0]?) hc;simpa using this
     have hr:cs.drop (k+1)=r:=by rw [<-AZ (i:=1),hc];rfl
     rcases List.mem_cons.1 hf with rfl|hf
     obtain ⟨u,hu,hu'⟩:=hx.get ha;exact ⟨u,zkV h2 (zin h3) (by rw [h1];simpa using hu) w,zhD h2 h3 hu' em n w⟩;exact zrg hx em n w fs (k+1) (by rw [hr];exact h4) f hf
theorem zgu {κ:Type} [DecidableEq κ] {kt:TypeId} {fs:List (Nat×Nat)} {s by':Nat} {z:Value} {cs:κ->List HVal} (hf:Fits P kt (.struct fs) s by' z) (hq:EqOk P kt) (hk: ∀x y,zjQ P fs 0 (cs x) (cs y))
 (he: ∀x y,zca (cs x) (cs y)=decide (x=y)) (hs: ∀x,zph (cs x)=true):KeyOk P kt (fun x=> .agg (cs x)):=by
 haveI:Tracks:=⟨true⟩
 obtain ⟨gs,h1,h2⟩:=hf.structD;have hn: ∀f∈gs.toList,f.name≠ "_" :=fun f hf=>by
  have:=hq.names;rw [show P.fieldsOf kt=gs by simp [Program.fieldsOf,h1]] at this;have:=List.all_eq_true.1 this f hf;simpa using this
 refine ⟨fun I x v b w hv=> ?_,fun I x y u v w hu hv=> ?_,fun I x v es w hv hes=>run_findKey_eq w (by rw [h1]) v es,fun I x u v hu hv=> ?_⟩
 obtain ⟨xs,rfl,hx⟩:=hv.agg_inv;have each:=zrg (P:=P) hx b 9998 w gs.toList 0 (by rw [h2];exact hk x x);rw [show (10000:Nat)=9999+1 from rfl,Instr.checkKey];simp only [Sem.run_bind,run_underlying h1,Result.andThen_ok];rw [<-Array.forIn_toList]
 clear h1 h2
 generalize gs.toList=L at each hn
 induction L with
 |nil=>simp
 |cons f L ih=>
   obtain ⟨a,p1,p2⟩:=each f (by simp);have hn1:=hn f (by simp);simp only [List.forIn_cons,Sem.run_bind,hn1,ne_eq,not_false_eq_true,if_true,Result.andThen_ok,p1,p2,Sem.run_pure];exact ih (fun y hy=>each y (by simp [hy])) (fun y hy=>hn y (by simp [hy]))
 obtain ⟨xs,rfl,hx⟩:=hu.agg_inv;obtain ⟨ys,rfl,hy⟩:=hv.agg_inv;rw [zhE hf hq hx hy (hk x y) w,he];obtain ⟨xs,rfl,hx⟩:=hu.agg_inv;obtain ⟨ys,rfl,hy⟩:=hv.agg_inv;obtain ⟨e1,e2⟩:=zzQ (hs x) hx hy;have e3:xs=ys:=by have:=congrArg List.toArray e1;simpa using this
 subst e3
 show Instr.sameBits (9999+1) _ _=true
 simp only [Instr.sameBits,beq_self_eq_true,Cr,List.all_eq_true]
 intro p hp
 have h9: ∀(l:List Value) (p:Value×Value),p∈l.zip l->p.1∈l/\p.1=p.2:=fun l=>by
  induction l with
  |nil=>intro p hp;simp at hp
  |cons a l ih=>
    intro p hp
    simp only [List.zip_cons_cons,BS] at hp
    rcases hp with rfl|hp
    exact ⟨by simp,rfl⟩;exact ⟨by simp [(ih p hp).1],(ih p hp).2⟩
 obtain ⟨q1,q2⟩:=h9 _ p hp;obtain ⟨u,v⟩:=p;simp only at q1 q2;subst q2;exact e2 u q1 9999
end
/-! ranges-/
theorem zo9 {α:Type} [DecidableEq α]: ∀{l m:List α},l.Nodup->(∀x∈l,x∈m)->l.length<=m.length
 |[],_,_,_=>Ad _
 |a::l,m,h,hs=>by
   have ha:=hs a Al;obtain ⟨h1,h2⟩:=List.nodup_cons.1 h;have h3:=zo9 (m:=m.erase a) h2 fun x hx=>(List.mem_erase_of_ne (fun e:x=a=>h1 (by rw [<-e];exact hx))).2 (hs x (Ao _ hx))
   rw [List.length_erase_of_mem ha] at h3;have:=List.length_pos_of_mem ha
   simp;omega
section
variable {P:Program} {e:Env} {dst:Option Tmp} {ty:TypeId} {pos:String} {af:Array Edge} {g:Option (Nat×Bool)} {M:List MObj} {K:HVal->List MObj->Prop}
theorem zoM [Tracks] {x:Operand} {t kt et:TypeId} {size bytes:Nat} {zero:Value} {i b:Nat} {l:List (HVal×HVal)} (hf:Fits P t (.map kt et) size bytes zero) (hx:zi e x=some (.raw (.map (some b)))) (hm:M[i]? =some (.map b l))
 (hk: ∀r,K (.raw (.pointer (some ⟨r,0,none⟩))) (M.set i (.iter r b l []))):EOp P e M ⟨dst,.range t x,ty,pos,af,g⟩ K:=
 EOp.of_run fun I F a w ho hs=>by
  have h1:=(ho.one (x:=x) (by simp [Op.operands]) hx).raw_inv;have hp:=hs.pull hm;obtain ⟨es,clk,h3,h4,h5⟩:=hp.obj _ Al;have hlt:b<w.heap.size:=by
   rcases AE b w.heap.size with h'|h'
   exact h'
   simp [Av h'] at h3
  refine ⟨.pointer (some ⟨w.heap.size,0,none⟩),_,_,push w (.mapIter (some b) clk #[] clk),I,?_,.refl I,hk w.heap.size,.raw _ rfl,?_⟩
  simp only [execOp,h1,Instr.range,Sem.run_bind,run_underlying hf.mapD,Result.andThen_ok,zaQ h3,Sem.run_pure,run_newObj];refine zbQ hm (hp.change (m':= .iter w.heap.size b l []) (fun k hk hnk=> ?_) (fun k hk=> ?_) ?_ ⟨es,clk,#[],?_,?_,h4,rfl,h5⟩ rfl rfl rfl)
  simp [push,AO];intro h;omega
  simp [MObj.blocks] at hk⊢;omega
  simp [MObj.blocks];omega
  simp only [push,AO];rw [if_neg (by omega)];exact h3
  simp [push]
theorem zAo [Tracks] {x:Operand} {i r b:Nat} {l:List (HVal×HVal)} {vis:List Nat} (hx:zi e x=some (.raw (.pointer (some ⟨r,0,none⟩)))) (hm:M[i]? =some (.iter r b l vis)) (hv:vis.Nodup) (hvl: ∀j∈vis,j<l.length)
 (h0:vis.length=l.length->K (.tup [.bool false]) M) (h1: ∀(j:Nat) (p:HVal×HVal),l[j]? =some p->j∉vis->K (.tup [.bool true,p.1,p.2]) (M.set i (.iter r b l (vis++[j])))):EOp P e M ⟨dst,.next x false,ty,pos,af,g⟩ K:=
 EOp.of_run fun I F a w ho hs=>by
  have h2:=(ho.one (x:=x) (by simp [Op.operands]) hx).raw_inv;have hp:=hs.pull hm;obtain ⟨es,clk,seen,a1,a2,a3,a4,a5⟩:=hp.obj _ Al;have hgr: ∀w1:World,w1.heap=w.heap->(getObj r).run P w1= .ok (.mapIter (some b) clk seen clk) w1:=fun w1 hw=>by simp [getObj,Sem.run,hw,a2]
  have hgb: ∀w1:World,w1.heap=w.heap->(getObj b).run P w1= .ok (.map es clk) w1:=fun w1 hw=>by simp [getObj,Sem.run,hw,a1]
  have hin: ∀(j:Nat) (m:MapEntry),es[j]? =some m->(seen.contains m.born=true↔j∈vis):=fun j m hj=>by
   have e1:seen.contains m.born=seen.toList.contains m.born:=by simp
   rw [e1,a4,B4,List.mem_map]
   constructor
   rintro ⟨q,hq,e⟩;have hlt:=hvl q hq;have hq2:es[q]? =some es[q]:=As (by omega);rw [hq2] at e
   simp at e
   have:=a3.2.2 q j _ m hq2 hj e;rw [<-this];exact hq
   intro hq
   exact ⟨j,hq,by rw [hj];simp⟩
  have hbad:(!seen.isEmpty&& !es.isEmpty&&es.all (fun m=>decide (m.born>=clk)))=false:=by
   by_cases he:es.isEmpty=true
   simp [he]
   have hpos:0<es.size:=by
    rcases Bb es.size with h|h
    simp [Array.isEmpty,h] at he
    exact h
   have hb:=a3.2.1 0 _ (As hpos);have:es.all (fun m=>decide (m.born>=clk))=false:=by
    rw [Cn]
    intro h
    have:=Array.all_eq_true.1 h 0 hpos
    simp at this;omega
   rw [this];simp
  have hold:(es.filter fun m=> !seen.contains m.born).filter (fun m=>decide (m.born<clk))=es.filter fun m=> !seen.contains m.born:=by
   rw [Array.filter_eq_self]
   intro m hm'
   obtain ⟨j,hj⟩:=B2 (Array.mem_filter.1 hm').1
   simpa using a3.2.1 j m hj
  have hnew:(es.filter fun m=> !seen.contains m.born).filter (fun m=>decide (m.born>=clk))= #[]:=by
   rw [Array.filter_eq_empty_iff]
   intro m hm'
   obtain ⟨j,hj⟩:=B2 (Array.mem_filter.1 hm').1;have:=a3.2.1 j m hj
   simp;omega
  have hrun:(execOp a.eval ⟨dst,.next x false,ty,pos,af,g⟩).run P w=((Instr.next (.pointer (some ⟨r,0,none⟩)) false ty).run P w).andThen fun v w=> .ok (.value v) w:=by
   simp only [execOp,h2,Sem.run_bind]
   rfl
  generalize hL:(es.filter fun m=> !seen.contains m.born)=left at hold hnew
  by_cases hemp:left.isEmpty=true
  have hfull:vis.length=l.length:=by
   apply Nat.le_antisymm
   have:=zo9 (m:=List.range l.length) hv fun j hj=>List.mem_range.2 (hvl j hj)
   simpa using this
   have:=zo9 (l:=List.range l.length) (m:=vis) List.nodup_range fun j hj=>by
    have hj':=List.mem_range.1 hj;have hq:es[j]? =some es[j]:=As (by omega);rw [<-hin j _ hq]
    cases hc:seen.contains es[j].born with
    |true=>rfl
    |false=>
      have:es[j]∈left:=by rw [<-hL];exact Array.mem_filter.2 ⟨Array.getElem_mem _,by rw [hc];rfl⟩
      have he:left= #[]:=Array.isEmpty_iff.1 hemp;rw [he] at this;simp at this
   simpa using this
  refine ⟨.tuple #[.bool false],.tup [.bool false],M,w,I,?_,.refl I,h0 hfull,.tup (by simp) (fun j c v h h'=> ?_),hs⟩
  rw [hrun];have he:left= #[]:=Array.isEmpty_iff.1 hemp;simp only [Instr.next,Sem.run_bind,hgr w rfl,hgb w rfl,Result.andThen_ok,hbad,AM,if_false,Sem.run_pure,hL,hold,hnew,hemp,if_true,he]
  simp [Question.forced]
  match j,h,h' with
  |0,h,h'=>simp at h h';subst h h';exact .bool _
  have hemp':left.isEmpty=false:=by simpa using hemp
  have hpos:0<left.size:=by
   rcases Bb left.size with h|h
   exfalso;apply hemp;simp [Array.isEmpty,h]
   exact h
  obtain ⟨c,w1,c1,c2,c3⟩: ∃c w1,(choose (.mapNext left.size)).run P w= .ok c w1/\c<left.size/\(w1=w\/w1={w with drawn:=w.drawn+1}):=by
   by_cases hf:(Question.mapNext left.size).forced=true
   exact ⟨0,w,by simp [hf],hpos,.inl rfl⟩;refine ⟨_,{w with drawn:=w.drawn+1},by simp [hf];rfl,?_,.inr rfl⟩
   simp only [Question.cut];exact BW _ hpos
  have hw1:w1.heap=w.heap:=by rcases c3 with h|h<;>rw [h]
  have hmem:left[c]∈left:=Array.getElem_mem _;have hmf:left[c]∈es/\(!seen.contains left[c].born)=true:=by
   have h9: ∀m,m∈left->m∈es/\(!seen.contains m.born)=true:=fun m hm=>by rw [<-hL] at hm;exact Array.mem_filter.1 hm
   exact h9 _ hmem
  obtain ⟨j,hj⟩:=B2 hmf.1;have hnv:j∉vis:=fun q=>by
   have:=(hin j _ hj).2 q;rw [this] at hmf;simp at hmf
  have hjl:j<l.length:=by
   have:j<es.size:=by
    rcases AE j es.size with h'|h'
    exact h'
    simp [Av h'] at hj
   omega
  have hlj:=Aa hjl;obtain ⟨k1,k2⟩:=a5 j _ _ hlj hj;refine ⟨.tuple #[.bool true,left[c].key,left[c].val],.tup [.bool true,l[j].1,l[j].2],_,{w1 with heap:=w1.heap.setIfInBounds r (.mapIter (some b) clk (seen.push left[c].born) clk)},I,?_,.refl I,h1 j _ hlj hnv,?_,?_⟩
  rw [hrun];have hcand:((#[]:Array (Option MapEntry))++(left++ #[]).map some).size=left.size:=by simp
  have hget:((#[]:Array (Option MapEntry))++(left++ #[]).map some)[c]? =some (some left[c]):=by simp [c2]
  simp only [Instr.next,Sem.run_bind,hgr w rfl,hgb w rfl,Result.andThen_ok,hbad,AM,if_false,Sem.run_pure,hL,hold,hnew,hemp',hcand,c1,hget]
  simp [setObj,Sem.run,hw1,a2]
  refine .tup (by simp) (fun q c v h h'=> ?_)
  match q,h,h' with
  |0,h,h'=>simp at h h';subst h h';exact .bool _
  |1,h,h'=>simp at h h';subst h h';exact k1
  |2,h,h'=>simp at h h';subst h h';exact k2
  have hrb:r≠b:=by
   have:=hp.nodup;simp only [blocks,AN,MObj.blocks] at this;have:=(List.nodup_append.1 this).1
   simp at this;exact this
  have hrl:r<w.heap.size:=by
   rcases AE r w.heap.size with h'|h'
   exact h'
   simp [Av h'] at a2
  refine zbQ hm (hp.change (m':= .iter r b l (vis++[j])) (fun k hk hnk=> ?_) (fun k hk=> .inl hk) ?_ ⟨es,clk,seen.push left[c].born,?_,?_,a3,?_,a5⟩ (by rcases c3 with h|h<;>rw [h]) (by rcases c3 with h|h<;>rw [h]) (by rcases c3 with h|h<;>rw [h]) (fun _=>by rcases c3 with h|h<;>rw [h];(exact Ae _);exact BL _))
  have:k≠r:=fun q=>hnk (by rw [q];simp [MObj.blocks])
  simp only [hw1];rw [AI (Ne.symm this)]
  simp [MObj.blocks,hrb]
  simp only [hw1];rw [AI hrb];exact a1
  simp [hw1,hrl]
  simp [a4,hj]
theorem zmf [Tracks] {i r b:Nat} {l:List (HVal×HVal)} {vis:List Nat} (hm:M[i]? =some (.iter r b l vis)):Ghost e M e (M.set i (.map b l)):=fun _ I F tmps w h1 hs=>by
 have hp:=hs.pull hm;obtain ⟨es,clk,seen,a1,a2,a3,a4,a5⟩:=hp.obj _ Al;exact ⟨I,.refl I,h1,zbQ hm (hp.change (m':= .map b l) (fun _ _ _=>rfl) (fun k hk=> .inl (by simp [MObj.blocks] at hk⊢;exact .inr hk)) (by simp [MObj.blocks]) ⟨es,clk,a1,a3,a5⟩ rfl rfl rfl)⟩
end
end
section
section
variable {P:Program} {e:Env} {dst:Option Tmp} {ty:TypeId} {pos:String} {af:Array Edge} {g:Option (Nat×Bool)} {M:List MObj} {K:HVal->List MObj->Prop}
theorem zy7 [Tracks] {x:Operand} {i r b j:Nat} {l:List (HVal×HVal)} {vis:List Nat} {p:HVal×HVal} (hx:zi e x=some (.raw (.pointer (some ⟨r,0,none⟩)))) (hm:M[i]? =some (.iter r b l (vis++[j]))) (hp':l[j]? =some p)
 (hk:K (.tup [p.1,p.2]) M):EOp P e M ⟨dst,.entry x,ty,pos,af,g⟩ K:=
 EOp.of_run fun I F a w ho hs=>by
  have h2:=(ho.one (x:=x) (by simp [Op.operands]) hx).raw_inv;have hp:=hs.pull hm;obtain ⟨es,clk,seen,a1,a2,a3,a4,a5⟩:=hp.obj _ Al;have hjl:=zm hp';have hj:es[j]? =some es[j]:=As (by omega);obtain ⟨k1,k2⟩:=a5 j p _ hp' hj;have hback:seen.back? =some es[j].born:=by
   have:seen=(vis.map fun i=>((es[i]?).map (·.born)).getD 0).toArray.push es[j].born:=by
    apply Array.ext'
    rw [a4];simp [hj]
   rw [this];simp
  have hfind:es.find? (fun m=>m.born==es[j].born)=some es[j]:=by
   cases hf:es.find? (fun m=>m.born==es[j].born) with
   |none=>
     have:=Array.find?_eq_none.1 hf es[j] (Array.getElem_mem _)
     simp at this
   |some m=>
     have h1:=Array.find?_some hf;have h3:=Array.mem_of_find?_eq_some hf;obtain ⟨q,hq⟩:=B2 h3;have:=a3.2.2 q j m _ hq hj (by simpa using h1);subst this;rw [hj] at hq;exact hq.symm
  refine ⟨.tuple #[es[j].key,es[j].val],.tup [p.1,p.2],M,w,I,?_,.refl I,hk,zki k1 k2,hs⟩
  have hgr:(getObj r).run P w= .ok (.mapIter (some b) clk seen clk) w:=by simp [getObj,Sem.run,a2]
  have hgb:(getObj b).run P w= .ok (.map es clk) w:=by simp [getObj,Sem.run,a1]
  simp only [execOp,h2,Instr.entry,Sem.run_bind,hgr,Result.andThen_ok,hback,hgb,bne_self_eq_false,AM,if_false,hfind,Sem.run_pure]
end
section
variable {κ:Type} [DecidableEq κ]
def zdz (s:κ) (z:HVal) (ls:List (κ×HVal)):List (κ×HVal):=match zbG s ls with|some _=>ls|none=>ls++[(s,z)]
theorem zlx {s:κ} {z:HVal}: ∀{ls:List (κ×HVal)},zbG s ls=none->zbG s (ls++[(s,z)])=some ls.length
 |[],_=>by simp [zbG]
 |p::r,h=>by
   simp only [zbG] at h
   by_cases e:s=p.1
   rw [if_pos e] at h;simp at h;rw [if_neg e] at h;have hr:zbG s r=none:=by cases hq:zbG s r with|none=>rfl|some j=>rw [hq] at h;simp at h
   simp only [AX,zbG,if_neg e,zlx hr];simp
theorem ztf (s:κ) (z h:HVal) (ls:List (κ×HVal)):zd9 s h (zdz s z ls)=zd9 s h ls:=by
 unfold zdz
 cases hq:zbG s ls with
 |some j=>rfl
 |none=>
   simp only
   rw [(zeF (zlx (z:=z) hq)).choose_spec.2.2 h,(zfl hq).2 h]
   simp
theorem zAI {s:κ} {z:HVal} (ls:List (κ×HVal)):(klk s (zdz s z ls)).getD z=(klk s ls).getD z:=by
 unfold zdz
 cases hq:zbG s ls with
 |some j=>rfl
 |none=>
   obtain ⟨h,h1,h2,_⟩:=zeF (zlx (z:=z) hq)
   simp only
   rw [h2,(zfl hq).1]
   simp at h1;simp [h1]
variable {P:Program} {kt:TypeId} {ek:κ->HVal} {e:Env} {dst:Option Tmp} {ty:TypeId} {pos:String} {af:Array Edge} {g:Option (Nat×Bool)} {M:List MObj} {K:HVal->List MObj->Prop}
theorem zoK [Tracks] {x y:Operand} {t et:TypeId} {size bytes s3 b3:Nat} {zero z3:Value} {d:TD} {i b:Nat} {ls:List (κ×HVal)} {s:κ}
 (hf:Fits P t (.map kt et) size bytes zero) (ok:KeyOk P kt ek) (het:Fits P et d s3 b3 z3) (hx:zi e x=some (.raw (.map (some b)))) (hy:zi e y=some (ek s)) (hm:M[i]? =some (.map b (kk ek ls)))
 (hk: ∀(j st:Nat),zbG s (zdz s (zaM z3) ls)=some j->K (.tup [(klk s ls).getD (zaM z3),.int .i64 (st:Int)]) (M.set i (.mape b (kk ek (zdz s (zaM z3) ls)) j st))):EOp P e M ⟨dst,.mapEntry t x y,ty,pos,af,g⟩ K:=
 EOp.of_run fun I F a w ho hs=>by
  have h1:=(ho.one (x:=x) (by simp [Op.operands]) hx).raw_inv;have h2:=ho.one (x:=y) (by simp [Op.operands]) hy;have hp:=hs.pull hm;obtain ⟨es,clk,h3,h4,h5⟩:=hp.obj _ Al;obtain ⟨h6,h7⟩:=zo4 h4.1 h5;obtain ⟨n1,n2⟩:=ziL ok h2 w es.toList ls 0 h6 h7;have hfk:=ok.run_key h2 w es.toList ls h6 h7;have hlt:b<w.heap.size:=by
   rcases AE b w.heap.size with h'|h'
   exact h'
   simp [Av h'] at h3
  have hsz:es.size=ls.length:=by simpa using h6
  have fin: ∀(ls':List (κ×HVal)) (es':Array MapEntry) (clk' j st:Nat),es'.size=(kk ek ls').length/\BornOk es' clk'->
   (∀(i:Nat) (p:HVal×HVal) (m:MapEntry),(kk ek ls')[i]? =some p->es'[i]? =some m->V I p.1 m.key/\V I p.2 m.val)->(∃m,es'[j]? =some m/\m.born=st)->
   Sat P I (M.set i (.mape b (kk ek ls') j st)++F) {w with heap:=w.heap.setIfInBounds b (.map es' clk')}:=fun ls' es' clk' j st e1 e2 e3=>by
   refine zbQ hm (hp.change (m':= .mape b (kk ek ls') j st) (fun k hk hnk=> ?_) (fun k hk=> .inl hk) (by simp [MObj.blocks]) ⟨es',clk',by simp [hlt],e1,e2,e3⟩ rfl rfl rfl)
   have:k≠b:=by simpa [MObj.blocks] using hnk
   simp [AI (Ne.symm this)]
  cases hq:zbG s ls with
  |none=>
    have hke:zdz s (zaM z3) ls=ls++[(s,zaM z3)]:=by simp [zdz,hq]
    have hki:=zlx (z:=zaM z3) hq;have hlk:=(zfl hq).1;refine ⟨.tuple #[z3,.int .i64 clk],_,_,_,I,?_,.refl I,hk ls.length clk (by rw [hke];exact hki),by rw [hlk];exact zki (zgF I z3) (.int _ _),
     fin _ (es.push ⟨a.eval y,z3,clk⟩) (clk+1) _ _ ⟨by rw [hke];simp [kk,hsz],h4.2.push rfl⟩ (fun j p m a1 a2=> ?_) ⟨⟨a.eval y,z3,clk⟩,by rw [<-hsz];simp,rfl⟩⟩
    simp only [execOp,h1,Instr.mapEntry,Sem.run_bind,run_underlying hf.mapD,Result.andThen_ok,zaQ h3,ok.check I s _ _ w h2,hfk,n1 hq,Sem.run_pure,zdJ h3,het.run_zero,goInt];rw [hke] at a1;simp only [kk,Aq,Aw,Be] at a1
    by_cases hj:j<ls.length
    rw [Au (by simpa using hj)] at a1;rw [AO,if_neg (by omega)] at a2;exact h5 j p m (by simpa [kk] using a1) a2;rw [Ap (by simp;omega)] at a1;rw [AO] at a2
    by_cases hje:j=es.size
    rw [if_pos hje] at a2
    simp at a2
    subst a2;have:j-(ls.map fun p=>(ek p.1,p.2)).length=0:=by simp;omega
    rw [this] at a1
    simp at a1
    subst a1;exact ⟨h2,zgF I z3⟩;rw [if_neg hje,Av (by omega)] at a2
    cases a2
  |some j0=>
    obtain ⟨m0,h',g1,g2,g3,g4⟩:=n2 j0 hq;obtain ⟨h'',g5,g6,_⟩:=zeF hq;rw [g5] at g2;cases g2;have hke:zdz s (zaM z3) ls=ls:=by simp [zdz,hq]
    have hm0:es[j0]? =some m0:=by simpa using g1
    have hkey:V I (ek s) m0.key:=(h7 j0 _ m0 g5 g1).1;refine ⟨.tuple #[m0.val,.int .i64 m0.born],_,_,_,I,?_,.refl I,hk j0 m0.born (by rw [hke];exact hq),by rw [g6];exact zki g3 (.int _ _),
     fin _ (es.modify j0 fun e=>{e with key:=a.eval y}) clk _ _ ⟨by rw [hke];simp [kk,hsz],h4.2.modify _ fun _=>rfl⟩ (fun j p m a1 a2=> ?_) ⟨{m0 with key:=a.eval y},by rw [AL,if_pos rfl,hm0];rfl,rfl⟩⟩
    have hstay:(Instr.keyThatStays m0.key (a.eval y)).run P w= .ok (a.eval y) w:=by
     simp only [Instr.keyThatStays];rw [if_pos (ok.same I s _ _ hkey h2)];rfl
    simp only [execOp,h1,Instr.mapEntry,Sem.run_bind,run_underlying hf.mapD,Result.andThen_ok,zaQ h3,ok.check I s _ _ w h2,hfk,g4,Sem.run_pure,Bn,hstay,zdJ h3,goInt,hm0,AK,B9];rw [hke] at a1;rw [AL] at a2
    by_cases hj:j0=j
    subst hj;rw [if_pos rfl,hm0] at a2
    simp at a2
    subst a2;have:=h5 j0 p m0 a1 hm0;simp only [kk,Ah,g5,AK,Az] at a1;subst a1;exact ⟨h2,this.2⟩;rw [if_neg hj] at a2;exact h5 j p m a1 a2
theorem zmu [Tracks] {x y z:Operand} {t:TypeId} {i b j st:Nat} {ls:List (κ×HVal)} {s:κ} {h:HVal}
 (hx:zi e x=some (.raw (.map (some b)))) (hy:zi e y=some (.int .i64 (st:Int))) (hz:zi e z=some h) (hm:M[i]? =some (.mape b (kk ek ls) j st)) (hj:zbG s ls=some j)
 (hk:K .junk (M.set i (.map b (kk ek (zd9 s h ls))))):EOp P e M ⟨dst,.entryStore t x y z,ty,pos,af,g⟩ K:=
 zg9 fun I F a w ho hs=>by
  have h1:=(ho.one (x:=x) (by simp [Op.operands]) hx).raw_inv;have h2:=(ho.one (x:=y) (by simp [Op.operands]) hy).int_inv;have h0:=ho.one (x:=z) (by simp [Op.operands]) hz;have hp:=hs.pull hm;obtain ⟨es,clk,h3,h4,h5,m0,h6,h7⟩:=hp.obj _ Al;have hlt:b<w.heap.size:=by
   rcases AE b w.heap.size with h'|h'
   exact h'
   simp [Av h'] at h3
  obtain ⟨h',g1,_,g2⟩:=zeF hj;have hjl:j<es.size:=by
   rcases AE j es.size with h'|h'
   exact h'
   simp [Av h'] at h6
  have hfi:es.findIdx? (fun m=>(m.born:Int)==(st:Int))=some j:=by
   rw [Array.findIdx?_eq_some_iff_getElem];refine ⟨hjl,?_,fun q hq=> ?_⟩
   rw [As hjl] at h6;have:=Ay h6;rw [this];simp [h7]
   intro hc
   have hq2:=As (xs:=es) (i:=q) (by omega);have:=h4.2.2 q j _ m0 hq2 h6 (by have h8:((es[q].born:Nat):Int)=(st:Int):=(by simpa using hc);omega)
   omega
  refine ⟨_,{w with heap:=w.heap.setIfInBounds b (.map (es.modify j fun e=>{e with val:=a.eval z}) clk)},I,?_,.refl I,hk,?_⟩
  simp only [execOp,h1,h2,Instr.entryStore,Sem.run_bind,zaQ h3,Result.andThen_ok,asInt,asIntOf,Sem.run_pure,hfi,zdJ h3];refine zbQ hm (hp.change (m':= .map b (kk ek (zd9 s h ls))) (fun k hk hnk=> ?_) (fun k hk=> .inl hk) (by simp [MObj.blocks]) ⟨es.modify j fun e=>{e with val:=a.eval z},clk,by simp [hlt],⟨by rw [g2];simp [kk];simpa [kk] using h4.1,h4.2.modify _ fun _=>rfl⟩,fun q p m a1 a2=> ?_⟩ rfl rfl rfl)
  have:k≠b:=by simpa [MObj.blocks] using hnk
  simp [AI (Ne.symm this)]
  rw [g2] at a1;simp only [kk] at a1;rw [AL] at a2;rw [Ah,Co] at a1
  by_cases hjq:j=q
  subst hjq;have hl:=zm g1;rw [if_pos rfl,h6] at a2;rw [if_pos rfl,if_pos hl] at a1
  simp at a1 a2
  subst a1 a2;exact ⟨(h5 j (ek s,h') m0 (by simp [kk,g1]) h6).1,h0⟩;rw [if_neg hjq] at a1 a2;exact h5 q p m (by simp only [kk,Ah];exact a1) a2
end
end
section
section
variable {κ:Type} [DecidableEq κ] {α:Type}
def alk (x:κ):List (κ×α)->Option α
 |[]=>none
 |p::r=>if x=p.1 then some p.2 else alk x r
def zz (x:κ) (v:α):List (κ×α)->List (κ×α)
 |[]=>[(x,v)]
 |p::r=>if x=p.1 then (x,v)::r else p::zz x v r
abbrev em (f:α->HVal) (L:List (κ×α)):List (κ×HVal):=L.map fun p=>(p.1,f p.2)
theorem zo5 (f:α->HVal) (x:κ): ∀L:List (κ×α),klk x (em f L)=(alk x L).map f
 |[]=>rfl
 |p::r=>by
   have ih:=zo5 f x r;simp only [Aw,klk,alk] at ih⊢
   by_cases h:x=p.1
   rw [if_pos h,if_pos h];rfl;rw [if_neg h,if_neg h];exact ih
theorem zpw (f:α->HVal) (x:κ) (v:α): ∀L:List (κ×α),zd9 x (f v) (em f L)=em f (zz x v L)
 |[]=>rfl
 |p::r=>by
   have ih:=zpw f x v r;simp only [Aw,zd9,zz] at ih⊢
   by_cases h:x=p.1
   rw [if_pos h,if_pos h];rfl;rw [if_neg h,if_neg h,ih];rfl
theorem zc1 (x y:κ) (v:α): ∀(l:List (κ×α)),alk y (zz x v l)=if y=x then some v else alk y l
 |[]=>by simp [zz,alk]
 |p::r=>by
   have ih:=zc1 x y v r;simp only [zz]
   by_cases h:x=p.1
   subst h;rw [if_pos rfl];simp only [alk]
   by_cases hy:y=p.1
   rw [if_pos hy,if_pos hy];rw [if_neg hy,if_neg hy,if_neg hy];rw [if_neg h];simp only [alk]
   by_cases hy:y=p.1
   have: ¬y=x:=fun e=>h (e▸hy)
   rw [if_pos hy,if_neg this,if_pos hy];rw [if_neg hy,ih,if_neg hy]
theorem zeL {x:κ}: ∀{l:List (κ×α)},alk x l=none↔x∉l.map (·.1)
 |[]=>by simp [alk]
 |p::r=>by
   have ih:=zeL (x:=x) (l:=r);simp only [alk,Aw,BS,not_or]
   by_cases h:x=p.1
   rw [if_pos h];simp [h];rw [if_neg h,ih];simp [h]
theorem zkk {x:κ} {v:α}: ∀{l:List (κ×α)},alk x l=none->zz x v l=l++[(x,v)]
 |[],_=>rfl
 |p::r,h=>by
   simp only [alk] at h
   by_cases hx:x=p.1
   rw [if_pos hx] at h;cases h;rw [if_neg hx] at h;simp only [zz,if_neg hx,AX,zkk h]
theorem zob {x y:κ} {v:α}: ∀{l:List (κ×α)},y∈(zz x v l).map (·.1)↔y=x\/y∈l.map (·.1)
 |[]=>by simp [zz]
 |p::r=>by
   have ih:=zob (x:=x) (y:=y) (v:=v) (l:=r);simp only [zz]
   by_cases h:x=p.1
   subst h;rw [if_pos rfl];simp;rw [if_neg h];simp only [Aw,BS,ih]
   constructor
   rintro (h|h|h);exact .inr (.inl h);exact .inl h;exact .inr (.inr h);rintro (h|h|h);exact .inr (.inl h);exact .inl h;exact .inr (.inr h)
def ANodup (l:List (κ×α)):Prop:=(l.map (·.1)).Nodup
theorem ANodup.nil {A B:Type}:ANodup ([]:List (A×B)):=Bz
theorem ANodup.put {x:κ} {v:α}: ∀{l:List (κ×α)},ANodup l->ANodup (zz x v l)
 |[],_=>by simp [ANodup,zz]
 |p::r,hn=>by
   have h1:=(List.nodup_cons.1 hn)
   by_cases h:x=p.1
   subst h;have e:zz p.1 v (p::r)=(p.1,v)::r:=by simp [zz]
   rw [e];exact List.nodup_cons.2 h1;have e:zz x v (p::r)=p::zz x v r:=by simp [zz,h]
   rw [e];refine List.nodup_cons.2 ⟨fun hm=> ?_,ANodup.put (l:=r) h1.2⟩
   rcases zob.1 hm with e|e
   exact h e.symm;exact h1.1 e
theorem zet {x:κ} {v:α}: ∀{l:List (κ×α)},ANodup l->((x,v)∈l↔alk x l=some v)
 |[],_=>by simp [alk]
 |p::r,hn=>by
   have h1:=(List.nodup_cons.1 hn);have ih:=zet (x:=x) (v:=v) (l:=r) h1.2;simp only [BS,alk]
   by_cases h:x=p.1
   subst h;rw [if_pos rfl]
   constructor
   rintro (h|h);rw [<-h];exact absurd (Bl (f:=(·.1)) h) h1.1
   intro h;left;simp at h;rw [<-h]
   rw [if_neg h,<-ih]
   constructor
   rintro (h'|h');exact absurd (by rw [<-h']) h;exact h';exact .inr
theorem zbR {x:κ} {v:α}: ∀{l:List (κ×α)},alk x l=some v->(x,v)∈l
 |[],h=>by simp [alk] at h
 |p::r,h=>by
   simp only [alk] at h
   by_cases hx:x=p.1
   rw [if_pos hx] at h;cases h;rw [hx];exact Al;rw [if_neg hx] at h;exact Ao _ (zbR h)
theorem zuR (x:κ) (v:α): ∀(l:List (κ×α)),(zz x v l).length=if (alk x l).isSome then l.length else l.length+1
 |[]=>by simp [zz,alk]
 |p::r=>by
   have ih:=zuR x v r
   by_cases h:x=p.1
   have e1:zz x v (p::r)=(x,v)::r:=by simp [zz,h]
   have e2:alk x (p::r)=some p.2:=by simp [alk,h]
   rw [e1,e2];simp;have e1:zz x v (p::r)=p::zz x v r:=by simp [zz,h]
   have e2:alk x (p::r)=alk x r:=by simp [alk,h]
   rw [e1,e2,Aj,ih];split<;>simp
theorem zmh (x:κ) (v:α) (l:List (κ×α)):(zz x v l).length<=l.length+1:=by rw [zuR];split<;>omega
theorem zdb {x:κ} {v:α} {p:κ×α}: ∀{l:List (κ×α)},p∈zz x v l->p=(x,v)\/p∈l
 |[],hp=>by simp [zz] at hp;exact .inl hp
 |q::r,hp=>by
   simp only [zz] at hp
   by_cases h:x=q.1
   rw [if_pos h] at hp
   rcases List.mem_cons.1 hp with e|e
   exact .inl e;exact .inr (Ao _ e);rw [if_neg h] at hp
   rcases List.mem_cons.1 hp with e|e
   exact .inr (e▸Al)
   rcases zdb e with e|e
   exact .inl e;exact .inr (Ao _ e)
theorem znv (f:α->HVal) (s:Str): ∀L:List (Str×α),(z8 s (em f L)).map (·.2)=(alk s L).map f
 |[]=>rfl
 |p::r=>by
   have ih:=znv f s r;obtain ⟨k,v⟩:=p;simp only [Aw,z8,alk] at ih⊢
   by_cases h:s=k
   rw [if_pos h,if_pos h];rfl;rw [if_neg h,if_neg h,<-ih];cases z8 s (r.map fun p=>(p.1,f p.2))<;>rfl
theorem zxi (f:α->HVal) (s:Str) (v:α): ∀L:List (Str×α),sput s (f v) (em f L)=em f (zz s v L)
 |[]=>rfl
 |p::r=>by
   have ih:=zxi f s v r;obtain ⟨k,u⟩:=p;simp only [sput,Aw,z8,zz] at ih⊢
   by_cases h:s=k
   subst h;rw [if_pos rfl,if_pos rfl];rfl;rw [if_neg h,if_neg h]
   cases hq:z8 s (r.map fun p=>(p.1,f p.2)) with
   |none=>rw [hq] at ih;simp only [Option.map_none,AX,Aw,<-ih]
   |some q=>rw [hq] at ih;simp only [AK,Cj,Aw,<-ih]
end
section
variable {κ:Type} [DecidableEq κ] {α:Type}
variable {P:Program} {e:Env} {dst:Option Tmp} {ty:TypeId} {pos:String} {af:Array Edge} {g:Option (Nat×Bool)} {M:List MObj} {K:HVal->List MObj->Prop}
theorem zoT {f:α->HVal} {o:Option α} {z0:α}:f (o.getD z0)=(o.map f).getD (f z0):=by cases o<;>rfl
theorem zfQ [Tracks] {x y:Operand} {t kt et:TypeId} {size bytes s2 b2 s3 b3:Nat} {zero z2 z3:Value} {d:TD} {i b:Nat} {f:α->HVal} {L:List (Str×α)} {s:Str} {z0:α}
 (hf:Fits P t (.map kt et) size bytes zero) (hkt:Fits P kt .str s2 b2 z2) (het:Fits P et d s3 b3 z3) (hx:zi e x=some (.raw (.map (some b)))) (hy:zi e y=some (.str s)) (hm:M[i]? =some (.map b (sk (em f L)))) (hz:zaM z3=f z0)
 (hk:K (f ((alk s L).getD z0)) M):EOp P e M ⟨dst,.lookup t x y false,ty,pos,af,g⟩ K:=by
 refine zne hf hkt het hx hy hm ?_;rw [zoT (f:=f),<-znv,<-hz] at hk
 cases h:z8 s (em f L) with
 |none=>rw [h] at hk;exact hk
 |some p=>rw [h] at hk;exact hk
theorem zkK [Tracks] {x y:Operand} {t kt et:TypeId} {size bytes s2 b2 s3 b3:Nat} {zero z2 z3:Value} {d:TD} {i b:Nat} {f:α->HVal} {L:List (Str×α)} {s:Str} {z0:α}
 (hf:Fits P t (.map kt et) size bytes zero) (hkt:Fits P kt .str s2 b2 z2) (het:Fits P et d s3 b3 z3) (hx:zi e x=some (.raw (.map (some b)))) (hy:zi e y=some (.str s)) (hm:M[i]? =some (.map b (sk (em f L)))) (hz:zaM z3=f z0)
 (hk:K (.tup [f ((alk s L).getD z0),.bool (alk s L).isSome]) M):EOp P e M ⟨dst,.lookup t x y true,ty,pos,af,g⟩ K:=by
 refine zwh hf hkt het hx hy hm ?_;have h1:(alk s L).isSome=((alk s L).map f).isSome:=by cases alk s L<;>rfl
 rw [zoT (f:=f),h1,<-znv,<-hz] at hk
 cases h:z8 s (em f L) with
 |none=>rw [h] at hk;exact hk
 |some p=>rw [h] at hk;exact hk
theorem zdP [Tracks] {x y z:Operand} {t kt et:TypeId} {size bytes s2 b2:Nat} {zero z2:Value} {i b:Nat} {f:α->HVal} {L:List (Str×α)} {s:Str} {v:α}
 (hf:Fits P t (.map kt et) size bytes zero) (hkt:Fits P kt .str s2 b2 z2) (hx:zi e x=some (.raw (.map (some b)))) (hy:zi e y=some (.str s)) (hz:zi e z=some (f v)) (hm:M[i]? =some (.map b (sk (em f L))))
 (hk:K .junk (M.set i (.map b (sk (em f (zz s v L)))))):EOp P e M ⟨dst,.mapUpdate t x y z,ty,pos,af,g⟩ K:=by
 refine znR hf hkt hx hy hz hm ?_;rw [zxi];exact hk
variable {kt:TypeId} {ek:κ->HVal}
theorem zcK [Tracks] {x y:Operand} {t et:TypeId} {size bytes s3 b3:Nat} {zero z3:Value} {d:TD} {i b:Nat} {f:α->HVal} {L:List (κ×α)} {s:κ} {z0:α}
 (hf:Fits P t (.map kt et) size bytes zero) (ok:KeyOk P kt ek) (het:Fits P et d s3 b3 z3) (hx:zi e x=some (.raw (.map (some b)))) (hy:zi e y=some (ek s)) (hm:M[i]? =some (.map b (kk ek (em f L)))) (hz:zaM z3=f z0)
 (hk:K (f ((alk s L).getD z0)) M):EOp P e M ⟨dst,.lookup t x y false,ty,pos,af,g⟩ K:=by
 refine zwi hf ok het hx hy hm ?_;rw [zoT (f:=f),<-hz] at hk;rw [zo5];exact hk
theorem zt6 [Tracks] {x y:Operand} {t et:TypeId} {size bytes s3 b3:Nat} {zero z3:Value} {d:TD} {i b:Nat} {f:α->HVal} {L:List (κ×α)} {s:κ} {z0:α}
 (hf:Fits P t (.map kt et) size bytes zero) (ok:KeyOk P kt ek) (het:Fits P et d s3 b3 z3) (hx:zi e x=some (.raw (.map (some b)))) (hy:zi e y=some (ek s)) (hm:M[i]? =some (.map b (kk ek (em f L)))) (hz:zaM z3=f z0)
 (hk:K (.tup [f ((alk s L).getD z0),.bool (alk s L).isSome]) M):EOp P e M ⟨dst,.lookup t x y true,ty,pos,af,g⟩ K:=by
 refine zu7 hf ok het hx hy hm ?_;have h1:((alk s L).map f).isSome=(alk s L).isSome:=by cases alk s L<;>rfl
 rw [zoT (f:=f),<-hz] at hk;rw [zo5,h1];exact hk
theorem zoJ [Tracks] {x y:Operand} {t et:TypeId} {size bytes s3 b3:Nat} {zero z3:Value} {d:TD} {i b j st:Nat} {f:α->HVal} {L:List (κ×α)} {s:κ} {z0:α}
 (hf:Fits P t (.map kt et) size bytes zero) (ok:KeyOk P kt ek) (het:Fits P et d s3 b3 z3) (hx:zi e x=some (.raw (.map (some b)))) (hy:zi e y=some (ek s)) (hm:M[i]? =some (.mape b (kk ek (zdz s (f z0) (em f L))) j st)) (hz:zaM z3=f z0)
 (hk:K (f ((alk s L).getD z0)) M):EOp P e M ⟨dst,.lookup t x y false,ty,pos,af,g⟩ K:=by
 have h0:f ((alk s L).getD z0)=(klk s (zdz s (f z0) (em f L))).getD (zaM z3):=by rw [hz,zAI,zo5,zoT (f:=f)]
 rw [h0] at hk
 generalize zdz s (f z0) (em f L)=ls at hm hk
 exact EOp.of_run fun I F a w ho hs=>by
  have h1:=(ho.one (x:=x) (by simp [Op.operands]) hx).raw_inv;have h2:=ho.one (x:=y) (by simp [Op.operands]) hy;obtain ⟨es,clk,h3,h4,h5,_⟩:=hs.obj _ (An _ (Ab hm));obtain ⟨h6,h7⟩:=zo4 h4.1 h5;obtain ⟨n1,n2⟩:=ziL ok h2 w es.toList ls 0 h6 h7;have hfk:=ok.run_key h2 w es.toList ls h6 h7
  cases hq:zbG s ls with
  |none=>
    rw [(zfl hq).1] at hk;refine ⟨z3,_,M,w,I,?_,.refl I,hk,zgF I z3,hs⟩
    simp only [execOp,h1,Instr.lookup,Sem.run_bind,run_underlying hf.mapD,Result.andThen_ok,zaQ h3,Sem.run_pure,ok.check I s _ _ w h2,hfk,n1 hq,het.run_zero]
    simp
  |some j'=>
    obtain ⟨m,h,g1,g2,g3,g4⟩:=n2 j' hq;obtain ⟨h',g5,g6,_⟩:=zeF hq;rw [g5] at g2;cases g2;rw [g6] at hk;refine ⟨m.val,_,M,w,I,?_,.refl I,hk,g3,hs⟩
    simp only [execOp,h1,Instr.lookup,Sem.run_bind,run_underlying hf.mapD,Result.andThen_ok,zaQ h3,Sem.run_pure,ok.check I s _ _ w h2,hfk,g4]
    simp
theorem zfa [Tracks] {x y z:Operand} {t et:TypeId} {size bytes:Nat} {zero:Value} {i b:Nat} {f:α->HVal} {L:List (κ×α)} {s:κ} {v:α}
 (hf:Fits P t (.map kt et) size bytes zero) (ok:KeyOk P kt ek) (hx:zi e x=some (.raw (.map (some b)))) (hy:zi e y=some (ek s)) (hz:zi e z=some (f v)) (hm:M[i]? =some (.map b (kk ek (em f L))))
 (hk:K .junk (M.set i (.map b (kk ek (em f (zz s v L)))))):EOp P e M ⟨dst,.mapUpdate t x y z,ty,pos,af,g⟩ K:=by
 refine zwj hf ok hx hy hz hm ?_;rw [zpw];exact hk
theorem znP [Tracks] {x y:Operand} {t et:TypeId} {size bytes s3 b3:Nat} {zero z3:Value} {d:TD} {i b:Nat} {f:α->HVal} {L:List (κ×α)} {s:κ} {z0:α}
 (hf:Fits P t (.map kt et) size bytes zero) (ok:KeyOk P kt ek) (het:Fits P et d s3 b3 z3) (hx:zi e x=some (.raw (.map (some b)))) (hy:zi e y=some (ek s)) (hm:M[i]? =some (.map b (kk ek (em f L)))) (hz:zaM z3=f z0)
 (hk: ∀(j st:Nat),zbG s (zdz s (f z0) (em f L))=some j->K (.tup [f ((alk s L).getD z0),.int .i64 (st:Int)]) (M.set i (.mape b (kk ek (zdz s (f z0) (em f L))) j st))):EOp P e M ⟨dst,.mapEntry t x y,ty,pos,af,g⟩ K:=by
 refine zoK hf ok het hx hy hm ?_;rw [hz];have h1:(klk s (em f L)).getD (f z0)=f ((alk s L).getD z0):=by rw [zo5];cases alk s L<;>rfl
 rw [h1];exact hk
theorem zlt [Tracks] {x y z:Operand} {t:TypeId} {i b j st:Nat} {f:α->HVal} {L:List (κ×α)} {s:κ} {z0 v:α}
 (hx:zi e x=some (.raw (.map (some b)))) (hy:zi e y=some (.int .i64 (st:Int))) (hz:zi e z=some (f v)) (hm:M[i]? =some (.mape b (kk ek (zdz s (f z0) (em f L))) j st)) (hj:zbG s (zdz s (f z0) (em f L))=some j)
 (hk:K .junk (M.set i (.map b (kk ek (em f (zz s v L)))))):EOp P e M ⟨dst,.entryStore t x y z,ty,pos,af,g⟩ K:=by
 refine zmu hx hy hz hm hj ?_;rw [ztf,zpw];exact hk
theorem zeC [Tracks] {x:Operand} {t kt' et:TypeId} {size bytes:Nat} {zero:Value} {i b:Nat} {l:List (HVal×HVal)} (hf:Fits P t (.map kt' et) size bytes zero) (hx:zi e x=some (.raw (.map (some b)))) (hm:M[i]? =some (.map b l))
 (hk:K (.int .i64 (l.length:Int)) M):EOp P e M ⟨dst,.call ⟨.builtin .len,#[x],#[t]⟩,ty,pos,af,g⟩ K:=
 EOp.of_run fun I F a w ho hs=>by
  have h1:=(ho.one (x:=x) (by simp [Op.operands,Call.operands]) hx).raw_inv;obtain ⟨es,clk,h3,h4,h5⟩:=hs.obj _ (An _ (Ab hm));exact ⟨.int .i64 (es.size:Int),_,M,w,I,by rw [zmB (ats:= #[])];simp [h1,Builtin.len_,run_underlying hf.mapD,zaQ h3,goInt],.refl I,hk,by rw [h4.1];exact .int _ _,hs⟩
end
end
section
open Go.Sort Go.Proofs
structure Play where
 Source:Str
 No:Int
 At:Int
 Week:Int
 Match:Str
 Player:Str
 Stat:Str
 Count:Int
 Undo:Int
structure StatS where
 Name:Str
 Count:Int
structure LineS where
 Player:Str
 Week:Int
 Stats:List StatS
abbrev zaA (x:Play):HVal:= .agg [.str x.Source,.int .i64 x.No,.int .i64 x.At,.int .i64 x.Week,.str x.Match,.str x.Player,.str x.Stat,.int .i64 x.Count,.int .i64 x.Undo]
abbrev zb4 (l:List Play):HVal:= .slice 9 (l.map zaA)
abbrev zbg (x:StatS):HVal:= .agg [.str x.Name,.int .i64 x.Count]
abbrev zy3 (l:List StatS):HVal:= .slice 2 (l.map zbg)
abbrev zbT (x:LineS):HVal:= .agg [.str x.Player,.int .i64 x.Week,zy3 x.Stats]
abbrev zfG (l:List LineS):HVal:= .slice 3 (l.map zbT)
abbrev Num:=Str×Int
abbrev Of2:=Str×Str
abbrev ziF (x:Num):HVal:= .agg [.str x.1,.int .i64 x.2]
abbrev eOf (x:Of2):HVal:= .agg [.str x.1,.str x.2]
def znn:Play:=⟨[],0,0,0,[],[],[],0,0⟩
def za4 (n:Int):Bool:= !(out n 1 60)
def playFault (p:Play):Int:=
 if !(key p.Source) then 5 else if out p.No 1 3000|| !(zac p.At)|| !(za4 p.Week) then 1
 else if !(key p.Match)|| !(key p.Player)|| !(key p.Stat) then 5
 else if out p.Count (-100000) 100000||out p.Undo 0 (p.No-1) then 1
 else if decide (0<p.Undo)&&decide (p.Count≠0) then 3 else 0
def byNo (a b:Play):Int:=orI [zZ a.Source b.Source,zab a.No b.No]
def zch (l:List Play):Nat->List Play->Int
 |_,[]=>0
 |k,p::r=>if playFault p≠0 then playFault p else if 0<k/\byNo p (l.getD (k-1) znn)<=0 then 7 else zch l (k+1) r
structure ChkS where
 S:List Str
 W:List (Str×Int)
 c:Bool
def ziC (q:ChkS) (p:Play):ChkS:=
 ⟨zci p.Source q.S,zz p.Match p.Week q.W,q.c||((alk p.Match q.W).isSome&&((alk p.Match q.W).getD 0 !=p.Week))⟩
def zby (l:List Play):ChkS:=l.foldl ziC ⟨[],[],false⟩
theorem zfu {l:List Play} {k:Nat} {x:Play} (h:l[k]? =some x):zby (l.take (k+1))=ziC (zby (l.take k)) x:=by
 rw [zR h];simp [zby,A2]
def zfm (q:ChkS):Int:=if 20<q.S.length\/400<q.W.length then 2 else if q.c then 13 else 0
def zcj (l:List Play):Int:=if 3000<l.length then 2 else if zch l 0 l≠0 then zch l 0 l else zfm (zby l)
theorem zno {l:List Play} {k:Nat} {x:Play} {r:List Play} (h1:playFault x=0) (h2:0<k->¬byNo x (l.getD (k-1) znn)<=0):zch l k (x::r)=zch l (k+1) r:=by
 rw [zch,if_neg (by simp [h1]),if_neg (fun h=>h2 h.1 h.2)]
theorem zlB {l:List Play} {c:Int} (h1:l.length<=3000) (h:zch l 0 l=c) (hc:c≠0):zcj l=c:=by
 rw [zcj,if_neg (by omega),if_pos (by rw [h];exact hc),h]
theorem zfT {l:List Play} (h1:l.length<=3000) (h:zch l 0 l=0):zcj l=zfm (zby l):=by
 rw [zcj,if_neg (by omega),if_neg (by simp [h])]
theorem ztt {l:List Play} (h:zcj l=0):l.length<=3000/\zch l 0 l=0:=by
 unfold zcj at h
 split at h
 omega
 split at h
 contradiction
 rename_i h1 h2;exact ⟨by omega,by simpa using h2⟩
theorem zfd {p:Play} (h:playFault p=0):key p.Source=true/\(1<=p.No/\p.No<=3000)/\zac p.At=true/\za4 p.Week=true/\(key p.Match=true/\key p.Player=true/\key p.Stat=true)/\(-100000<=p.Count/\p.Count<=100000)/\(0<=p.Undo/\p.Undo<=p.No-1):=by
 unfold playFault at h
 split at h
 omega
 split at h
 omega
 split at h
 omega
 split at h
 omega
 rename_i h1 h2 h3 h4
 simp only [Bk,BY,not_or,Bool.not_eq_false,Bool.not_eq_true] at h1 h2 h3 h4;exact ⟨h1,zfy h2.1.1,h2.1.2,h2.2,⟨h3.1.1,h3.1.2,h3.2⟩,zfy h4.1,zfy h4.2⟩
theorem zrI {l:List Play}: ∀(r:List Play) (k:Nat),zch l k r=0->∀x∈r,playFault x=0
 |[],_,_,x,hx=>by cases hx
 |p::r,k,h,x,hx=>by
   rw [zch] at h
   split at h
   contradiction
   split at h
   omega
   rename_i h1 _
   rcases List.mem_cons.1 hx with rfl|hx
   simpa using h1
   exact zrI r (k+1) h x hx
theorem ziW {l:List Play} (h:zcj l=0): ∀x∈l,playFault x=0:=zrI l 0 (ztt h).2
/-! the source that counts-/
def zeM (trust:List Str) (at':Int) (B:List (Str×Int)) (p:Play):List (Str×Int):=
 if at'<p.At\/zdH p.Source trust 0<0 then B
 else if (alk p.Match B).isSome=false\/zdH p.Source trust 0<(alk p.Match B).getD 0 then zz p.Match (zdH p.Source trust 0) B else B
def zf2 (l:List Play) (trust:List Str) (at':Int):List (Str×Int):=l.foldl (zeM trust at') []
theorem zmN {l:List Play} {trust:List Str} {at':Int} {k:Nat} {x:Play} (h:l[k]? =some x):zf2 (l.take (k+1)) trust at'=zeM trust at' (zf2 (l.take k) trust at') x:=by
 rw [zR h];simp [zf2,A2]
def zpF (l:List Play) (trust:List Str) (at':Int) (m:Str):Option Str:=(alk m (zf2 l trust at')).map fun k=>trust.getD k.toNat []
/-! what is taken back-/
def zpy (at':Int) (A:List (Num×Play)) (p:Play):List (Num×Play):=if p.At<=at' then zz (p.Source,p.No) p A else A
def zqD (l:List Play) (at':Int):List (Num×Play):=l.foldl (zpy at') []
theorem ztr {l:List Play} {at':Int} {k:Nat} {x:Play} (h:l[k]? =some x):zqD (l.take (k+1)) at'=zpy at' (zqD (l.take k) at') x:=by
 rw [zR h];simp [zqD,A2]
def zv2 (q p:Play):Bool:=decide (q.Undo=0)&&decide (q.Match=p.Match)&&decide (q.Player=p.Player)&&decide (q.Stat=p.Stat)
def zkL (A:List (Num×Play)) (at':Int) (G:List (Num×Bool)) (p:Play):List (Num×Bool):=
 if at'<p.At\/p.Undo=0 then G else if (alk (p.Source,p.Undo) A).isSome=true/\zv2 ((alk (p.Source,p.Undo) A).getD znn) p=true then zz (p.Source,p.Undo) true G else G
def zoV (A:List (Num×Play)) (at':Int) (l:List Play):List (Num×Bool):=l.foldl (zkL A at') []
def zni (l:List Play) (at':Int):List (Num×Bool):=zoV (zqD l at') at' l
theorem zl2 {A:List (Num×Play)} {l:List Play} {at':Int} {k:Nat} {x:Play} (h:l[k]? =some x):zoV A at' (l.take (k+1))=zkL A at' (zoV A at' (l.take k)) x:=by
 rw [zR h];simp [zoV,A2]
def zve (l:List Play) (at':Int) (x:Num):Bool:=(alk x (zni l at')).getD false
/-! lines-/
def zo1 (l:List Play) (trust:List Str) (week at':Int) (p:Play):Bool:=
 !(decide (at'<p.At)||p.Week !=week||decide (0<p.Undo)||zve l at' (p.Source,p.No)||(zpF l trust at' p.Match).getD [] !=p.Source)
structure LnS where
 S:List Str
 c:List (Of2×Int)
def zCi (q:LnS) (p:Play):LnS:=⟨zci p.Player q.S,zz (p.Player,p.Stat) ((alk (p.Player,p.Stat) q.c).getD 0+p.Count) q.c⟩
def zie (l:List Play) (trust:List Str) (week at':Int) (q:LnS) (p:Play):LnS:=if zo1 l trust week at' p then zCi q p else q
def zcM (l:List Play) (trust:List Str) (week at':Int) (m:List Play):LnS:=m.foldl (zie l trust week at') ⟨[],[]⟩
theorem zti {l m:List Play} {trust:List Str} {week at':Int} {k:Nat} {x:Play} (h:m[k]? =some x):zcM l trust week at' (m.take (k+1))=zie l trust week at' (zcM l trust week at' (m.take k)) x:=by
 rw [zR h];simp [zcM,A2]
def zbc (a b:StatS):Int:=zZ a.Name b.Name
def zbn (c:List (Of2×Int)) (s:Str):List StatS:=(c.filter fun e=>e.1.1==s&&e.2 !=0).map fun e=>⟨e.1.2,e.2⟩
def zdW (c:List (Of2×Int)) (s:Str):List StatS:=zQ zbc (zbn c s)
def zhm (c:List (Of2×Int)) (S:List Str):Bool:=c.any (fun e=>out e.2 (-100000) 100000)||S.any (fun s=>decide (40<(zbn c s).length))
def ziD (c:List (Of2×Int)) (S:List Str):Int:=if zhm c S then 12 else 0
def zhQ (c:List (Of2×Int)) (S:List Str) (week:Int):List LineS:=if zhm c S then [] else (zbk S).map fun s=>⟨s,week,zdW c s⟩
def zid (l:List Play) (trust:List Str) (week at':Int):Int:=ziD (zcM l trust week at' l).c (zcM l trust week at' l).S
def zea (l:List Play) (trust:List Str) (week at':Int):List LineS:=zhQ (zcM l trust week at' l).c (zcM l trust week at' l).S week
/-! order of trust-/
def zey (l:List Str):Nat->List Str->Int
 |_,[]=>0
 |k,s::r=>if !(key s) then 5 else if (l.take k).contains s then 6 else zey l (k+1) r
def zb5 (l:List Str):Int:=if 20<l.length then 2 else zey l 0 l
theorem zwR {s:Str} (h:key s=true):s.length<=40:=by
 simp only [key,zjP,Bi,decide_eq_true_eq] at h;exact h.1.1.1.2
theorem zD9 {s:Str} (h:key s=true):s≠[]:=by
 simp only [key,zjP,Bi,bne_iff_ne] at h;exact h.1.1.1.1
/-! a list that a sort leaves-/
theorem zf6 {α:Type} {c:α->α->Int} (hc:Cmp c fun _=>True) {l l':List α} (he: ∀x y,x∈l->y∈l->c x y=0->x=y) (hp:l'.Perm l) (hw:l'.Pairwise fun a b=> ¬c b a<0):l'=zQ c l:=by
 have hs:=zgt hc (l:=l) (fun _ _=>trivial);have hw':l'.Pairwise fun a b=>c a b<=0:=hw.imp fun {a b} h=>by
  have:=hc.flip b a trivial trivial
  omega
 refine List.Perm.eq_of_pairwise (le:=fun a b=>c a b<=0) (fun a b ha hb h1 h2=> ?_) hw' hs (hp.trans (zbh c l).symm)
 have f1:=hc.flip a b trivial trivial;exact he a b (hp.mem_iff.1 ha) ((zbh c l).mem_iff.1 hb) (by omega)
theorem zdv:Cmp zbc fun _=>True where
 flip x y _ _:=by unfold zbc;rw [zfk x.Name y.Name];omega
 trans x y z _ _ _ h1 h2:=zjO h1 h2
theorem zpG {α:Type} {c:α->α->Int} (hc:Cmp c fun _=>True):SWO (ltOf c):=by
 have h: ∀a b,ltOf c a b=decide (c a b<0):=fun a b=>rfl
 refine ⟨fun x=> ?_,fun x y z h1 h2=> ?_,fun x y z h1 h2=> ?_⟩
 rw [h];have:=hc.flip x x trivial trivial;simp;omega;rw [h] at*;simp only [decide_eq_true_eq] at*;have a1:=hc.trans x y z trivial trivial trivial (by omega) (by omega)
 rcases Int.lt_or_eq_of_le a1 with e|e
 exact e
 exfalso
 have f1:=hc.flip x z trivial trivial;have a2:=hc.trans z x y trivial trivial trivial (by have:=hc.flip z x trivial trivial;omega) (by omega);have f2:=hc.flip y z trivial trivial
 omega
 rw [h] at*;simp only [decide_eq_false_iff_not] at*;have f1:=hc.flip x y trivial trivial;have f2:=hc.flip y z trivial trivial;have f3:=hc.flip x z trivial trivial;have g1:=hc.flip y x trivial trivial;have g2:=hc.flip z y trivial trivial;have g3:=hc.flip z x trivial trivial;have:=hc.trans z y x trivial trivial trivial (by omega) (by omega)
 omega
end
section
theorem zqC {α:Type} {l:List α} (h:l.Nodup) {i j:Nat} {a:α} (hi:l[i]? =some a) (hj:l[j]? =some a):i=j:=by
 have key: ∀(i j:Nat),i<j->l[i]? =some a->l[j]? =some a->False:=fun i j hij h1 h2=>by
  have hi:=zm h1;have hj:=zm h2;rw [Aa hi] at h1;rw [Aa hj] at h2;exact List.pairwise_iff_getElem.1 h i j hi hj hij (Ay (h1.trans h2.symm))
 rcases B1 i j with h'|h'|h'
 exact (key i j h' hi hj).elim;exact h';exact (key j i h' hj hi).elim
/-! what a range has come to-/
structure VisOk {β:Type} (L:List β) (vis:List Nat) (E:List β):Prop where
 nd:vis.Nodup
 lt: ∀j∈vis,j<L.length
 eq:E.map some=vis.map fun j=>L[j]?
theorem VisOk.nil {β:Type} (L:List β):VisOk L [] []:=⟨Bz,(fun j h=>by cases h),rfl⟩
theorem VisOk.step {β:Type} {L E:List β} {vis:List Nat} (h:VisOk L vis E) {j:Nat} {q:β} (hj:L[j]? =some q) (hn:j∉vis):VisOk L (vis++[j]) (E++[q]) where
 nd:=List.nodup_append.2 ⟨h.nd,by simp,fun a ha b hb=>by simp at hb;subst hb;exact fun e=>hn (e▸ha)⟩
 lt k hk:=by
  rcases List.mem_append.1 hk with hk|hk
  exact h.lt k hk
  simp at hk;subst hk;exact zm hj
 eq:=by simp only [Aq,h.eq,Aw,Be,hj]
theorem VisOk.len {β:Type} {L E:List β} {vis:List Nat} (h:VisOk L vis E):E.length=vis.length:=by
 have:=congrArg List.length h.eq;simpa using this
theorem VisOk.le {β:Type} {L E:List β} {vis:List Nat} (h:VisOk L vis E):vis.length<=L.length:=by
 have:=zo9 h.nd (m:=List.range L.length) fun j hj=>List.mem_range.2 (h.lt j hj)
 simpa using this
theorem VisOk.room {β:Type} {L E:List β} {vis:List Nat} (h:VisOk L vis E) {j:Nat} {q:β} (hj:L[j]? =some q) (hn:j∉vis):vis.length<L.length:=by
 have:=(h.step hj hn).le;rw [Ax] at this;simp only [Aj,AA] at this
 omega
theorem VisOk.done {β:Type} {L E:List β} {vis:List Nat} (h:VisOk L vis E) (hl:vis.length=L.length):E.Perm L:=by
 have hp:vis.Perm (List.range L.length):=by
  refine (List.perm_ext_iff_of_nodup h.nd List.nodup_range).2 fun a=>⟨fun ha=>List.mem_range.2 (h.lt a ha),fun ha=> ?_⟩
  refine Classical.byContradiction fun hna=> ?_
  have h1:(a::vis).Nodup:=List.nodup_cons.2 ⟨hna,h.nd⟩;have h2:=zo9 h1 (m:=List.range L.length) fun j hj=>by
   rcases List.mem_cons.1 hj with rfl|hj
   exact ha;exact List.mem_range.2 (h.lt j hj)
  simp at h2;omega
 have h1:=hp.map fun j=>L[j]?
 rw [<-h.eq] at h1;have h2:((List.range L.length).map fun j=>L[j]?)=L.map some:=by
  refine B0 fun i=> ?_
  rw [Ah,Ah]
  rcases AE i L.length with hi|hi
  rw [BQ hi,Aa hi];simp [hi];rw [AC (by simpa using hi),AC hi];rfl
 rw [h2] at h1;have h3:=h1.filterMap id;have key: ∀l:List β,(l.map some).filterMap id=l:=fun l=>by
  induction l with
  |nil=>rfl
  |cons x l ih=>simp [ih]
 rwa [key,key] at h3
def NextOk {β:Type} (L:List β) (vis:List Nat) (c:Bool) (vis':List Nat):Prop:=
 (c=false/\vis'=vis/\vis.length=L.length)\/(c=true/\∃j q,L[j]? =some q/\j∉vis/\vis'=vis++[j])
theorem NextOk.t {β:Type} {L:List β} {vis vis':List Nat} {c:Bool} (h:NextOk L vis c vis') (hc:c=true): ∃j q,L[j]? =some q/\j∉vis/\vis'=vis++[j]:=by
 rcases h with ⟨h,_⟩|⟨_,h⟩
 rw [hc] at h;cases h;exact h
theorem NextOk.f {β:Type} {L:List β} {vis vis':List Nat} {c:Bool} (h:NextOk L vis c vis') (hc:c=false):vis'=vis/\vis.length=L.length:=by
 rcases h with ⟨_,h⟩|⟨h,_⟩
 exact h;rw [hc] at h;cases h
section
variable {P:Program} {e:Env} {dst:Option Tmp} {ty:TypeId} {pos:String} {af:Array Edge} {g:Option (Nat×Bool)} {M:List MObj} {K:HVal->List MObj->Prop}
theorem ztA {α:Type}: ∀{M:List α} {i:Nat} {m:α},M[i]? =some m->M.set i m=M
 |[],i,m,h=>by simp at h
 |x::M,0,m,h=>by simp at h;simp [h]
 |x::M,i+1,m,h=>by simp at h;simp [ztA h]
theorem zoL [Tracks] {β:Type} {L:List β} {enc:β->HVal×HVal} {x:Operand} {i r b:Nat} {l:List (HVal×HVal)} {vis:List Nat} (hx:zi e x=some (.raw (.pointer (some ⟨r,0,none⟩)))) (hm:M[i]? =some (.iter r b l vis)) (hL:l=L.map enc)
 (hv:vis.Nodup) (hvl: ∀j∈vis,j<L.length) (hk: ∀c R vis',NextOk L vis c vis'->K (.tup (.bool c::R)) (M.set i (.iter r b l vis'))):EOp P e M ⟨dst,.next x false,ty,pos,af,g⟩ K:=by
 have hl:l.length=L.length:=by rw [hL,Af]
 refine zAo hx hm hv (fun j hj=>by rw [hl];exact hvl j hj) (fun hlen=> ?_) (fun j p hj hn=> ?_)
 have:=hk false [] vis (.inl ⟨rfl,rfl,by rw [hlen,hl]⟩);rw [ztA hm] at this;exact this;rw [hL,Ah] at hj
 cases hq:L[j]? with
 |none=>rw [hq] at hj;cases hj
 |some q=>exact hk true [p.1,p.2] (vis++[j]) (.inr ⟨rfl,j,q,hq,hn,rfl⟩)
theorem znd [Tracks] {β:Type} {L:List β} {enc:β->HVal×HVal} {x:Operand} {i r b j:Nat} {l:List (HVal×HVal)} {vis:List Nat} {q:β} (hx:zi e x=some (.raw (.pointer (some ⟨r,0,none⟩)))) (hm:M[i]? =some (.iter r b l (vis++[j]))) (hL:l=L.map enc) (hq:L[j]? =some q)
 (hk:K (.tup [(enc q).1,(enc q).2]) M):EOp P e M ⟨dst,.entry x,ty,pos,af,g⟩ K:=
 zy7 hx hm (p:=enc q) (by rw [hL,Ah,hq];rfl) hk
theorem zCt {α:Type} (f:α->HVal) (L:List (Str×α)):sk (em f L)=L.map fun p=>(.str p.1,f p.2):=by simp [sk]
theorem zun {κ α:Type} [DecidableEq κ] (ek:κ->HVal) (f:α->HVal) (L:List (κ×α)):kk ek (em f L)=L.map fun p=>(ek p.1,f p.2):=by simp [kk]
end
theorem zHb {α:Type} {a b c d:α} {X:List α}:(a::b::c::d::X).Perm (a::d::c::b::X):=
 List.Perm.cons a (((List.Perm.swap c b (d::X)).trans ((List.Perm.swap d b X).cons c)).trans (((List.Perm.swap d c (b::X)))))
/-! maps whose values are owned slices-/
section
variable {β:Type}
abbrev Grp (β:Type):=List (Str×(Value×List β))
abbrev fG {β:Type} (q:Value×List β):HVal:= .raw q.1
abbrev gZ (β:Type):Value×List β:=(.slice none 0 0,[])
def gV (s:Str) (G:Grp β):Value:=((alk s G).getD (gZ β)).1
def gL (s:Str) (G:Grp β):List β:=((alk s G).getD (gZ β)).2
def grp (sz:Nat) (e:β->HVal) (G:Grp β):List MObj:=G.map fun p=> .arr p.2.1 sz (p.2.2.map e)
theorem zwC {κ α:Type} [DecidableEq κ] {s:κ} {v:α}: ∀{G:List (κ×α)},alk s G=some v->∃n,G[n]? =some (s,v)/\∀u,zz s u G=G.set n (s,u)
 |[],h=>by simp [alk] at h
 |p::r,h=>by
   simp only [alk] at h
   by_cases hs:s=p.1
   rw [if_pos hs] at h;simp only [Az] at h;subst h;exact ⟨0,by simp [hs],fun u=>by simp [zz,hs]⟩;rw [if_neg hs] at h;obtain ⟨n,h1,h2⟩:=zwC h;exact ⟨n+1,by simpa using h1,fun u=>by simp [zz,hs,h2]⟩
theorem zmK {κ α:Type} [DecidableEq κ] {s:κ} {p:κ->Bool}: ∀{G:List (κ×α)},alk s (G.filter fun q=>p q.1)=if p s then alk s G else none
 |[]=>by simp [alk]
 |q::r=>by
   have ih:=zmK (s:=s) (p:=p) (G:=r);rw [AT]
   by_cases hq:p q.1=true
   rw [if_pos hq];simp only [alk]
   by_cases hs:s=q.1
   rw [if_pos hs,if_pos hs,hs,if_pos hq];rw [if_neg hs,if_neg hs,ih];rw [if_neg hq,ih];simp only [alk]
   by_cases hs:s=q.1
   rw [hs,if_neg hq,if_neg hq];rw [if_neg hs]
theorem zfb {κ α:Type} [DecidableEq κ] {s:κ} {G:List (κ×α)} (h:alk s G=none):(G.filter fun q=>decide (q.1≠s))=G:=by
 rw [Cb]
 intro q hq
 rw [zeL] at h;simp only [decide_eq_true_eq];exact fun e=>h (e▸Bl hq)
theorem zgN {κ α:Type} [DecidableEq κ] {s:κ} {v:α}: ∀{G:List (κ×α)},ANodup G->alk s G=some v->G.Perm ((s,v)::G.filter fun q=>decide (q.1≠s))
 |[],_,h=>by simp [alk] at h
 |p::r,hn,h=>by
   have h1:=List.nodup_cons.1 hn;simp only [alk] at h
   by_cases hs:s=p.1
   ·rw [if_pos hs] at h;simp only [Az] at h;have h2:alk s r=none:=by rw [zeL,hs];exact h1.1
    rw [AT,if_neg (by simp [hs]),zfb h2,hs,<-h]
   ·rw [if_neg hs] at h;rw [AT,if_pos (by simp;exact fun e=>hs e.symm)];exact (List.Perm.cons p (zgN h1.2 h)).trans (List.Perm.swap _ _ _)
end
section
variable {P:Program} {e:Env} {dst:Option Tmp} {ty:TypeId} {pos:String} {af:Array Edge} {g:Option (Nat×Bool)} {M:List MObj} {K:HVal->List MObj->Prop} {β:Type} {eb:β->HVal}
theorem zqa [Tracks] {I:Imm} {M:List MObj} {w:World} (sz:Nat) (hs:Sat P I M w):Sat P I (.arr (.slice none 0 0) sz []::M) w where
 imm:=hs.imm
 obj m hm:=by
  rcases List.mem_cons.1 hm with rfl|hm
  exact .inl ⟨rfl,rfl⟩;exact hs.obj m hm
 nodup:=by simp only [blocks,AN,MObj.blocks,Bu];exact hs.nodup
 apart b hb:=hs.apart b (by simpa only [blocks,AN,MObj.blocks,Bu] using hb)
 os:=hs.os
 output:=hs.output
 tape:=hs.tape
 tab:=hs.tab
 low:=hs.low
theorem EOp.pre [Tracks] {M':List MObj} {o:Oper} (hm: ∀I F w,Sat P I (M++F) w->Sat P I (M'++F) w) (h:EOp P e M' o K):EOp P e M o K:=fun I F a w ho hs=>h I F a w ho (hm I F w hs)
theorem zjo [Tracks] {o:Oper} (h:EOp P e M o fun x N=> ∃N',N.Perm N'/\K x N'):EOp P e M o K:=fun I F a w ho hs=>
 za9 (fun _ _ ⟨v,x,M',J,h1,h2,⟨N',h3,h4⟩,h5,h6⟩=>⟨v,x,N',J,h1,h2,h4,h5,h6.perm (h3.append_right F)⟩) (h I F a w ho hs)
theorem zss [Tracks] {x y:Operand} {t el:TypeId} {size bytes sz b2:Nat} {zero z2:Value} {d:TD} {A:List MObj} {G:Grp β} {s:Str} {ys:List β}
 (hf:Fits P t (.slice el) size bytes zero) (hel:Fits P el d sz b2 z2) (hz:z2.cells.size=sz) (hby:Nat.ble b2 100000=true)
 (hx:zi e x=some (.raw (gV s G))) (hy:zi e y=some (.slice sz (ys.map eb))) (hfl: ∀y∈ys.map eb,zat (zb y)=true) (hlen:(gL s G).length+ys.length<=1000000000)
 (hk: ∀v',K (.raw v') (A++grp sz eb (zz s (v',gL s G++ys) G))):EOp P e (A++grp sz eb G) ⟨dst,.call ⟨.builtin .append,#[x,y],#[t,t]⟩,ty,pos,af,g⟩ K:=by
 cases hq:alk s G with
 |none=>
   have h1:gV s G= .slice none 0 0:=by unfold gV;rw [hq];rfl
   have h2:gL s G=[]:=by unfold gL;rw [hq];rfl
   rw [h1] at hx;rw [h2,Bu] at hk;refine EOp.pre (M':= .arr (.slice none 0 0) sz []::(A++grp sz eb G)) (fun I F w hs=>zqa sz hs) (zjo ?_)
   refine zL (i:=0) hf hel hz hby hx hy rfl hfl (by rw [h2] at hlen;simpa using hlen) fun v'=>⟨_,?_,hk v'⟩
   rw [zkk hq];simp only [Ck,grp,Aq,Aw,Be,Bu];rw [<-AY];exact (List.perm_append_comm (l₁:=[MObj.arr v' sz (ys.map eb)]) (l₂:=A++G.map fun p=>MObj.arr p.2.1 sz (p.2.2.map eb)))
 |some q=>
   obtain ⟨v,l⟩:=q;have h1:gV s G=v:=by unfold gV;rw [hq];rfl
   have h2:gL s G=l:=by unfold gL;rw [hq];rfl
   obtain ⟨n,h3,h4⟩:=zwC hq;rw [h1] at hx;rw [h2] at hk hlen;have h5:(A++grp sz eb G)[A.length+n]? =some (.arr v sz (l.map eb)):=by
    rw [Ap (by omega),BR]
    simp [grp,h3]
   refine zL (i:=A.length+n) hf hel hz hby hx hy h5 hfl (by simpa using hlen) fun v'=> ?_
   have h6:(A++grp sz eb G).set (A.length+n) (.arr v' sz (l.map eb++ys.map eb))=A++grp sz eb (zz s (v',l++ys) G):=by
    rw [BC _ _ (by omega),BR,h4]
    simp [grp,List.map_set]
   rw [h6];exact hk v'
theorem zr4 [Tracks] {A:List MObj} {G G':Grp β} {s:Str} {sz:Nat} (hn:ANodup G) (hG:alk s G=alk s G'):Ghost e (A++grp sz eb G) e (.arr (gV s G') sz ((gL s G').map eb)::(A++grp sz eb (G.filter fun q=>decide (q.1≠s)))):=by
 cases hq:alk s G with
 |none=>
   have h1:gV s G'= .slice none 0 0:=by unfold gV;rw [<-hG,hq];rfl
   have h2:gL s G'=[]:=by unfold gL;rw [<-hG,hq];rfl
   rw [h1,h2,zfb hq];exact zK sz
 |some q=>
   obtain ⟨v,l⟩:=q;have h1:gV s G'=v:=by unfold gV;rw [<-hG,hq];rfl
   have h2:gL s G'=l:=by unfold gL;rw [<-hG,hq];rfl
   rw [h1,h2];refine Ghost.perm ?_;have h3:=((zgN hn hq).map fun p=>MObj.arr p.2.1 sz (p.2.2.map eb)).append_left A;refine h3.trans ?_;simp only [Aw,grp];exact B8
end
end
section
section
variable {κ α γ:Type} [DecidableEq κ]
theorem VisOk.fresh {L E:List (κ×α)} {vis:List Nat} (h:VisOk L vis E) (hn:ANodup L) {j:Nat} {q:κ×α} (hj:L[j]? =some q) (hv:j∉vis):alk q.1 E=none:=by
 rw [zeL]
 intro hm
 obtain ⟨q',h1,h2⟩:=List.mem_map.1 hm;have h3:some q'∈E.map some:=Bl h1;rw [h.eq] at h3;obtain ⟨j',h4,h5⟩:=List.mem_map.1 h3;have e:j'=j:=zqC hn (a:=q.1) (by rw [Ah,h5];simp [h2]) (by rw [Ah,hj];rfl);exact hv (e▸h4)
theorem ANodup.perm {A B:Type} {E L:List (A×B)} (hn:ANodup L) (hp:E.Perm L):ANodup E:=(hp.map (fun p:A×B=>p.1)).nodup_iff.2 hn
theorem zuO {E L:List (κ×α)} (hp:E.Perm L) (hn:ANodup L) (m:κ):alk m E=alk m L:=by
 have hne:ANodup E:=hn.perm hp
 cases h:alk m L with
 |none=>
   rw [zeL] at h⊢;exact fun hm=>h ((hp.map (·.1)).mem_iff.1 hm)
 |some v=>exact (zet hne).1 (hp.mem_iff.2 ((zet hn).2 h))
theorem zpp (g:α->γ) (m:κ): ∀(E:List (κ×α)),alk m (E.map fun q=>(q.1,g q.2))=(alk m E).map g
 |[]=>rfl
 |p::r=>by
   have ih:=zpp g m r;simp only [Aw,alk]
   by_cases h:m=p.1
   rw [if_pos h,if_pos h];rfl;rw [if_neg h,if_neg h,ih]
theorem ANodup.map {A B C:Type} (g:B->C) {E:List (A×B)} (h:ANodup E):ANodup (E.map fun q=>(q.1,g q.2)):=by
 unfold ANodup at*;rw [A6];exact h
end
theorem zvd (s:Str): ∀(l:List Str) (k:Int),zdH s l k= -1\/(k<=zdH s l k/\zdH s l k<k+l.length)
 |[],k=> .inl rfl
 |x::r,k=>by
   simp only [zdH]
   by_cases h:s=x
   rw [if_pos h];right;simp;omega;rw [if_neg h]
   rcases zvd s r (k+1) with h'|h'
   exact .inl h'
   right;simp only [Aj];omega
theorem zr8 {trust:List Str} {n:Int}: ∀(l:List Play) (B:List (Str×Int)),ANodup B->(∀q∈B,0<=q.2/\q.2<trust.length)->ANodup (l.foldl (zeM trust n) B)/\∀q∈l.foldl (zeM trust n) B,0<=q.2/\q.2<trust.length
 |[],B,h1,h2=>⟨h1,h2⟩
 |p::r,B,h1,h2=>by
   refine zr8 r (zeM trust n B p) ?_ ?_;unfold zeM;split;exact h1
   split
   exact h1.put;exact h1;unfold zeM;split;exact h2
   rename_i hc
   split
   intro q hq
   rcases zdb hq with rfl|hq
   rcases zvd p.Source trust 0 with h|h
   exfalso;exact hc (.inr (by rw [h];decide))
   dsimp only;omega
   exact h2 q hq;exact h2
theorem zmO (l:List Play) (trust:List Str) (n:Int):ANodup (zf2 l trust n):=(zr8 l [] ANodup.nil (fun q h=>by cases h)).1
theorem zxq {l:List Play} {trust:List Str} {n:Int} {q:Str×Int} (h:q∈zf2 l trust n):0<=q.2/\q.2<trust.length:=(zr8 l [] ANodup.nil (fun q h=>by cases h)).2 q h
abbrev zrY (trust:List Str) (E:List (Str×Int)):List (Str×Str):=E.map fun q=>(q.1,trust.getD q.2.toNat [])
theorem zzY {trust:List Str} {L E:List (Str×Int)} {vis:List Nat} (h:VisOk L vis E) (hn:ANodup L) {j:Nat} {q:Str×Int} (hj:L[j]? =some q) (hv:j∉vis):zz q.1 (trust.getD q.2.toNat []) (zrY trust E)=zrY trust (E++[q]):=by
 rw [zkk]
 simp
 have:=zpp (fun k:Int=>trust.getD k.toNat []) q.1 E;rw [this,h.fresh hn hj hv];rfl
theorem zBq {l:List Play} {trust:List Str} {n:Int} {E:List (Str×Int)} (hp:E.Perm (zf2 l trust n)) (m:Str):alk m (zrY trust E)=zpF l trust n m:=by
 have:=zpp (fun k:Int=>trust.getD k.toNat []) m E;rw [this,zuO hp (zmO _ _ _)];rfl
theorem zyz {l:List Play} {trust:List Str} {n:Int} {E:List (Str×Int)} (hp:E.Perm (zf2 l trust n)):ANodup (zrY trust E):=
 ANodup.map (fun k:Int=>trust.getD k.toNat []) ((zmO _ _ _).perm hp)
/-! groups of statistics-/
structure GOk (E:List (Of2×Int)) (G:Grp StatS):Prop where
 nd:ANodup G
 raw: ∀s,gL s G=zbn E s
theorem GOk.nil:GOk [] []:=⟨ANodup.nil,fun s=>rfl⟩
theorem znU (E:List (Of2×Int)) (q:Of2×Int) (s:Str):zbn (E++[q]) s=zbn E s++if q.1.1=s/\q.2≠0 then [⟨q.1.2,q.2⟩] else []:=by
 unfold zbn;rw [Bq,Aq,AT]
 by_cases h:q.1.1=s/\q.2≠0
 rw [if_pos h,if_pos (by simpa using h)];rfl;rw [if_neg h,if_neg (by simpa using h)];rfl
theorem GOk.skip {E:List (Of2×Int)} {G:Grp StatS} (h:GOk E G) {q:Of2×Int} (hq:q.2=0):GOk (E++[q]) G:=
 ⟨h.nd,fun s=>by rw [znU,if_neg (by simp [hq]),A9,h.raw]⟩
theorem zD0 (s t:Str) (v:Value) (l:List StatS) (G:Grp StatS):gL t (zz s (v,l) G)=if t=s then l else gL t G:=by
 unfold gL;rw [zc1];split<;>rfl
theorem GOk.put {E:List (Of2×Int)} {G:Grp StatS} (h:GOk E G) {q:Of2×Int} (hq: ¬q.2=0) (v:Value):GOk (E++[q]) (zz q.1.1 (v,gL q.1.1 G++[⟨q.1.2,q.2⟩]) G):=by
 refine ⟨h.nd.put,fun s=> ?_⟩
 rw [zD0,znU]
 by_cases hs:s=q.1.1
 rw [if_pos hs,if_pos ⟨hs.symm,hq⟩,hs,h.raw];rw [if_neg hs,if_neg (fun e=>hs e.1.symm),A9,h.raw]
theorem zl9 (E:List (Of2×Int)) (s:Str):(zbn E s).length<=E.length:=by
 unfold zbn;rw [Af];exact AV _ _
theorem znT {E c:List (Of2×Int)} (h:E.Perm c) (s:Str):(zbn E s).Perm (zbn c s):=(h.filter _).map _
theorem ztv {c:List (Of2×Int)} (h:ANodup c) (s:Str) {x y:StatS} (hx:x∈zbn c s) (hy:y∈zbn c s) (e:x.Name=y.Name):x=y:=by
 unfold zbn at hx hy;obtain ⟨p,hp,rfl⟩:=List.mem_map.1 hx;obtain ⟨p',hp',rfl⟩:=List.mem_map.1 hy;have h1:=List.mem_filter.1 hp;have h2:=List.mem_filter.1 hp';have k1:p.1.1=s:=by have:=h1.2;simp only [Bi,beq_iff_eq] at this;exact this.1
 have k2:p'.1.1=s:=by have:=h2.2;simp only [Bi,beq_iff_eq] at this;exact this.1
 have k3:p.1=p'.1:=Prod.ext (k1.trans k2.symm) e;have a1:=(zet h (x:=p.1) (v:=p.2)).1 h1.1;have a2:=(zet h (x:=p'.1) (v:=p'.2)).1 h2.1;rw [<-k3,a1] at a2;have k4:p.2=p'.2:=Ay a2;have k5:p.1.2=p'.1.2:=e;rw [k4,k5]
theorem zvW {E c:List (Of2×Int)} (hE:E.Perm c) (hn:ANodup c) {G:Grp StatS} (hG:GOk E G) {s:Str} {l':List StatS} (hp:l'.Perm (gL s G)) (hw:l'.Pairwise fun a b=> ¬zbc b a<0):l'=zdW c s:=by
 unfold zdW;rw [hG.raw] at hp;exact zf6 zdv (fun x y hx hy e=>ztv hn s hx hy (zbs.1 e)) (hp.trans (znT hE s)) hw
theorem zva {E c:List (Of2×Int)} (hE:E.Perm c) {G:Grp StatS} (hG:GOk E G) (s:Str):(gL s G).length=(zbn c s).length:=by
 rw [hG.raw];exact (znT hE s).length_eq
abbrev zil (G:Grp StatS) (N:List Str):Grp StatS:=G.filter fun q=> !(N.contains q.1)
theorem zBj (G:Grp StatS):zil G []=G:=by unfold zil;rw [Cb];simp
theorem zBi {G:Grp StatS} {N:List Str} {s:Str} (h:s∉N):alk s (zil G N)=alk s G:=by
 have:=zmK (s:=s) (p:=fun k=> !(N.contains k)) (G:=G);unfold zil;rw [this,if_pos (by simpa using h)]
theorem zzK (G:Grp StatS) (N:List Str) (s:Str):(zil G N).filter (fun q=>decide (q.1≠s))=zil G (N++[s]):=by
 unfold zil;rw [List.filter_filter];refine List.filter_congr fun q _=> ?_
 by_cases h1:q.1∈N<;>by_cases h2:q.1=s<;>simp [h1,h2]
theorem zyq {G:Grp StatS} {N:List Str} (h:ANodup G):ANodup (zil G N):=by
 unfold ANodup at*;exact h.sublist ((Cc).map _)
theorem zyy {l:List Str} (hn:l.Nodup) {k:Nat} {s:Str} (h:l[k]? =some s):s∉l.take k:=by
 intro hm
 obtain ⟨j,hj⟩:=Bd hm;have hjk:j<k:=by have:=zm hj;simp at this;omega
 rw [AD hjk] at hj;have:=zqC hn hj h
 omega
theorem zio (l:List Str):(zbk l).Perm l:=List.mergeSort_perm _ _
theorem zxX {c:List (Of2×Int)} {S:List Str} {q:Of2×Int} (hq:q∈c) (ho:out q.2 (-100000) 100000=true):zhm c S=true:=by
 unfold zhm;rw [Bk];left;rw [Cs];exact ⟨q,hq,ho⟩
theorem zxY {c:List (Of2×Int)} {S:List Str} {s:Str} (hs:s∈S) (ho:40<(zbn c s).length):zhm c S=true:=by
 unfold zhm;rw [Bk];right;rw [Cs];exact ⟨s,hs,by simpa using ho⟩
theorem zza {c:List (Of2×Int)} {S:List Str} (h1: ∀q∈c,out q.2 (-100000) 100000=false) (h2: ∀s∈S,¬40<(zbn c s).length):zhm c S=false:=by
 unfold zhm;rw [Bc]
 constructor
 rw [BZ];intro q hq;rw [h1 q hq];simp;rw [BZ];intro s hs;simpa using h2 s hs
/-! lines-/
theorem zkR {s t:Str} {S:List Str}:t∈zci s S↔t=s\/t∈S:=by
 unfold zci
 by_cases h:S.contains s=true
 rw [if_pos h];have:s∈S:=by simpa using h
 constructor
 exact .inr;rintro (rfl|h);exact this;exact h;rw [if_neg h];simp;exact Or.comm
theorem zj0 {s:Str} {S:List Str} (h:S.Nodup):(zci s S).Nodup:=by
 unfold zci
 by_cases hc:S.contains s=true
 rw [if_pos hc];exact h;rw [if_neg hc];exact List.nodup_append.2 ⟨h,by simp,fun a ha b hb=>by simp at hb;subst hb;intro e;subst e;simp at hc;exact hc ha⟩
theorem zxe (s:Str) (S:List Str):(zci s S).length<=S.length+1:=by
 unfold zci;split
 omega
 simp
structure LnOk (q:LnS) (n:Nat):Prop where
 c:ANodup q.c
 S:q.S.Nodup
 k: ∀s∈q.S,s.length<=40
 cl:q.c.length<=n
 Sl:q.S.length<=n
 bd: ∀e∈q.c,-(100000*(n:Int))<=e.2/\e.2<=100000*(n:Int)
theorem LnOk.val {q:LnS} {n:Nat} (h:LnOk q n) (s:Of2): -(100000*(n:Int))<=(alk s q.c).getD 0/\(alk s q.c).getD 0<=100000*(n:Int):=by
 cases hq:alk s q.c with
 |none=>simp;omega
 |some v=>exact h.bd _ (zbR hq)
theorem LnOk.put {q:LnS} {n:Nat} (h:LnOk q n) {p:Play} (hp:playFault p=0):LnOk (zCi q p) (n+1):=by
 obtain ⟨_,_,_,_,⟨_,k2,_⟩,hb,_⟩:=zfd hp;have hv:=h.val (p.Player,p.Stat);refine ⟨h.c.put,zj0 h.S,fun s hs=> ?_,Ar (zmh _ _ _) (by have:=h.cl;omega),Ar (zxe _ _) (by have:=h.Sl;omega),fun e he=> ?_⟩
 rcases zkR.1 hs with rfl|hs
 exact zwR k2;exact h.k s hs
 rcases zdb he with rfl|he
 dsimp only;omega
 have:=h.bd e he;omega
theorem LnOk.up {q:LnS} {n:Nat} (h:LnOk q n):LnOk q (n+1):=
 ⟨h.c,h.S,h.k,by have:=h.cl;omega,by have:=h.Sl;omega,fun e he=>by have:=h.bd e he;omega⟩
theorem zwW {l:List Play} {trust:List Str} {week n:Int}: ∀(m:List Play) (q:LnS) (i:Nat),LnOk q i->(∀x∈m,playFault x=0)->LnOk (m.foldl (zie l trust week n) q) (i+m.length)
 |[],q,i,h,_=>h
 |x::m,q,i,h,hm=>by
   have h1:LnOk (zie l trust week n q x) (i+1):=by
    unfold zie;split;exact h.put (hm x Al);exact h.up
   have:=zwW (l:=l) (trust:=trust) (week:=week) (n:=n) m _ (i+1) h1 fun y hy=>hm y (Ao _ hy)
   rw [Bt,Aj,show i+(m.length+1)=i+1+m.length by omega];exact this
theorem zup {l m:List Play} {trust:List Str} {week n:Int} (hm: ∀x∈m,playFault x=0):LnOk (zcM l trust week n m) m.length:=by
 have:=zwW (l:=l) (trust:=trust) (week:=week) (n:=n) m ⟨[],[]⟩ 0 ⟨ANodup.nil,Bz,(fun s h=>by cases h),Ae _,Ae _,fun e h=>by cases h⟩ hm;rw [Bn] at this;exact this
theorem zAE {l:List Play} {O:List (Str×Str)} {trust:List Str} {week n:Int} {x:Play} (hO: ∀m,alk m O=zpF l trust n m)
 (h:(((n<x.At\/¬x.Week=week)\/0<x.Undo)\/(alk (x.Source,x.No) (zni l n)).getD false=true)\/¬(alk x.Match O).getD []=x.Source):zo1 l trust week n x=false:=by
 rw [hO] at h;simp only [zo1,zve,Bool.not_eq_false',Bk,decide_eq_true_eq,bne_iff_ne,ne_eq];exact h
theorem zAF {l:List Play} {O:List (Str×Str)} {trust:List Str} {week n:Int} {x:Play} (hO: ∀m,alk m O=zpF l trust n m)
 (h:(((x.At<=n/\x.Week=week)/\x.Undo<=0)/\(alk (x.Source,x.No) (zni l n)).getD false=false)/\(alk x.Match O).getD []=x.Source):zo1 l trust week n x=true:=by
 rw [hO] at h;obtain ⟨⟨⟨⟨h1,h2⟩,h3⟩,h4⟩,h5⟩:=h;simp only [zo1,zve,h4,h5,h2,BY,Bc,decide_eq_false_iff_not,bne_self_eq_false,and_true]
 omega
def zi3 (l:List Play) (t:List Str) (week n:Int):Int:=if orI [zcj l,zb5 t] !=0 then orI [zcj l,zb5 t] else if !(za4 week)|| !(zac n) then 1 else zid l t week n
def zi4 (l:List Play) (t:List Str) (week n:Int):List LineS:=if orI [zcj l,zb5 t] !=0 then [] else if !(za4 week)|| !(zac n) then [] else zea l t week n
theorem okPT {l:List Play} {t:List Str} (h:orI [zcj l,zb5 t]=0):zcj l=0/\zb5 t=0:=by
 rw [zeo] at h;split at h
 contradiction
 rename_i h1;exact ⟨by simpa using h1,h⟩
end
section
structure MendS where
 Player:Str
 Week:Int
 Stat:Str
 Count:Int
 At:Int
 Version:Int
 By:Str
abbrev zbY (x:MendS):HVal:= .agg [.str x.Player,.int .i64 x.Week,.str x.Stat,.int .i64 x.Count,.int .i64 x.At,.int .i64 x.Version,.str x.By]
abbrev zcy (l:List MendS):HVal:= .slice 7 (l.map zbY)
abbrev Plc:=Str×Int
abbrev zg3 (x:Plc):HVal:= .agg [.str x.1,.int .i64 x.2]
def zeZ:MendS:=⟨[],0,[],0,0,0,[]⟩
def zei:StatS:=⟨[],0⟩
def zjS:LineS:=⟨[],0,[]⟩
def zeV (a b:MendS):Int:=orI [zZ a.Player b.Player,zab a.Week b.Week,zZ a.Stat b.Stat,zab a.Version b.Version]
def zdm (a b:LineS):Int:=orI [zZ a.Player b.Player,zab a.Week b.Week]
section
variable {α:Type}
def zaW (f:α->Int) (c:α->α->Int) (d:α) (l:List α):Nat->List α->Int
 |_,[]=>0
 |k,x::r=>if f x≠0 then f x else if 0<k/\c x (l.getD (k-1) d)<=0 then 7 else zaW f c d l (k+1) r
theorem zkH {f:α->Int} {c:α->α->Int} {d:α} {l:List α} {k:Nat} {x:α} {r:List α} (h1:f x=0) (h2:0<k->¬c x (l.getD (k-1) d)<=0):zaW f c d l k (x::r)=zaW f c d l (k+1) r:=by
 rw [zaW,if_neg (by simp [h1]),if_neg (fun h=>h2 h.1 h.2)]
theorem zoE {f:α->Int} {c:α->α->Int} {d:α} {l:List α} {k:Nat} {x:α} {r:List α} (h1:f x≠0):zaW f c d l k (x::r)=f x:=by
 rw [zaW,if_pos h1]
theorem zoF {f:α->Int} {c:α->α->Int} {d:α} {l:List α} {k:Nat} {x:α} {r:List α} (h1:f x=0) (h0:0<k) (h2:c x (l.getD (k-1) d)<=0):zaW f c d l k (x::r)=7:=by
 rw [zaW,if_neg (by simp [h1]),if_pos ⟨h0,h2⟩]
theorem zhP {f:α->Int} {c:α->α->Int} {d:α} {l:List α}: ∀(r:List α) (k:Nat),zaW f c d l k r=0->∀x∈r,f x=0
 |[],_,_,x,hx=>by cases hx
 |p::r,k,h,x,hx=>by
   rw [zaW] at h
   split at h
   contradiction
   split at h
   omega
   rename_i h1 _
   rcases List.mem_cons.1 hx with rfl|hx
   simpa using h1
   exact zhP r (k+1) h x hx
theorem zs0 {f:α->Int} {c:α->α->Int} {d:α} (hc:Cmp c fun _=>True): ∀(r:List α) (l:List α) (k:Nat),l.drop k=r->k<=l.length->(l.take k).Pairwise (fun a b=>c a b<0)->zaW f c d l k r=0->l.Pairwise (fun a b=>c a b<0)
 |[],l,k,hd,hk,hp,_=>by
   have h1:l.length<=k:=by simpa using hd
   rw [A4 h1] at hp;exact hp
 |x::r,l,k,hd,hk,hp,h=>by
   rw [zaW] at h
   split at h
   contradiction
   split at h
   omega
   rename_i h2
   have hx:l[k]? =some x:=by have:=congrArg (fun q:List α=>q[0]?) hd;simpa using this
   have hlt:=zm hx;refine zs0 hc r l (k+1) (by rw [<-AZ (i:=1),hd];rfl) hlt ?_ h
   rw [zR hx];refine List.pairwise_append.2 ⟨hp,List.pairwise_singleton _ _,fun a ha b hb=> ?_⟩
   obtain rfl:=List.mem_singleton.1 hb;obtain ⟨i,hi⟩:=Bd ha;have hik:i<k:=by have:=zm hi;rw [Am] at this;omega
   have hy:l[k-1]? =some (l.getD (k-1) d):=getD_some (by omega);have h3:c (l.getD (k-1) d) b<0:=by
    rw [hc.flip _ _ trivial trivial];have: ¬c b (l.getD (k-1) d)<=0:=fun e=>h2 ⟨by omega,e⟩
    omega
   rcases AE i (k-1) with hlt'|hge
   have hyk:(l.take k)[k-1]? =some (l.getD (k-1) d):=by rw [AD (by omega)];exact hy
   have h4:c a (l.getD (k-1) d)<0:=by
    have hi2:=zm hi;have hk2:=zm hyk;have:=List.pairwise_iff_getElem.1 hp i (k-1) hi2 hk2 hlt';rw [Aa hi2] at hi;rw [Aa hk2] at hyk;rw [Ay hi,Ay hyk] at this;exact this
   have h5:=hc.trans a (l.getD (k-1) d) b trivial trivial trivial (by omega) (by omega);have f1:=hc.flip a (l.getD (k-1) d) trivial trivial;have f2:=hc.flip (l.getD (k-1) d) b trivial trivial;have f3:=hc.flip a b trivial trivial;have f4:=hc.flip b a trivial trivial
   rcases Int.lt_or_eq_of_le h5 with e|e
   exact e
   exfalso
   have:=hc.trans b a (l.getD (k-1) d) trivial trivial trivial (by omega) (by omega)
   omega
   have e:i=k-1:=by omega
   rw [e,AD (by omega),hy] at hi;rw [<-Ay hi];exact h3
theorem zjN {f:α->Int} {c:α->α->Int} {d:α} (hc:Cmp c fun _=>True) {l:List α} (h:zaW f c d l 0 l=0):l.Pairwise (fun a b=>c a b<0):=
 zs0 hc l l 0 rfl (Ad _) (by simp) h
theorem zrc {f:α->Int} {c:α->α->Int} {d:α} (hc:Cmp c fun _=>True) {l:List α} (hf: ∀x∈l,f x=0) (hp:l.Pairwise (fun a b=>c a b<0)): ∀(r:List α) (k:Nat),l.drop k=r->zaW f c d l k r=0
 |[],_,_=>rfl
 |x::r,k,hd=>by
   have hx:l[k]? =some x:=by have:=congrArg (fun q:List α=>q[0]?) hd;simpa using this
   have hlt:=zm hx;rw [zkH (hf x (Ab hx)) (fun h0 h=> ?_)];exact zrc hc hf hp r (k+1) (by rw [<-AZ (i:=1),hd];rfl);have hy:l[k-1]? =some (l.getD (k-1) d):=getD_some (by omega);have hk1:k-1<l.length:=by omega
   have:=List.pairwise_iff_getElem.1 hp (k-1) k hk1 hlt (by omega);rw [Aa hlt] at hx;rw [Aa hk1] at hy;rw [Ay hx,Ay hy] at this;have f1:=hc.flip (l.getD (k-1) d) x trivial trivial
   omega
theorem zdU {c d:α->α->Int} (hc:Cmp c fun _=>True) (hd:Cmp d fun _=>True):Cmp (fun a b=>if c a b≠0 then c a b else d a b) fun _=>True where
 flip x y _ _:=by
  have f1:=hc.flip x y trivial trivial;have f2:=hc.flip y x trivial trivial;have f3:=hd.flip x y trivial trivial
  by_cases h:c x y=0
  have h':c y x=0:=by omega
  rw [if_neg (by simp [h]),if_neg (by simp [h'])];exact f3;have h':c y x≠0:=by omega
  rw [if_pos h,if_pos h'];exact f1
 trans x y z _ _ _ h1 h2:=by
  have fxy:=hc.flip x y trivial trivial;have fyx:=hc.flip y x trivial trivial;have fyz:=hc.flip y z trivial trivial;have fzy:=hc.flip z y trivial trivial;have fxz:=hc.flip x z trivial trivial;have fzx:=hc.flip z x trivial trivial;have a1:c x y<=0:=by split at h1<;>omega
  have a2:c y z<=0:=by split at h2<;>omega
  have a3:=hc.trans x y z trivial trivial trivial a1 a2
  by_cases h:c x z=0
  have b1:=hc.trans z x y trivial trivial trivial (by omega) a1;have b2:=hc.trans y z x trivial trivial trivial a2 (by omega);have e1:c x y=0:=by omega
  have e2:c y z=0:=by omega
  rw [if_neg (by simp [e1])] at h1;rw [if_neg (by simp [e2])] at h2;rw [if_neg (by simp [h])];exact hd.trans x y z trivial trivial trivial h1 h2;rw [if_pos h];exact a3
theorem zgK (f:α->Str):Cmp (fun a b=>zZ (f a) (f b)) fun _=>True where
 flip x y _ _:=by rw [zfk (f x) (f y)];omega
 trans x y z _ _ _ h1 h2:=zjO h1 h2
theorem zfN (f:α->Int):Cmp (fun a b=>zab (f a) (f b)) fun _=>True where
 flip x y _ _:=by rw [zlq (f x) (f y)];omega
 trans x y z _ _ _ h1 h2:=by rw [zwD] at*;omega
theorem zDk (a:Int):orI [a]=a:=by
 by_cases h:a=0<;>simp [orI,h]
theorem zfx (a b:Int) (r:List Int):orI (a::b::r)=if a≠0 then a else orI (b::r):=by rw [orI]
end
theorem zhI:Cmp zeV fun _=>True:=by
 have h:=zdU (zgK MendS.Player) (zdU (zfN MendS.Week) (zdU (zgK MendS.Stat) (zfN MendS.Version)));have e:zeV=fun a b=>if zZ a.Player b.Player≠0 then zZ a.Player b.Player else if zab a.Week b.Week≠0 then zab a.Week b.Week else if zZ a.Stat b.Stat≠0 then zZ a.Stat b.Stat else zab a.Version b.Version:=by
  funext a b;unfold zeV;rw [zfx,zfx,zeo]
 rw [e];exact h
theorem zkn:Cmp zdm fun _=>True:=by
 have h:=zdU (zgK LineS.Player) (zfN LineS.Week);have e:zdm=fun a b=>if zZ a.Player b.Player≠0 then zZ a.Player b.Player else zab a.Week b.Week:=by
  funext a b;unfold zdm;rw [zeo]
 rw [e];exact h
theorem zw2 {a b:Int} (h:(if a≠0 then a else b)=0):a=0/\b=0:=by
 split at h
 contradiction
 rename_i h1;exact ⟨by simpa using h1,h⟩
theorem zog {a b:LineS}:zdm a b=0↔a.Player=b.Player/\a.Week=b.Week:=by
 unfold zdm;rw [zeo]
 constructor
 intro h
 obtain ⟨h1,h2⟩:=zw2 h;exact ⟨zbs.1 h1,zcW.1 h2⟩;rintro ⟨h1,h2⟩;rw [if_neg (by simp [zbs.2 h1]),zcW.2 h2]
theorem zvh (a b:Str):(Op.bytesLess a b||a==b)=decide (zZ a b<=0):=by
 rw [AF,decide_eq_true_iff,zj7]
 rcases zcf a b with h|h|h
 simp [h,zbU h]
 subst h;simp [zaz];have hne:a≠b:=fun e=>by subst e;rw [zaz] at h;cases h
 simp [h,zbU h,hne]
/-! what is wrong-/
def zaP (x:MendS):Int:=
 if !(key x.Player)|| !(key x.Stat)|| !(key x.By) then 5
 else if !(za4 x.Week)||out x.Count (-100000) 100000|| !(zac x.At)||out x.Version 1 1000 then 1 else 0
def zbH (m:List MendS):Int:=if 500<m.length then 2 else zaW zaP zeV zeZ m 0 m
def zal (s:StatS):Int:=if !(key s.Name) then 5 else if out s.Count (-100000) 100000||decide (s.Count=0) then 1 else 0
def za7 (l:List StatS):Int:=if 40<l.length then 2 else zaW zal zbc zei l 0 l
def zaa (x:LineS):Int:=if !(key x.Player) then 5 else if !(za4 x.Week) then 1 else za7 x.Stats
def zaC (l:List LineS):Int:=if 30000<l.length then 2 else zaW zaa zdm zjS l 0 l
theorem zvp {x:MendS} (h:zaP x=0):key x.Player=true/\key x.Stat=true/\za4 x.Week=true/\(-100000<=x.Count/\x.Count<=100000)/\zac x.At=true:=by
 unfold zaP at h
 split at h
 omega
 split at h
 omega
 rename_i h1 h2
 simp only [Bk,BY,not_or,Bool.not_eq_false,Bool.not_eq_true] at h1 h2;exact ⟨h1.1.1,h1.1.2,h2.1.1.1,zfy h2.1.1.2,h2.1.2⟩
theorem zto {m:List MendS} (h:zbH m=0):m.length<=500/\(∀x∈m,zaP x=0)/\m.Pairwise (fun a b=>zeV a b<0):=by
 unfold zbH at h
 split at h
 omega
 exact ⟨by omega,zhP m 0 h,zjN zhI h⟩
theorem zff {s:StatS}:zal s=0↔key s.Name=true/\(-100000<=s.Count/\s.Count<=100000)/\s.Count≠0:=by
 unfold zal
 constructor
 intro h
 split at h
 omega
 split at h
 omega
 rename_i h1 h2
 simp only [Bk,not_or,Bool.not_eq_true,decide_eq_true_eq] at h2;exact ⟨by simpa using h1,zfy h2.1,h2.2⟩;rintro ⟨h1,h2,h3⟩;have h4:out s.Count (-100000) 100000=false:=by simp [out];omega
 rw [h1,h4];simp [h3]
theorem ztJ {l:List StatS} (h:za7 l=0):l.length<=40/\(∀x∈l,zal x=0)/\l.Pairwise (fun a b=>zbc a b<0):=by
 unfold za7 at h
 split at h
 omega
 exact ⟨by omega,zhP l 0 h,zjN zdv h⟩
theorem ztI {l:List StatS} (h1:l.length<=40) (h2: ∀x∈l,zal x=0) (h3:l.Pairwise (fun a b=>zbc a b<0)):za7 l=0:=by
 unfold za7;rw [if_neg (by omega)];exact zrc zdv h2 h3 l 0 rfl
theorem zfc {x:LineS}:zaa x=0↔key x.Player=true/\za4 x.Week=true/\za7 x.Stats=0:=by
 unfold zaa
 constructor
 intro h
 split at h
 omega
 split at h
 omega
 rename_i h1 h2
 exact ⟨by simpa using h1,by simpa using h2,h⟩;rintro ⟨h1,h2,h3⟩;rw [h1,h2];simp [h3]
theorem zgR {l:List LineS} (h:zaC l=0):l.length<=30000/\(∀x∈l,zaa x=0)/\l.Pairwise (fun a b=>zdm a b<0):=by
 unfold zaC at h
 split at h
 omega
 exact ⟨by omega,zhP l 0 h,zjN zkn h⟩
theorem zru {l:List LineS} (h1:l.length<=30000) (h2: ∀x∈l,zaa x=0) (h3:l.Pairwise (fun a b=>zdm a b<0)):zaC l=0:=by
 unfold zaC;rw [if_neg (by omega)];exact zrc zkn h2 h3 l 0 rfl
/-! as a walk tells it-/
theorem zlz {m r:List MendS} {k:Nat} {x:MendS} {c:Int} (hl: ¬500<m.length) (hg:zaW zaP zeV zeZ m 0 m=zaW zaP zeV zeZ m k (x::r)) (hc:c≠0) (hf:zaP x=c):c=zbH m:=by
 rw [zbH,if_neg hl,hg,zoE (by rw [hf];exact hc),hf]
theorem ztp {m r:List MendS} {k:Nat} {x:MendS} (hl: ¬500<m.length) (hg:zaW zaP zeV zeZ m 0 m=zaW zaP zeV zeZ m k (x::r)) (hf:zaP x=0) (h0:0<k) (h:zeV x (m.getD (k-1) zeZ)<=0):7=zbH m:=by
 rw [zbH,if_neg hl,hg,zoF hf h0 h]
theorem zdT {l r:List StatS} {k:Nat} {x:StatS} {c:Int} (hl: ¬40<l.length) (hg:zaW zal zbc zei l 0 l=zaW zal zbc zei l k (x::r)) (hc:c≠0) (hf:zal x=c):c=za7 l:=by
 rw [za7,if_neg hl,hg,zoE (by rw [hf];exact hc),hf]
theorem zjn {l r:List StatS} {k:Nat} {x:StatS} (hl: ¬40<l.length) (hg:zaW zal zbc zei l 0 l=zaW zal zbc zei l k (x::r)) (hf:zal x=0) (h0:0<k) (h:(Op.bytesLess x.Name (l.getD (k-1) zei).Name||x.Name==(l.getD (k-1) zei).Name)=true):7=za7 l:=by
 rw [zvh,decide_eq_true_iff] at h;rw [za7,if_neg hl,hg,zoF hf h0 h]
theorem zyv {l r:List StatS} {k:Nat} {x:StatS} (hf:zal x=0) (h:0<k->(Op.bytesLess x.Name (l.getD (k-1) zei).Name||x.Name==(l.getD (k-1) zei).Name)=false):zaW zal zbc zei l k (x::r)=zaW zal zbc zei l (k+1) r:=
 zkH hf fun h0 hle=>by
  have:=h h0;rw [zvh,decide_eq_false_iff_not] at this;exact this hle
theorem zbt {l r:List LineS} {k:Nat} {x:LineS} {c:Int} (hl: ¬30000<l.length) (hg:zaW zaa zdm zjS l 0 l=zaW zaa zdm zjS l k (x::r)) (hc:c≠0) (hf:zaa x=c):c=zaC l:=by
 rw [zaC,if_neg hl,hg,zoE (by rw [hf];exact hc),hf]
theorem zhU {l r:List LineS} {k:Nat} {x:LineS} (hl: ¬30000<l.length) (hg:zaW zaa zdm zjS l 0 l=zaW zaa zdm zjS l k (x::r)) (hf:zaa x=0) (h0:0<k) (h:zdm x (l.getD (k-1) zjS)<=0):7=zaC l:=by
 rw [zaC,if_neg hl,hg,zoF hf h0 h]
end
section
open Op
structure PlayerS where
 Key:Str
 Name:Str
 Positions:List Str
structure StintS where
 Player:Str
 Club:Str
 Week:Int
structure HealthS where
 Player:Str
 From:Int
 To:Int
 Kind:Int
structure FixS where
 Week:Int
 At:Int
 Home:Str
 Away:Str
structure RuleS where
 Key:Str
 Stat:Str
 Position:Str
 Kind:Int
 Many:Int
 Num:Int
 Den:Int
structure SlotS where
 Key:Str
 Positions:List Str
structure BoundS where
 Most:Int
 Hurt:Int
 Adds:Int
 Hold:Int
structure MoveS where
 At:Int
 Kind:Int
 Team:Str
 Player:Str
structure GameS where
 Week:Int
 Home:Str
 Away:Str
 Played:Bool
 FNum:Int
 FDen:Int
 ONum:Int
 ODen:Int
structure ChoiceS where
 Team:Str
 Week:Int
 At:Int
 Players:List Str
 Captain:Str
structure LeagueS where
 Players:List PlayerS
 Stints:List StintS
 Fixtures:List FixS
 Rules:List RuleS
 Slots:List SlotS
 Bounds:BoundS
 Teams:List Str
 Games:List GameS
 Breaks:List Int
 Trust:List Str
 Start:Int
def HasAB (T:List Str):Prop:=T.contains [116,97]=true/\T.contains [116,98]=true
theorem HasAB.app {T:List Str} (h:HasAB T) (U:List Str):HasAB (T++U):=by
 unfold HasAB at*;simp only [BJ,decide_eq_true_eq,Cg] at*;exact ⟨.inl h.1,.inl h.2⟩
abbrev ze7 (x:PlayerS):HVal:= .agg [.str x.Key,.str x.Name,eSs x.Positions]
abbrev zbm (l:List PlayerS):HVal:= .slice 3 (l.map ze7)
abbrev zdo (x:StintS):HVal:= .agg [.str x.Player,.str x.Club,.int .i64 x.Week]
abbrev zfP (l:List StintS):HVal:= .slice 3 (l.map zdo)
abbrev zcx (x:HealthS):HVal:= .agg [.str x.Player,.int .i64 x.From,.int .i64 x.To,.int .i64 x.Kind]
abbrev zcI (l:List HealthS):HVal:= .slice 4 (l.map zcx)
abbrev za2 (x:FixS):HVal:= .agg [.int .i64 x.Week,.int .i64 x.At,.str x.Home,.str x.Away]
abbrev znb (l:List FixS):HVal:= .slice 4 (l.map za2)
abbrev zpu (x:RuleS):HVal:= .agg [.str x.Key,.str x.Stat,.str x.Position,.int .i64 x.Kind,.int .i64 x.Many,.int .i64 x.Num,.int .i64 x.Den]
abbrev zgp (l:List RuleS):HVal:= .slice 7 (l.map zpu)
abbrev zbZ (x:SlotS):HVal:= .agg [.str x.Key,eSs x.Positions]
abbrev ze8 (l:List SlotS):HVal:= .slice 2 (l.map zbZ)
abbrev zgo (x:BoundS):HVal:= .agg [.int .i64 x.Most,.int .i64 x.Hurt,.int .i64 x.Adds,.int .i64 x.Hold]
abbrev zdu (x:MoveS):HVal:= .agg [.int .i64 x.At,.int .i64 x.Kind,.str x.Team,.str x.Player]
abbrev zcJ (l:List MoveS):HVal:= .slice 4 (l.map zdu)
abbrev zam (x:GameS):HVal:= .agg [.int .i64 x.Week,.str x.Home,.str x.Away,.bool x.Played,.int .i64 x.FNum,.int .i64 x.FDen,.int .i64 x.ONum,.int .i64 x.ODen]
abbrev zb3 (l:List GameS):HVal:= .slice 8 (l.map zam)
abbrev zaq (x:ChoiceS):HVal:= .agg [.str x.Team,.int .i64 x.Week,.int .i64 x.At,eSs x.Players,.str x.Captain]
abbrev zkJ (l:List ChoiceS):HVal:= .slice 5 (l.map zaq)
abbrev zCC (g:LeagueS):List HVal:=[zbm g.Players,zfP g.Stints,znb g.Fixtures,zgp g.Rules,ze8 g.Slots,.int .i64 g.Bounds.Most,.int .i64 g.Bounds.Hurt,.int .i64 g.Bounds.Adds,.int .i64 g.Bounds.Hold,eSs g.Teams,zb3 g.Games,eIs g.Breaks,eSs g.Trust,.int .i64 g.Start]
abbrev zfO (g:LeagueS):HVal:= .agg (zCC g)
def zex:PlayerS:=⟨[],[],[]⟩
def zfJ:StintS:=⟨[],[],0⟩
def zgP:HealthS:=⟨[],0,0,0⟩
def zl1:FixS:=⟨0,0,[],[]⟩
def zlC:RuleS:=⟨[],[],[],0,0,0,0⟩
def zfA:SlotS:=⟨[],[]⟩
def zjT:MoveS:=⟨0,0,[],[]⟩
def zeg:GameS:=⟨0,[],[],false,0,0,0,0⟩
def zfM:ChoiceS:=⟨[],0,0,[],[]⟩
/-! lists looked through element by element,each with the one ahead-/
section
variable {α:Type}
def za1 (g:Nat->α->α->Int) (d:α) (l:List α):Nat->List α->Int
 |_,[]=>0
 |k,x::r=>if g k x (l.getD (k-1) d)≠0 then g k x (l.getD (k-1) d) else za1 g d l (k+1) r
def zen (n:Nat) (g:Nat->α->α->Int) (d:α) (l:List α):Int:=if n<l.length then 2 else za1 g d l 0 l
variable {g:Nat->α->α->Int} {d:α} {l r:List α} {k n:Nat} {x:α} {e:Int}
theorem zaZ (h:g k x (l.getD (k-1) d)=0):za1 g d l k (x::r)=za1 g d l (k+1) r:=by rw [za1,if_neg (fun q=>q h)]
theorem zbN (h:n<l.length):2=zen n g d l:=by rw [zen,if_pos h]
theorem zbB (hn: ¬n<l.length) (hg:za1 g d l 0 l=za1 g d l l.length []):0=zen n g d l:=by rw [zen,if_neg hn,hg];rfl
theorem zA (hn: ¬n<l.length) (hg:za1 g d l 0 l=za1 g d l k (x::r)) (he:g k x (l.getD (k-1) d)=e) (h0:e≠0):e=zen n g d l:=by
 rw [zen,if_neg hn,hg,za1,if_pos (by rw [he];exact h0),he]
theorem zuY: ∀{r:List α} {k:Nat},l.drop k=r->za1 g d l k r=0->∀(i:Nat) (x:α),k<=i->l[i]? =some x->g i x (l.getD (i-1) d)=0
 |[],k,hd,_,i,x,hi,hx=>by
   have h1:l.length<=k:=by simpa using hd
   have:=zm hx
   omega
 |y::r,k,hd,h,i,x,hi,hx=>by
   rw [za1] at h
   split at h
   contradiction
   rename_i h0
   rcases Nat.eq_or_lt_of_le hi with e|e
   subst e;have:l[k]? =some y:=by have:=congrArg (fun q:List α=>q[0]?) hd;simpa using this
   rw [this] at hx;cases hx
   simpa using h0
   exact zuY (by rw [<-AZ (i:=1),hd];rfl) h i x e hx
theorem zfS (h:zen n g d l=0):l.length<=n/\∀(i:Nat) (x:α),l[i]? =some x->g i x (l.getD (i-1) d)=0:=by
 unfold zen at h
 split at h
 contradiction
 exact ⟨by omega,fun i x hx=>zuY (k:=0) rfl h i x (Ad _) hx⟩
end
/-! what is wrong-/
abbrev leB (a b:Str):Bool:=bytesLess a b||a==b
def zdq (l:List Str):Int:=if l.length=0 then 8 else if 10<l.length then 2 else zdV l
def zcS (k:Nat) (x p:PlayerS):Int:=if key x.Key=false then 5 else if 0<k/\leB x.Key p.Key=true then 7 else zdq x.Positions
def zcP (l:List PlayerS):Int:=zen 500 zcS zex l
def zgO (l:List PlayerS) (s:Str):Bool:=(l.map (·.Key)).contains s
def zd6 (L:List PlayerS) (k:Nat) (x p:StintS):Int:=
 if zgO L x.Player=false then 8 else if x.Club≠[]/\key x.Club=false then 5 else if za4 x.Week=false then 1
 else if 0<k/\orI [zZ x.Player p.Player,zab x.Week p.Week]<=0 then 7 else 0
def zjz (L:List PlayerS) (l:List StintS):Int:=zen 1000 (zd6 L) zfJ l
def zkX (L:List PlayerS) (l:List StintS):Int:=if zcP L≠0 then zcP L else zjz L l
def zce (L:List PlayerS) (k:Nat) (x p:HealthS):Int:=
 if zgO L x.Player=false then 8 else if out x.To 2 61=true\/out x.From 1 (x.To-1)=true then 1 else if out x.Kind 1 2=true then 4
 else if 0<k/\orI [zZ x.Player p.Player,zab x.From p.From]<=0 then 7 else if 0<k/\x.Player=p.Player/\x.From<p.To then 13 else 0
def zsy (L:List PlayerS) (l:List HealthS):Int:=zen 1000 (zce L) zgP l
def zoX (L:List PlayerS) (l:List HealthS):Int:=if zcP L≠0 then zcP L else zsy L l
def zgq (k:Nat) (x p:FixS):Int:=
 if za4 x.Week=false\/zac x.At=false then 1 else if key x.Home=false\/key x.Away=false then 5 else if x.Home=x.Away then 6
 else if 0<k/\orI [zab x.Week p.Week,zab x.At p.At,zZ x.Home p.Home]<=0 then 7 else 0
def zjs (l:List FixS):Int:=zen 1000 zgq zl1 l
def znm (n d:Int):Bool:=Nat.gcd n.natAbs d.natAbs==1
def zbA (n d most:Int):Int:=if d<1\/znm n d=false then 3 else if (100:Int).tmod d≠0\/out n (-most*d) (most*d)=true then 1 else 0
def zrv (k:Int):Bool:=k==2||k==3
def zef (k:Nat) (x p:RuleS):Int:=
 if (key x.Key=false\/key x.Stat=false)\/x.Position≠[]/\key x.Position=false then 5 else if 0<k/\leB x.Key p.Key=true then 7
 else if out x.Kind 1 4=true then 4 else if zrv x.Kind=true/\out x.Many 1 100000=true\/zrv x.Kind=false/\x.Many≠0 then 1
 else zbA x.Num x.Den 10000
def zg5 (l:List RuleS):Int:=zen 100 zef zlC l
def zcQ (l:List SlotS):Nat->List SlotS->Int
 |_,[]=>0
 |k,x::r=>if key x.Key=false then 5 else if ((l.take k).any fun y=>y.Key==x.Key)=true then 6 else if zdq x.Positions≠0 then zdq x.Positions else zcQ l (k+1) r
def zdK (l:List SlotS):Int:=if l.length=0 then 8 else if 12<l.length then 2 else zcQ l 0 l
def zdZ (b:BoundS):Int:=if ((out b.Most 1 20=true\/out b.Hurt 0 20=true)\/out b.Adds 0 2000=true)\/out b.Hold 0 1209600000=true then 1 else 0
def zhh (a b:MoveS):Int:=orI [zab a.At b.At,zZ a.Team b.Team,zZ a.Player b.Player,zab a.Kind b.Kind]
def zeW (k:Nat) (x p:MoveS):Int:=
 if zac x.At=false then 1 else if out x.Kind 1 4=true then 4 else if key x.Team=false\/key x.Player=false then 5
 else if 0<k/\zhh x p<=0 then 7 else 0
def zgv (l:List MoveS):Int:=zen 2000 zeW zjT l
def zdr (l:List Str):Int:=if 20<l.length then 2 else if l.length<2 then 8 else zdV l
def zgG (a b:GameS):Int:=orI [zab a.Week b.Week,zZ a.Home b.Home,zZ a.Away b.Away]
def zgr (x:GameS):Int:=
 if x.Played=false then (if ¬(x.FNum=0/\x.FDen=0)\/¬(x.ONum=0/\x.ODen=0) then 3 else 0)
 else if zbA x.FNum x.FDen 1000000=3\/zbA x.ONum x.ODen 1000000=3 then 3 else orI [zbA x.FNum x.FDen 1000000,zbA x.ONum x.ODen 1000000]
def zcd (T:List Str) (k:Nat) (x p:GameS):Int:=
 if za4 x.Week=false then 1 else if T.contains x.Home=false\/T.contains x.Away=false then 8 else if x.Home=x.Away then 6
 else if zgr x≠0 then zgr x else if 0<k/\zgG x p<=0 then 7 else 0
def zjg (x y:GameS):Bool:=y.Week==x.Week&&(y.Home==x.Home||y.Home==x.Away||y.Away==x.Home||y.Away==x.Away)
def zd5 (l:List GameS):Nat->List GameS->Bool
 |_,[]=>false
 |k,x::r=>(l.take k).any (zjg x)||zd5 l (k+1) r
def zd7 (T:List Str) (l:List GameS):Int:=if zen 1000 (zcd T) zeg l≠0 then zen 1000 (zcd T) zeg l else if zd5 l 0 l=true then 13 else 0
def zc7 (T:List Str) (l:List GameS):Int:=if zdr T≠0 then zdr T else zd7 T l
def zbW (l:List Int):Nat->List Int->Int
 |_,[]=>0
 |k,n::r=>if out n 1 5=true then 4 else if (l.take k).contains n=true then 6 else zbW l (k+1) r
def zd0 (l:List Int):Int:=if 5<l.length then 2 else zbW l 0 l
end
section
section
variable {α:Type}
def Srt (c:α->α->Int) (l:List α):Prop:=l.Pairwise fun a b=>c a b<=0
theorem Cmp.self {c:α->α->Int} (hc:Cmp c fun _=>True) (x:α):c x x<=0:=by
 have:=hc.flip x x trivial trivial;omega
theorem Srt.get {c:α->α->Int} (hc:Cmp c fun _=>True) {l:List α} (h:Srt c l) {i j:Nat} {x y:α} (hij:i<=j) (hx:l[i]? =some x) (hy:l[j]? =some y):c x y<=0:=by
 rcases AE i j with hlt|hge
 have h1:=zm hx;have h2:=zm hy;have:=List.pairwise_iff_getElem.1 h i j h1 h2 hlt;rw [Aa h1] at hx;rw [Aa h2] at hy;rw [Ay hx,Ay hy] at this;exact this;have e:i=j:=by omega
 rw [e,hy] at hx;rw [Ay hx];exact hc.self _
theorem Srt.take {c:α->α->Int} {l:List α} (h:Srt c l) (k:Nat):Srt c (l.take k):=Cu (List.take_sublist k l) h
theorem Srt.drop {c:α->α->Int} {l:List α} (h:Srt c l) (k:Nat):Srt c (l.drop k):=Cu (List.drop_sublist k l) h
theorem Srt.nil {c:α->α->Int}:Srt c []:=List.Pairwise.nil
end
end
end Go.HL
section
namespace Go.HL
section
variable {P:Program} {ops:Array Oper} {n:Nat} {S:List MObj->Prop} {ld:List Nat} {K:Env->List MObj->Prop} {e:Env} {M:List MObj} {listed:Array Bool} {fuel:Nat} {d:Nat} {op:Op} {ty:TypeId} {pos:String} {af:Array Edge} {h:HVal}
theorem zkj [Tracks] (i:Nat) {j:Nat} {want c:Bool} (hi:ops[i]? =some ⟨some d,op,ty,pos,af,some (j,want)⟩) (hd:Nat.blt d n=true) (hf:Region.free .any ops listed i=true) (hr:(Region.ready .any ops listed).contains i=true) (hl:i∈ld) (hS:S M)
 (hg:zeD ops e j want=some c) (hp:c=true->∃e2,OpenTo e e2/\∀M,S M->EOp P e2 M ⟨some d,op,ty,pos,af,some (j,want)⟩ fun x M'=>x=h/\M'=M)
 (k:HAny P ops n S ld K fuel (listed.setIfInBounds i true) (upd e d (.opt c h)) M):HAny P ops n S ld K (fuel+1) listed e M:=
 HAny.first (T:=S) hi (fun t ht=>by simp at ht;subst ht;exact zha hd) (.inr ⟨rfl,hl⟩) fuel listed e M (Region.free_spec hi hf) (by simpa using hr)
  ⟨c,hg,fun hc M hM=>by
   obtain ⟨e2,h1,h2⟩:=hp hc
   intro I F a w ho hs
   exact za9 (fun _ _ ⟨v,x,M',J,h3,h4,⟨e1,e3⟩,h5,h6⟩=>⟨v,.opt c h,M,J,h3,h4,⟨rfl,rfl⟩,.opt (fun _=>e1▸h5) (fun hf=>by rw [hc] at hf;cases hf),e3▸h6⟩) (h2 M hM I F a w (ho.open h1) hs),
   fun hc=>⟨h,by rw [hc]⟩⟩ hS k
end
theorem zHw {x:Nat} (h:x<16):IntKind.wrap .u8 (x:Int)=(x:Int):=by
 have:(List.range 16).all (fun x=>IntKind.wrap .u8 (x:Int)==(x:Int))=true:=by decide
 simpa using List.all_eq_true.1 this x (List.mem_range.2 h)
theorem zsT {x:Nat} (h:x<16):IntKind.wrap .u64 (x:Int)=(x:Int):=by
 have:(List.range 16).all (fun x=>IntKind.wrap .u64 (x:Int)==(x:Int))=true:=by decide
 simpa using List.all_eq_true.1 this x (List.mem_range.2 h)
theorem zP {k:IntKind} {a b:Int} (h:a=b):some (HVal.int k a)=some (.int k b):=by rw [h]
section
variable {α:Type} {c:α->α->Int}
theorem zhe (l:List α):zQ c (l.take 1)++l.drop 1=l:=by
 cases l with
 |nil=>rfl
 |cons x r=>simp [zQ,zcY,znj]
theorem zc8 {A R:List α} {x:α}:(A++x::R)[A.length]? =some x:=by simp
theorem zcL {A R:List α} {x:α} (h:0<A.length):(A++x::R)[A.length-1]? =some ((A[A.length-1]?).getD x):=by
 rw [Au (by omega),Aa (by omega)]
 simp [Aa (show A.length-1<A.length by omega)]
theorem zkd {A:List α} (h:0<A.length): ∃B y,A=B++[y]:=by
 have hne:A≠[]:=fun e=>by subst e;simp at h
 exact ⟨_,_,(Bx hne).symm⟩
theorem zdp {A:List α} {y d:α}:((A++[y])[(A++[y]).length-1]?).getD d=y:=by simp
theorem zkY {A R:List α} {x y:α}:(((A++[y])++x::R).set (A++[y]).length y).set ((A++[y]).length-1) x=A++x::y::R:=by
 have e1:((A++[y])++x::R).set (A++[y]).length y=(A++[y])++y::R:=by rw [BC _ _ (Ae _)];simp
 rw [e1,AY];have e2:(A++[y]).length-1=A.length:=by simp
 rw [e2,BC _ _ (Ae _)]
 simp
theorem zkO {l A B:List α} {x:α} {k:Nat} (hx:l[k]? =some x) (hB:zcY c x (zQ c (l.take k))=zcY c x A++B) (h:0<A.length->¬c x ((A[A.length-1]?).getD x)<0):A++x::(B++l.drop (k+1))=zQ c (l.take (k+1))++l.drop (k+1):=by
 rw [zR hx,zrq,hB]
 rcases Bb A.length with h0|h0
 obtain rfl:=List.length_eq_zero_iff.1 h0
 simp [zAG]
 obtain ⟨A',y,rfl⟩:=zkd h0;have:=h h0;rw [zdp] at this;rw [zte,if_neg this];simp
theorem zkP {A B:List α} {x y:α} {S:List α} (hB:zcY c x S=zcY c x (A++[y])++B) (h:c x y<0):zcY c x S=zcY c x A++(y::B):=by
 rw [hB,zte,if_pos h];simp
end
end Go.HL
namespace Go.HL
section
variable {α:Type} {p:α->Bool}
structure DelInv (p:α->Bool) (l:List α) (j:Nat) (D:List α):Prop where
 len:D.length=l.length
 jle:j<=l.length
 lt:((l.take j).filter (fun x=> !p x)).length<j
 kept:D.take ((l.take j).filter (fun x=> !p x)).length=(l.take j).filter (fun x=> !p x)
 rest:D.drop j=l.drop j
theorem zl0 {l:List α} {j:Nat} {x:α} (hx:l[j]? =some x):(l.take (j+1)).filter (fun x=> !p x)=(l.take j).filter (fun x=> !p x)++if p x then [] else [x]:=by
 rw [zR hx,Bq]
 by_cases h:p x<;>simp [h]
theorem DelInv.get {l D:List α} {j:Nat} {x:α} (h:DelInv p l j D) (hx:l[j]? =some x):D[j]? =some x:=by
 have h1:=congrArg (fun t=>t[0]?) h.rest;simp only [AG,BO] at h1;rw [h1];exact hx
theorem DelInv.drop1 {l D:List α} {j:Nat} (h:DelInv p l j D):D.drop (j+1)=l.drop (j+1):=by
 have:=congrArg (List.drop 1) h.rest
 simpa [AZ] using this
theorem DelInv.skip {l D:List α} {j:Nat} {x:α} (h:DelInv p l j D) (hx:l[j]? =some x) (hp:p x=true):DelInv p l (j+1) D/\((l.take (j+1)).filter (fun x=> !p x)).length=((l.take j).filter (fun x=> !p x)).length:=by
 have e:=zl0 (p:=p) hx;rw [if_pos hp,A9] at e;refine ⟨⟨h.len,by have:=zm hx;omega,by rw [e];have:=h.lt;omega,by rw [e];exact h.kept,h.drop1⟩,by rw [e]⟩
theorem DelInv.keep {l D:List α} {j:Nat} {x:α} (h:DelInv p l j D) (hx:l[j]? =some x) (hp:p x=false):
 DelInv p l (j+1) (D.set ((l.take j).filter (fun x=> !p x)).length x)/\((l.take (j+1)).filter (fun x=> !p x)).length=((l.take j).filter (fun x=> !p x)).length+1:=by
 have e:=zl0 (p:=p) hx;rw [if_neg (by simp [hp])] at e;have hlt:=h.lt;have hj:=zm hx;have hl:=h.len;have el:((l.take (j+1)).filter (fun x=> !p x)).length=((l.take j).filter (fun x=> !p x)).length+1:=by rw [e];simp
 refine ⟨⟨by simp [hl],by omega,by omega,?_,?_⟩,el⟩
 rw [el,e];have hk:=h.kept
 generalize ((l.take j).filter (fun x=> !p x))=F at*
 rw [zR (BA (by omega)),List.take_set_of_le (Ae _),hk];rw [List.drop_set_of_lt (by omega)];exact h.drop1
theorem zgQ (p:α->Bool): ∀(l:List α) (k:Int),0<=k->zW p l k≠ -1->∃i:Nat,zW p l k=k+i/\i<l.length/\(∃x,l[i]? =some x/\p x=true)/\∀y∈l.take i,p y=false
 |[],k,_,h=>by simp [zW] at h
 |x::r,k,h0,h=>by
   by_cases hx:p x=true
   exact ⟨0,by simp [zW,hx],by simp,⟨x,rfl,hx⟩,by simp⟩;have e:zW p (x::r) k=zW p r (k+1):=by simp [zW,hx]
   rw [e] at h⊢;obtain ⟨i,h1,h2,⟨y,h3,h4⟩,h5⟩:=zgQ p r (k+1) (by omega) h;refine ⟨i+1,by rw [h1];simp;omega,by simp;omega,⟨y,by simpa using h3,h4⟩,fun z hz=> ?_⟩
   simp only [Cd,BS] at hz
   rcases hz with rfl|hz
   simpa using hx
   exact h5 z hz
theorem zhT (p:α->Bool): ∀(l:List α) (k:Int),0<=k->zW p l k= -1->l.filter (fun x=> !p x)=l
 |[],_,_,_=>rfl
 |x::r,k,h0,h=>by
   by_cases hx:p x=true
   simp [zW,hx] at h;omega
   have e:zW p (x::r) k=zW p r (k+1):=by simp [zW,hx]
   rw [e] at h;rw [AT,if_pos (by simp [hx]),zhT p r (k+1) (by omega) h]
theorem DelInv.start {l:List α} {i:Nat} {x:α} (hi:i<l.length) (hx:l[i]? =some x) (hp:p x=true) (hb: ∀y∈l.take i,p y=false):DelInv p l (i+1) l/\((l.take (i+1)).filter (fun x=> !p x)).length=i:=by
 have e:=zl0 (p:=p) hx;rw [if_pos hp,A9,(Cb (l:=l.take i) (p:=fun x=> !p x)).2 (fun y hy=>by simp [hb y hy])] at e;have hl:(l.take i).length=i:=by simp;omega
 refine ⟨⟨rfl,by omega,by rw [e];omega,by rw [e,hl],rfl⟩,by rw [e,hl]⟩
theorem DelInv.done {l D:List α} (h:DelInv p l l.length D):D.take (l.filter (fun x=> !p x)).length=l.filter (fun x=> !p x):=by
 have:=h.kept
 rwa [Ai] at this
end
theorem ziN {cap off sz m n:Nat} (h1:m<=n) (h2:n<=cap):n-m=0\/ziX cap off sz m=off+m*sz:=by
 unfold ziX
 by_cases h:cap=m
 exact .inl (by omega);exact .inr (by rw [if_neg h])
end Go.HL
namespace Go.HL
end Go.HL
end
namespace Go.HL
section
section
variable {α:Type} {c:α->α->Int}
def Blk (c:α->α->Int) (bs:Nat) (l:List α):Prop:= ∀q,Srt c ((l.drop (bs*q)).take bs)
theorem Blk.all {bs:Nat} {l:List α} (h:Blk c bs l) (hl:l.length<=bs):Srt c l:=by
 have:=h 0;rw [Nat.mul_zero,Cl,A4 hl] at this;exact this
theorem Blk.nil {bs:Nat}:Blk c bs []:=fun q=>by simp [Srt.nil]
theorem Blk.add {bs k:Nat} {Z W:List α} (h:Blk c bs Z) (hZ:Z.length=bs*k) (hW:Srt c W) (hl:W.length<=bs):Blk c bs (Z++W):=by
 intro q
 rcases B1 q k with hq|hq|hq
 have h1:bs*q+bs<=Z.length:=by rw [hZ,<-Nat.mul_succ];exact Nat.mul_le_mul_left bs hq
 rw [List.drop_append_of_le_length (by omega),Bw (by rw [A5];omega)];exact h q;rw [hq,<-hZ,List.drop_left,A4 hl];exact hW;have h1:Z.length+bs<=bs*q:=by rw [hZ,<-Nat.mul_succ];exact Nat.mul_le_mul_left bs hq
 rw [List.drop_of_length_le (by rw [Ax];omega)]
 simp [Srt.nil]
theorem Blk.at {bs q a:Nat} {l:List α} (h:Blk c bs l) (ha:a=bs*q):Srt c ((l.drop a).take bs):=by rw [ha];exact h q
theorem zAJ {A D:List α} {x:α} (h:0<D.length):((A++D)[(A++D).length-1]?).getD x=(D[D.length-1]?).getD x:=by
 rw [Ap (by rw [Ax];omega)]
 congr 2;rw [Ax];omega
theorem zo6 {A D:List α} {x:α} (h:0<D.length):((A++D)[A.length+D.length-1]?).getD x=(D[D.length-1]?).getD x:=by
 have:=zAJ (A:=A) (x:=x) h;rw [Ax] at this;exact this
theorem zvf {A D:List α} {x y:α}:((A++(D++[y]))[A.length+(D++[y]).length-1]?).getD x=y:=by
 rw [zo6 (by simp)];exact zdp
theorem znk {A D R:List α} {x y:α}:((A++(D++[y]))++x::R)[(A++(D++[y])).length-1]? =some y:=by
 have e:(A++(D++[y]))++x::R=(A++D)++y::x::R:=by simp
 have hl:(A++(D++[y])).length-1=(A++D).length:=by simp [<-A7]
 rw [e,hl];simp
theorem zwQ {A D B E C R:List α} {x:α} (h:D++x::(B++E)=R):(A++D)++x::(B++E++C)=A++R++C:=by rw [<-h];simp
theorem zlw (hc:Cmp c fun _=>True) (l:List α):Srt c (zQ c l):=zgt hc (fun _ _=>trivial)
theorem win {l:List α} {a m:Nat}:l.drop a=(l.drop a).take m++l.drop (a+m):=by rw [<-AZ,A0]
theorem ztK {l:List α} {a m:Nat}:l.take (a+m)=l.take a++(l.drop a).take m:=List.take_add
end
end
section
section
variable {α:Type} [DecidableEq α]
def zan (p:Option α):List α->List α
 |[]=>[]
 |x::r=>if p=some x then zan (some x) r else x::zan (some x) r
theorem zo7: ∀(l:List α) (p:Option α) (s:α),s∈zan p l->s∈l
 |[],_,s,h=>by simp [zan] at h
 |x::r,p,s,h=>by
   simp only [zan] at h
   split at h
   exact Ao _ (zo7 r _ s h)
   rcases List.mem_cons.1 h with h|h
   subst h;simp;exact Ao _ (zo7 r _ s h)
theorem zr1 (x:α): ∀(A:List α) (p:Option α),zan p (A++[x])=zan p A++if (A.getLast?.or p)=some x then [] else [x]
 |[],p=>by
   by_cases h:p=some x<;>simp [zan,h]
 |y::A,p=>by
   have ih:=zr1 x A (some y);have e:((y::A).getLast?.or p)=(A.getLast?.or (some y)):=by
    cases A with
    |nil=>simp
    |cons z A=>simp [List.getLast?_cons_cons,List.getLast?_cons]
   simp only [AX,zan];rw [e,ih]
   split<;>simp
theorem zj4 {l:List α} {k:Nat} {x y:α} (hx:l[k]? =some x) (hy:l[k-1]? =some y) (h0:0<k):zan none (l.take (k+1))=zan none (l.take k)++if x=y then [] else [x]:=by
 have hk:=zm hx;rw [zR hx,zr1];have e:((l.take k).getLast?.or none)=some y:=by
  rw [List.getLast?_eq_getElem?,Am,BF (by omega),AD (by omega),hy];rfl
 rw [e]
 by_cases h:x=y
 rw [if_pos h,if_pos (by rw [h])];rw [if_neg h,if_neg (by simpa using fun q:y=x=>h q.symm)]
theorem ztM {l:List α} (h:l.length<2):zan none l=l:=by
 match l,h with
 |[],_=>rfl
 |[x],_=>rfl
structure CmpA (l:List α) (j:Nat) (D:List α):Prop where
 len:D.length=l.length
 lo:D.take (zan none (l.take j)).length=zan none (l.take j)
 lt:(zan none (l.take j)).length<j
 hi: ∀i,j<=i+1->D[i]? =l[i]?
theorem CmpA.start {l:List α} {k:Nat} {x y:α} (hx:l[k]? =some x) (hy:l[k-1]? =some y) (h0:0<k) (e:x=y) (h:zan none (l.take k)=l.take k):CmpA l (k+1) l/\(zan none (l.take (k+1))).length=k:=by
 have hk:=zm hx;have h1:zan none (l.take (k+1))=l.take k:=by rw [zj4 hx hy h0,if_pos e,h];simp
 have h2:(l.take k).length=k:=by rw [Am];omega
 exact ⟨⟨rfl,by rw [h1,h2],by rw [h1,h2];omega,fun _ _=>rfl⟩,by rw [h1,h2]⟩
theorem CmpA.same {l D:List α} {j:Nat} (h:CmpA l j D) {x y:α} (hx:l[j]? =some x) (hy:l[j-1]? =some y) (e:x=y):CmpA l (j+1) D/\(zan none (l.take (j+1))).length=(zan none (l.take j)).length:=by
 have h0:=h.lt;have h1:zan none (l.take (j+1))=zan none (l.take j):=by rw [zj4 hx hy (by omega),if_pos e];simp
 exact ⟨⟨h.len,by rw [h1];exact h.lo,by rw [h1];omega,fun i hi=>h.hi i (by omega)⟩,by rw [h1]⟩
theorem CmpA.more {l D:List α} {j:Nat} (h:CmpA l j D) {x y:α} (hx:l[j]? =some x) (hy:l[j-1]? =some y) (e:x≠y):CmpA l (j+1) (D.set (zan none (l.take j)).length x)/\(zan none (l.take (j+1))).length=(zan none (l.take j)).length+1:=by
 have h0:=h.lt;have hl:=h.len;have hj:=zm hx;have h1:zan none (l.take (j+1))=zan none (l.take j)++[x]:=by rw [zj4 hx hy (by omega),if_neg e]
 have h2:(zan none (l.take (j+1))).length=(zan none (l.take j)).length+1:=by rw [h1];simp
 refine ⟨⟨by simpa using hl,?_,by omega,fun i hi=> ?_⟩,h2⟩
 rw [h2,h1];have h3:(D.set (zan none (l.take j)).length x)[(zan none (l.take j)).length]? =some x:=by
  rw [BA (by omega)]
 rw [zR h3,List.take_set_of_le (Ae _),h.lo];rw [A3 (by omega)];exact h.hi i (by omega)
theorem ztL: ∀(l:List α) (p:Option α),(zan p l).length<=l.length
 |[],p=>by simp [zan]
 |x::r,p=>by
   have:=ztL r (some x);simp only [zan]
   split
   simp only [Aj];omega;simp only [Aj];omega
theorem ztE {cap off sz m:Nat} (h:m<cap):ziX cap off sz m=off+m*sz:=by
 unfold ziX;rw [if_neg (by omega)]
/-! two lists without repeats,each strictly sorted-/
variable {c:α->α->Int}
end
end
end Go.HL
section
namespace Go.HL
theorem zvY (a b:List Asset):zfg (a++b)=zfg a+zfg b:=by simp [zfg]
theorem zsR: ∀{L:List Asset},(∀x∈L,-1000000<=x.Value/\x.Value<=1000000)-> -1000000*(L.length:Int)<=zfg L/\zfg L<=1000000*(L.length:Int)
 |[],_=>by simp [zfg]
 |x::L,h=>by
   have ih:=zsR (L:=L) fun y hy=>h y (Ao _ hy)
   have hx:=h x (by simp);have e:zfg (x::L)=x.Value+zfg L:=by simp [zfg]
   rw [e,Aj];omega
theorem zrx {l:List Asset} {pos:Str} {m:Int} {y:Asset} (h:y∈zgn (ofP l pos) m):y∈l:=by
 unfold zgn at h;have h1:=AJ (List.mem_filter.1 h).1;unfold ofP zh0 at h1;exact (List.mem_filter.1 ((zeE byValue).1 h1)).1
theorem zxP (o:List Asset) (m:Int):(zgn o m).length<=o.length:=by
 unfold zgn;refine Ar (AV _ _) ?_
 simp;omega
theorem znS (f:Str->List Asset) {p:List Place} {i:Nat} {x:Place} (h:p[i]? =some x):zaI f (p.take (i+1))=zaI f (p.take i)++zgn (f x.Position) x.Many:=by
 rw [zR h];simp [zaI]
theorem zoQ {f:Str->List Asset} {n:Nat} (hf: ∀s,(f s).length<=n): ∀p:List Place,(zaI f p).length<=n*p.length
 |[]=>by simp [zaI]
 |x::p=>by
   have ih:=zoQ hf p;have h1:=zxP (f x.Position) x.Many;have h2:=hf x.Position;have e:zaI f (x::p)=zgn (f x.Position) x.Many++zaI f p:=by simp [zaI]
   rw [e,Ax,Aj,Nat.mul_succ];omega
theorem zvo {f:Str->List Asset} {l:List Asset} (hf: ∀s m y,y∈zgn (f s) m->y∈l) {p:List Place} {y:Asset} (h:y∈zaI f p):y∈l:=by
 unfold zaI at h;obtain ⟨x,_,hx⟩:=List.mem_flatMap.1 h;exact hf _ _ y hx
theorem zu8 {f:Str->List Asset} {l:List Asset} {p:List Place} {i:Nat} (hf: ∀s m y,y∈zgn (f s) m->y∈l) (hn: ∀s,(f s).length<=12) (hp:p.length<=10) (hv: ∀x∈l,-1000000<=x.Value/\x.Value<=1000000):
 (zaI f (p.take i)).length<=120/\ -120000000<=zfg (zaI f (p.take i))/\zfg (zaI f (p.take i))<=120000000:=by
 have h1:=zoQ hn (p.take i);have h2:(p.take i).length<=10:=by simp;omega
 have h3:=zsR (L:=zaI f (p.take i)) fun y hy=>hv y (zvo hf hy)
 have h4:(zaI f (p.take i)).length<=120:=by omega
 omega
theorem zEr {C l:List Asset} {k:Nat} (hC: ∀y∈C,y∈l) (hn:C.length<=12) (hv: ∀x∈l,-1000000<=x.Value/\x.Value<=1000000):
 ((C.take k).filter (fun y=>decide (0<y.Value))).length<=12/\ -12000000<=zfg ((C.take k).filter (fun y=>decide (0<y.Value)))/\zfg ((C.take k).filter (fun y=>decide (0<y.Value)))<=12000000:=by
 have h1:=AV (fun y:Asset=>decide (0<y.Value)) (C.take k);have h2:(C.take k).length<=12:=by simp;omega
 have h3:=zsR (L:=(C.take k).filter (fun y=>decide (0<y.Value))) fun y hy=>hv y (hC y (AJ (List.mem_filter.1 hy).1))
 omega
theorem znr {C:List Asset} {k:Nat} {y:Asset} (h:C[k]? =some y):(C.take (k+1)).filter (fun y=>decide (0<y.Value))=(C.take k).filter (fun y=>decide (0<y.Value))++if 0<y.Value then [y] else []:=by
 rw [zR h,Bq]
 by_cases hy:0<y.Value<;>simp [hy]
theorem zs1 {o:List Asset} {m:Int} {N:Nat} (hN:(if (o.length:Int)<m then (o.length:Int) else m)=(N:Int)):zgn o m=((o.take N).drop 0).filter (fun y=>decide (0<y.Value)):=by
 unfold zgn;have:(min m (o.length:Int)).toNat=N:=by split at hN<;>omega
 rw [this,Cl]
def zl6 (l:List Asset) (p:List Place):Int:=orI [zdN l,zdO p]
theorem zDh {l:List Asset} {p:List Place} (h:zl6 l p=0):zdN l=0/\zdO p=0:=zAY h
def zvX (l:List Asset) (p:List Place):Int:=zfg (zaI (ofP l) p)
def zAn (l:List Asset) (F:Nat->Int) (q:Option (Nat×Int)) (k:Nat) (x:Asset):Option (Nat×Int):=
 match q with
 |none=>some (k,F k)
 |some (b,n)=>if n<F k\/(F k=n/\x.Value<=(l.getD b zkm).Value) then some (k,F k) else some (b,n)
def zCJ (l:List Asset) (F:Nat->Int) (n:Nat):Option (Nat×Int):=(List.range n).foldl (fun q k=>zAn l F q k (l.getD k zkm)) none
def zGV (l:List Asset) (p:List Place) (k:Nat):Int:=zvX (l.eraseIdx k) p
def dropped (l:List Asset) (p:List Place):Option (Nat×Int):=zCJ l (zGV l p) l.length
end Go.HL
namespace Go.HL
end Go.HL
namespace Go.HL
end Go.HL
end
namespace Go.HL
section
structure GL (α:Type) where
 u:Value
 out:List α
 a:Nat
structure GLok {α:Type} (P:α->Prop) (n m:Nat) (q:GL α):Prop where
 len:q.out.length<=n
 all: ∀x∈q.out,P x
 a:q.a<=m
section
variable {α:Type} {P:α->Prop}
theorem GLok.add {n m m':Nat} {u u':Value} {out:List α} {a1 a2:Nat} {x:α} (h:GLok P n m ⟨u,out,a1⟩) (hx:P x) (ha:a2<=m'):GLok P (n+1) m' ⟨u',out++[x],a2⟩:=
 ⟨by have:=h.len;simp at*;omega,fun y hy=>by
  rcases List.mem_append.1 hy with hy|hy
  exact h.all y hy
  simp at hy;subst hy;exact hx,ha⟩
theorem GLok.same {n m m':Nat} {u:Value} {out:List α} {a1 a2:Nat} (h:GLok P n m ⟨u,out,a1⟩) (ha:a2<=m'):GLok P (n+1) m' ⟨u,out,a2⟩:=
 ⟨by have:=h.len;dsimp only at*;omega,h.all,ha⟩
theorem zfL {l:List α} {j:Nat} {y:α} (h: ∀x∈l,P x) (hy:P y): ∀x∈l.set j y,P x:=fun x hx=>by
 rcases zyc hx with rfl|hx
 exact hy;exact h x hx
end
theorem zrE:Sh []:=by simp [Sh]
def zi5:Asset:=⟨[97],[103,107],5⟩
def zmx:Place:=⟨[103,107],1⟩
theorem zEn:zl6 [zi5] [zmx]=0:=by kernel_rfl
theorem zvu:zaI (ofP [zi5]) [zmx]=[zi5]:=by kernel_rfl
theorem zDj:zvX [zi5] [zmx]=5:=by unfold zvX;rw [zvu];rfl
theorem zzC:zrC (zaI (ofP [zi5]) [zmx])=[[97]]:=by rw [zvu];simp [zrC,zbk,zi5]
end
section
structure PairS where
 Name:Str
 Val:Str
end
section

end
section
open Op (bytesLess)
end
section

end
section

end
section

end
section

end
section

end
section
def zqu {α:Type} (e:α->HVal) (a b:α):Bool:=zca (zb (e a)) (zb (e b))
def zgM {α:Type} (e:α->HVal):List α->List α->Bool
 |[],[]=>true
 |a::l,b::m=>zqu e a b&&zgM e l m
 |_,_=>false
theorem zlv {α:Type} {e:α->HVal}: ∀{l m:List α},l.length≠m.length->zgM e l m=false
 |[],[],h=>absurd rfl h
 |[],_::_,_=>rfl
 |_::_,[],_=>rfl
 |a::l,b::m,h=>by
   rw [zgM,zlv (by intro q;apply h;simp [q])];simp
end
section
section
variable {α:Type} [DecidableEq α]
end
theorem zu2 [Tracks] {P:Program} {f:FuncId} {hargs:List HVal} {v:Value} {sz:Nat} {es:List HVal} {Q:HVal->List MObj->Prop} (h0:v= .slice none 0 0->es=[]->Con P f hargs [.arr v sz es] Q)
 (h1: ∀b off cap,v= .slice (some ⟨b,off,none⟩) es.length cap->Con P f hargs [.arr v sz es] Q):Con P f hargs [.arr v sz es] Q:=fun I F w args ha hs=>by
 rcases hs.obj (.arr v sz es) (by simp) with ⟨g1,g2⟩|⟨b,off,cap,rc,el,fr,g1,_⟩
 exact h0 g1 g2 I F w args ha hs;exact h1 b off cap g1 I F w args ha hs
end
section
def zuv:Room:=⟨[[97],[98]],2,2,[[112],[113],[114],[115]],1000,0⟩
theorem zBl:zdh zuv []=0:=by kernel_rfl
theorem zwu:zlE zuv []=[[97],[98],[98],[97]]:=by kernel_rfl
end
section
def zpv:Str:=[103,111,97,108]
def zpz:Play:=⟨[115],1,0,1,[109],[112],zpv,2,0⟩
def zx5:LineS:=⟨[112],1,[⟨zpv,2⟩]⟩
theorem zvK:zcM [zpz] [[115]] 1 5 [zpz]=⟨[[112]],[(([112],zpv),2)]⟩:=by kernel_rfl
theorem zvL:orI [zcj [zpz],zb5 [[115]]]=0:=by kernel_rfl
theorem zrN:zhm [(([112],zpv),2)] [[112]]=false:=by kernel_rfl
theorem zwt:zdW [(([112],zpv),2)] [112]=[⟨zpv,2⟩]:=by kernel_rfl
theorem zDB:zi3 [zpz] [[115]] 1 5=0:=by
 rw [zi3,zvL,if_neg (by decide),if_neg (by decide),zid,zvK,ziD,zrN];rfl
theorem zDC:zi4 [zpz] [[115]] 1 5=[zx5]:=by
 rw [zi4,zvL,if_neg (by decide),if_neg (by decide),zea,zvK,zhQ,zrN,if_neg (by decide)]
 simp [zbk,zwt,zx5]
end
section

end
section
theorem Cmp.lt_trans {α:Type} {c:α->α->Int} {s:α->Prop} (h:Cmp c s) {x y z:α} (hx:s x) (hy:s y) (hz:s z) (h1:c x y<0) (h2:c y z<0):c x z<0:=by
 rcases Int.lt_or_le (c x z) 0 with q|q
 exact q
 exfalso
 have a1:=h.flip y z hy hz;have a2:=h.flip z x hz hx;have hzx:c z x<=0:=by
  rcases Int.lt_or_le 0 (c z x) with r|r
  have:=h.flip x z hx hz;omega;exact r
 have:=h.trans z x y hz hx hy hzx (by omega)
 omega
theorem zsZ (x y:Play):byNo x y= -byNo y x:=by
 unfold byNo;rw [zlq,zfk x.Source,zvw]
theorem zt2 {a b c:Str} (h1:zZ a b<=0) (h2:zZ b c<=0) (h:zZ a c=0):zZ a b=0/\zZ b c=0:=by
 have e:=zbs.1 h;subst e;rw [zfk b a] at*
 omega
end
section
def SLt (a b:Str):Prop:=a<=b/\a≠b
theorem zvV {l:List Str} (h:l.Nodup):(zbk l).Pairwise SLt:=by
 have hn:(zbk l).Nodup:=(List.mergeSort_perm _ _).nodup_iff.2 h;have hs:=zvU l;rw [List.pairwise_iff_getElem] at*
 intro i j hi hj hij
 exact ⟨hs i j hi hj hij,List.pairwise_iff_getElem.1 hn i j hi hj hij⟩
def zdi {κ:Type} (c:List ((Str×κ)×Int)) (s:Str):List (κ×Int):=(c.filter fun e=>e.1.1==s).map fun e=>(e.1.2,e.2)
theorem ztd {κ:Type} [DecidableEq κ] (s:Str) (st:κ) (v:Int) (s':Str): ∀c:List ((Str×κ)×Int),zdi (zz (s,st) v c) s'=if s'=s then zz st v (zdi c s) else zdi c s'
 |[]=>by
   by_cases e:s'=s
   subst e;simp [zdi,zz];have: ¬s=s':=fun q=>e q.symm
   simp [zdi,zz,e,this]
 |p::r=>by
   have ih:=ztd s st v s' r;obtain ⟨⟨a,b⟩,w⟩:=p;simp only [zz,Prod.mk.injEq]
   by_cases h1:s=a
   subst h1
   by_cases h2:st=b
   subst h2;rw [if_pos ⟨rfl,rfl⟩]
   by_cases e:s'=s
   subst e;simp [zdi,zz];have: ¬s=s':=fun q=>e q.symm
   simp [zdi,e,this]
   rw [if_neg (fun q=>h2 q.2)]
   by_cases e:s'=s
   subst e;rw [if_pos rfl] at ih⊢;simp only [zdi,AT,beq_self_eq_true,if_true,Aw,zz,if_neg h2] at ih⊢;rw [ih];have: ¬s=s':=fun q=>e q.symm
   rw [if_neg e] at ih⊢;simp only [zdi,AT,beq_iff_eq,if_neg this] at ih⊢;exact ih;rw [if_neg (fun q=>h1 q.1)]
   by_cases e:s'=s
   subst e;have: ¬a=s':=fun q=>h1 q.symm
   rw [if_pos rfl] at ih⊢;simp only [zdi,AT,beq_iff_eq,if_neg this] at ih⊢;exact ih;rw [if_neg e] at ih⊢
   by_cases h3:a=s'
   simp only [zdi,AT,beq_iff_eq,if_pos h3,Aw] at ih⊢;rw [ih];simp only [zdi,AT,beq_iff_eq,if_neg h3] at ih⊢;exact ih
theorem ztc {κ:Type} [DecidableEq κ] (s:Str) (st:κ): ∀c:List ((Str×κ)×Int),alk st (zdi c s)=alk (s,st) c
 |[]=>rfl
 |⟨⟨a,b⟩,w⟩::r=>by
   have ih:=ztc s st r
   by_cases h:a=s
   subst h;simp only [zdi,AT,beq_self_eq_true,if_true,Aw,alk,Prod.mk.injEq,true_and] at ih⊢;rw [ih];have: ¬s=a:=fun q=>h q.symm
   simp only [zdi,AT,beq_iff_eq,if_neg h,alk,Prod.mk.injEq,this,false_and,if_false] at ih⊢;exact ih
def zrW (E:List (Str×Int)):List StatS:=zQ zbc ((E.filter fun e=>e.2 !=0).map fun e=>⟨e.1,e.2⟩)
end
section
theorem zw6 {l:List Str} {s:Str} (hs:SortedS l) (h:l.contains s=true):l[zck l s]? =some s/\∀(j:Nat) (z:Str),j<zck l s->l[j]? =some z->z≠s:=by
 obtain ⟨k,hk,e⟩:=AS (by simpa using h);have hk':l[k]? =some s:=by rw [Aa hk,e]
 have hp:zck l s=k:=zmy (by omega) (fun j x hj hx=>hs.get hj hx hk') (fun j x hj hx=>by
  rcases Nat.lt_or_eq_of_le hj with q|q
  exact zbU (hs.get q hk' hx);subst q;rw [hk'] at hx;cases hx;exact zaz _)
 rw [hp];refine ⟨hk',fun j z hj hz e2=> ?_⟩
 have:=hs.get hj hz hk';rw [e2,zaz] at this;cases this
/-! as a walk tells it-/
section
variable {α:Type} {f:α->Int} {c:α->α->Int} {d:α} {l r:List α} {k:Nat} {x:α} {e:Int}
end
theorem zhR {a b:Str}:zZ a b<0↔Op.bytesLess a b=true:=by
 have h1:=zfk a b
 constructor
 intro h
 rcases zcf a b with q|q|q
 exact q;rw [zbs.2 q] at h;omega;have:=zj7.2 (zbU q);omega
 intro h
 have h2: ¬zZ a b=0:=fun e=>by rw [zbs.1 e,zaz] at h;cases h
 have h3:=zj7.2 (zbU h)
 omega
end
section
open Op
theorem zmF {l:List Str} (h: ∀(j:Nat) (x y:Str),l[j]? =some x->l[j+1]? =some y->bytesLess x y=true):SortedS l:=by
 have key: ∀(d i:Nat) (a b:Str),l[i]? =some a->l[i+d+1]? =some b->bytesLess a b=true:=by
  intro d
  induction d with
  |zero=>intro i a b ha hb;exact h i a b ha hb
  |succ d ih=>
    intro i a b ha hb
    have hl:=zm hb;obtain ⟨c,hc⟩: ∃c,l[i+d+1]? =some c:=⟨_,Aa (by omega)⟩
    exact zeG (ih i a c ha hc) (h (i+d+1) c b hc (by rw [<-hb];congr 1))
 refine List.pairwise_iff_getElem.2 fun i j hi hj hij=> ?_
 exact key (j-i-1) i _ _ (Aa hi) (by rw [show i+(j-i-1)+1=j by omega];exact Aa hj)
end
section
/-! sets of numbers as bits-/
abbrev zEm:Int:= -1000
inductive WayB (al:Nat->Nat->Bool) (can:List (List Nat)) (fr:Nat) (g:List Nat):List Nat->Int->Prop
 |nil:WayB al can fr g [] 0
 |snoc {q:List Nat} {c:Int} {k:Nat} (h:WayB al can fr g q c) (hk:k∈(fr+q.length)::can.getD (fr+q.length) []) (ha:al (fr+q.length) k=true) (hn:k∉g++q):
    WayB al can fr g (q++[k]) (c+if k=fr+q.length then 0 else 1)
theorem WayB.bd {al:Nat->Nat->Bool} {can:List (List Nat)} {fr:Nat} {g q:List Nat} {c:Int} (h:WayB al can fr g q c):0<=c/\c<=q.length:=by
 induction h with
 |nil=>simp
 |snoc h hk ha hn ih=>rw [Ax,B5];split<;>omega
structure CanOk (can:List (List Nat)):Prop where
 lt: ∀i,∀k∈can.getD i [],k<can.length
 ne: ∀i,i∉can.getD i []
 len:can.length<=14
section
variable {al:Nat->Nat->Bool} {can:List (List Nat)} {fr:Nat} {g:List Nat}
theorem WayB.lt {q:List Nat} {c:Int} (hc:CanOk can) (h:WayB al can fr g q c) (hl:fr+q.length<=can.length): ∀k∈q,k<can.length:=by
 induction h with
 |nil=>simp
 |snoc h hk ha hn ih=>
   rw [Ax,B5] at hl
   intro k hm
   rcases List.mem_append.1 hm with hm|hm
   exact ih (by omega) k hm;rw [List.mem_singleton.1 hm]
   rcases List.mem_cons.1 hk with e|e
   omega
   exact hc.lt _ _ e
theorem WayB.nodup {q:List Nat} {c:Int} (hg:g.Nodup) (h:WayB al can fr g q c):(g++q).Nodup:=by
 induction h with
 |nil=>simpa using hg
 |snoc h hk ha hn ih=>
   rw [<-AY];refine List.nodup_append.2 ⟨ih,by simp,fun a ha b hb=> ?_⟩
   rw [List.mem_singleton.1 hb];exact fun e=>hn (e▸ha)
end
end
section
/-! ways by their heads-/
section
variable {al:Nat->Nat->Bool} {can:List (List Nat)}
end
end
section
def zG9 (S:List Bool) (i:Nat):Int:=if S.getD i false=true then 0 else 1
def cS (S:List Bool):Nat->Nat->Int
 |_,0=>0
 |fr,m+1=>zG9 S fr+cS S (fr+1) m
section
variable {can:List (List Nat)} {S:List Bool}
end
end
section
def BdB (m:Int) (l:List Int):Prop:= ∀t,l.getD t 0=zEm\/(0<=l.getD t 0/\l.getD t 0<=m)
theorem BdB.mono {m m':Int} {l:List Int} (h:BdB m l) (hm:m<=m'):BdB m' l:=fun t=>by
 rcases h t with e|e
 exact .inl e;exact .inr ⟨e.1,by omega⟩
end
section
open Op
end
section
open Go
section
variable {P:Program} {e:Env} {dst:Option Tmp} {ty:TypeId} {pos:String} {af:Array Edge} {g:Option (Nat×Bool)} {M:List MObj} {K:HVal->List MObj->Prop}
def zcX {α:Type} (x:Str):List (Str×α)->List (Str×α)
 |[]=>[]
 |p::r=>if x=p.1 then r else p::zcX x r
theorem ztB {s:Str}: ∀{l:List (Str×HVal)},(∀j h,z8 s l=some (j,h)->zcX s l=l.eraseIdx j)/\(z8 s l=none->zcX s l=l)
 |[]=>⟨fun j h hh=>by simp [z8] at hh,fun _=>rfl⟩
 |(k,x)::r=>by
   obtain ⟨h1,h2⟩:=ztB (s:=s) (l:=r)
   by_cases hk:s=k
   refine ⟨fun j h hh=> ?_,fun hh=> ?_⟩
   simp [z8,hk] at hh;rw [<-hh.1];simp [zcX,hk]
   simp [z8,hk] at hh
   refine ⟨fun j h hh=> ?_,fun hh=> ?_⟩
   simp only [z8,if_neg hk] at hh
   cases hr:z8 s r with
   |none=>rw [hr] at hh;simp at hh
   |some p=>
     rw [hr] at hh
     simp at hh
     rw [<-hh.1,zcX,if_neg hk,h1 p.1 p.2 hr];rfl
   simp only [z8,if_neg hk] at hh
   cases hr:z8 s r with
   |none=>rw [zcX,if_neg hk,h2 hr]
   |some p=>rw [hr] at hh;simp at hh
theorem zwz {α:Type} {f:α->HVal} {s:Str}: ∀L:List (Str×α),zcX s (em f L)=em f (zcX s L)
 |[]=>rfl
 |p::r=>by
   have ih:=zwz (f:=f) (s:=s) r;simp only [Aw,zcX] at ih⊢
   by_cases h:s=p.1
   rw [if_pos h,if_pos h];rw [if_neg h,if_neg h,ih];rfl
theorem BornOk.erase {es:Array MapEntry} {clk:Nat} (h:BornOk es clk) {k:Nat} (hk:k<es.size):BornOk (es.eraseIdx k hk) clk:=by
 have key: ∀i m,(es.eraseIdx k hk)[i]? =some m->es[if i<k then i else i+1]? =some m:=fun i m hm=>by
  rw [Array.getElem?_eraseIdx] at hm;split at hm<;>rename_i hi<;>simp [hi,hm]
 refine ⟨fun i m hm=>h.1 _ m (key i m hm),fun i j m n hm hn he=> ?_⟩
 have:=h.2 _ _ m n (key i m hm) (key j n hn) he
 split at this<;>split at this<;>omega
theorem zrR {at':Array TypeId} {xs:Array Operand} {ρ:Operand->Value} (w:World):
 (execOp ρ ⟨dst,.call ⟨.builtin .delete,xs,at'⟩,ty,pos,af,g⟩).run P w=((Builtin.delete_ at' ty (xs.map ρ)).run P w).andThen (fun v w=> .ok (.value v) w):=by
 simp [execOp,resolve,invoke,builtin]
theorem zxU [Tracks] {α:Type} {x y:Operand} {t kt et:TypeId} {size bytes s2 b2:Nat} {zero z2:Value} {i b:Nat} {f:α->HVal} {L:List (Str×α)} {s:Str}
 (hf:Fits P t (.map kt et) size bytes zero) (hkt:Fits P kt .str s2 b2 z2) (hx:zi e x=some (.raw (.map (some b)))) (hy:zi e y=some (.str s)) (hm:M[i]? =some (.map b (sk (em f L))))
 (hk:K (.tup []) (M.set i (.map b (sk (em f (zcX s L)))))):EOp P e M ⟨dst,.call ⟨.builtin .delete,#[x,y],#[t,kt]⟩,ty,pos,af,g⟩ K:=
 EOp.of_run fun I F a w ho hs=>by
  have h1:=(ho.one (x:=x) (by simp [Op.operands,Call.operands]) hx).raw_inv;have h2:=(ho.one (x:=y) (by simp [Op.operands,Call.operands]) hy).str_inv;have hp:=hs.pull hm;obtain ⟨es,clk,h3,h4,h5⟩:=hp.obj _ Al;obtain ⟨h6,h7⟩:=zih h4.1 h5;obtain ⟨n1,n2⟩:=zji (I:=I) (s:=s) es.toList (em f L) 0 h6 h7;obtain ⟨d1,d2⟩:=ztB (s:=s) (l:=em f L);rw [zwz] at d1 d2;have hlt:b<w.heap.size:=(Array.getElem?_eq_some_iff.1 h3).1;have fin: ∀(es':Array MapEntry),es'.size=(sk (em f (zcX s L))).length/\BornOk es' clk->
   (∀(i:Nat) (p:HVal×HVal) (m:MapEntry),(sk (em f (zcX s L)))[i]? =some p->es'[i]? =some m->V I p.1 m.key/\V I p.2 m.val)->
   Sat P I (M.set i (.map b (sk (em f (zcX s L))))++F) {w with heap:=w.heap.setIfInBounds b (.map es' clk)}:=fun es' e1 e2=>by
   refine zbQ hm (hp.change (m':= .map b (sk (em f (zcX s L)))) (fun k hk hnk=> ?_) (fun k hk=> .inl hk) (by simp [MObj.blocks]) ⟨es',clk,by simp [hlt],e1,e2⟩ rfl rfl rfl)
   have:k≠b:=by simpa [MObj.blocks] using hnk
   simp [AI (Ne.symm this)]
  cases hq:z8 s (em f L) with
  |none=>
    rw [d2 hq] at fin;refine ⟨.tuple #[],.tup [],_,{w with heap:=w.heap.setIfInBounds b (.map es clk)},I,?_,.refl I,hk,.tup rfl (fun j c v h _=>by simp at h),?_⟩
    rw [zrR];simp only [B7,Aw,Be,h1,h2,Builtin.delete_,Bg,AW,AQ,Sem.run_bind,run_underlying hf.mapD,Result.andThen_ok,zaQ h3,zcB hkt.strD,Instr.findKey,run_underlying hkt.strD,n1 hq,Sem.run_pure,zdJ h3];rw [d2 hq];exact fin es h4 h5
  |some q=>
    obtain ⟨j0,h'⟩:=q;obtain ⟨v,g1,g2⟩:=n2 j0 h' hq;have hj0:=zqG hq;have hjl:=zm hj0;have hsz:es.size=(em f L).length:=by simpa [sk] using h4.1
    have hjs:j0<es.size:=by omega
    have hes:es.eraseIdxIfInBounds j0=es.eraseIdx j0 hjs:=by unfold Array.eraseIdxIfInBounds;rw [dif_pos hjs]
    have hd:sk (em f (zcX s L))=(sk (em f L)).eraseIdx j0:=by
     rw [d1 j0 h' hq];have e1: ∀(l:List (Str×HVal)) (j:Nat),sk (l.eraseIdx j)=(sk l).eraseIdx j:=fun l=>by
      induction l with
      |nil=>intro j;rfl
      |cons p r ih=>
        intro j
        cases j with
        |zero=>rfl
        |succ j=>simp only [Cm,sk,Aw] at ih⊢;rw [ih]
     exact e1 _ _
    refine ⟨.tuple #[],.tup [],_,{w with heap:=w.heap.setIfInBounds b (.map (es.eraseIdx j0 hjs) clk)},I,?_,.refl I,hk,.tup rfl (fun j c v h _=>by simp at h),fin (es.eraseIdx j0 hjs) ⟨?_,h4.2.erase hjs⟩ fun p q m a1 a2=> ?_⟩
    rw [zrR];simp only [B7,Aw,Be,h1,h2,Builtin.delete_,Bg,AW,AQ,Sem.run_bind,run_underlying hf.mapD,Result.andThen_ok,zaQ h3,zcB hkt.strD,Instr.findKey,run_underlying hkt.strD,g1,Sem.run_pure,Bn,hes,zdJ h3];rw [hd,Array.size_eraseIdx,List.length_eraseIdx];have:(sk (em f L)).length=es.size:=h4.1.symm;rw [this,if_pos hjs];rw [hd,List.getElem?_eraseIdx] at a1;rw [Array.getElem?_eraseIdx] at a2
    split at a1
    rename_i hp1;rw [if_pos hp1] at a2;exact h5 _ _ _ a1 a2
    rename_i hp1;rw [if_neg hp1] at a2;exact h5 _ _ _ a1 a2
end
end
section
open Go
section
variable {P:Program} {e:Env} {dst:Option Tmp} {ty:TypeId} {pos:String} {af:Array Edge} {g:Option (Nat×Bool)} {M:List MObj} {K:HVal->List MObj->Prop}
end
/-! a row that fills up-/
end
section
open Go
section
variable {P:Program} {e:Env} {dst:Option Tmp} {ty:TypeId} {pos:String} {af:Array Edge} {g:Option (Nat×Bool)}
end
end
section
open Op
def zfW:List Int->List Int->Int
 |[],[]=>0
 |[],_::_=> -1
 |_::_,[]=>1
 |x::a,y::b=>if zab x y≠0 then zab x y else zfW a b
end
section
open Op
theorem zC8 {s:Str} (h:key s=true):leB s []=false:=by
 have hn:s≠[]:=by
  rintro rfl;have:key ([]:Str)=false:=by decide
  rw [this] at h;cases h
 cases s with
 |nil=>exact absurd rfl hn
 |cons a t=>rfl
theorem ord2 {a b:Str} {m n:Int}:orI [zZ a b,zab m n]<=0↔bytesLess a b=true\/a=b/\m<=n:=by
 rw [zeo]
 split
 rename_i h
 have h0:a≠b:=fun e=>h (zbs.2 e)
 rw [<-zhR]
 constructor
 intro q;left;omega
 rintro (q|q)
 omega
 exact absurd q.1 h0
 rename_i h
 have h0:a=b:=zbs.1 (by simpa using h);subst h0;rw [zwD]
 constructor
 intro q;exact .inr ⟨rfl,q⟩
 rintro (q|q);rw [zaz] at q;cases q;exact q.2
def zny (n:Int):Int:=if n<0 then-1 else if 0<n then 1 else 0
theorem zBn {a b:Int}:zny (a-b)=zab a b:=by
 unfold zny zab
 (repeat' split)<;>first|rfl|omega
theorem zAi {a b c d:Int}:zfW [a,b] [c,d]=orI [zab a c,zab b d]:=by
 rw [zeo,zfW,zfW,zfW]
 split
 rfl
 split
 rfl
 rename_i h;have:zab b d=0:=by simpa using h
 rw [this]
theorem zCN {x p:FixS}:orI [zab x.Week p.Week,zab x.At p.At,zZ x.Home p.Home]<=0↔0<zfW [p.Week,p.At] [x.Week,x.At]\/zfW [p.Week,p.At] [x.Week,x.At]=0/\bytesLess p.Home x.Home=false:=by
 rw [zAi,zeo,<-zj7];unfold orI
 by_cases h1:x.Week=p.Week
 by_cases h2:x.At=p.At
 have e1:zab x.Week p.Week=0:=zcW.2 h1;have e2:zab x.At p.At=0:=zcW.2 h2;have e3:zab p.Week x.Week=0:=zcW.2 h1.symm;have e4:zab p.At x.At=0:=zcW.2 h2.symm;simp only [e1,e2,e3,e4];rw [zeo]
 constructor
 intro h
 refine .inr ⟨rfl,?_⟩
 simpa [orI] using h
 rintro (h|⟨_,h⟩);exact absurd h (by decide)
 simpa [orI] using h
 have e1:zab x.Week p.Week=0:=zcW.2 h1;have e3:zab p.Week x.Week=0:=zcW.2 h1.symm;have e2:zab x.At p.At≠0:=fun e=>h2 (zcW.1 e)
 have e4:=zlq x.At p.At;simp only [e1,e3];rw [zeo,if_pos e2]
 simp
 omega
 have e1:zab x.Week p.Week≠0:=fun e=>h1 (zcW.1 e)
 have e3:=zlq x.Week p.Week;have e4:zab p.Week x.Week≠0:=by omega
 rw [if_pos e1,if_pos e4]
 omega
end
end Go.HL
