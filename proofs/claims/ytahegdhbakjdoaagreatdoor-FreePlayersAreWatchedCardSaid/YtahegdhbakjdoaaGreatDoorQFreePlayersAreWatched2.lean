/- Part 2 of the proof: a program logic, contracts of functions and plain facts; no conditions. -/
import Derived.Test.YtahegdhbakjdoaaGreatDoorQFreePlayersAreWatched1
import Derived.Carry
import Derived.KernelRfl
import Derived.Laws.MakeOwn
import Derived.Lib.Bytealg
import Derived.Lib.Join
import Derived.Lib.LaidTab
import Derived.Lib.SplitLaws
import Derived.OpenShut
import Derived.Shelf.SlSortCmp.Insertion
import Derived.Shelf.Strconv.Atoi
import Derived.Shelf.Strconv.Itoa3
import Derived.Shelf.Strings.Prefix
import Derived.Test.YtahegdhbakjdoaaGreatDoorProg
import Derived.WideKeyRuns
import GoSem.ClaimJoined
set_option linter.unusedVariables false
set_option linter.unusedSimpArgs false
set_option maxHeartbeats 16000000
namespace Go.Proofs.YtahegdhbakjdoaaGreatDoor
set_option maxRecDepth 100000
section
open Go.Proofs.Tryz
open Go.HL
instance ti3:FitsI prog 3 (.int .i64) 1 8 (.int .i64 0):=⟨⟨by kernel_rfl,by kernel_rfl⟩⟩
abbrev ty3:=ti3.ok
instance ti4:FitsI prog 4 .bool 1 1 (.bool false):=⟨⟨by kernel_rfl,by kernel_rfl⟩⟩
abbrev ty4:=ti4.ok
theorem ty5:Fits prog 5 (.int .u8) 1 1 (.int .u8 0):=⟨by kernel_rfl,by kernel_rfl⟩
instance ti9:FitsI prog 9 .str 1 16 (.string ⟨#[]⟩):=⟨⟨by kernel_rfl,by kernel_rfl⟩⟩
abbrev ty9:=ti9.ok
instance ti22:FitsI prog 22 (.slice 3) 1 24 (.slice none 0 0):=⟨⟨by kernel_rfl,by kernel_rfl⟩⟩
abbrev z6:=ti22.ok
instance ti25:FitsI prog 25 (.struct [(0,22),(1,3)]) 2 32 (.agg #[.slice none 0 0,.int .i64 0]):=⟨⟨by kernel_rfl,by kernel_rfl⟩⟩
abbrev ty25:=ti25.ok
instance ti26:FitsI prog 26 (.slice 77) 1 24 (.slice none 0 0):=⟨⟨by kernel_rfl,by kernel_rfl⟩⟩
abbrev zfl:=ti26.ok
instance ti27:FitsI prog 27 (.slice 264) 1 24 (.slice none 0 0):=⟨⟨by kernel_rfl,by kernel_rfl⟩⟩
abbrev zfm:=ti27.ok
instance ti28:FitsI prog 28 (.slice 190) 1 24 (.slice none 0 0):=⟨⟨by kernel_rfl,by kernel_rfl⟩⟩
abbrev zbI:=ti28.ok
instance ti29:FitsI prog 29 (.slice 276) 1 24 (.slice none 0 0):=⟨⟨by kernel_rfl,by kernel_rfl⟩⟩
abbrev zr5:=ti29.ok
instance ti30:FitsI prog 30 (.slice 60) 1 24 (.slice none 0 0):=⟨⟨by kernel_rfl,by kernel_rfl⟩⟩
abbrev zdF:=ti30.ok
instance ti32:FitsI prog 32 (.struct [(0,3),(1,3),(2,3),(3,3)]) 4 32 (.agg #[.int .i64 0,.int .i64 0,.int .i64 0,.int .i64 0]):=⟨⟨by kernel_rfl,by kernel_rfl⟩⟩
abbrev zfO:=ti32.ok
instance ti33:FitsI prog 33 (.slice 9) 1 24 (.slice none 0 0):=⟨⟨by kernel_rfl,by kernel_rfl⟩⟩
abbrev zk:=ti33.ok
instance ti34:FitsI prog 34 (.slice 204) 1 24 (.slice none 0 0):=⟨⟨by kernel_rfl,by kernel_rfl⟩⟩
abbrev zeX:=ti34.ok
instance ti36:FitsI prog 36 (.struct [(0,26),(1,27),(2,28),(3,29),(4,30),(5,32),(9,33),(10,34),(11,22),(12,33),(13,3)]) 14 256 (.agg #[.slice none 0 0,.slice none 0 0,.slice none 0 0,.slice none 0 0,.slice none 0 0,.int .i64 0,.int .i64 0,.int .i64 0,.int .i64 0,.slice none 0 0,.slice none 0 0,.slice none 0 0,.slice none 0 0,.int .i64 0]):=⟨⟨by kernel_rfl,by kernel_rfl⟩⟩
abbrev zaS:=ti36.ok
instance ti37:FitsI prog 37 (.slice 130) 1 24 (.slice none 0 0):=⟨⟨by kernel_rfl,by kernel_rfl⟩⟩
abbrev zbB:=ti37.ok
instance ti38:FitsI prog 38 (.slice 95) 1 24 (.slice none 0 0):=⟨⟨by kernel_rfl,by kernel_rfl⟩⟩
abbrev zhE:=ti38.ok
instance ti39:FitsI prog 39 (.slice 209) 1 24 (.slice none 0 0):=⟨⟨by kernel_rfl,by kernel_rfl⟩⟩
abbrev zk9:=ti39.ok
instance ti40:FitsI prog 40 (.slice 186) 1 24 (.slice none 0 0):=⟨⟨by kernel_rfl,by kernel_rfl⟩⟩
abbrev zgW:=ti40.ok
instance ti41:FitsI prog 41 (.slice 54) 1 24 (.slice none 0 0):=⟨⟨by kernel_rfl,by kernel_rfl⟩⟩
abbrev zdG:=ti41.ok
instance ti43:FitsI prog 43 (.struct [(0,36),(14,37),(15,38),(16,39),(17,40),(18,41)]) 19 376 (.agg #[.slice none 0 0,.slice none 0 0,.slice none 0 0,.slice none 0 0,.slice none 0 0,.int .i64 0,.int .i64 0,.int .i64 0,.int .i64 0,.slice none 0 0,.slice none 0 0,.slice none 0 0,.slice none 0 0,.int .i64 0,.slice none 0 0,.slice none 0 0,.slice none 0 0,.slice none 0 0,.slice none 0 0]):=⟨⟨by kernel_rfl,by kernel_rfl⟩⟩
abbrev zbr:=ti43.ok
instance ti47:FitsI prog 47 (.int .i64) 1 8 (.int .i64 0):=⟨⟨by kernel_rfl,by kernel_rfl⟩⟩
abbrev zfP:=ti47.ok
instance ti50:FitsI prog 50 (.slice 58) 1 24 (.slice none 0 0):=⟨⟨by kernel_rfl,by kernel_rfl⟩⟩
abbrev zwl:=ti50.ok
instance ti54:FitsI prog 54 (.struct [(0,9),(1,3),(2,3),(3,33),(4,9)]) 5 72 (.agg #[.string ⟨#[]⟩,.int .i64 0,.int .i64 0,.slice none 0 0,.string ⟨#[]⟩]):=⟨⟨by kernel_rfl,by kernel_rfl⟩⟩
abbrev zdh:=ti54.ok
instance ti58:FitsI prog 58 (.struct [(0,9),(1,9)]) 2 32 (.agg #[.string ⟨#[]⟩,.string ⟨#[]⟩]):=⟨⟨by kernel_rfl,by kernel_rfl⟩⟩
abbrev zpt:=ti58.ok
instance ti60:FitsI prog 60 (.struct [(0,9),(1,33)]) 2 40 (.agg #[.string ⟨#[]⟩,.slice none 0 0]):=⟨⟨by kernel_rfl,by kernel_rfl⟩⟩
abbrev zdc:=ti60.ok
instance ti75:FitsI prog 75 (.ptr 43) 1 8 (.pointer none):=⟨⟨by kernel_rfl,by kernel_rfl⟩⟩
abbrev znE:=ti75.ok
instance ti77:FitsI prog 77 (.struct [(0,9),(1,9),(2,33)]) 3 56 (.agg #[.string ⟨#[]⟩,.string ⟨#[]⟩,.slice none 0 0]):=⟨⟨by kernel_rfl,by kernel_rfl⟩⟩
abbrev zeY:=ti77.ok
instance ti81:FitsI prog 81 (.struct [(0,75),(1,3)]) 2 16 (.agg #[.pointer none,.int .i64 0]):=⟨⟨by kernel_rfl,by kernel_rfl⟩⟩
abbrev znF:=ti81.ok
theorem ty82:Fits prog 82 (.ptr 54) 1 8 (.pointer none):=⟨by kernel_rfl,by kernel_rfl⟩
theorem ziW:Fits prog 85 (.struct [(0,9),(1,33),(2,33)]) 3 64 (.agg #[.string ⟨#[]⟩,.slice none 0 0,.slice none 0 0]):=⟨by kernel_rfl,by kernel_rfl⟩
instance ti91:FitsI prog 91 (.slice 109) 1 24 (.slice none 0 0):=⟨⟨by kernel_rfl,by kernel_rfl⟩⟩
abbrev zua:=ti91.ok
instance ti95:FitsI prog 95 (.struct [(0,9),(1,3),(2,3),(3,3),(4,9),(5,9),(6,9),(7,3),(8,3)]) 9 104 (.agg #[.string ⟨#[]⟩,.int .i64 0,.int .i64 0,.int .i64 0,.string ⟨#[]⟩,.string ⟨#[]⟩,.string ⟨#[]⟩,.int .i64 0,.int .i64 0]):=⟨⟨by kernel_rfl,by kernel_rfl⟩⟩
abbrev zbs:=ti95.ok
instance ti97:FitsI prog 97 (.struct [(0,33),(1,3),(2,3),(3,33),(4,3),(5,3)]) 6 80 (.agg #[.slice none 0 0,.int .i64 0,.int .i64 0,.slice none 0 0,.int .i64 0,.int .i64 0]):=⟨⟨by kernel_rfl,by kernel_rfl⟩⟩
abbrev zub:=ti97.ok
instance ti102:FitsI prog 102 (.struct [(0,9),(1,9),(2,3)]) 3 40 (.agg #[.string ⟨#[]⟩,.string ⟨#[]⟩,.int .i64 0]):=⟨⟨by kernel_rfl,by kernel_rfl⟩⟩
abbrev zbN:=ti102.ok
instance ti103:FitsI prog 103 (.slice 102) 1 24 (.slice none 0 0):=⟨⟨by kernel_rfl,by kernel_rfl⟩⟩
abbrev zff:=ti103.ok
instance ti105:FitsI prog 105 (.struct [(0,9),(1,3)]) 2 24 (.agg #[.string ⟨#[]⟩,.int .i64 0]):=⟨⟨by kernel_rfl,by kernel_rfl⟩⟩
abbrev zjv:=ti105.ok
instance ti106:FitsI prog 106 (.slice 105) 1 24 (.slice none 0 0):=⟨⟨by kernel_rfl,by kernel_rfl⟩⟩
abbrev zt5:=ti106.ok
instance ti107:FitsI prog 107 (.slice 304) 1 24 (.slice none 0 0):=⟨⟨by kernel_rfl,by kernel_rfl⟩⟩
abbrev zk6:=ti107.ok
instance ti109:FitsI prog 109 (.struct [(0,9),(1,3),(2,107)]) 3 48 (.agg #[.string ⟨#[]⟩,.int .i64 0,.slice none 0 0]):=⟨⟨by kernel_rfl,by kernel_rfl⟩⟩
abbrev zoI:=ti109.ok
instance ti112:FitsI prog 112 (.slice 47) 1 24 (.slice none 0 0):=⟨⟨by kernel_rfl,by kernel_rfl⟩⟩
abbrev zdN:=ti112.ok
instance ti130:FitsI prog 130 (.struct [(0,3),(1,3),(2,9),(3,9)]) 4 48 (.agg #[.int .i64 0,.int .i64 0,.string ⟨#[]⟩,.string ⟨#[]⟩]):=⟨⟨by kernel_rfl,by kernel_rfl⟩⟩
abbrev zz:=ti130.ok
instance ti147:FitsI prog 147 (.map 9 33) 1 8 (.map none):=⟨⟨by kernel_rfl,by kernel_rfl⟩⟩
abbrev zcQ:=ti147.ok
instance ti148:FitsI prog 148 (.map 9 9) 1 8 (.map none):=⟨⟨by kernel_rfl,by kernel_rfl⟩⟩
abbrev zgr:=ti148.ok
instance ti149:FitsI prog 149 (.map 9 3) 1 8 (.map none):=⟨⟨by kernel_rfl,by kernel_rfl⟩⟩
abbrev zdO:=ti149.ok
instance ti150:FitsI prog 150 (.map 350 3) 1 8 (.map none):=⟨⟨by kernel_rfl,by kernel_rfl⟩⟩
abbrev zia:=ti150.ok
instance ti152:FitsI prog 152 (.struct [(0,32),(4,147),(5,147),(6,148),(7,149),(8,150)]) 9 72 (.agg #[.int .i64 0,.int .i64 0,.int .i64 0,.int .i64 0,.map none,.map none,.map none,.map none,.map none]):=⟨⟨by kernel_rfl,by kernel_rfl⟩⟩
abbrev zxg:=ti152.ok
theorem zA6:Fits prog 157 (.ptr 77) 1 8 (.pointer none):=⟨by kernel_rfl,by kernel_rfl⟩
instance ti163:FitsI prog 163 (.slice 249) 1 24 (.slice none 0 0):=⟨⟨by kernel_rfl,by kernel_rfl⟩⟩
abbrev zt6:=ti163.ok
instance ti165:FitsI prog 165 (.slice 169) 1 24 (.slice none 0 0):=⟨⟨by kernel_rfl,by kernel_rfl⟩⟩
abbrev zt7:=ti165.ok
instance ti169:FitsI prog 169 (.struct [(0,3),(1,9),(2,9)]) 3 40 (.agg #[.int .i64 0,.string ⟨#[]⟩,.string ⟨#[]⟩]):=⟨⟨by kernel_rfl,by kernel_rfl⟩⟩
abbrev zmR:=ti169.ok
instance ti186:FitsI prog 186 (.struct [(0,9),(1,3),(2,3),(3,3)]) 4 40 (.agg #[.string ⟨#[]⟩,.int .i64 0,.int .i64 0,.int .i64 0]):=⟨⟨by kernel_rfl,by kernel_rfl⟩⟩
abbrev zbE:=ti186.ok
instance ti190:FitsI prog 190 (.struct [(0,3),(1,3),(2,9),(3,9)]) 4 48 (.agg #[.int .i64 0,.int .i64 0,.string ⟨#[]⟩,.string ⟨#[]⟩]):=⟨⟨by kernel_rfl,by kernel_rfl⟩⟩
abbrev zaf:=ti190.ok
instance ti202:FitsI prog 202 (.struct [(0,3),(1,3)]) 2 16 (.agg #[.int .i64 0,.int .i64 0]):=⟨⟨by kernel_rfl,by kernel_rfl⟩⟩
abbrev za9:=ti202.ok
instance ti204:FitsI prog 204 (.struct [(0,3),(1,9),(2,9),(3,4),(4,202),(6,202)]) 8 80 (.agg #[.int .i64 0,.string ⟨#[]⟩,.string ⟨#[]⟩,.bool false,.int .i64 0,.int .i64 0,.int .i64 0,.int .i64 0]):=⟨⟨by kernel_rfl,by kernel_rfl⟩⟩
abbrev zbO:=ti204.ok
instance ti209:FitsI prog 209 (.struct [(0,9),(1,3),(2,9),(3,3),(4,3),(5,3),(6,9)]) 7 80 (.agg #[.string ⟨#[]⟩,.int .i64 0,.string ⟨#[]⟩,.int .i64 0,.int .i64 0,.int .i64 0,.string ⟨#[]⟩]):=⟨⟨by kernel_rfl,by kernel_rfl⟩⟩
abbrev zgs:=ti209.ok
instance ti214:FitsI prog 214 .func 1 8 (.nilFunc):=⟨⟨by kernel_rfl,by kernel_rfl⟩⟩
abbrev zA7:=ti214.ok
theorem zoJ:Fits prog 225 (.map 9 4) 1 8 (.map none):=⟨by kernel_rfl,by kernel_rfl⟩
theorem zxh:Fits prog 238 (.map 243 4) 1 8 (.map none):=⟨by kernel_rfl,by kernel_rfl⟩
theorem zqV:Fits prog 241 (.map 245 3) 1 8 (.map none):=⟨by kernel_rfl,by kernel_rfl⟩
instance ti243:FitsI prog 243 (.struct [(0,9),(1,3)]) 2 24 (.agg #[.string ⟨#[]⟩,.int .i64 0]):=⟨⟨by kernel_rfl,by kernel_rfl⟩⟩
abbrev zk7:=ti243.ok
instance ti245:FitsI prog 245 (.struct [(0,9),(1,9)]) 2 32 (.agg #[.string ⟨#[]⟩,.string ⟨#[]⟩]):=⟨⟨by kernel_rfl,by kernel_rfl⟩⟩
abbrev zoK:=ti245.ok
instance ti249:FitsI prog 249 (.struct [(0,3),(1,9),(2,9)]) 3 40 (.agg #[.int .i64 0,.string ⟨#[]⟩,.string ⟨#[]⟩]):=⟨⟨by kernel_rfl,by kernel_rfl⟩⟩
abbrev zk8:=ti249.ok
instance ti264:FitsI prog 264 (.struct [(0,9),(1,9),(2,3)]) 3 40 (.agg #[.string ⟨#[]⟩,.string ⟨#[]⟩,.int .i64 0]):=⟨⟨by kernel_rfl,by kernel_rfl⟩⟩
abbrev zbP:=ti264.ok
instance ti276:FitsI prog 276 (.struct [(0,9),(1,9),(2,9),(3,3),(4,3),(5,202)]) 7 80 (.agg #[.string ⟨#[]⟩,.string ⟨#[]⟩,.string ⟨#[]⟩,.int .i64 0,.int .i64 0,.int .i64 0,.int .i64 0]):=⟨⟨by kernel_rfl,by kernel_rfl⟩⟩
abbrev zg1:=ti276.ok
instance ti280:FitsI prog 280 .func 1 8 (.nilFunc):=⟨⟨by kernel_rfl,by kernel_rfl⟩⟩
abbrev zA8:=ti280.ok
theorem zmS:Fits prog 284 (.int .u64) 1 8 (.int .u64 0):=⟨by kernel_rfl,by kernel_rfl⟩
theorem zxi:Fits prog 300 (.map 243 95) 1 8 (.map none):=⟨by kernel_rfl,by kernel_rfl⟩
theorem zt8:Fits prog 302 (.map 9 107) 1 8 (.map none):=⟨by kernel_rfl,by kernel_rfl⟩
instance ti304:FitsI prog 304 (.struct [(0,9),(1,3)]) 2 24 (.agg #[.string ⟨#[]⟩,.int .i64 0]):=⟨⟨by kernel_rfl,by kernel_rfl⟩⟩
abbrev zqW:=ti304.ok
theorem zxj:Fits prog 317 (.map 319 4) 1 8 (.map none):=⟨by kernel_rfl,by kernel_rfl⟩
instance ti319:FitsI prog 319 (.struct [(0,9),(1,3)]) 2 24 (.agg #[.string ⟨#[]⟩,.int .i64 0]):=⟨⟨by kernel_rfl,by kernel_rfl⟩⟩
abbrev zoL:=ti319.ok
theorem zqX:Fits prog 334 (.int .u64) 1 8 (.int .u64 0):=⟨by kernel_rfl,by kernel_rfl⟩
theorem zjw:Fits prog 343 (.arr 256 4) 256 256 (.agg #[.bool false,.bool false,.bool false,.bool false,.bool false,.bool false,.bool false,.bool false,.bool false,.bool false,.bool false,.bool false,.bool false,.bool false,.bool false,.bool false,.bool false,.bool false,.bool false,.bool false,.bool false,.bool false,.bool false,.bool false,.bool false,.bool false,.bool false,.bool false,.bool false,.bool false,.bool false,.bool false,.bool false,.bool false,.bool false,.bool false,.bool false,.bool false,.bool false,.bool false,.bool false,.bool false,.bool false,.bool false,.bool false,.bool false,.bool false,.bool false,.bool false,.bool false,.bool false,.bool false,.bool false,.bool false,.bool false,.bool false,.bool false,.bool false,.bool false,.bool false,.bool false,.bool false,.bool false,.bool false,.bool false,.bool false,.bool false,.bool false,.bool false,.bool false,.bool false,.bool false,.bool false,.bool false,.bool false,.bool false,.bool false,.bool false,.bool false,.bool false,.bool false,.bool false,.bool false,.bool false,.bool false,.bool false,.bool false,.bool false,.bool false,.bool false,.bool false,.bool false,.bool false,.bool false,.bool false,.bool false,.bool false,.bool false,.bool false,.bool false,.bool false,.bool false,.bool false,.bool false,.bool false,.bool false,.bool false,.bool false,.bool false,.bool false,.bool false,.bool false,.bool false,.bool false,.bool false,.bool false,.bool false,.bool false,.bool false,.bool false,.bool false,.bool false,.bool false,.bool false,.bool false,.bool false,.bool false,.bool false,.bool false,.bool false,.bool false,.bool false,.bool false,.bool false,.bool false,.bool false,.bool false,.bool false,.bool false,.bool false,.bool false,.bool false,.bool false,.bool false,.bool false,.bool false,.bool false,.bool false,.bool false,.bool false,.bool false,.bool false,.bool false,.bool false,.bool false,.bool false,.bool false,.bool false,.bool false,.bool false,.bool false,.bool false,.bool false,.bool false,.bool false,.bool false,.bool false,.bool false,.bool false,.bool false,.bool false,.bool false,.bool false,.bool false,.bool false,.bool false,.bool false,.bool false,.bool false,.bool false,.bool false,.bool false,.bool false,.bool false,.bool false,.bool false,.bool false,.bool false,.bool false,.bool false,.bool false,.bool false,.bool false,.bool false,.bool false,.bool false,.bool false,.bool false,.bool false,.bool false,.bool false,.bool false,.bool false,.bool false,.bool false,.bool false,.bool false,.bool false,.bool false,.bool false,.bool false,.bool false,.bool false,.bool false,.bool false,.bool false,.bool false,.bool false,.bool false,.bool false,.bool false,.bool false,.bool false,.bool false,.bool false,.bool false,.bool false,.bool false,.bool false,.bool false,.bool false,.bool false,.bool false,.bool false,.bool false,.bool false,.bool false,.bool false,.bool false,.bool false,.bool false,.bool false,.bool false,.bool false,.bool false,.bool false,.bool false,.bool false,.bool false,.bool false,.bool false,.bool false,.bool false,.bool false,.bool false,.bool false]):=⟨by kernel_rfl,by kernel_rfl⟩
theorem zt9:Fits prog 350 (.struct [(0,9),(1,3)]) 2 24 (.agg #[.string ⟨#[]⟩,.int .i64 0]):=⟨by kernel_rfl,by kernel_rfl⟩
theorem pl25:Places prog [(0,22),(1,3)] [(0,1),(1,1)]:=⟨rfl,⟨_,_,_,z6⟩,⟨rfl,⟨_,_,_,ty3⟩,trivial⟩⟩
theorem pl32:Places prog [(0,3),(1,3),(2,3),(3,3)] [(0,1),(1,1),(2,1),(3,1)]:=⟨rfl,⟨_,_,_,ty3⟩,⟨rfl,⟨_,_,_,ty3⟩,⟨rfl,⟨_,_,_,ty3⟩,⟨rfl,⟨_,_,_,ty3⟩,trivial⟩⟩⟩⟩
theorem ziP:Places prog [(0,26),(1,27),(2,28),(3,29),(4,30),(5,32),(9,33),(10,34),(11,22),(12,33),(13,3)] [(0,1),(1,1),(2,1),(3,1),(4,1),(5,4),(9,1),(10,1),(11,1),(12,1),(13,1)]:=⟨rfl,⟨_,_,_,zfl⟩,⟨rfl,⟨_,_,_,zfm⟩,⟨rfl,⟨_,_,_,zbI⟩,⟨rfl,⟨_,_,_,zr5⟩,⟨rfl,⟨_,_,_,zdF⟩,⟨rfl,⟨_,_,_,zfO⟩,⟨rfl,⟨_,_,_,zk⟩,⟨rfl,⟨_,_,_,zeX⟩,⟨rfl,⟨_,_,_,z6⟩,⟨rfl,⟨_,_,_,zk⟩,⟨rfl,⟨_,_,_,ty3⟩,trivial⟩⟩⟩⟩⟩⟩⟩⟩⟩⟩⟩
theorem pl43:Places prog [(0,36),(14,37),(15,38),(16,39),(17,40),(18,41)] [(0,14),(14,1),(15,1),(16,1),(17,1),(18,1)]:=⟨rfl,⟨_,_,_,zaS⟩,⟨rfl,⟨_,_,_,zbB⟩,⟨rfl,⟨_,_,_,zhE⟩,⟨rfl,⟨_,_,_,zk9⟩,⟨rfl,⟨_,_,_,zgW⟩,⟨rfl,⟨_,_,_,zdG⟩,trivial⟩⟩⟩⟩⟩⟩
theorem pl54:Places prog [(0,9),(1,3),(2,3),(3,33),(4,9)] [(0,1),(1,1),(2,1),(3,1),(4,1)]:=⟨rfl,⟨_,_,_,ty9⟩,⟨rfl,⟨_,_,_,ty3⟩,⟨rfl,⟨_,_,_,ty3⟩,⟨rfl,⟨_,_,_,zk⟩,⟨rfl,⟨_,_,_,ty9⟩,trivial⟩⟩⟩⟩⟩
theorem pl58:Places prog [(0,9),(1,9)] [(0,1),(1,1)]:=⟨rfl,⟨_,_,_,ty9⟩,⟨rfl,⟨_,_,_,ty9⟩,trivial⟩⟩
theorem zvX:Places prog [(0,9),(1,33)] [(0,1),(1,1)]:=⟨rfl,⟨_,_,_,ty9⟩,⟨rfl,⟨_,_,_,zk⟩,trivial⟩⟩
theorem pl77:Places prog [(0,9),(1,9),(2,33)] [(0,1),(1,1),(2,1)]:=⟨rfl,⟨_,_,_,ty9⟩,⟨rfl,⟨_,_,_,ty9⟩,⟨rfl,⟨_,_,_,zk⟩,trivial⟩⟩⟩
theorem pl81:Places prog [(0,75),(1,3)] [(0,1),(1,1)]:=⟨rfl,⟨_,_,_,znE⟩,⟨rfl,⟨_,_,_,ty3⟩,trivial⟩⟩
theorem pl85:Places prog [(0,9),(1,33),(2,33)] [(0,1),(1,1),(2,1)]:=⟨rfl,⟨_,_,_,ty9⟩,⟨rfl,⟨_,_,_,zk⟩,⟨rfl,⟨_,_,_,zk⟩,trivial⟩⟩⟩
theorem zrO:Places prog [(0,9),(1,3),(2,3),(3,3),(4,9),(5,9),(6,9),(7,3),(8,3)] [(0,1),(1,1),(2,1),(3,1),(4,1),(5,1),(6,1),(7,1),(8,1)]:=⟨rfl,⟨_,_,_,ty9⟩,⟨rfl,⟨_,_,_,ty3⟩,⟨rfl,⟨_,_,_,ty3⟩,⟨rfl,⟨_,_,_,ty3⟩,⟨rfl,⟨_,_,_,ty9⟩,⟨rfl,⟨_,_,_,ty9⟩,⟨rfl,⟨_,_,_,ty9⟩,⟨rfl,⟨_,_,_,ty3⟩,⟨rfl,⟨_,_,_,ty3⟩,trivial⟩⟩⟩⟩⟩⟩⟩⟩⟩
theorem pl97:Places prog [(0,33),(1,3),(2,3),(3,33),(4,3),(5,3)] [(0,1),(1,1),(2,1),(3,1),(4,1),(5,1)]:=⟨rfl,⟨_,_,_,zk⟩,⟨rfl,⟨_,_,_,ty3⟩,⟨rfl,⟨_,_,_,ty3⟩,⟨rfl,⟨_,_,_,zk⟩,⟨rfl,⟨_,_,_,ty3⟩,⟨rfl,⟨_,_,_,ty3⟩,trivial⟩⟩⟩⟩⟩⟩
theorem zAP:Places prog [(0,9),(1,9),(2,3)] [(0,1),(1,1),(2,1)]:=⟨rfl,⟨_,_,_,ty9⟩,⟨rfl,⟨_,_,_,ty9⟩,⟨rfl,⟨_,_,_,ty3⟩,trivial⟩⟩⟩
theorem zAQ:Places prog [(0,9),(1,3)] [(0,1),(1,1)]:=⟨rfl,⟨_,_,_,ty9⟩,⟨rfl,⟨_,_,_,ty3⟩,trivial⟩⟩
theorem zAR:Places prog [(0,9),(1,3),(2,107)] [(0,1),(1,1),(2,1)]:=⟨rfl,⟨_,_,_,ty9⟩,⟨rfl,⟨_,_,_,ty3⟩,⟨rfl,⟨_,_,_,zk6⟩,trivial⟩⟩⟩
theorem zAS:Places prog [(0,3),(1,3),(2,9),(3,9)] [(0,1),(1,1),(2,1),(3,1)]:=⟨rfl,⟨_,_,_,ty3⟩,⟨rfl,⟨_,_,_,ty3⟩,⟨rfl,⟨_,_,_,ty9⟩,⟨rfl,⟨_,_,_,ty9⟩,trivial⟩⟩⟩⟩
theorem zAT:Places prog [(0,32),(4,147),(5,147),(6,148),(7,149),(8,150)] [(0,4),(4,1),(5,1),(6,1),(7,1),(8,1)]:=⟨rfl,⟨_,_,_,zfO⟩,⟨rfl,⟨_,_,_,zcQ⟩,⟨rfl,⟨_,_,_,zcQ⟩,⟨rfl,⟨_,_,_,zgr⟩,⟨rfl,⟨_,_,_,zdO⟩,⟨rfl,⟨_,_,_,zia⟩,trivial⟩⟩⟩⟩⟩⟩
theorem zAU:Places prog [(0,3),(1,9),(2,9)] [(0,1),(1,1),(2,1)]:=⟨rfl,⟨_,_,_,ty3⟩,⟨rfl,⟨_,_,_,ty9⟩,⟨rfl,⟨_,_,_,ty9⟩,trivial⟩⟩⟩
theorem zAV:Places prog [(0,9),(1,3),(2,3),(3,3)] [(0,1),(1,1),(2,1),(3,1)]:=⟨rfl,⟨_,_,_,ty9⟩,⟨rfl,⟨_,_,_,ty3⟩,⟨rfl,⟨_,_,_,ty3⟩,⟨rfl,⟨_,_,_,ty3⟩,trivial⟩⟩⟩⟩
theorem zAW:Places prog [(0,3),(1,3),(2,9),(3,9)] [(0,1),(1,1),(2,1),(3,1)]:=⟨rfl,⟨_,_,_,ty3⟩,⟨rfl,⟨_,_,_,ty3⟩,⟨rfl,⟨_,_,_,ty9⟩,⟨rfl,⟨_,_,_,ty9⟩,trivial⟩⟩⟩⟩
theorem zkW:Places prog [(0,3),(1,3)] [(0,1),(1,1)]:=⟨rfl,⟨_,_,_,ty3⟩,⟨rfl,⟨_,_,_,ty3⟩,trivial⟩⟩
theorem zAX:Places prog [(0,3),(1,9),(2,9),(3,4),(4,202),(6,202)] [(0,1),(1,1),(2,1),(3,1),(4,2),(6,2)]:=⟨rfl,⟨_,_,_,ty3⟩,⟨rfl,⟨_,_,_,ty9⟩,⟨rfl,⟨_,_,_,ty9⟩,⟨rfl,⟨_,_,_,ty4⟩,⟨rfl,⟨_,_,_,za9⟩,⟨rfl,⟨_,_,_,za9⟩,trivial⟩⟩⟩⟩⟩⟩
theorem zAY:Places prog [(0,9),(1,3),(2,9),(3,3),(4,3),(5,3),(6,9)] [(0,1),(1,1),(2,1),(3,1),(4,1),(5,1),(6,1)]:=⟨rfl,⟨_,_,_,ty9⟩,⟨rfl,⟨_,_,_,ty3⟩,⟨rfl,⟨_,_,_,ty9⟩,⟨rfl,⟨_,_,_,ty3⟩,⟨rfl,⟨_,_,_,ty3⟩,⟨rfl,⟨_,_,_,ty3⟩,⟨rfl,⟨_,_,_,ty9⟩,trivial⟩⟩⟩⟩⟩⟩⟩
theorem ztT:Places prog [(0,9),(1,3)] [(0,1),(1,1)]:=⟨rfl,⟨_,_,_,ty9⟩,⟨rfl,⟨_,_,_,ty3⟩,trivial⟩⟩
theorem zAZ:Places prog [(0,9),(1,9)] [(0,1),(1,1)]:=⟨rfl,⟨_,_,_,ty9⟩,⟨rfl,⟨_,_,_,ty9⟩,trivial⟩⟩
theorem zA0:Places prog [(0,9),(1,9),(2,3)] [(0,1),(1,1),(2,1)]:=⟨rfl,⟨_,_,_,ty9⟩,⟨rfl,⟨_,_,_,ty9⟩,⟨rfl,⟨_,_,_,ty3⟩,trivial⟩⟩⟩
theorem zA1:Places prog [(0,9),(1,9),(2,9),(3,3),(4,3),(5,202)] [(0,1),(1,1),(2,1),(3,1),(4,1),(5,2)]:=⟨rfl,⟨_,_,_,ty9⟩,⟨rfl,⟨_,_,_,ty9⟩,⟨rfl,⟨_,_,_,ty9⟩,⟨rfl,⟨_,_,_,ty3⟩,⟨rfl,⟨_,_,_,ty3⟩,⟨rfl,⟨_,_,_,za9⟩,trivial⟩⟩⟩⟩⟩⟩
theorem zA2:Places prog [(0,9),(1,3)] [(0,1),(1,1)]:=⟨rfl,⟨_,_,_,ty9⟩,⟨rfl,⟨_,_,_,ty3⟩,trivial⟩⟩
theorem zA3:Places prog [(0,9),(1,3)] [(0,1),(1,1)]:=⟨rfl,⟨_,_,_,ty9⟩,⟨rfl,⟨_,_,_,ty3⟩,trivial⟩⟩
theorem zxc:Places prog [(0,9),(1,3)] [(0,1),(1,1)]:=⟨rfl,⟨_,_,_,ty9⟩,⟨rfl,⟨_,_,_,ty3⟩,trivial⟩⟩
theorem eq58:EqOk prog 58:=⟨by kernel_rfl,by kernel_rfl,by kernel_rfl⟩
theorem zw3:EqOk prog 130:=⟨by kernel_rfl,by kernel_rfl,by kernel_rfl⟩
theorem zqM:EqOk prog 202:=⟨by kernel_rfl,by kernel_rfl,by kernel_rfl⟩
theorem zAG:EqOk prog 243:=⟨by kernel_rfl,by kernel_rfl,by kernel_rfl⟩
theorem zAH:EqOk prog 245:=⟨by kernel_rfl,by kernel_rfl,by kernel_rfl⟩
theorem zAI:EqOk prog 319:=⟨by kernel_rfl,by kernel_rfl,by kernel_rfl⟩
theorem zAJ:EqOk prog 350:=⟨by kernel_rfl,by kernel_rfl,by kernel_rfl⟩
theorem ca5:Callable prog 5:=⟨_,func5,by kernel_rfl,by kernel_rfl⟩
theorem ca6:Callable prog 6:=⟨_,func6,by kernel_rfl,by kernel_rfl⟩
theorem ca7:Callable prog 7:=⟨_,func7,by kernel_rfl,by kernel_rfl⟩
theorem ca8:Callable prog 8:=⟨_,func8,by kernel_rfl,by kernel_rfl⟩
theorem ca9:Callable prog 9:=⟨_,func9,by kernel_rfl,by kernel_rfl⟩
theorem zeG:Callable prog 10:=⟨_,func10,by kernel_rfl,by kernel_rfl⟩
theorem ca11:Callable prog 11:=⟨_,func11,by kernel_rfl,by kernel_rfl⟩
theorem ca12:Callable prog 12:=⟨_,func12,by kernel_rfl,by kernel_rfl⟩
theorem zvq:Callable prog 14:=⟨_,func14,by kernel_rfl,by kernel_rfl⟩
theorem ztk:Callable prog 15:=⟨_,func15,by kernel_rfl,by kernel_rfl⟩
theorem zvr:Callable prog 17:=⟨_,func17,by kernel_rfl,by kernel_rfl⟩
theorem ca20:Callable prog 20:=⟨_,func20,by kernel_rfl,by kernel_rfl⟩
theorem ca23:Callable prog 23:=⟨_,func23,by kernel_rfl,by kernel_rfl⟩
theorem ca24:Callable prog 24:=⟨_,func24,by kernel_rfl,by kernel_rfl⟩
theorem zhw:Callable prog 25:=⟨_,func25,by kernel_rfl,by kernel_rfl⟩
theorem ca26:Callable prog 26:=⟨_,func26,by kernel_rfl,by kernel_rfl⟩
theorem ca27:Callable prog 27:=⟨_,func27,by kernel_rfl,by kernel_rfl⟩
theorem ca28:Callable prog 28:=⟨_,func28,by kernel_rfl,by kernel_rfl⟩
theorem ca29:Callable prog 29:=⟨_,func29,by kernel_rfl,by kernel_rfl⟩
theorem ca30:Callable prog 30:=⟨_,func30,by kernel_rfl,by kernel_rfl⟩
theorem ca31:Callable prog 31:=⟨_,func31,by kernel_rfl,by kernel_rfl⟩
theorem ca32:Callable prog 32:=⟨_,func32,by kernel_rfl,by kernel_rfl⟩
theorem ca33:Callable prog 33:=⟨_,func33,by kernel_rfl,by kernel_rfl⟩
theorem ca34:Callable prog 34:=⟨_,func34,by kernel_rfl,by kernel_rfl⟩
theorem ca35:Callable prog 35:=⟨_,func35,by kernel_rfl,by kernel_rfl⟩
theorem ca36:Callable prog 36:=⟨_,func36,by kernel_rfl,by kernel_rfl⟩
theorem zaI:Callable prog 37:=⟨_,func37,by kernel_rfl,by kernel_rfl⟩
theorem ca39:Callable prog 39:=⟨_,func39,by kernel_rfl,by kernel_rfl⟩
theorem ztu:Callable prog 45:=⟨_,func45,by kernel_rfl,by kernel_rfl⟩
theorem ca50:Callable prog 50:=⟨_,func50,by kernel_rfl,by kernel_rfl⟩
theorem ca51:Callable prog 51:=⟨_,func51,by kernel_rfl,by kernel_rfl⟩
theorem ca52:Callable prog 52:=⟨_,func52,by kernel_rfl,by kernel_rfl⟩
theorem ca53:Callable prog 53:=⟨_,func53,by kernel_rfl,by kernel_rfl⟩
theorem ca54:Callable prog 54:=⟨_,func54,by kernel_rfl,by kernel_rfl⟩
theorem ca55:Callable prog 55:=⟨_,func55,by kernel_rfl,by kernel_rfl⟩
theorem ca56:Callable prog 56:=⟨_,func56,by kernel_rfl,by kernel_rfl⟩
theorem zdz:Callable prog 57:=⟨_,func57,by kernel_rfl,by kernel_rfl⟩
theorem zkH:Callable prog 58:=⟨_,func58,by kernel_rfl,by kernel_rfl⟩
theorem ca59:Callable prog 59:=⟨_,func59,by kernel_rfl,by kernel_rfl⟩
theorem ca60:Callable prog 60:=⟨_,func60,by kernel_rfl,by kernel_rfl⟩
theorem ca61:Callable prog 61:=⟨_,func61,by kernel_rfl,by kernel_rfl⟩
theorem ca62:Callable prog 62:=⟨_,func62,by kernel_rfl,by kernel_rfl⟩
theorem ca63:Callable prog 63:=⟨_,func63,by kernel_rfl,by kernel_rfl⟩
theorem ca64:Callable prog 64:=⟨_,func64,by kernel_rfl,by kernel_rfl⟩
theorem zvs:Callable prog 65:=⟨_,func65,by kernel_rfl,by kernel_rfl⟩
theorem ca66:Callable prog 66:=⟨_,func66,by kernel_rfl,by kernel_rfl⟩
theorem zhx:Callable prog 67:=⟨_,func67,by kernel_rfl,by kernel_rfl⟩
theorem ca68:Callable prog 68:=⟨_,func68,by kernel_rfl,by kernel_rfl⟩
theorem zvt:Callable prog 69:=⟨_,func69,by kernel_rfl,by kernel_rfl⟩
theorem ca70:Callable prog 70:=⟨_,func70,by kernel_rfl,by kernel_rfl⟩
theorem zcp:Callable prog 71:=⟨_,func71,by kernel_rfl,by kernel_rfl⟩
theorem ca72:Callable prog 72:=⟨_,func72,by kernel_rfl,by kernel_rfl⟩
theorem ca73:Callable prog 73:=⟨_,func73,by kernel_rfl,by kernel_rfl⟩
theorem zkI:Callable prog 74:=⟨_,func74,by kernel_rfl,by kernel_rfl⟩
theorem ca75:Callable prog 75:=⟨_,func75,by kernel_rfl,by kernel_rfl⟩
theorem ca76:Callable prog 76:=⟨_,func76,by kernel_rfl,by kernel_rfl⟩
theorem ca77:Callable prog 77:=⟨_,func77,by kernel_rfl,by kernel_rfl⟩
theorem ca78:Callable prog 78:=⟨_,func78,by kernel_rfl,by kernel_rfl⟩
theorem ca79:Callable prog 79:=⟨_,func79,by kernel_rfl,by kernel_rfl⟩
theorem ca80:Callable prog 80:=⟨_,func80,by kernel_rfl,by kernel_rfl⟩
theorem zkJ:Callable prog 81:=⟨_,func81,by kernel_rfl,by kernel_rfl⟩
theorem ca82:Callable prog 82:=⟨_,func82,by kernel_rfl,by kernel_rfl⟩
theorem ca83:Callable prog 83:=⟨_,func83,by kernel_rfl,by kernel_rfl⟩
theorem ca84:Callable prog 84:=⟨_,func84,by kernel_rfl,by kernel_rfl⟩
theorem ca85:Callable prog 85:=⟨_,func85,by kernel_rfl,by kernel_rfl⟩
theorem ca86:Callable prog 86:=⟨_,func86,by kernel_rfl,by kernel_rfl⟩
theorem ca87:Callable prog 87:=⟨_,func87,by kernel_rfl,by kernel_rfl⟩
theorem ca88:Callable prog 88:=⟨_,func88,by kernel_rfl,by kernel_rfl⟩
theorem ca89:Callable prog 89:=⟨_,func89,by kernel_rfl,by kernel_rfl⟩
theorem zns:Callable prog 90:=⟨_,func90,by kernel_rfl,by kernel_rfl⟩
theorem ca96:Callable prog 96:=⟨_,func96,by kernel_rfl,by kernel_rfl⟩
theorem ca97:Callable prog 97:=⟨_,func97,by kernel_rfl,by kernel_rfl⟩
theorem zyX:Callable prog 101:=⟨_,func101,by kernel_rfl,by kernel_rfl⟩
theorem zwt:Callable prog 103:=⟨_,func103,by kernel_rfl,by kernel_rfl⟩
theorem ztg:Callable prog 104:=⟨_,func104,by kernel_rfl,by kernel_rfl⟩
theorem zqF:Callable prog 105:=⟨_,func105,by kernel_rfl,by kernel_rfl⟩
theorem zmB:Callable prog 106:=⟨_,func106,by kernel_rfl,by kernel_rfl⟩
theorem zmC:Callable prog 107:=⟨_,func107,by kernel_rfl,by kernel_rfl⟩
theorem zjb:Callable prog 108:=⟨_,func108,by kernel_rfl,by kernel_rfl⟩
theorem zhM:Callable prog 109:=⟨_,func109,by kernel_rfl,by kernel_rfl⟩
theorem zyY:Callable prog 110:=⟨_,func110,by kernel_rfl,by kernel_rfl⟩
theorem zyZ:Callable prog 111:=⟨_,func111,by kernel_rfl,by kernel_rfl⟩
theorem zwu:Callable prog 112:=⟨_,func112,by kernel_rfl,by kernel_rfl⟩
theorem zwv:Callable prog 113:=⟨_,func113,by kernel_rfl,by kernel_rfl⟩
theorem zy0:Callable prog 114:=⟨_,func114,by kernel_rfl,by kernel_rfl⟩
theorem zww:Callable prog 115:=⟨_,func115,by kernel_rfl,by kernel_rfl⟩
theorem zth:Callable prog 116:=⟨_,func116,by kernel_rfl,by kernel_rfl⟩
theorem zbV:Callable prog 117:=⟨_,func117,by kernel_rfl,by kernel_rfl⟩
theorem zkG:Callable prog 118:=⟨_,func118,by kernel_rfl,by kernel_rfl⟩
theorem zy1:Callable prog 119:=⟨_,func119,by kernel_rfl,by kernel_rfl⟩
theorem zwx:Callable prog 120:=⟨_,func120,by kernel_rfl,by kernel_rfl⟩
theorem zy2:Callable prog 121:=⟨_,func121,by kernel_rfl,by kernel_rfl⟩
theorem zy3:Callable prog 122:=⟨_,func122,by kernel_rfl,by kernel_rfl⟩
theorem zy4:Callable prog 123:=⟨_,func123,by kernel_rfl,by kernel_rfl⟩
theorem zy5:Callable prog 124:=⟨_,func124,by kernel_rfl,by kernel_rfl⟩
theorem zy6:Callable prog 125:=⟨_,func125,by kernel_rfl,by kernel_rfl⟩
theorem zy7:Callable prog 126:=⟨_,func126,by kernel_rfl,by kernel_rfl⟩
theorem zwy:Callable prog 127:=⟨_,func127,by kernel_rfl,by kernel_rfl⟩
theorem zy8:Callable prog 128:=⟨_,func128,by kernel_rfl,by kernel_rfl⟩
theorem zti:Callable prog 129:=⟨_,func129,by kernel_rfl,by kernel_rfl⟩
theorem zy9:Callable prog 130:=⟨_,func130,by kernel_rfl,by kernel_rfl⟩
theorem zza:Callable prog 131:=⟨_,func131,by kernel_rfl,by kernel_rfl⟩
theorem zzb:Callable prog 132:=⟨_,func132,by kernel_rfl,by kernel_rfl⟩
theorem zwz:Callable prog 133:=⟨_,func133,by kernel_rfl,by kernel_rfl⟩
theorem ze5:Callable prog 134:=⟨_,func134,by kernel_rfl,by kernel_rfl⟩
theorem zf9:Callable prog 135:=⟨_,func135,by kernel_rfl,by kernel_rfl⟩
theorem zzc:Callable prog 136:=⟨_,func136,by kernel_rfl,by kernel_rfl⟩
theorem zzd:Callable prog 137:=⟨_,func137,by kernel_rfl,by kernel_rfl⟩
theorem zhN:Callable prog 138:=⟨_,func138,by kernel_rfl,by kernel_rfl⟩
theorem zze:Callable prog 139:=⟨_,func139,by kernel_rfl,by kernel_rfl⟩
theorem zwA:Callable prog 140:=⟨_,func140,by kernel_rfl,by kernel_rfl⟩
theorem zzf:Callable prog 141:=⟨_,func141,by kernel_rfl,by kernel_rfl⟩
theorem zwB:Callable prog 142:=⟨_,func142,by kernel_rfl,by kernel_rfl⟩
theorem zzg:Callable prog 143:=⟨_,func143,by kernel_rfl,by kernel_rfl⟩
theorem zwC:Callable prog 144:=⟨_,func144,by kernel_rfl,by kernel_rfl⟩
theorem zzh:Callable prog 145:=⟨_,func145,by kernel_rfl,by kernel_rfl⟩
theorem zbu:Callable prog 146:=⟨_,func146,by kernel_rfl,by kernel_rfl⟩
theorem zwD:Callable prog 147:=⟨_,func147,by kernel_rfl,by kernel_rfl⟩
theorem ztj:Callable prog 148:=⟨_,func148,by kernel_rfl,by kernel_rfl⟩
theorem zzi:Callable prog 149:=⟨_,func149,by kernel_rfl,by kernel_rfl⟩
theorem zzj:Callable prog 150:=⟨_,func150,by kernel_rfl,by kernel_rfl⟩
theorem zwE:Callable prog 151:=⟨_,func151,by kernel_rfl,by kernel_rfl⟩
theorem zzk:Callable prog 152:=⟨_,func152,by kernel_rfl,by kernel_rfl⟩
theorem zwF:Callable prog 153:=⟨_,func153,by kernel_rfl,by kernel_rfl⟩
theorem zzl:Callable prog 154:=⟨_,func154,by kernel_rfl,by kernel_rfl⟩
theorem zwG:Callable prog 155:=⟨_,func155,by kernel_rfl,by kernel_rfl⟩
theorem zwH:Callable prog 156:=⟨_,func156,by kernel_rfl,by kernel_rfl⟩
theorem zzm:Callable prog 157:=⟨_,func157,by kernel_rfl,by kernel_rfl⟩
theorem zzn:Callable prog 158:=⟨_,func158,by kernel_rfl,by kernel_rfl⟩
theorem zzo:Callable prog 159:=⟨_,func159,by kernel_rfl,by kernel_rfl⟩
theorem zzp:Callable prog 160:=⟨_,func160,by kernel_rfl,by kernel_rfl⟩
theorem zzq:Callable prog 161:=⟨_,func161,by kernel_rfl,by kernel_rfl⟩
theorem zzr:Callable prog 162:=⟨_,func162,by kernel_rfl,by kernel_rfl⟩
theorem zzs:Callable prog 163:=⟨_,func163,by kernel_rfl,by kernel_rfl⟩
theorem zzt:Callable prog 164:=⟨_,func164,by kernel_rfl,by kernel_rfl⟩
theorem ze6:Callable prog 165:=⟨_,func165,by kernel_rfl,by kernel_rfl⟩
theorem zcw:Callable prog 166:=⟨_,func166,by kernel_rfl,by kernel_rfl⟩
theorem zzu:Callable prog 167:=⟨_,func167,by kernel_rfl,by kernel_rfl⟩
theorem zzv:Callable prog 168:=⟨_,func168,by kernel_rfl,by kernel_rfl⟩
theorem zzw:Callable prog 169:=⟨_,func169,by kernel_rfl,by kernel_rfl⟩
theorem zzx:Callable prog 170:=⟨_,func170,by kernel_rfl,by kernel_rfl⟩
theorem zzy:Callable prog 171:=⟨_,func171,by kernel_rfl,by kernel_rfl⟩
theorem zzz:Callable prog 172:=⟨_,func172,by kernel_rfl,by kernel_rfl⟩
theorem zzA:Callable prog 179:=⟨_,func179,by kernel_rfl,by kernel_rfl⟩
theorem zzB:Callable prog 180:=⟨_,func180,by kernel_rfl,by kernel_rfl⟩
theorem zzC:Callable prog 181:=⟨_,func181,by kernel_rfl,by kernel_rfl⟩
theorem zzD:Callable prog 182:=⟨_,func182,by kernel_rfl,by kernel_rfl⟩
theorem zzE:Callable prog 183:=⟨_,func183,by kernel_rfl,by kernel_rfl⟩
theorem ztl:Callable prog 184:=⟨_,func184,by kernel_rfl,by kernel_rfl⟩
theorem zzF:Callable prog 185:=⟨_,func185,by kernel_rfl,by kernel_rfl⟩
theorem zzG:Callable prog 186:=⟨_,func186,by kernel_rfl,by kernel_rfl⟩
theorem zwI:Callable prog 187:=⟨_,func187,by kernel_rfl,by kernel_rfl⟩
theorem zzH:Callable prog 188:=⟨_,func188,by kernel_rfl,by kernel_rfl⟩
theorem zzI:Callable prog 189:=⟨_,func189,by kernel_rfl,by kernel_rfl⟩
theorem zzJ:Callable prog 190:=⟨_,func190,by kernel_rfl,by kernel_rfl⟩
theorem zzK:Callable prog 191:=⟨_,func191,by kernel_rfl,by kernel_rfl⟩
theorem zwJ:Callable prog 192:=⟨_,func192,by kernel_rfl,by kernel_rfl⟩
theorem zzL:Callable prog 193:=⟨_,func193,by kernel_rfl,by kernel_rfl⟩
theorem zzM:Callable prog 194:=⟨_,func194,by kernel_rfl,by kernel_rfl⟩
theorem zwK:Callable prog 195:=⟨_,func195,by kernel_rfl,by kernel_rfl⟩
theorem zwL:Callable prog 196:=⟨_,func196,by kernel_rfl,by kernel_rfl⟩
theorem zwM:Callable prog 198:=⟨_,func198,by kernel_rfl,by kernel_rfl⟩
theorem ztm:Callable prog 199:=⟨_,func199,by kernel_rfl,by kernel_rfl⟩
theorem zzN:Callable prog 201:=⟨_,func201,by kernel_rfl,by kernel_rfl⟩
theorem zzO:Callable prog 202:=⟨_,func202,by kernel_rfl,by kernel_rfl⟩
theorem zzP:Callable prog 203:=⟨_,func203,by kernel_rfl,by kernel_rfl⟩
theorem zzQ:Callable prog 204:=⟨_,func204,by kernel_rfl,by kernel_rfl⟩
theorem zwN:Callable prog 205:=⟨_,func205,by kernel_rfl,by kernel_rfl⟩
theorem ztn:Callable prog 206:=⟨_,func206,by kernel_rfl,by kernel_rfl⟩
theorem zto:Callable prog 207:=⟨_,func207,by kernel_rfl,by kernel_rfl⟩
theorem zwO:Callable prog 208:=⟨_,func208,by kernel_rfl,by kernel_rfl⟩
theorem zzR:Callable prog 209:=⟨_,func209,by kernel_rfl,by kernel_rfl⟩
theorem zwP:Callable prog 210:=⟨_,func210,by kernel_rfl,by kernel_rfl⟩
theorem zzS:Callable prog 211:=⟨_,func211,by kernel_rfl,by kernel_rfl⟩
theorem zzT:Callable prog 212:=⟨_,func212,by kernel_rfl,by kernel_rfl⟩
theorem zzU:Callable prog 213:=⟨_,func213,by kernel_rfl,by kernel_rfl⟩
theorem zwQ:Callable prog 214:=⟨_,func214,by kernel_rfl,by kernel_rfl⟩
theorem zwR:Callable prog 215:=⟨_,func215,by kernel_rfl,by kernel_rfl⟩
theorem zwS:Callable prog 216:=⟨_,func216,by kernel_rfl,by kernel_rfl⟩
theorem zwT:Callable prog 217:=⟨_,func217,by kernel_rfl,by kernel_rfl⟩
theorem zzV:Callable prog 218:=⟨_,func218,by kernel_rfl,by kernel_rfl⟩
theorem zzW:Callable prog 219:=⟨_,func219,by kernel_rfl,by kernel_rfl⟩
theorem zwU:Callable prog 220:=⟨_,func220,by kernel_rfl,by kernel_rfl⟩
theorem ztp:Callable prog 221:=⟨_,func221,by kernel_rfl,by kernel_rfl⟩
theorem zzX:Callable prog 222:=⟨_,func222,by kernel_rfl,by kernel_rfl⟩
theorem zzY:Callable prog 223:=⟨_,func223,by kernel_rfl,by kernel_rfl⟩
theorem zzZ:Callable prog 224:=⟨_,func224,by kernel_rfl,by kernel_rfl⟩
theorem zz0:Callable prog 225:=⟨_,func225,by kernel_rfl,by kernel_rfl⟩
theorem zz1:Callable prog 226:=⟨_,func226,by kernel_rfl,by kernel_rfl⟩
theorem zz2:Callable prog 227:=⟨_,func227,by kernel_rfl,by kernel_rfl⟩
theorem zz3:Callable prog 228:=⟨_,func228,by kernel_rfl,by kernel_rfl⟩
theorem zz4:Callable prog 229:=⟨_,func229,by kernel_rfl,by kernel_rfl⟩
theorem zz5:Callable prog 230:=⟨_,func230,by kernel_rfl,by kernel_rfl⟩
theorem zz6:Callable prog 231:=⟨_,func231,by kernel_rfl,by kernel_rfl⟩
theorem zwV:Callable prog 232:=⟨_,func232,by kernel_rfl,by kernel_rfl⟩
theorem zz7:Callable prog 233:=⟨_,func233,by kernel_rfl,by kernel_rfl⟩
theorem zz8:Callable prog 234:=⟨_,func234,by kernel_rfl,by kernel_rfl⟩
theorem zz9:Callable prog 235:=⟨_,func235,by kernel_rfl,by kernel_rfl⟩
theorem ztq:Callable prog 239:=⟨_,func239,by kernel_rfl,by kernel_rfl⟩
theorem zAa:Callable prog 240:=⟨_,func240,by kernel_rfl,by kernel_rfl⟩
theorem zwW:Callable prog 241:=⟨_,func241,by kernel_rfl,by kernel_rfl⟩
theorem zAb:Callable prog 242:=⟨_,func242,by kernel_rfl,by kernel_rfl⟩
theorem zAc:Callable prog 243:=⟨_,func243,by kernel_rfl,by kernel_rfl⟩
theorem zAd:Callable prog 244:=⟨_,func244,by kernel_rfl,by kernel_rfl⟩
theorem zwX:Callable prog 245:=⟨_,func245,by kernel_rfl,by kernel_rfl⟩
theorem zAe:Callable prog 246:=⟨_,func246,by kernel_rfl,by kernel_rfl⟩
theorem zAf:Callable prog 247:=⟨_,func247,by kernel_rfl,by kernel_rfl⟩
theorem zAg:Callable prog 248:=⟨_,func248,by kernel_rfl,by kernel_rfl⟩
theorem zAh:Callable prog 249:=⟨_,func249,by kernel_rfl,by kernel_rfl⟩
theorem zwY:Callable prog 259:=⟨_,func259,by kernel_rfl,by kernel_rfl⟩
theorem zAi:Callable prog 262:=⟨_,func262,by kernel_rfl,by kernel_rfl⟩
theorem zwZ:Callable prog 263:=⟨_,func263,by kernel_rfl,by kernel_rfl⟩
theorem zAj:Callable prog 264:=⟨_,func264,by kernel_rfl,by kernel_rfl⟩
theorem zAk:Callable prog 265:=⟨_,func265,by kernel_rfl,by kernel_rfl⟩
theorem zw0:Callable prog 267:=⟨_,func267,by kernel_rfl,by kernel_rfl⟩
theorem zAl:Callable prog 268:=⟨_,func268,by kernel_rfl,by kernel_rfl⟩
theorem zAm:Callable prog 269:=⟨_,func269,by kernel_rfl,by kernel_rfl⟩
theorem zAn:Callable prog 270:=⟨_,func270,by kernel_rfl,by kernel_rfl⟩
theorem zAo:Callable prog 271:=⟨_,func271,by kernel_rfl,by kernel_rfl⟩
theorem zAp:Callable prog 272:=⟨_,func272,by kernel_rfl,by kernel_rfl⟩
theorem zAq:Callable prog 273:=⟨_,func273,by kernel_rfl,by kernel_rfl⟩
theorem zAr:Callable prog 274:=⟨_,func274,by kernel_rfl,by kernel_rfl⟩
theorem zAs:Callable prog 277:=⟨_,func277,by kernel_rfl,by kernel_rfl⟩
theorem zAt:Callable prog 278:=⟨_,func278,by kernel_rfl,by kernel_rfl⟩
theorem zAu:Callable prog 279:=⟨_,func279,by kernel_rfl,by kernel_rfl⟩
theorem zAv:Callable prog 280:=⟨_,func280,by kernel_rfl,by kernel_rfl⟩
theorem ztr:Callable prog 281:=⟨_,func281,by kernel_rfl,by kernel_rfl⟩
theorem zqG:Callable prog 282:=⟨_,func282,by kernel_rfl,by kernel_rfl⟩
theorem zts:Callable prog 286:=⟨_,func286,by kernel_rfl,by kernel_rfl⟩
theorem zAw:Callable prog 287:=⟨_,func287,by kernel_rfl,by kernel_rfl⟩
theorem zAx:Callable prog 288:=⟨_,func288,by kernel_rfl,by kernel_rfl⟩
theorem zAy:Callable prog 294:=⟨_,func294,by kernel_rfl,by kernel_rfl⟩
theorem zAz:Callable prog 297:=⟨_,func297,by kernel_rfl,by kernel_rfl⟩
theorem ztt:Callable prog 298:=⟨_,func298,by kernel_rfl,by kernel_rfl⟩
theorem zqH:Callable prog 300:=⟨_,func300,by kernel_rfl,by kernel_rfl⟩
theorem zAA:Callable prog 301:=⟨_,func301,by kernel_rfl,by kernel_rfl⟩
theorem zw1:Callable prog 312:=⟨_,func312,by kernel_rfl,by kernel_rfl⟩
theorem zAB:Callable prog 317:=⟨_,func317,by kernel_rfl,by kernel_rfl⟩
theorem zAC:Callable prog 318:=⟨_,func318,by kernel_rfl,by kernel_rfl⟩
theorem zAD:Callable prog 319:=⟨_,func319,by kernel_rfl,by kernel_rfl⟩
theorem zqI:Callable prog 320:=⟨_,func320,by kernel_rfl,by kernel_rfl⟩
theorem zqJ:Callable prog 321:=⟨_,func321,by kernel_rfl,by kernel_rfl⟩
theorem zAE:Callable prog 331:=⟨_,func331,by kernel_rfl,by kernel_rfl⟩
theorem zw2:Callable prog 350:=⟨_,func350,by kernel_rfl,by kernel_rfl⟩
theorem mixed:prog.follows .mixedOrders=true:=by kernel_rfl
end
end Go.Proofs.YtahegdhbakjdoaaGreatDoor
namespace Go.HL
section
abbrev Str:=List UInt8
theorem zg {α:Type} {l:List α} {k:Nat} {x:α} (h:l[k]? =some x):l.drop k=x::l.drop (k+1):=by
 have hlt:=zl h;rw [Aa hlt] at h;rw [List.drop_eq_getElem_cons hlt]
 simp at h
 rw [h]
theorem zaj {α:Type} {l:List α} {k:Nat} {x:α} (h:l[k]? =some x):l.take (k+1)=l.take k++[x]:=by
 have hlt:=zl h;rw [Aa hlt] at h;rw [List.take_succ_eq_append_getElem hlt]
 simp at h
 rw [h]
theorem zH {α:Type} {l:List α} {k:Nat} (h:l.length<=k):l.drop k=[]:=Bk h
theorem hd0 {s:Str} (h:s≠[]):s[0]? =some (s.headD 0):=by
 cases s with
 |nil=>exact absurd rfl h
 |cons a r=>rfl
abbrev eSs (l:List Str):HVal:= .slice 1 (l.map .str)
abbrev eIs (l:List Int):HVal:= .slice 1 (l.map (.int .i64))
def out (n lo hi:Int):Bool:=decide (n<lo)||decide (hi<n)
theorem zeu {n lo hi:Int} (h:out n lo hi=false):lo<=n/\n<=hi:=by simp [out] at h;omega
theorem zrI {a b A B:Int} (h1:0<=a) (h2:a<=A) (h3:0<=b) (h4:b<=B):0<=a*b/\a*b<=A*B:=
 ⟨Int.mul_nonneg h1 h3,Int.mul_le_mul h2 h4 h3 (by omega)⟩
def zT (n:Int):Bool:= !(out n 0 345686399999)
def zfC (c:UInt8):Bool:=(decide (97<=c.toNat)&&decide (c.toNat<=122))||(decide (48<=c.toNat)&&decide (c.toNat<=57))||c.toNat==45||c.toNat==95
def zjj (s:Str):Bool:=s !=[]&&decide (s.length<=40)&&decide (97<=(s.headD 0).toNat)&&decide ((s.headD 0).toNat<=122)
theorem zxH {s:Str} (h:((¬s=[]/\(s.length:Int)<=40)/\97<=(((List.head? s).getD 0).toNat:Int))/\(((List.head? s).getD 0).toNat:Int)<=122):zjj s=true:=by
 obtain ⟨⟨⟨h1,h2⟩,h3⟩,h4⟩:=h
 simp [zjj];exact ⟨⟨⟨h1,by omega⟩,by omega⟩,by omega⟩
theorem zxG {s:Str} (h:((s=[]\/40<(s.length:Int))\/(((List.head? s).getD 0).toNat:Int)<97)\/122<(((List.head? s).getD 0).toNat:Int)):zjj s=false:=by
 rw [B1];simp [zjj]
 intro h1 h2 h3
 rcases h with ((h|h)|h)|h
 ·exact absurd h h1
 all_goals omega
theorem zxF {x:UInt8} (h:(x.toNat:Int)<97\/122<(x.toNat:Int)->(x.toNat:Int)<48\/57<(x.toNat:Int)->¬(x.toNat:Int)=45->(x.toNat:Int)=95):zfC x=true:=by
 simp [zfC];omega
theorem zxE {x:UInt8} (h:((((x.toNat:Int)<97\/122<(x.toNat:Int))/\((x.toNat:Int)<48\/57<(x.toNat:Int)))/\¬(x.toNat:Int)=45)/\¬(x.toNat:Int)=95):zfC x=false:=by
 rw [B1];simp [zfC];omega
def key (s:Str):Bool:=zjj s&&s.all zfC
def zcL (s:Str):List Str->Int->Int
 |[],_=> -1
 |x::r,k=>if s=x then k else zcL s r (k+1)
theorem zma (s:Str): ∀(l:List Str) (k:Int),0<=k->decide (0<=zcL s l k)=l.contains s
 |[],k,h=>by simp [zcL]
 |x::r,k,h=>by
   have ih:=zma s r (k+1) (by omega)
   by_cases hx:s=x
   simp [zcL,hx,h]
   have e1:zcL s (x::r) k=zcL s r (k+1):=by simp [zcL,hx]
   rw [e1,ih];simp [hx]
end
end Go.HL
namespace Go.Proofs.YtahegdhbakjdoaaGreatDoor
set_option maxRecDepth 100000
set_option linter.unusedVariables false
set_option linter.unusedSimpArgs false
section
open Go.Proofs.Tryz
open Go.HL
theorem zac [Tracks] {n lo hi:Int}:ConP prog 146 [.int .i64 n,.int .i64 lo,.int .i64 hi] (.bool (out n lo hi)):=by
 refine uOb func146 ntmps146 ?_;refine ziK ?_;refine zw rfl ?_
 simp [out]
theorem zaZ [Tracks] {n:Int}:ConP prog 67 [.int .i64 n] (.bool (zT n)):=by
 refine uOb func67 ntmps67 ?_;refine gz5 ?_;refine dq (uCl zbu rfl zac) ?_;refine gz4 ?_;refine zw rfl ?_
 rfl
theorem zah [Tracks] {s:Str}:ConP prog 71 [.str s] (.bool (key s)):=by
 refine uOb func71 ntmps71 ?_;refine zdS ?_;refine uGr rfl (fun hc=>zaG (j:=0) (b:=s.headD 0) ty9 rfl rfl rfl (hd0 uSa)) ?_;refine gz4 ?_;refine uGr rfl (fun hc=>zaG (j:=0) (b:=s.headD 0) ty9 rfl rfl rfl (hd0 uSa)) ?_;refine gz3 ?_;refine uCo (fun h1=> ?_) fun h2=> ?_
 refine gz4 ?_;refine zw rfl ?_
 (rw [key,zxG h1];rfl)
 refine gz9 ?_;refine uT1 [2,3,24,30] (fun k=>[(24,.int .i64 k)]) (fun k=>[]) (fun k=>k<=s.length/\key s=(s.drop k).all zfC) (fun k=>s.length-k) (0) ?_ ?_;exact ⟨Ad _,by rw [key,zxH h2];rfl⟩;rintro k ⟨hk,hg⟩;refine gz4 ?_;refine uCo (fun h3=> ?_) fun h4=> ?_
 obtain ⟨x,hx⟩: ∃x,s[k]? =some x:=⟨_,Aa h3⟩
 have hd:=zg hx;rw [hd] at hg;refine zcC ?_;refine dq (zaG ty9 rfl rfl rfl (by assumption)) ?_;refine gz27 ?_;refine uCo (fun h5=> ?_) fun h6=> ?_
 refine gz4 ?_;refine zw rfl ?_
 (rw [hg,BP,zxE h5];rfl)
 refine gz7 ?_;refine ⟨k+1,?_,?_,⟨rfl,trivial⟩,uK,Ab _⟩
 refine ⟨by omega,?_⟩
 rw [hg,BP,zxF h6];rfl
 dsimp only;omega
 rw [zH uO] at hg;refine gz2 ?_;refine zt ?_;refine gz6 ?_;refine zw rfl ?_
 (rw [hg];rfl)
theorem zdQ [Tracks] {l:List Str} {s:Str} (hl:l.length<=1000000000):ConP prog 32 [eSs l,.str s] (.int .i64 (zcL s l 0)):=by
 refine uOb func32 ntmps32 ?_;refine zan ?_;refine uT1 [4,2,8,11] (fun k=>[(8,.int .i64 k)]) (fun k=>[]) (fun k=>k<=l.length/\zcL s l 0=zcL s (l.drop k) k) (fun k=>l.length-k) (0) ?_ ?_
 simp
 rintro k ⟨hk,hg⟩;refine gz4 ?_;refine uCo (fun h1=> ?_) fun h2=> ?_
 obtain ⟨x,hx⟩: ∃x,l[k]? =some x:=⟨_,Aa h1⟩
 have hd:=zg hx;rw [hd] at hg;refine zo9 ?_;refine uCo (fun h3=> ?_) fun h4=> ?_
 refine gz5 ?_;refine zw rfl ?_
 (congr 1;simp_all [zcL])
 refine gz7 ?_;refine ⟨k+1,?_,?_,⟨rfl,trivial⟩,uK,Ab _⟩
 refine ⟨by omega,?_⟩
 rw [hg,zcL,if_neg h4];rfl
 dsimp only;omega
 rw [zH uSa] at hg;refine gz2 ?_;refine zt ?_;refine gz6 ?_;refine zw rfl ?_
 (rw [hg];rfl)
theorem zv [Tracks] {l:List Str} {s:Str} (hl:l.length<=1000000000):ConP prog 10 [eSs l,.str s] (.bool (l.contains s)):=by
 refine uOb func10 ntmps10 ?_;refine gz6 ?_;refine dq (uCl ca32 rfl (zdQ (by assumption))) ?_;refine gz4 ?_;refine zw rfl ?_
 congr 1;exact zma s l 0 uO
end
end Go.Proofs.YtahegdhbakjdoaaGreatDoor
namespace Go.HL
section
theorem getD_some {α:Type} {l:List α} {k:Nat} {d:α} (h:k<l.length):l[k]? =some (l.getD k d):=by
 simp [Aa h,List.getD]
def leS (s p:Str):Bool:=Op.bytesLess s p||s==p
structure Room where
 Teams:List Str
 Rounds:Int
 Way:Int
 Players:List Str
 Clock:Int
 Start:Int
structure Keep where
 Team:Str
 Player:Str
 Round:Int
structure Swap where
 Round:Int
 Of:Str
 Team:Str
structure Pick where
 No:Int
 Team:Str
 Player:Str
 At:Int
 Auto:Bool
structure Turn where
 round:Int
 of:Str
 team:Str
abbrev zn5 (r:Room):HVal:= .agg [eSs r.Teams,.int .i64 r.Rounds,.int .i64 r.Way,eSs r.Players,.int .i64 r.Clock,.int .i64 r.Start]
abbrev zAF (x:Swap):HVal:= .agg [.int .i64 x.Round,.str x.Of,.str x.Team]
abbrev zn6 (x:Turn):HVal:= .agg [.int .i64 x.round,.str x.of,.str x.team]
abbrev zlY (l:List Swap):HVal:= .slice 3 (l.map zAF)
abbrev zyr (l:List Turn):HVal:= .slice 3 (l.map zn6)
def zqU:Swap:=⟨0,[],[]⟩
def zw6:Keep:=⟨[],[],0⟩
def zbg (l:List Str):Nat->List Str->Int
 |_,[]=>0
 |k,s::r=>if !key s then 5 else if decide (0<k)&&leS s (l.getD (k-1) []) then 7 else zbg l (k+1) r
def zdm (l:List Str):Int:=zbg l 0 l
def zgV (l:List Str):Nat->List Str->Int
 |_,[]=>0
 |k,s::r=>if !key s then 5 else if (l.take k).contains s then 6 else zgV l (k+1) r
def teamsFault (l:List Str):Int:=if l.length=0 then 8 else if 20<l.length then 2 else zgV l 0 l
def playersFault (l:List Str):Int:=if 500<l.length then 2 else zdm l
def zbm (r:Room):Int:=
 if teamsFault r.Teams !=0 then teamsFault r.Teams
 else if out r.Rounds 1 30 then 1 else if out r.Way 1 3 then 4
 else if playersFault r.Players !=0 then playersFault r.Players
 else if out r.Clock 1000 86400000|| !(zT r.Start) then 1
 else if (r.Players.length:Int)<r.Teams.length*r.Rounds then 12 else 0
def backwards (way round:Int):Bool:=
 if way=2 then round.tmod 2==0 else if way=3 then round==2||(decide (2<round)&&round.tmod 2==1) else false
def owner (round:Int) (of:Str):List Swap->Str
 |[]=>of
 |s::r=>if s.Round=round/\s.Of=of then s.Team else owner round of r
end
end Go.HL
namespace Go.Proofs.YtahegdhbakjdoaaGreatDoor
set_option maxRecDepth 100000
set_option linter.unusedVariables false
set_option linter.unusedSimpArgs false
section
open Go.Proofs.Tryz
open Go.HL
theorem zhu [Tracks] {l:List Str} (hl:l.length<=1000000):ConP prog 286 [eSs l] (.int .i64 (zdm l)):=by
 refine uOb func286 ntmps286 ?_;refine zan ?_;refine uT1 [2,3,7,20] (fun k=>[(7,.int .i64 k)]) (fun k=>[]) (fun k=>k<=l.length/\(zdm l=zbg l k (l.drop k))) (fun k=>l.length-k) (0) ?_ ?_;exact ⟨Ad _,rfl⟩;rintro k ⟨hk,hg⟩;refine gz4 ?_;refine uCo (fun h1=> ?_) fun h2=> ?_
 obtain ⟨x,hx⟩: ∃x,l[k]? =some x:=⟨_,Aa h1⟩
 have hdx:=zg hx;rw [hdx] at hg;refine zdS ?_;refine dq (uCl zcp rfl zah) ?_;refine gz2 ?_;refine uCo (fun h3=> ?_) fun h4=> ?_
 refine gz4 ?_;refine uRp ?_;rw [hg];simp_all [zbg,leS];refine zan ?_;refine uGr rfl (fun hc=>by have hq:=hc;(try simp at hq);exact zD (j:=k-1) (a:=l.getD (k-1) []) zk ty9 rfl rfl uO (getD_some uO)) ?_;refine gz4 ?_;refine uCo (fun h5=> ?_) fun h6=> ?_
 refine gz4 ?_;refine uRp ?_;rw [hg];simp_all [zbg,leS];refine gz7 ?_;refine ⟨k+1,?_,?_,⟨rfl,trivial⟩,uK,Ab _⟩
 refine ⟨by omega,?_⟩
 rw [hg];simp_all [zbg,leS]
 dsimp only;omega
 have hnk:l.length<=k:=by omega
 obtain rfl:k=l.length:=by omega
 rw [zH (Ae _)] at hg;refine gz2 ?_;refine zt ?_;refine gz6 ?_;refine uRp ?_;rw [hg];simp_all [zbg,leS]
theorem zlJ [Tracks] {l:List Str} (hl:l.length<=1000000):ConP prog 230 [eSs l] (.int .i64 (teamsFault l)):=by
 refine uOb func230 ntmps230 ?_;refine zcC ?_;refine uCo (fun h1=> ?_) fun h2=> ?_
 refine gz4 ?_;refine uRp ?_
 (rw [teamsFault,if_pos uSa])
 refine gz6 ?_;refine uCo (fun h3=> ?_) fun h4=> ?_
 refine gz4 ?_;refine uRp ?_
 (rw [teamsFault,if_neg uSa,if_pos uO])
 refine zan ?_;refine uT1 [2,3,15,14] (fun k=>[(15,.int .i64 k)]) (fun k=>[]) (fun k=>k<=l.length/\(teamsFault l=zgV l k (l.drop k))) (fun k=>l.length-k) (0) ?_ ?_;refine ⟨Ad _,?_⟩
 rw [teamsFault,if_neg uSa,if_neg uO];rfl;rintro k ⟨hk,hg⟩;refine gz4 ?_;refine uCo (fun h5=> ?_) fun h6=> ?_
 obtain ⟨x,hx⟩: ∃x,l[k]? =some x:=⟨_,Aa h5⟩
 have hdx:=zg hx;rw [hdx] at hg;refine zdS ?_;refine dq (uCl zcp rfl zah) ?_;refine gz2 ?_;refine uCo (fun h7=> ?_) fun h8=> ?_
 refine gz4 ?_;refine uRp ?_
 (rw [hg];simp_all [zgV])
 refine gz5 ?_;refine dq (zaL zk ty9 rfl rfl ⟨_,_,rfl,rfl⟩ uO uO) ?_;refine gz1 ?_;refine dq (uCl zeG rfl (zv uSo)) ?_;refine gz1 ?_;refine uCo (fun h9=> ?_) fun h10=> ?_
 refine gz4 ?_;refine uRp ?_
 (rw [hg];simp_all [zgV])
 refine gz7 ?_;refine ⟨k+1,?_,?_,⟨rfl,trivial⟩,uK,Ab _⟩
 refine ⟨by omega,?_⟩
 rw [hg];simp_all [zgV]
 dsimp only;omega
 have hnk:l.length<=k:=by omega
 obtain rfl:k=l.length:=by omega
 rw [zH (Ae _)] at hg;refine gz2 ?_;refine zt ?_;refine gz6 ?_;refine uRp ?_
 (rw [hg];simp_all [zgV])
theorem zkv [Tracks] {l:List Str} (hl:l.length<=1000000):ConP prog 231 [eSs l] (.int .i64 (playersFault l)):=by
 refine uOb func231 ntmps231 ?_;refine gz9 ?_;refine uCo (fun h1=> ?_) fun h2=> ?_
 refine gz4 ?_;refine uRp ?_;unfold playersFault
 split<;>first|rfl|(exfalso;omega)
 refine gz4 ?_;refine dq (uCl zts rfl (zhu (by assumption))) ?_;refine gz3 ?_;refine uRp ?_;unfold playersFault
 split<;>first|rfl|(exfalso;omega)
theorem zmV [Tracks] {r:Room} (ht:r.Teams.length<=1000000) (hp:r.Players.length<=1000000):ConP prog 164 [zn5 r] (.int .i64 (zbm r)):=by
 refine uOb func164 ntmps164 ?_;refine gz8 ?_;refine dq (uCl zz5 rfl (zlJ (by assumption))) ?_;refine gz6 ?_;refine uCo (fun h1=> ?_) fun h2=> ?_
 refine gz5 ?_;refine uRp ?_
 simp_all [zbm]
 refine gz7 ?_;refine dq (uCl zbu rfl zac) ?_;refine gz2 ?_;refine uCo (fun h3=> ?_) fun h4=> ?_
 refine gz4 ?_;refine uRp ?_
 simp_all [zbm]
 refine gz3 ?_;refine dq (uCl zbu rfl zac) ?_;refine gz2 ?_;refine uCo (fun h5=> ?_) fun h6=> ?_
 refine gz4 ?_;refine uRp ?_
 simp_all [zbm]
 refine gz7 ?_;refine dq (uCl zz6 rfl (zkv (by assumption))) ?_;refine gz6 ?_;refine uCo (fun h7=> ?_) fun h8=> ?_
 refine gz5 ?_;refine uRp ?_
 simp_all [zbm]
 refine gz7 ?_;refine dq (uCl zbu rfl zac) ?_;refine gz3 ?_;refine uGr rfl (fun hc=>uCl zhx rfl zaZ) ?_;refine gz4 ?_;refine uCo (fun h9=> ?_) fun h10=> ?_
 refine gz4 ?_;refine uRp ?_
 simp_all [zbm]
 refine gz9 ?_;have hR:=zeu (n:=r.Rounds) (lo:=1) (hi:=30) uSa;have hm:=zrI (a:=(r.Teams.length:Int)) (b:=r.Rounds) (A:=1000000) (B:=30) uO uO uO uO;refine dq (zfX rfl rfl uO uO) ?_;refine gz3 ?_;refine uCo (fun h11=> ?_) fun h12=> ?_
 refine gz4 ?_;refine uRp ?_
 simp_all [zbm]
 refine gz7 ?_;refine uRp ?_
 simp_all [zbm]
theorem zmW [Tracks] {way round:Int}:ConP prog 167 [.int .i64 way,.int .i64 round] (.bool (backwards way round)):=by
 refine uOb func167 ntmps167 ?_;refine zdC ?_;refine uCo (fun h1=> ?_) fun h2=> ?_
 refine gz2 ?_;refine dq (zc1 rfl rfl uO) ?_;refine gz4 ?_;refine zw rfl ?_
 show HVal.bool _=_
 simp_all [backwards]
 refine gz4 ?_;refine uCo (fun h3=> ?_) fun h4=> ?_
 refine gz8 ?_;refine uGr rfl (fun hc=>by have hq:=hc;(try simp at hq);exact zc1 rfl rfl uO) ?_;refine gz6 ?_;refine zw rfl ?_
 show HVal.bool _=_
 simp_all [backwards]
 refine gz7 ?_;refine zw rfl ?_
 show HVal.bool _=_
 simp_all [backwards]
theorem zqo [Tracks] {l:List Swap} {round:Int} {of:Str} (hl:l.length<=1000000):ConP prog 169 [zlY l,.int .i64 round,.str of] (.str (owner round of l)):=by
 refine uOb func169 ntmps169 ?_;refine zan ?_;refine uT1 [6,1,8,1,11,17] (fun k=>[(11,.int .i64 k)]) (fun k=>[]) (fun k=>k<=l.length/\(owner round of l=owner round of (l.drop k))) (fun k=>l.length-k) (0) ?_ ?_;exact ⟨Ad _,by simp_all⟩;rintro k ⟨hk,hg⟩;refine gz4 ?_;refine uCo (fun h1=> ?_) fun h2=> ?_
 obtain ⟨x,hx⟩: ∃x,l[k]? =some x:=⟨_,Aa h1⟩
 have hdx:=zg hx;rw [hdx] at hg;refine gz7 ?_;refine de rfl (zj zk8 rfl fun b8=> ?_)
 refine de0 (zo zk8 rfl rfl rfl rfl rfl ?_)
 refine gz1 ?_;refine zf (zp 8 rfl) ?_;refine zdC ?_;refine uCo (fun h3=> ?_) fun h4=> ?_
 refine gz6 ?_;refine zw rfl ?_
 show HVal.str _=_
 rw [hg];simp_all [owner];refine gz7 ?_;refine ⟨k+1,?_,?_,⟨rfl,trivial⟩,uK,Ab _⟩
 refine ⟨by omega,?_⟩
 rw [hg];simp_all [owner]
 dsimp only;omega
 have hnk:l.length<=k:=by omega
 obtain rfl:k=l.length:=by omega
 rw [zH (Ae _)] at hg;refine gz2 ?_;refine zt ?_;refine gz7 ?_;refine zw rfl ?_
 show HVal.str _=_
 rw [hg];simp_all [owner]
end
end Go.Proofs.YtahegdhbakjdoaaGreatDoor
namespace Go.HL
section
open Op (bytesLess)
def zY (a b:Int):Int:=if a<b then-1 else if b<a then 1 else 0
def orI:List Int->Int
 |[]=>0
 |x::r=>if x≠0 then x else orI r
abbrev zU (a b:Str):Int:=Lib.compareBytes a b
theorem zar: ∀a:Str,bytesLess a a=false
 |[]=>rfl
 |x::r=>by simp [bytesLess,zar r]
theorem zdv: ∀{a b c:Str},bytesLess a b=true->bytesLess b c=true->bytesLess a c=true
 |_,[],_,h,_=>by simp [bytesLess] at h
 |_,_::_,[],_,h=>by simp [bytesLess] at h
 |[],_::_,_::_,_,_=>by simp [bytesLess]
 |x::a,y::b,z::c,h1,h2=>by
   simp only [bytesLess,BF,decide_eq_true_eq,BL,beq_iff_eq] at h1 h2⊢
   rcases h1 with h1|⟨rfl,h1⟩
   rcases h2 with h2|⟨rfl,h2⟩
   exact .inl (UInt8.lt_trans h1 h2);exact .inl h1
   rcases h2 with h2|⟨rfl,h2⟩
   exact .inl h2;exact .inr ⟨rfl,zdv h1 h2⟩
theorem zb4: ∀a b:Str,bytesLess a b=true\/a=b\/bytesLess b a=true
 |[],[]=> .inr (.inl rfl)
 |[],_::_=> .inl (by simp [bytesLess])
 |_::_,[]=> .inr (.inr (by simp [bytesLess]))
 |x::a,y::b=>by
   rcases UInt8.lt_or_lt_of_ne' x y with h|h|h
   exact .inl (by simp [bytesLess,h]);subst h
   rcases zb4 a b with h|h|h
   exact .inl (by simp [bytesLess,h]);exact .inr (.inl (by rw [h]));exact .inr (.inr (by simp [bytesLess,h]));exact .inr (.inr (by simp [bytesLess,h]))
where
 UInt8.lt_or_lt_of_ne' (x y:UInt8):x<y\/x=y\/y<x:=by
  rcases BJ x.toNat y.toNat with h|h|h
  exact .inl (UInt8.lt_iff_toNat_lt.2 h);exact .inr (.inl (UInt8.toNat_inj.1 h));exact .inr (.inr (UInt8.lt_iff_toNat_lt.2 h))
theorem zbL {a b:Str} (h:bytesLess a b=true):bytesLess b a=false:=by
 cases h2:bytesLess b a with
 |false=>rfl
 |true=>have:=zdv h h2;rw [zar] at this;cases this
theorem zxK {a b:Str}:leS a b= !(bytesLess b a):=by
 unfold leS
 rcases zb4 a b with h|h|h
 simp [h,zbL h]
 subst h;simp [zar];have hne:a≠b:=fun e=>by subst e;rw [zar] at h;cases h
 simp [h,zbL h,hne]
theorem ze9: ∀a b:Str,zU a b=if bytesLess a b then-1 else if a=b then 0 else 1
 |[],[]=>rfl
 |[],_::_=>rfl
 |_::_,[]=>rfl
 |x::a,y::b=>by
   have ih:=ze9 a b;simp only [zU,Lib.compareBytes] at ih⊢
   by_cases h1:x<y
   simp [bytesLess,h1]
   by_cases h2:y<x
   have hne: ¬x=y:=fun e=>by subst e;exact absurd h2 h1
   simp [bytesLess,h1,h2,hne]
   have he:x=y:=by
    rcases BJ x.toNat y.toNat with h|h|h
    exact absurd (UInt8.lt_iff_toNat_lt.2 h) h1;exact UInt8.toNat_inj.1 h;exact absurd (UInt8.lt_iff_toNat_lt.2 h) h2
   subst he
   simp [bytesLess,h1,ih]
theorem zuW {i j:Nat} (h:i+j<=2000000):HVal.int .i64 (IntKind.wrap .i64 ((IntKind.wrap .u64 ((i:Int)+(j:Int))).fdiv (2^min (Int.toNat 1) (IntKind.bits .u64))))= .int .i64 (((i+j)/2:Nat):Int):=by
 have h1:IntKind.wrap .u64 ((i:Int)+(j:Int))=((i+j:Nat):Int):=by simp [IntKind.wrap,IntKind.bits,IntKind.signed];omega
 have h2:min (Int.toNat 1) (IntKind.bits .u64)=1:=by decide
 rw [h1,h2];have h3:(((i+j:Nat):Int).fdiv (2^1))=(((i+j)/2:Nat):Int):=by
  rw [Int.fdiv_eq_ediv_of_nonneg _ (by decide)];rfl
 rw [h3,zkj (by omega) (by omega)]
def SortedS (l:List Str):Prop:=List.Pairwise (fun a b=>bytesLess a b=true) l
theorem SortedS.get {l:List Str} (h:SortedS l) {i j:Nat} {a b:Str} (hij:i<j) (ha:l[i]? =some a) (hb:l[j]? =some b):bytesLess a b=true:=by
 have h1:=zl ha;have h2:=zl hb;have:=List.pairwise_iff_getElem.1 h i j h1 h2 hij;rw [Aa h1] at ha;rw [Aa h2] at hb
 simp at ha hb
 rw [<-ha,<-hb];exact this
theorem zwq {l:List Str} (hs:SortedS l) {s x:Str} {m:Nat} (hx:l[m]? =some x) (h:Op.bytesLess x s=true): ∀(k:Nat) (y:Str),k<m+1->l[k]? =some y->Op.bytesLess y s=true:=fun k y hk hy=>by
 by_cases e:k=m
 subst e;rw [hx] at hy;cases hy;exact h;exact zdv (hs.get (by omega:k<m) hy hx) h
theorem zta {l:List Str} (hs:SortedS l) {s x:Str} {m:Nat} (hx:l[m]? =some x) (h:Op.bytesLess x s=false): ∀(k:Nat) (y:Str),m<=k->l[k]? =some y->Op.bytesLess y s=false:=fun k y hk hy=>by
 by_cases e:k=m
 subst e;rw [hx] at hy;cases hy;exact h
 cases hq:Op.bytesLess y s with
 |false=>rfl
 |true=>have:=zdv (hs.get (by omega:m<k) hx hy) hq;rw [h] at this;cases this
theorem zvn {l:List Str} {s:Str} {i:Nat} (b:Bool):(bif decide ((i:Int)<(l.length:Int)) then bif l.getD i []==s then true else bif false then b else false else false)=(l[i]? ==some s):=by
 by_cases h:i<l.length
 have h':(i:Int)<(l.length:Int):=by omega
 simp only [h',decide_true,cond_true,cond_false,getD_some (d:=[]) h]
 cases hb:l.getD i []==s with
 |true=>simp at hb;simp [hb]
 |false=>simp at hb;simp [hb]
 have h': ¬(i:Int)<(l.length:Int):=by omega
 simp [h',Ax (by omega:l.length<=i)]
def zdb (l:List Str) (s:Str):Nat:=l.countP fun x=>bytesLess x s
theorem zmO {l:List Str} {s:Str} {i:Nat} (hi:i<=l.length) (h1: ∀(k:Nat) (x:Str),k<i->l[k]? =some x->bytesLess x s=true) (h2: ∀(k:Nat) (x:Str),i<=k->l[k]? =some x->bytesLess x s=false):
 zdb l s=i:=by
 unfold zdb;have e:l=l.take i++l.drop i:=(Bf i l).symm;rw [e,List.countP_append];have a1:(l.take i).countP (fun x=>bytesLess x s)=(l.take i).length:=by
  rw [List.countP_eq_length]
  intro x hx
  obtain ⟨k,hk,rfl⟩:=A4 hx;simp only [AD] at hk;refine h1 k _ (by omega) ?_;rw [List.getElem_take];exact Aa (by omega)
 have a2:(l.drop i).countP (fun x=>bytesLess x s)=0:=by
  rw [List.countP_eq_zero]
  intro x hx
  obtain ⟨k,hk,rfl⟩:=A4 hx
  simp at hk
  have:=h2 (i+k) (l[i+k]) (by omega) (Aa (by omega));rw [List.getElem_drop]
  simp [this]
 rw [a1,a2]
 simp;omega
theorem zrv {l:List Str} {s:Str} (hs:SortedS l) {i:Nat} (hi:i<=l.length) (h1: ∀(k:Nat) (x:Str),k<i->l[k]? =some x->bytesLess x s=true) (h2: ∀(k:Nat) (x:Str),i<=k->l[k]? =some x->bytesLess x s=false):
 (l[i]? ==some s)=l.contains s:=by
 rw [AL]
 simp
 constructor
 intro h;exact Ac h
 intro h
 obtain ⟨k,hk,rfl⟩:=A4 h;have hk':=Aa hk
 rcases BJ k i with h3|h3|h3
 have:=h1 k _ h3 hk';rw [zar] at this;cases this;subst h3;exact hk';have hii:i<l.length:=by omega
 have hlt:=hs.get h3 (Aa hii) hk';have:=h2 i _ (Ae _) (Aa hii);rw [hlt] at this;cases this
def zab {α:Type} (p:α->Bool):List α->Int->Int
 |[],_=> -1
 |x::r,k=>if p x then k else zab p r (k+1)
theorem zcW {α:Type} (p:α->Bool): ∀(l:List α) (k:Int),0<=k->decide (0<=zab p l k)=l.any p
 |[],k,h=>by simp [zab]
 |x::r,k,h=>by
   have ih:=zcW p r (k+1) (by omega)
   by_cases hx:p x=true
   simp [zab,hx,h]
   have e1:zab p (x::r) k=zab p r (k+1):=by simp [zab,hx]
   rw [e1,ih];simp [hx]
end
end Go.HL
namespace Go.Proofs.YtahegdhbakjdoaaGreatDoor
set_option maxRecDepth 100000
set_option linter.unusedVariables false
set_option linter.unusedSimpArgs false
section
open Go.Proofs.Tryz
open Go.HL
theorem zi9 [Tracks] {n:Int}:ConP prog 232 [.int .i64 n] (.bool false):=by
 refine uOb func232 ntmps232 ?_;refine zan ?_;refine zw rfl ?_
 simp
theorem zdp [Tracks] {s:Str}:ConP prog 300 [.str s] (.bool false):=by
 refine uOb func300 ntmps300 ?_;refine zan ?_;refine zw rfl ?_
 simp
theorem zfV [Tracks] {s:Str}:ConP prog 350 [.str s] (.bool false):=by
 refine uOb func350 ntmps350 ?_;refine zan ?_;refine zw rfl ?_
 simp
theorem zP [Tracks] {a b:Int}:ConP prog 166 [.int .i64 a,.int .i64 b] (.int .i64 (zY a b)):=by
 refine uOb func166 ntmps166 ?_;refine gz5 ?_;refine dq (uCl zwV rfl zi9) ?_;refine gz4 ?_;refine dq (uCl zwV rfl zi9) ?_;refine gz6 ?_;refine zcV rfl ?_;refine gz6 ?_;refine zcV rfl ?_;refine gz8 ?_;refine uCo (fun h1=> ?_) fun h2=> ?_
 refine gz4 ?_;refine uRp ?_;unfold zY;(repeat' split)<;>first|rfl|omega
 refine gz8 ?_;refine uCo (fun h3=> ?_) fun h4=> ?_
 refine gz4 ?_;refine uRp ?_;unfold zY;(repeat' split)<;>first|rfl|omega
 refine gz6 ?_;refine uRp ?_;unfold zY;(repeat' split)<;>first|rfl|omega
theorem za0 [Tracks] {l:List Int} (hl:l.length<=1000000):ConP prog 165 [eIs l] (.int .i64 (orI l)):=by
 refine uOb func165 ntmps165 ?_;refine zeN ?_;refine uT1 [2,1,5,1,8,9] (fun k=>[(8,.int .i64 k)]) (fun k=>[]) (fun k=>k<=l.length/\(orI l=orI (l.drop k))) (fun k=>l.length-k) (0) ?_ ?_;exact ⟨Ad _,by simp_all⟩;rintro k ⟨hk,hg⟩;refine gz4 ?_;refine uCo (fun h1=> ?_) fun h2=> ?_
 obtain ⟨x,hx⟩: ∃x,l[k]? =some x:=⟨_,Aa h1⟩
 have hdx:=zg hx;rw [hdx] at hg;refine zdS ?_;refine uCo (fun h3=> ?_) fun h4=> ?_
 refine gz5 ?_;refine uRp ?_;rw [hg];simp_all [orI];refine gz7 ?_;refine ⟨k+1,?_,?_,⟨rfl,trivial⟩,uK,Ab _⟩
 refine ⟨by omega,?_⟩
 rw [hg];simp_all [orI]
 dsimp only;omega
 have hnk:l.length<=k:=by omega
 obtain rfl:k=l.length:=by omega
 rw [zH (Ae _)] at hg;refine gz2 ?_;refine zt ?_;refine gz7 ?_;refine uRp ?_;rw [hg];simp_all [orI]
theorem zeB [Tracks] {l:List Int} (hl:l.length<=1000000):ConP prog 14 [eIs l] (.int .i64 (orI l)):=by
 refine uOb func14 ntmps14 ?_;refine zeN ?_;refine uT1 [2,1,5,1,8,9] (fun k=>[(8,.int .i64 k)]) (fun k=>[]) (fun k=>k<=l.length/\(orI l=orI (l.drop k))) (fun k=>l.length-k) (0) ?_ ?_;exact ⟨Ad _,by simp_all⟩;rintro k ⟨hk,hg⟩;refine gz4 ?_;refine uCo (fun h1=> ?_) fun h2=> ?_
 obtain ⟨x,hx⟩: ∃x,l[k]? =some x:=⟨_,Aa h1⟩
 have hdx:=zg hx;rw [hdx] at hg;refine zdS ?_;refine uCo (fun h3=> ?_) fun h4=> ?_
 refine gz5 ?_;refine uRp ?_;rw [hg];simp_all [orI];refine gz7 ?_;refine ⟨k+1,?_,?_,⟨rfl,trivial⟩,uK,Ab _⟩
 refine ⟨by omega,?_⟩
 rw [hg];simp_all [orI]
 dsimp only;omega
 have hnk:l.length<=k:=by omega
 obtain rfl:k=l.length:=by omega
 rw [zH (Ae _)] at hg;refine gz2 ?_;refine zt ?_;refine gz7 ?_;refine uRp ?_;rw [hg];simp_all [orI]
theorem zb0 [Tracks] {l:List Int} (hl:l.length<=1000000):ConP prog 81 [eIs l] (.int .i64 (orI l)):=by
 refine uOb func81 ntmps81 ?_;refine zan ?_;refine uT1 [2,1,4,1,7,8] (fun k=>[(7,.int .i64 k)]) (fun k=>[]) (fun k=>k<=l.length/\(orI l=orI (l.drop k))) (fun k=>l.length-k) (0) ?_ ?_;exact ⟨Ad _,by simp_all⟩;rintro k ⟨hk,hg⟩;refine gz4 ?_;refine uCo (fun h1=> ?_) fun h2=> ?_
 obtain ⟨x,hx⟩: ∃x,l[k]? =some x:=⟨_,Aa h1⟩
 have hdx:=zg hx;rw [hdx] at hg;refine zeN ?_;refine uCo (fun h3=> ?_) fun h4=> ?_
 refine gz5 ?_;refine uRp ?_;rw [hg];simp_all [orI];refine gz7 ?_;refine ⟨k+1,?_,?_,⟨rfl,trivial⟩,uK,Ab _⟩
 refine ⟨by omega,?_⟩
 rw [hg];simp_all [orI]
 dsimp only;omega
 have hnk:l.length<=k:=by omega
 obtain rfl:k=l.length:=by omega
 rw [zH (Ae _)] at hg;refine gz2 ?_;refine zt ?_;refine gz6 ?_;refine uRp ?_;rw [hg];simp_all [orI]
theorem zfF [Tracks] {a b:Str}:ConP prog 201 [.str a,.str b] (.int .i64 (zU a b)):=by
 refine uOb func201 ntmps201 ?_;refine gz6 ?_;refine dq (ztU func261 (by kernel_rfl) (by kernel_rfl) (by kernel_rfl) (by kernel_rfl) rfl rfl rfl) ?_;refine gz3 ?_;refine zw rfl ?_
 rfl
theorem zJ [Tracks] {a b:Str}:ConP prog 117 [.str a,.str b] (.int .i64 (zU a b)):=by
 refine uOb func117 ntmps117 ?_;refine gz6 ?_;refine dq (uCl zzN rfl zfF) ?_;refine gz3 ?_;refine zw rfl ?_
 rfl
theorem zmU [Tracks] {a b:Str}:ConP prog 294 [.str a,.str b] (.bool (Op.bytesLess a b)):=by
 refine uOb func294 ntmps294 ?_;refine gz5 ?_;refine dq (uCl zqH rfl zdp) ?_;refine gz2 ?_;refine uGr rfl (fun hc=>uCl zqH rfl zdp) ?_;refine zan ?_;refine zw rfl ?_
 rfl
theorem zgG [Tracks] {l m:List Str} (hl:l.length<=1000000):ConP prog 20 [eSs l,eSs m] (.bool (l==m)):=by
 refine uOb func20 ntmps20 ?_;refine zcC ?_;refine uCo (fun h1=> ?_) fun h2=> ?_
 refine gz4 ?_;refine zw rfl ?_
 show HVal.bool _=_
 (congr 1;symm;rw [beq_eq_false_iff_ne];intro h;subst h;omega)
 refine gz9 ?_;refine uT1 [4,2,13,13] (fun k=>[(13,.int .i64 k)]) (fun k=>[]) (fun k=>k<=l.length/\(l.length=m.length/\(l==m)=(l.drop k==m.drop k))) (fun k=>l.length-k) (0) ?_ ?_;refine ⟨Ad _,?_,rfl⟩
 omega
 rintro k ⟨hk,hg⟩;refine gz4 ?_;refine uCo (fun h3=> ?_) fun h4=> ?_
 obtain ⟨x,hx⟩: ∃x,l[k]? =some x:=⟨_,Aa h3⟩
 have hdx:=zg hx;obtain ⟨y,hy⟩: ∃y,m[k]? =some y:=⟨_,Aa uO⟩
 rw [hdx,zg hy] at hg;refine gz8 ?_;refine uDr mixed ?_;refine zan ?_;refine uCo (fun h5=> ?_) fun h6=> ?_
 refine gz4 ?_;refine zw rfl ?_
 show HVal.bool _=_
 (rw [hg.2];simp_all)
 refine gz7 ?_;refine ⟨k+1,?_,?_,⟨rfl,trivial⟩,uK,Ab _⟩
 refine ⟨by omega,hg.1,?_⟩
 rw [hg.2];simp_all
 dsimp only;omega
 have hnk:l.length<=k:=by omega
 obtain rfl:k=l.length:=by omega
 rw [zH (Ae _)] at hg;refine gz2 ?_;refine zt ?_;refine gz6 ?_;refine zw rfl ?_
 show HVal.bool _=_
 (rw [hg.2];simp_all)
end
end Go.Proofs.YtahegdhbakjdoaaGreatDoor
namespace Go.HL
section
def zgU (r:Room) (l:List Swap):Nat->List Swap->Int
 |_,[]=>0
 |k,x::t=>if out x.Round 1 r.Rounds then 1 else if !(r.Teams.contains x.Of)|| !(r.Teams.contains x.Team) then 8
   else if decide (0<k)&&decide (orI [zY x.Round (l.getD (k-1) zqU).Round,zU x.Of (l.getD (k-1) zqU).Of]<=0) then 7 else zgU r l (k+1) t
def zcm (r:Room) (l:List Swap):Int:=if zbm r !=0 then zbm r else if 600<l.length then 2 else zgU r l 0 l
def zpc (r:Room) (l:List Keep):Nat->List Str->Bool->List Keep->Int
 |_,_,tw,[]=>if tw then 6 else 0
 |k,kept,tw,x::t=>if !(r.Teams.contains x.Team)|| !(r.Players.contains x.Player) then 8 else if out x.Round 1 r.Rounds then 1
   else if decide (0<k)&&decide (orI [zU x.Team (l.getD (k-1) zw6).Team,zY x.Round (l.getD (k-1) zw6).Round]<=0) then 7
   else zpc r l (k+1) (zcj x.Player kept) (tw||kept.contains x.Player) t
def zh5 (r:Room) (sw:List Swap) (round:Int):List Turn:=
 (if backwards r.Way round then r.Teams.reverse else r.Teams).map fun t=>⟨round,t,owner round t sw⟩
def zdx (r:Room) (sw:List Swap):Nat->List Turn
 |0=>[]
 |n+1=>zdx r sw n++zh5 r sw (n+1)
def turns (r:Room) (sw:List Swap):List Turn:=zdx r sw r.Rounds.toNat
theorem zhD (r:Room) (sw:List Swap): ∀n,(zdx r sw n).length=n*r.Teams.length
 |0=>by simp [zdx]
 |n+1=>by
   have:(zh5 r sw ((n:Int)+1)).length=r.Teams.length:=by unfold zh5;split<;>simp
   simp only [zdx,AA,zhD r sw n,this,Nat.succ_mul]
theorem zoA {l:List Str}: ∀(k:Nat),k<=l.length->zbg l k (l.drop k)=0->∀(i j:Nat) (a b:Str),k<=j->i+1=j->l[i]? =some a->l[j]? =some b->Op.bytesLess a b=true:=by
 intro k hk
 generalize hm:l.length-k=m
 induction m generalizing k with
 |zero=>
   intro _ i j a b h1 h2 ha hb
   have:=zl hb;omega
 |succ m ih=>
   intro h i j a b h1 h2 ha hb
   have hlt:k<l.length:=by omega
   have hx:=Aa hlt;rw [zg hx,zbg] at h
   by_cases hkey:key l[k]=true
   simp only [hkey,Bool.not_true,AQ,if_false] at h
   by_cases hle:(decide (0<k)&&leS l[k] (l.getD (k-1) []))=true
   rw [if_pos hle] at h;omega;rw [if_neg hle] at h
   by_cases hj:k+1<=j
   exact ih (k+1) (by omega) (by omega) h i j a b hj h2 ha hb;obtain rfl:j=k:=by omega
   have h0:0<j:=by omega
   simp only [h0,decide_true,Bool.true_and] at hle;have e1:l.getD (j-1) []=a:=by
    have:j-1=i:=by omega
    rw [this];simp [List.getD,ha]
   have e2:l[j]=b:=by rw [hx] at hb;simpa using hb
   rw [e1,e2,zxK] at hle
   simpa using hle
   simp [hkey] at h
theorem zkf {l:List Str} (h:zdm l=0):SortedS l:=by
 have hadj:=zoA (l:=l) 0 (Ad _) (by simpa [zdm] using h);have key: ∀(d i:Nat) (a b:Str),l[i]? =some a->l[i+d+1]? =some b->Op.bytesLess a b=true:=by
  intro d
  induction d with
  |zero=>intro i a b ha hb;exact hadj i (i+1) a b (by omega) rfl ha hb
  |succ d ih=>
    intro i a b ha hb
    have hlt:=zl hb;have hc:=Aa (l:=l) (i:=i+d+1) (by omega);have h1:=ih i a _ ha hc;have h2:=hadj (i+d+1) (i+(d+1)+1) _ b (by omega) (by omega) hc hb;exact zdv h1 h2
 refine List.pairwise_iff_getElem.2 fun i j hi hj hij=> ?_
 refine key (j-i-1) i _ _ (Aa hi) ?_;have:i+(j-i-1)+1=j:=by omega
 rw [this];exact Aa hj
theorem zlW {r:Room} (h:zbm r=0):SortedS r.Players/\r.Teams.length<=20/\0<r.Teams.length/\1<=r.Rounds/\r.Rounds<=30/\r.Players.length<=500:=by
 unfold zbm at h
 by_cases h1:teamsFault r.Teams=0
 rw [if_neg (by simp [h1])] at h
 by_cases h2:out r.Rounds 1 30=true
 rw [if_pos h2] at h;omega;rw [if_neg h2] at h
 by_cases h3:out r.Way 1 3=true
 rw [if_pos h3] at h;omega;rw [if_neg h3] at h
 by_cases h4:playersFault r.Players=0
 have h2':=zeu (by simpa using h2);unfold teamsFault at h1;unfold playersFault at h4
 split at h4
 omega
 split at h1
 omega
 split at h1
 omega
 exact ⟨zkf h4,by omega,by omega,h2'.1,h2'.2,by omega⟩;rw [if_pos (by simpa using h4)] at h;exact absurd h h4;rw [if_pos (by simpa using h1)] at h;exact absurd h h1
end
end Go.HL
namespace Go.Proofs.YtahegdhbakjdoaaGreatDoor
set_option maxRecDepth 100000
set_option linter.unusedVariables false
set_option linter.unusedSimpArgs false
section
open Go.Proofs.Tryz
open Go.HL
theorem ze3 [Tracks] {l:List Str} {s:Str} (hl:l.length<=1000000) (hs:SortedS l):ConP prog 318 [eSs l,.str s] (.tup [.int .i64 (zdb l s),.bool (l.contains s)]):=by
 refine uOb func318 ntmps318 ?_;refine zo9 ?_;refine uT2 [7,3,13,18] (fun i j=>[(7,.int .i64 i),(8,.int .i64 j)]) (fun i j=>[]) (fun i j=>i<=j/\j<=l.length/\(∀(k:Nat) (x:Str),k<i->l[k]? =some x->Op.bytesLess x s=true)/\(∀(k:Nat) (x:Str),j<=k->l[k]? =some x->Op.bytesLess x s=false)) (fun i j=>j-i) (0) (l.length) ?_ ?_;exact ⟨Ad _,Ae _,fun k x h=>by omega,fun k x h1 h2=>by have:=zl h2;omega⟩;rintro i j ⟨hij,hjl,ha,hb⟩;refine gz6 ?_;refine uCo (fun h1=> ?_) fun h2=> ?_
 obtain ⟨x,hx⟩: ∃x,l[(i+j)/2]? =some x:=⟨_,Aa uO⟩
 have hm:(i+j)/2<j/\i<=(i+j)/2:=by omega
 refine gz7 ?_;refine dq (zcH ty3 zmS rfl) ?_;refine dq (zsU rfl rfl uO) ?_;refine dq (zau (zcH zmS ty3 rfl) (zuW (i:=i) (j:=j) uO)) ?_;refine gz5 ?_;refine dq (zD (j:=(i+j)/2) (a:=x) zk ty9 rfl rfl rfl hx) ?_;refine gz2 ?_;refine dq (uCl zAy rfl zmU) ?_;refine gz1 ?_;refine uCo (fun h3=> ?_) fun h4=> ?_
 refine gz6 ?_;exact ⟨(i+j)/2+1,j,⟨by omega,hjl,zwq hs hx h3,hb⟩,uD,⟨rfl,rfl,trivial⟩,uK,Ab _⟩;refine gz5 ?_;exact ⟨i,(i+j)/2,⟨by omega,by omega,ha,zta hs hx h4⟩,uD,⟨rfl,rfl,trivial⟩,uK,Ab _⟩;obtain rfl:i=j:=by omega
 refine gz2 ?_;refine zL ?_;refine zan ?_;refine uGr rfl (fun hc=>by have hq:=hc;(try simp at hq);exact zD (j:=i) (a:=l.getD i []) zk ty9 rfl rfl rfl (getD_some uO)) ?_;refine gz6 ?_;refine uGr rfl (fun hc=>zD (j:=i) (a:=l.getD i []) zk ty9 rfl rfl rfl (getD_some uSa)) ?_;refine gz1 ?_;refine uGr rfl (fun hc=>uCl zw2 rfl zfV) ?_;refine gz2 ?_;refine uGr rfl (fun hc=>uCl zw2 rfl zfV) ?_;refine gz7 ?_;refine zw rfl ?_;rw [zmO hjl ha hb,<-zrv hs hjl ha hb,<-zvn false]
theorem zlI [Tracks] {r:Room} {l:List Swap} (ht:r.Teams.length<=1000000) (hp:r.Players.length<=1000000) (hl:l.length<=1000000):ConP prog 85 [zn5 r,zlY l] (.int .i64 (zcm r l)):=by
 refine uOb func85 ntmps85 ?_;refine gz7 ?_;refine dq (uCl zzt rfl (zmV (by assumption) (by assumption))) ?_;refine gz6 ?_;refine uCo (fun h1=> ?_) fun h2=> ?_
 refine gz5 ?_;refine uRp ?_
 (rw [zcm,if_pos uSa])
 refine gz8 ?_;refine uCo (fun h3=> ?_) fun h4=> ?_
 refine gz4 ?_;refine uRp ?_
 (rw [zcm,if_neg uSa,if_pos uO])
 refine gz9 ?_;refine uT1 [4,1,6,2,18,53] (fun k=>[(18,.int .i64 k)]) (fun k=>[]) (fun k=>k<=l.length/\(zcm r l=zgU r l k (l.drop k))) (fun k=>l.length-k) (0) ?_ ?_;refine ⟨Ad _,?_⟩
 rw [zcm,if_neg uSa,if_neg uO];rfl;rintro k ⟨hk,hg⟩;refine gz4 ?_;refine uCo (fun h5=> ?_) fun h6=> ?_
 obtain ⟨x,hx⟩: ∃x,l[k]? =some x:=⟨_,Aa h5⟩
 have hdx:=zg hx;rw [hdx] at hg;refine gz8 ?_;refine de rfl (zj zk8 rfl fun b7=> ?_)
 refine gz1 ?_;refine de0 (zo zk8 rfl rfl rfl rfl rfl ?_)
 refine gz1 ?_;refine zf (zp 7 rfl) ?_;refine gz6 ?_;refine dq (uCl zbu rfl zac) ?_;refine gz2 ?_;refine uCo (fun h7=> ?_) fun h8=> ?_
 refine gz4 ?_;refine uRp ?_
 (rw [hg,zgU];simp_all)
 refine gz5 ?_;refine dq (uCl zeG rfl (zv uO)) ?_;refine gz6 ?_;refine uGr rfl (fun hc=>by have hq:=hc;(try simp at hq);exact uCl zeG rfl (zv uO)) ?_;refine gz4 ?_;refine uCo (fun h9=> ?_) fun h10=> ?_
 refine gz4 ?_;refine uRp ?_
 (rw [hg,zgU];simp_all)
 refine uDr mixed ?_;refine gz8 ?_;refine uGy 8 rfl rfl (fun hc=>by have hq:=hc;(try simp at hq);exact zD (j:=k-1) (a:=l.getD (k-1) zqU) zt6 zk8 rfl rfl uO (getD_some uO)) ?_;refine gz2 ?_;refine uGy 11 rfl rfl (fun hc=>uCl zcw rfl zP) ?_;refine gz5 ?_;refine uGy 17 rfl rfl (fun hc=>by have hq:=hc;(try simp at hq);exact zD (j:=k-1) (a:=l.getD (k-1) zqU) zt6 zk8 rfl rfl uO (getD_some uO)) ?_;refine gz2 ?_;refine uGy 20 rfl rfl (fun hc=>uCl zbV rfl zJ) ?_;refine uGy 21 rfl rfl (fun hc=>za (hs:=[_,_]) z6 ty3 rfl rfl (by decide) (by decide) rfl) ?_;refine uGy 22 rfl rfl (fun hc=>uCl ze6 rfl (za0 (l:=[_,_]) (by simp))) ?_;refine gz4 ?_;refine uCo (fun h11=> ?_) fun h12=> ?_
 refine gz4 ?_;refine uRp ?_
 (rw [hg,zgU];simp_all)
 refine gz8 ?_;refine ⟨k+1,?_,?_,⟨rfl,trivial⟩,uK,Ab _⟩
 refine ⟨by omega,?_⟩
 rw [hg,zgU];simp_all
 intro h1 h2;have:=h12 h1;omega
 dsimp only;omega
 have hnk:l.length<=k:=by omega
 obtain rfl:k=l.length:=by omega
 rw [zH (Ae _)] at hg;refine gz2 ?_;refine zt ?_;refine gz6 ?_;refine uRp ?_
 (rw [hg];rfl)
end
end Go.Proofs.YtahegdhbakjdoaaGreatDoor
namespace Go.HL
section
def Rev (l c:List Str) (i:Nat):Prop:=c.length=l.length/\∀k,k<l.length->c[k]? =if k<i\/l.length-i<=k then l[l.length-1-k]? else l[k]?
theorem zu7 (l:List Str):Rev l l 0:=⟨rfl,fun k hk=>by rw [if_neg (by omega)]⟩
theorem zwd {l c:List Str} {i:Nat} {a b:Str} (h:Rev l c i) (hi:i<l.length-1-i) (ha:c[i]? =some a) (hb:c[l.length-1-i]? =some b):Rev l ((c.set i b).set (l.length-1-i) a) (i+1):=by
 obtain ⟨h1,h2⟩:=h;refine ⟨by simp [h1],fun k hk=> ?_⟩
 have ea:=h2 i (by omega);have eb:=h2 (l.length-1-i) (by omega);rw [if_neg (by omega),ha] at ea;rw [if_neg (by omega),hb] at eb
 by_cases e1:k=l.length-1-i
 subst e1;rw [if_pos (by omega)];have:l.length-1-(l.length-1-i)=i:=by omega
 rw [this,<-ea,Bl (by simp;omega)];rw [A2 (by omega)]
 by_cases e2:k=i
 subst e2;rw [if_pos (by omega),<-eb,Bl (by omega)];rw [A2 (by omega),h2 k hk]
 by_cases e3:k<i\/l.length-i<=k
 rw [if_pos e3,if_pos (by omega)];rw [if_neg e3,if_neg (by omega)]
theorem zyc {l c:List Str} {i:Nat} (h:Rev l c i) (hi:l.length<=2*i+1):c=l.reverse:=by
 obtain ⟨h1,h2⟩:=h
 apply BI
 intro k
 by_cases hk:k<l.length
 rw [h2 k hk];rw [List.getElem?_reverse hk]
 by_cases e:k<i\/l.length-i<=k
 rw [if_pos e];rw [if_neg e]
 congr 1;omega
 rw [Ax (by omega),Ax (by simp;omega)]
end
end Go.HL
namespace Go.Proofs.YtahegdhbakjdoaaGreatDoor
set_option maxRecDepth 100000
set_option linter.unusedVariables false
set_option linter.unusedSimpArgs false
section
open Go.Proofs.Tryz
open Go.HL
theorem zad [Tracks] {l:List Str} (hl:l.length<=1000000):zvj prog 58 [eSs l] 1 (l.map .str):=by
 refine uOb func58 ntmps58 ?_;refine gz6 ?_;refine de rfl (zuE zk rfl rfl fun b4 hb4=> ?_)
 refine gz1 ?_;refine uCo (fun h1=> ?_) fun h2=> ?_
 refine gz4 ?_;exact zae (zM 1) rfl ⟨_,rfl,by simp_all⟩;refine gz3 ?_;refine de rfl (zxs zk ty9 fun v5=> ?_)
 refine gz1 ?_;refine de rfl (zO (i:=0) zk ty9 rfl rfl rfl rfl rfl (by simp [zax,zb]) uSo fun v7=> ?_)
 refine gz3 ?_;exact zA5 rfl rfl
theorem zf7 [Tracks] {l:List Str} {v:Value} (hl:l.length<=1000000):Con prog 168 [.raw v] [.arr v 1 (l.map .str)] (fun x M'=>x= .tup []/\M'=[.arr v 1 (l.reverse.map .str)]):=by
 refine uOb func168 ntmps168 ?_;refine gz2 ?_;refine de rfl (zsD (i:=0) zk rfl rfl ?_)
 rw [Ah];refine gz5 ?_;refine uU3 [2,2,7,21] (fun (i:Nat) (j:Int) (c:List Str)=>[(2,.int .i64 i),(3,.int .i64 j)]) (fun (i:Nat) (j:Int) (c:List Str)=>[.arr v 1 (c.map .str)]) (fun (i:Nat) (j:Int) (c:List Str)=>i<=l.length/\j=(l.length:Int)-1-i/\Rev l c i) (fun (i:Nat) (j:Int) (c:List Str)=>l.length-i) (0) ((l.length:Int)-1) (l) ?_ ?_;exact ⟨Ad _,by omega,zu7 l⟩;rintro i j c ⟨hi,hj,hr⟩;refine gz6 ?_;refine uCo (fun h1=> ?_) fun h2=> ?_
 have hlen:=hr.1;obtain ⟨x,hx⟩: ∃x,c[i]? =some x:=⟨_,Aa uO⟩
 obtain ⟨y,hy⟩: ∃y,c[l.length-1-i]? =some y:=⟨_,Aa uO⟩
 refine zyu (i:=0) rfl (fun h0 he=> ?_) (fun b off cap hv=> ?_)
 exfalso;simp at he;subst he;simp at hlen;omega
 subst hv;refine gz4 ?_;refine za1 (fun M=>M=[.arr (.slice (some ⟨b,off,none⟩) (c.map HVal.str).length cap) 1 (c.map .str)]) [7,11] mixed ?_;refine gz6 ?_;refine uB 6 rfl (zy (j:=l.length-1-i) zk ty9 rfl rfl uO uSo) ?_;refine uM 7 rfl rfl (fun M hM=>by subst hM;exact zgb (i:=0) (j:=l.length-1-i) (f:=0) (y:= .str y) ty9 rfl rfl rfl (by simp [hy]) (.inl ⟨rfl,rfl⟩) ⟨rfl,rfl⟩) ?_;refine gz2 ?_;refine uB 10 rfl (zy (j:=i) zk ty9 rfl rfl rfl uSo) ?_;refine uM 11 rfl rfl (fun M hM=>by subst hM;exact zgb (i:=0) (j:=i) (f:=0) (y:= .str x) ty9 rfl rfl rfl (by simp [hx]) (.inl ⟨rfl,rfl⟩) ⟨rfl,rfl⟩) ?_;refine uB 12 rfl (zy (j:=i) zk ty9 rfl rfl rfl uSo) ?_;refine uF 13 ?_;refine zK (zR (i:=0) (j:=i) (f:=0) (y:= .str x) (y':= .str y) ty9 rfl rfl rfl rfl (by simp [hx]) rfl rfl (by simp [zb]) rfl ?_)
 refine ⟨uE,?_⟩
 refine uB 14 rfl (zy (j:=l.length-1-i) zk ty9 rfl rfl uO uSo) ?_;refine uF 15 ?_;refine zK (zR (i:=0) (j:=l.length-1-i) (f:=0) (y:= .str y) (y':= .str x) ty9 rfl rfl rfl rfl (by simp [B3];rw [if_neg uO];simp [hy]) rfl rfl (by simp [zb]) rfl ?_)
 refine ⟨uE,?_⟩
 refine zcC ?_;refine ⟨i+1,j-1,(c.set i y).set (l.length-1-i) x,?_,?_,⟨rfl,rfl,trivial⟩,uK,zu (by simp [List.map_set])⟩
 exact ⟨by omega,by omega,zwd hr uO hx hy⟩
 dsimp only;omega
 have hend:=zyc hr uO;refine gz2 ?_;refine zcF ?_;refine gz1 ?_;exact ⟨_,_,Ghost.sub (Sub.refl _),_,_,rfl,Weak.refl _,rfl,by rw [hend]⟩
end
end Go.Proofs.YtahegdhbakjdoaaGreatDoor
namespace Go.HL
section
def zju (r:Room) (s:List Swap):List Str:=if zcm r s !=0 then [] else (turns r s).map (·.team)
theorem zlf {r:Room} {l:List Swap} (h:zcm r l=0):zbm r=0/\l.length<=600:=by
 unfold zcm at h
 by_cases h1:zbm r=0
 rw [if_neg (by simp [h1])] at h
 split at h
 omega
 exact ⟨h1,by omega⟩;rw [if_pos (by simpa using h1)] at h;exact absurd h h1
theorem zvV {a b:Int} (h:orI [a,b]=0):a=0/\b=0:=by
 simp only [orI] at h
 split at h<;>simp_all
theorem zvh {r:Room} {s:List Swap} (h:zbm r=0):(turns r s).length<=600:=by
 obtain ⟨_,h1,_,h2,h3,_⟩:=zlW h;unfold turns;rw [zhD];have:=Nat.mul_le_mul (show r.Rounds.toNat<=30 by omega) h1
 omega
end
end Go.HL
namespace Go.Proofs.YtahegdhbakjdoaaGreatDoor
set_option maxRecDepth 100000
set_option linter.unusedVariables false
set_option linter.unusedSimpArgs false
section
open Go.Proofs.Tryz
open Go.HL
theorem zqp [Tracks] {r:Room} {s:List Swap} (ht:r.Teams.length<=20) (hr0:1<=r.Rounds) (hr:r.Rounds<=30) (hl:s.length<=1000000):ConP prog 86 [.vptr (zb (zn5 r)) 0,zlY s] (zyr (turns r s)):=by
 refine uOb func86 ntmps86 ?_;refine gz6 ?_;refine zf (zM 3) ?_;refine gz5 ?_;refine uU2 [5,3,9,39] (fun (n:Nat) (v:Value)=>[(6,.int .i64 ((n:Int)+1)),(5,.raw v)]) (fun (n:Nat) (v:Value)=>[.arr v 3 ((zdx r s n).map zn6)]) (fun (n:Nat) (v:Value)=>n<=r.Rounds.toNat) (fun (n:Nat) (v:Value)=>r.Rounds.toNat-n) (0) (.slice none 0 0) ?_ ?_;exact Ad _
 intro n v hn
 refine gz9 ?_;refine uCo (fun h1=> ?_) fun h2=> ?_
 have hn30:n<r.Rounds.toNat:=by omega
 refine gz9 ?_;refine de rfl (uCa zkH rfl (zad uO) fun v22=> ?_)
 refine gz2 ?_;refine uVj [23,8] (fun (L:List Str)=>[]) (fun (L:List Str)=>[.arr v22 1 (L.map .str),.arr v 3 ((zdx r s n).map zn6)]) (fun (L:List Str)=>L=if backwards r.Way ((n:Int)+1) then r.Teams.reverse else r.Teams) ?_ ?_
 skip
 refine gz6 ?_;refine dq (uCl zzu rfl zmW) ?_;refine gz1 ?_;refine uCo (fun h3=> ?_) fun h4=> ?_
 refine gz2 ?_;refine de rfl (zaQ (M1:=[_]) (R:=[_]) zzv rfl (WeakL.refl _) (Ab _) (zf7 (l:=r.Teams) uO) ?_)
 rintro _ _ ⟨rfl,rfl⟩;refine gz1 ?_;refine ⟨_,?_,trivial,uK,Ab _⟩
 simp_all
 refine gz1 ?_;refine ⟨_,?_,trivial,uK,Ab _⟩
 simp_all
 intro L hL
 have hLl:L.length=r.Teams.length:=by rw [hL];split<;>simp
 have hb:=zhD r s n;have hm:=Nat.mul_le_mul (show n<=30 by omega) (show r.Teams.length<=20 by omega);refine zf (zlv 7 rfl) ?_;refine gz6 ?_;refine uV2 [5,1,9,1,33,15] (fun (k:Nat) (u:Value)=>[(33,.int .i64 k),(5,.raw u)]) (fun (k:Nat) (u:Value)=>[.arr u 3 ((zdx r s n).map zn6++(L.take k).map fun t=>zn6 ⟨(n:Int)+1,t,owner ((n:Int)+1) t s⟩)]) (fun (k:Nat) (u:Value)=>k<=L.length/\(True)) (fun (k:Nat) (u:Value)=>L.length-k) (0) (v) ?_ ?_ ?_ ?_;exact ⟨Ad _,by simp_all⟩;exact ⟨rfl,rfl,trivial⟩;exact zu (by simp)
 intro k u hinv
 obtain ⟨hk,-⟩:=hinv;refine gz4 ?_;refine uCo (fun h5=> ?_) fun h6=> ?_
 obtain ⟨x,hx⟩: ∃x,L[k]? =some x:=⟨_,Aa h5⟩
 have hdx:=zg hx;refine zo9 ?_;refine dq (uCl zzw rfl (zqo (by assumption))) ?_;refine dq (zI (cs:=[_,_,_]) zmR zAU rfl) ?_;refine dq (za (hs:=[_]) zt7 zmR rfl rfl (by decide) (by decide) rfl) ?_;refine de rfl (zO (i:=0) zt7 zmR rfl rfl rfl rfl rfl (by simp [zax,zb]) uSo fun v46=> ?_)
 refine gz8 ?_;refine ⟨k+1,_,?_,?_,⟨rfl,rfl,trivial⟩,uK,zu (by simp [List.take_add_one,hx])⟩
 exact ⟨by omega,trivial⟩
 dsimp only;omega
 have hnk:L.length<=k:=by omega
 obtain rfl:k=L.length:=by omega
 refine gz2 ?_;refine zL ?_;refine gz8 ?_;refine ⟨n+1,_,?_,?_,⟨rfl,rfl,trivial⟩,uK,zu (by simp [zdx,zh5,hL,AB,Function.comp_def])⟩
 omega
 dsimp only;omega
 obtain rfl:n=r.Rounds.toNat:=by omega
 refine gz2 ?_;refine zL ?_;refine gz7 ?_;exact zmo (M:=[]) 4 rfl rfl rfl
theorem zqn [Tracks] {r:Room} {s:List Swap} (ht:r.Teams.length<=1000000) (hp:r.Players.length<=1000000) (hl:s.length<=1000000):ConP prog 35 [zn5 r,zlY s] (.tup [eSs (zju r s),.int .i64 (zcm r s)]):=by
 refine uOb func35 ntmps35 ?_;refine gz9 ?_;refine dq (uCl ca85 rfl (zlI (by assumption) (by assumption) (by assumption))) ?_;refine gz6 ?_;refine uCo (fun h1=> ?_) fun h2=> ?_
 refine gz6 ?_;exact za5 rfl (zW (by rw [zju,if_pos uSa];exact zQ 1) (Weak.refl _));refine gz5 ?_;refine zf (zM 1) ?_;refine gz2 ?_;obtain ⟨_,hq1,_,hq2,hq3,_⟩:=zlW (r:=r) ((zlf (l:=s) h2).1);have hlen:=zvh (r:=r) (s:=s) (zlf h2).1;refine gz1 ?_;refine dq (uCl ca86 rfl (zqp (by assumption) (by assumption) (by assumption) (by assumption))) ?_;refine gz4 ?_;refine uV2 [7,1,9,1,19,10] (fun (k:Nat) (u:Value)=>[(19,.int .i64 k),(7,.raw u)]) (fun (k:Nat) (u:Value)=>[.arr u 1 (((turns r s).take k).map fun t=> .str t.team)]) (fun (k:Nat) (u:Value)=>k<=(turns r s).length/\(True)) (fun (k:Nat) (u:Value)=>(turns r s).length-k) (0) (.slice none 0 0) ?_ ?_ ?_ ?_;exact ⟨Ad _,by simp_all⟩;exact ⟨rfl,rfl,trivial⟩;exact zu (by simp)
 intro k u hinv
 obtain ⟨hk,-⟩:=hinv;refine gz4 ?_;refine uCo (fun h3=> ?_) fun h4=> ?_
 obtain ⟨x,hx⟩: ∃x,(turns r s)[k]? =some x:=⟨_,Aa h3⟩
 have hdx:=zg hx;refine gz7 ?_;refine de rfl (zj zmR rfl fun b9=> ?_)
 refine de0 (zo zmR rfl rfl rfl rfl rfl ?_)
 refine gz1 ?_;refine zf (zp 9 rfl) ?_;refine gz4 ?_;refine dq (za (hs:=[_]) zk ty9 rfl rfl (by decide) (by decide) rfl) ?_;refine de rfl (zO (i:=0) zk ty9 rfl rfl rfl rfl rfl (by simp [zax,zb]) uSo fun v27=> ?_)
 refine gz8 ?_;refine ⟨k+1,_,?_,?_,⟨rfl,rfl,trivial⟩,uK,zu (by simp [List.take_add_one,hx])⟩
 exact ⟨by omega,trivial⟩
 dsimp only;omega
 have hnk:(turns r s).length<=k:=by omega
 obtain rfl:k=(turns r s).length:=by omega
 refine gz2 ?_;refine zL ?_;refine gz8 ?_
 (refine zmo (M:=[]) 4 rfl rfl ?_
  simp_all [zju,eSs,Function.comp_def,zay,zaO])
end
end Go.Proofs.YtahegdhbakjdoaaGreatDoor
namespace Go.HL
section
def asciiSet (l:List UInt8):List HVal:=(List.range 256).map fun i=> .bool (l.contains (UInt8.ofNat i))
theorem zc3 (l:List UInt8):(asciiSet l).length=256:=by simp [asciiSet]
theorem zlA (l:List UInt8) (c:UInt8):(asciiSet l)[c.toNat]? =some (.bool (l.contains c)):=by
 have:=c.toNat_lt
 simp [asciiSet,BB,this]
theorem zoc {α:Type} (f:α->Bool): ∀l:List α,zax (l.map fun i=> .bool (f i))=true
 |[]=>rfl
 |x::l=>by simp only [Ar,zax];exact zoc f l
theorem zqj (l:List UInt8):zax (asciiSet l)=true:=zoc _ _
theorem zrc (l:List UInt8) (c:UInt8):zav (asciiSet l) (0+c.toNat*1) [.bool true]=asciiSet (l++[c]):=by
 have hc:=c.toNat_lt;have hl:0+c.toNat*1=c.toNat:=by omega
 rw [hl]
 apply BI
 intro i
 have hlen:=zc3 l;simp only [zav,B9]
 by_cases hi:i<c.toNat
 rw [Aq (by simp;omega),Aq (by simp [hlen];omega),AC hi];have h256:i<256:=by omega
 have hne:UInt8.ofNat i≠c:=fun h=>by
  have:=congrArg UInt8.toNat h;rw [UInt8.toNat_ofNat_of_lt' (by simpa [UInt8.size] using h256)] at this;omega
 simp [asciiSet,BB,h256,hne]
 by_cases he:i=c.toNat
 subst he;rw [Aq (by simp [hlen];omega),Ap (by simp [hlen];omega)];rw [zlA]
 simp [hlen,Ce (Nat.le_of_lt hc)]
 rw [Ap (by simp [hlen];omega),AJ];have e1:c.toNat+1+(i-((asciiSet l).take c.toNat++[HVal.bool true]).length)=i:=by simp [hlen];omega
 rw [e1]
 by_cases h256:i<256
 have hne:UInt8.ofNat i≠c:=fun h=>by
  have:=congrArg UInt8.toNat h;rw [UInt8.toNat_ofNat_of_lt' (by simpa [UInt8.size] using h256)] at this;omega
 simp [asciiSet,BB,h256,hne]
 rw [Ax (by rw [zc3];omega),Ax (by rw [zc3];omega)]
def zcO (p:UInt8->Bool) (s:Str):Str:=(s.reverse.dropWhile p).reverse
theorem zfe (p:UInt8->Bool) (s:Str) (c:UInt8):zcO p (s++[c])=if p c then zcO p s else s++[c]:=by
 unfold zcO;rw [List.reverse_append];simp only [List.reverse_cons,List.reverse_nil,Bh,Bp,A3]
 split<;>simp
theorem zuy (p:UInt8->Bool): ∀s:Str,(s.dropWhile p).length<=s.length
 |[]=>Ae _
 |x::s=>by
   rw [A3]
   split
   exact Nat.le_succ_of_le (zuy p s);exact Ae _
theorem zp5 (p:UInt8->Bool) (s:Str):(zcO p s).length<=s.length:=by
 unfold zcO;rw [List.length_reverse];have:=zuy p s.reverse
 rwa [List.length_reverse] at this
theorem zuz (p:UInt8->Bool): ∀s:Str,s.dropWhile p=[]->∀c∈s,p c=true
 |[],_,c,h=>by cases h
 |x::s,h,c,hc=>by
   rw [A3] at h
   by_cases hx:p x=true
   rw [if_pos hx] at h
   rcases List.mem_cons.1 hc with rfl|hc
   exact hx;exact zuz p s h c hc;rw [if_neg hx] at h;cases h
theorem zwj (p:UInt8->Bool) (s:Str):((zcO p s).dropWhile p==[])=s.all p:=by
 induction s using List.reverseRecOn' with
 |nil=>rfl
 |snoc s c ih=>
   rw [zfe]
   by_cases hc:p c=true
   rw [if_pos hc,ih];simp [hc];rw [if_neg hc];have:(s++[c]).all p=false:=by simp [hc]
   rw [this]
   cases hd:(s++[c]).dropWhile p with
   |nil=>exact absurd (zuz _ _ hd c (by simp)) hc
   |cons _ _=>rfl
where
 List.reverseRecOn' {motive:Str->Prop} (nil:motive []) (snoc: ∀s c,motive s->motive (s++[c])) (l:Str):motive l:=by
  have: ∀n (l:Str),l.length=n->motive l:=by
   intro n
   induction n with
   |zero=>intro l h;rw [List.length_eq_zero_iff.1 h];exact nil
   |succ n ih=>
     intro l h
     have hne:l≠[]:=fun h0=>by subst h0;simp at h
     rw [<-Bj hne];exact snoc _ _ (ih _ (by simp [h]))
  exact this l.length l rfl
def zfy:Str:=[97,98,99,100,101,102,103,104,105,106,107,108,109,110,111,112,113,114,115,116,117,118,119,120,121,122,48,49,50,51,52,53,54,55,56,57,45,95]
def zim:Str:=[97,98,99,100,101,102,103,104,105,106,107,108,109,110,111,112,113,114,115,116,117,118,119,120,121,122]
theorem zq9 {p:UInt8->Bool} (h:(List.range 256).all (fun i=>p (UInt8.ofNat i))=true) (c:UInt8):p c=true:=by
 have:=List.all_eq_true.1 h c.toNat (List.mem_range.2 c.toNat_lt)
 simpa using this
theorem zvy (c:UInt8):zfy.contains c=zfC c:=by
 have:=zq9 (p:=fun c=>zfy.contains c==zfC c) (by kernel_rfl) c
 simpa using this
theorem zoF (c:UInt8):decide (0<=Lib.indexByte zim c)=(decide (97<=c.toNat)&&decide (c.toNat<=122)):=by
 have:=zq9 (p:=fun c=>decide (0<=Lib.indexByte zim c)==(decide (97<=c.toNat)&&decide (c.toNat<=122))) (by kernel_rfl) c
 simpa using this
theorem zxI (s:Str):key s=((!(out s.length 1 40)&&((zcO (zfy.contains ·) s).dropWhile (zfy.contains ·)==[]))&&decide (0<=Lib.indexByte zim (s.headD 0))):=by
 rw [zwj,zoF];have:(fun x=>zfy.contains x)=zfC:=funext zvy;rw [this];unfold key zjj
 cases s with
 |nil=>simp [out]
 |cons x r=>
   simp only [List.headD_cons];have h1:(!(out ((x::r).length:Int) 1 40))=decide ((x::r).length<=40):=by
    simp only [out,Ai];rw [AL];simp;omega
   rw [h1];have h2:((x::r) !=[])=true:=rfl;rw [h2];have hb: ∀a b c d:Bool,(true&&a&&c&&d&&b)=(a&&b&&(c&&d)):=by decide
   exact hb _ _ _ _
theorem ztO (n:Int):(if out n 0 345686399999 then (1:Int) else 0)=if zT n then 0 else 1:=by
 have:out n 0 345686399999= !(zT n):=by
  simp only [out,zT];rw [AL];simp;try omega
 rw [this];cases zT n<;>rfl
end
end Go.HL
namespace Go.Proofs.YtahegdhbakjdoaaGreatDoor
set_option maxRecDepth 100000
set_option linter.unusedVariables false
set_option linter.unusedSimpArgs false
section
open Go.Proofs.Tryz
open Go.HL
theorem zjM [Tracks] {l:Str} (hl:l.length<=1000000) (ha: ∀c∈l,c.toNat<128):ConP prog 272 [.str l] (.tup [.agg (asciiSet l),.bool true]):=by
 refine zbY func272 rfl ntmps272 rfl rfl ?_;refine gz1 ?_;refine de rfl (zj zjw rfl fun b2=> ?_)
 refine gz7 ?_;refine uV1 [3,17] (fun (k:Nat)=>[(4,.int .i64 k)]) (fun (k:Nat)=>[.cells b2 (asciiSet (l.take k))]) (fun (k:Nat)=>k<=l.length/\(True)) (fun (k:Nat)=>l.length-k) (0) ?_ ?_ ?_ ?_;exact ⟨Ad _,by simp_all⟩;exact ⟨rfl,trivial⟩;exact zu rfl
 intro k hinv
 obtain ⟨hk,-⟩:=hinv;refine gz7 ?_;refine uCo (fun h1=> ?_) fun h2=> ?_
 obtain ⟨x,hx⟩: ∃x,l[k]? =some x:=⟨_,Aa h1⟩
 have hdx:=zg hx;have hc:=ha x (Ac hx);refine gz7 ?_;refine dq (zaG ty9 rfl rfl rfl (by assumption)) ?_;refine gz7 ?_;refine zaB rfl (fun h3=> ?_) (fun h3=> ?_)
 exfalso
 try simp at h3
 omega
 try simp at h3
 refine gz4 ?_;refine dq (zrR zjw ty4 rfl rfl rfl uO) ?_;refine de0 (zl2 (i:=0) ty4 rfl rfl rfl rfl rfl (by rw [zc3];omega) ?_)
 refine gz8 ?_;refine ⟨k+1,?_,?_,⟨rfl,trivial⟩,uK,zu (by show [MObj.cells b2 (zav _ (0+x.toNat*1) [.bool true])]=_;rw [zrc];dsimp only;rw [List.take_add_one,hx];rfl)⟩
 exact ⟨by omega,trivial⟩
 dsimp only;omega
 have hnk:l.length<=k:=by omega
 obtain rfl:k=l.length:=by omega
 refine gz2 ?_;refine zt ?_;refine gz2 ?_;refine zf (zbG (M':=[.cells b2 (asciiSet l)]) (by rw [An])) ?_;refine gz1 ?_;refine de rfl (zhg (i:=0) (h:= .agg (asciiSet l)) zjw rfl rfl rfl rfl (zc3 l) ?_)
 refine de0 (zo (h:= .agg (asciiSet l)) zjw rfl rfl (by simp [zdw,zc3]) (zqj l) (zc3 l) ?_)
 refine gz3 ?_;refine ⟨_,_,zp 2 rfl,[_,_],_,⟨⟨_,_,_,_,_,rfl,zjw,.inr ⟨rfl,rfl,rfl⟩⟩,⟨rfl,trivial⟩⟩,Weak.refl _,?_,rfl⟩
 rfl
theorem zdY [Tracks] {l:Str} {c:UInt8}:ConP prog 312 [.vptr (asciiSet l) 0,.int .u8 c.toNat] (.bool (l.contains c)):=by
 have hc:=c.toNat_lt;refine uOb func312 ntmps312 ?_;refine gz7 ?_;refine dq (zv1 zjw ty4 rfl rfl rfl uO) ?_;refine dq (zap ty4 rfl rfl (by rw [show 0+c.toNat*1=c.toNat from by omega];exact zlA l c)) ?_;refine gz3 ?_;refine zw rfl ?_
 rfl
theorem zi3 [Tracks] {s l:Str} (hl:s.length<=1000000):ConP prog 273 [.str s,.vptr (asciiSet l) 0] (.str (s.dropWhile (l.contains ·))):=by
 refine uOb func273 ntmps273 ?_;refine gz5 ?_;refine uU1 [0,1,5,10] (fun (t:Str)=>[(0,.str t)]) (fun (t:Str)=>[]) (fun (t:Str)=>t.length<=s.length/\s.dropWhile (l.contains ·)=t.dropWhile (l.contains ·)) (fun (t:Str)=>t.length) (s) ?_ ?_;exact ⟨Ae _,rfl⟩;rintro t ⟨ht,hg⟩;refine gz6 ?_;refine uCo (fun h1=> ?_) fun h2=> ?_
 obtain ⟨x,u,rfl⟩: ∃x u,t=x::u:=by cases t with|nil=>simp at h1|cons x u=>exact ⟨x,u,rfl⟩
 have hlen:(x::u).length=u.length+1:=rfl;refine gz7 ?_;refine dq (zaG (j:=0) (b:=x) ty9 rfl rfl rfl rfl) ?_;refine dq (uCl zw1 rfl zdY) ?_;refine gz2 ?_;refine uCo (fun h3=> ?_) fun h4=> ?_
 refine gz3 ?_;refine zt ?_;refine gz7 ?_;refine zw rfl ?_
 show HVal.str _=_
 rw [hg];simp_all [A3];refine gz4 ?_;refine dq (zgm (l:=1) ty9 rfl ⟨_,_,rfl,rfl⟩ rfl uO uO) ?_;refine gz3 ?_;refine ⟨_,?_,?_,⟨rfl,trivial⟩,uK,Ab _⟩
 refine ⟨by simp at ht⊢;omega,?_⟩
 rw [hg];simp_all [A3]
 dsimp only;simp
 obtain rfl:t=[]:=by simpa using h2
 refine gz2 ?_;refine zt ?_;refine gz7 ?_;refine zw rfl ?_
 show HVal.str _=_
 rw [hg];simp_all [A3]
theorem ziD [Tracks] {s l:Str} (hl:s.length<=1000000):ConP prog 274 [.str s,.vptr (asciiSet l) 0] (.str (zcO (l.contains ·) s)):=by
 refine uOb func274 ntmps274 ?_;refine gz5 ?_;refine uU1 [0,1,5,16] (fun (t:Str)=>[(0,.str t)]) (fun (t:Str)=>[]) (fun (t:Str)=>t.length<=s.length/\zcO (l.contains ·) s=zcO (l.contains ·) t) (fun (t:Str)=>t.length) (s) ?_ ?_;exact ⟨Ae _,rfl⟩;rintro t ⟨ht,hg⟩;refine gz6 ?_;refine uCo (fun h1=> ?_) fun h2=> ?_
 obtain ⟨u,x,rfl⟩: ∃u x,t=u++[x]:=⟨_,_,(Bj (by intro h0;subst h0;simp at h1)).symm⟩
 have hlen:(u++[x]).length=u.length+1:=by simp
 refine zan ?_;refine dq (zaG (j:=u.length) (b:=x) ty9 rfl rfl uO (by simp)) ?_;refine dq (uCl zw1 rfl zdY) ?_;refine gz2 ?_;refine uCo (fun h3=> ?_) fun h4=> ?_
 refine gz3 ?_;refine zt ?_;refine gz7 ?_;refine zw rfl ?_
 show HVal.str _=_
 rw [hg];first|rfl|(rw [zfe,if_neg uSa])
 refine gz7 ?_;refine dq (zgm (l:=0) (h:=u.length) ty9 rfl rfl ⟨_,_,rfl,by omega⟩ uO uO) ?_;refine gz3 ?_;refine ⟨_,?_,?_,⟨rfl,trivial⟩,uK,Ab _⟩
 refine ⟨by simp at ht⊢;omega,?_⟩
 rw [hg,zfe,if_pos uSa];simp
 dsimp only;simp
 obtain rfl:t=[]:=by simpa using h2
 refine gz2 ?_;refine zt ?_;refine gz7 ?_;refine zw rfl ?_
 show HVal.str _=_
 rw [hg];first|rfl|(rw [zfe,if_neg uSa])
theorem zo3 [Tracks] {s l:Str} (hs:s.length<=1000000) (hl:l.length<=1000000) (h2l:2<=l.length) (ha: ∀c∈l,c.toNat<128):ConP prog 216 [.str s,.str l] (.str ((zcO (l.contains ·) s).dropWhile (l.contains ·))):=by
 refine uOb func216 ntmps216 ?_;refine zdC ?_;refine uCo (fun h1=> ?_) fun h2=> ?_
 refine gz5 ?_;refine zw rfl ?_
 show HVal.str _=_
 focus (rcases h1 with rfl|rfl<;>first|(simp at h2l;done)|(simp [zcO];done))
 refine gz9 ?_;refine uGr rfl (fun hc=>zaG (j:=0) (b:=l.headD 0) ty9 rfl rfl rfl (hd0 (by intro h0;subst h0;simp at h2l))) ?_;refine gz3 ?_;refine zaB rfl (fun h3=> ?_) (fun h3=> ?_)
 exfalso
 try simp at h3
 omega
 try simp at h3
 refine gz5 ?_;refine dq (uCl zAp rfl (zjM (by assumption) (by assumption))) ?_;refine gz3 ?_;refine de rfl (zj zjw rfl fun b5=> ?_)
 refine de0 (zo zjw rfl rfl rfl rfl rfl ?_)
 refine gz2 ?_;refine zf (zp 5 rfl) ?_;refine gz3 ?_;refine zpN rfl ?_;refine gz2 ?_;refine dq (uCl zAr rfl (ziD (by assumption))) ?_;refine dq (uCl zAq rfl (zi3 (Ay (zp5 _ _) hs))) ?_;refine gz3 ?_;refine zw rfl ?_
 show HVal.str _=_
 rfl
theorem zfG [Tracks] {s:Str} {c:Int}:ConP prog 277 [.str s,.int .u8 c] (.int .i64 (Lib.indexByte s c.toNat.toUInt8)):=by
 refine uOb func277 ntmps277 ?_;refine gz6 ?_;refine dq (zqD func316 (by kernel_rfl) (by kernel_rfl) (by kernel_rfl) (by kernel_rfl) rfl rfl rfl) ?_;refine gz3 ?_;refine zw rfl ?_
 rfl
theorem zgC [Tracks] {s:Str} {c:Int}:ConP prog 217 [.str s,.int .u8 c] (.int .i64 (Lib.indexByte s c.toNat.toUInt8)):=by
 refine uOb func217 ntmps217 ?_;refine gz6 ?_;refine dq (uCl zAs rfl zfG) ?_;refine gz3 ?_;refine zw rfl ?_
 rfl
theorem zcg [Tracks] {n lo hi:Int}:ConP prog 90 [.int .i64 n,.int .i64 lo,.int .i64 hi] (.bool (!(out n lo hi))):=by
 refine uOb func90 ntmps90 ?_;refine ziK ?_;refine zw rfl ?_
 show HVal.bool _=_
 congr 1;simp [out];rw [AL];simp;try omega
theorem zbi [Tracks] {s:Str} (hs:s.length<=1000000):ConP prog 138 [.str s] (.bool (key s)):=by
 refine uOb func138 ntmps138 ?_;refine gz6 ?_;refine dq (uCl zns rfl zcg) ?_;refine gz2 ?_;refine uGr rfl (fun hc=>uCl zwS rfl (zo3 (l:=zfy) hs (by decide) (by decide) (by decide))) ?_;refine gz4 ?_;refine uGr rfl (fun hc=>zaG (j:=0) (b:=s.headD 0) ty9 rfl rfl rfl (hd0 (by rintro rfl;simp [out] at hc))) ?_;refine uGr rfl (fun hc=>uCl zwT rfl zgC) ?_;refine gz5 ?_;refine zw rfl ?_
 show HVal.bool _=_
 rw [zxI]
 simp [zfy,zim]
theorem zfQ [Tracks] {n lo hi:Int}:ConP prog 39 [.int .i64 n,.int .i64 lo,.int .i64 hi] (.int .i64 (if out n lo hi then 1 else 0)):=by
 refine uOb func39 ntmps39 ?_;refine gz8 ?_;refine dq (uCl zns rfl zcg) ?_;refine gz2 ?_;refine uCo (fun h1=> ?_) fun h2=> ?_
 refine gz4 ?_;refine uRp ?_
 simp_all
 refine gz6 ?_;refine uRp ?_
 simp_all
theorem zcc [Tracks] {n:Int}:ConP prog 15 [.int .i64 n] (.int .i64 (if zT n then 0 else 1)):=by
 refine uOb func15 ntmps15 ?_;refine gz5 ?_;refine dq (uCl ca39 rfl zfQ) ?_;refine gz3 ?_;refine uRp ?_;rw [ztO]
end
end Go.Proofs.YtahegdhbakjdoaaGreatDoor
namespace Go.HL
section

end
section
open Op (bytesLess)
theorem zjd (a b:Int):zY a b= -zY b a:=by
 unfold zY;split<;>split<;>(try split)<;>omega
theorem zeI (a b:Str):zU a b= -zU b a:=by
 rw [ze9,ze9]
 rcases zb4 a b with h|h|h
 have hne:a≠b:=fun e=>by subst e;rw [zar] at h;cases h
 simp [h,zbL h,hne.symm]
 subst h;simp [zar];have hne:a≠b:=fun e=>by subst e;rw [zar] at h;cases h
 simp [h,zbL h,hne]
theorem zrL (a b:Int):orI [-a,-b]= -orI [a,b]:=by
 by_cases h1:a=0<;>by_cases h2:b=0<;>simp [orI,h1,h2]
end
section
section
variable {α:Type} (c:α->α->Int)
def zkR (x:α):List α->List α
 |[]=>[x]
 |y::t=>if c x y<0 then y::zkR x t else x::y::t
def zcM (x:α) (S:List α):List α:=(zkR c x S.reverse).reverse
def zal (l:List α):List α:=l.foldl (fun S x=>zcM c x S) []
theorem zvL (x:α):zcM c x []=[x]:=rfl
theorem zpS (x y:α) (S:List α):zcM c x (S++[y])=if c x y<0 then zcM c x S++[y] else S++[y,x]:=by
 unfold zcM;rw [List.reverse_append];simp only [List.reverse_cons,List.reverse_nil,Bh,Bp,zkR]
 split<;>simp
theorem zoi (l:List α) (x:α):zal c (l++[x])=zcM c x (zal c l):=by simp [zal,Bi]
theorem zmc (x:α): ∀l,(zkR c x l).Perm (x::l)
 |[]=> .refl _
 |y::t=>by
   simp only [zkR];split
   ·exact ((zmc x t).cons y).trans (.swap _ _ _)
   ·exact .refl _
theorem zuN (x:α) (S:List α):(zcM c x S).Perm (x::S):=by
 unfold zcM;exact (List.reverse_perm _).trans ((zmc c x _).trans ((List.reverse_perm S).cons x))
theorem zod: ∀(l S:List α),(l.foldl (fun S x=>zcM c x S) S).Perm (S++l)
 |[],S=>by simp
 |x::l,S=>by
   simp only [BT];refine (zod l _).trans ?_;refine ((zuN c x S).append_right l).trans ?_;exact (List.perm_middle (a:=x) (l₁:=S) (l₂:=l)).symm
theorem zbK (l:List α):(zal c l).Perm l:=by
 have:=zod c l []
 simpa [zal] using this
theorem zbp (l:List α):(zal c l).length=l.length:=(zbK c l).length_eq
theorem zmd {l:List α} {x:α}:x∈zal c l↔x∈l:=(zbK c l).mem_iff
structure Cmp (s:α->Prop):Prop where
 flip: ∀x y,s x->s y->(c x y<0↔0<c y x)
 trans: ∀x y z,s x->s y->s z->c x y<=0->c y z<=0->c x z<=0
variable {c}
theorem zm7 {s:α->Prop} (hc:Cmp c s) {x:α} (hx:s x): ∀{l:List α},(∀y∈l,s y)->l.Pairwise (fun a b=>c b a<=0)->(zkR c x l).Pairwise (fun a b=>c b a<=0)
 |[],_,_=>by simp [zkR]
 |y::t,hs,hp=>by
   have hy:=hs y (by simp);have ht: ∀z∈t,s z:=fun z hz=>hs z (Au _ hz)
   obtain ⟨h1,h2⟩:=List.pairwise_cons.1 hp;simp only [zkR]
   split
   rename_i hlt
   refine List.pairwise_cons.2 ⟨fun z hz=> ?_,zm7 hc hx ht h2⟩
   rcases List.mem_cons.1 ((zmc c x t).mem_iff.1 hz) with rfl|hz
   omega
   exact h1 z hz
   rename_i hge
   have hyx:c y x<=0:=by
    have:=(hc.flip x y hx hy)
    omega
   refine List.pairwise_cons.2 ⟨fun z hz=> ?_,hp⟩
   rcases List.mem_cons.1 hz with rfl|hz
   exact hyx;exact hc.trans z y x (ht z hz) hy hx (h1 z hz) hyx
theorem zsm {s:α->Prop} (hc:Cmp c s) {x:α} (hx:s x) {l:List α} (hs: ∀y∈l,s y) (hp:l.Pairwise (fun a b=>c a b<=0)):(zcM c x l).Pairwise (fun a b=>c a b<=0):=by
 unfold zcM;rw [List.pairwise_reverse];exact zm7 hc hx (fun y hy=>hs y (List.mem_reverse.1 hy)) (List.pairwise_reverse.2 hp)
theorem ziM {s:α->Prop} (hc:Cmp c s) {l:List α} (hs: ∀y∈l,s y):(zal c l).Pairwise (fun a b=>c a b<=0):=by
 have key: ∀(n:Nat),n<=l.length->(zal c (l.take n)).Pairwise (fun a b=>c a b<=0):=by
  intro n
  induction n with
  |zero=>intro _;simp [zal]
  |succ n ih=>
    intro hn
    have hx:=Aa (l:=l) (i:=n) (by omega);rw [zaj hx,zoi];exact zsm hc (hs _ (Ac hx)) (fun y hy=>hs y (AR ((zbK c _).mem_iff.1 hy))) (ih (by omega))
 have:=key l.length (Ae _)
 rwa [An] at this
end
end
section
abbrev pAt (b:Nat):HVal:= .raw (.pointer (some ⟨b,0,none⟩))
abbrev St (b:Nat) (l:List Int) (a:Nat):MObj:= .cells b [.slice 1 (l.map (.int .i64)),.int .i64 (a:Int)]
def below (x n:Int):Int:=if n<1 then 0 else if x.tmod n<0 then x.tmod n+n else x.tmod n
theorem zlC (x n:Int): ∃y:Nat,below x n=(y:Int)/\(y:Int)<max n 1:=by
 have h:0<=below x n/\below x n<max n 1:=by
  unfold below
  split
  omega
  have h1:=BV x (show 0<n by omega);have h2: -n<x.tmod n:=by
   have:=Int.neg_lt_tmod_of_pos' x n (by omega);exact this
  split<;>omega
 exact ⟨(below x n).toNat,by omega,by omega⟩
where
 Int.neg_lt_tmod_of_pos' (x n:Int) (h:0<n): -n<x.tmod n:=by
  rcases Int.le_total 0 x with hx|hx
  have:=Int.tmod_nonneg n hx;omega;have e:x.tmod n= -((-x).tmod n):=by rw [Int.neg_tmod];simp
  have:=BV (-x) h
  omega
theorem getI {L:List Int} {y:Nat} (h:(y:Int)<max (L.length:Int) 1) (h0:0<L.length): ∃z,L[y]? =some z/\z∈L:=
 ⟨L[y]'(by omega),Aa _,Bw _⟩
theorem getS {L:List Str} {y:Nat} (h:(y:Int)<max (L.length:Int) 1) (h0:0<L.length): ∃z,L[y]? =some z/\z∈L:=
 ⟨L[y]'(by omega),Aa _,Bw _⟩
theorem zr4 (a b:Nat):((a:Int)).tmod (b:Int)=((a%b:Nat):Int):=by
 exact (Int.ofNat_tmod a b).symm
end
section

end
section
open Op (bytesLess)
end
section
def Sh (s:Str):Prop:=s.length<=1000000
structure KLs where
 u:Value
 out:List Keep
 lv:Value
 left:List Str
 a:Nat
structure KLok (n a:Nat) (q:KLs):Prop where
 out:q.out.length<=n
 left:q.left.length<=20
 ls: ∀s∈q.left,Sh s
 os: ∀x∈q.out,Sh x.Team/\Sh x.Player
 a:q.a<=a+2*n
theorem KLok.add {n a:Nat} {u u' lv lv':Value} {out:List Keep} {left:List Str} {a1 a2 k:Nat} {t p:Str} {rd:Int} (h:KLok n a ⟨u,out,lv,left,a1⟩) (h1:a2<=a1+2) (ht:Sh t) (hp:left[k]? =some p):
 KLok (n+1) a ⟨u',out++[⟨t,p,rd⟩],lv',left.eraseIdx k,a2⟩:=
 ⟨by have:=h.out;simp at*;omega,by have:=h.left;have:=List.length_eraseIdx_le left k;dsimp only at*;omega,fun s hs=>h.ls s (List.mem_of_mem_eraseIdx hs),fun x hx=>by
  rcases List.mem_append.1 hx with hx|hx
  exact h.os x hx
  simp at hx;subst hx;exact ⟨ht,h.ls p (Ac hp)⟩,by have:=h.a;dsimp only at*;omega⟩
theorem zaD {α:Type} {l:List α} {j:Nat} {x y:α} (h:l[j]? =some y):(l.set j x)[j]? =some x:=by
 rw [Bl (zl h)]
theorem za2 {α β:Type} {f:α->β} {l:List α} {j:Nat} {x:α} (h:l[j]? =some x):(l.map f)[j]? =some (f x):=by
 rw [Ag,h];rfl
theorem ztN {α:Type} {l:List α} {j:Nat} {x y:α} (h:x∈l.set j y):x=y\/x∈l:=by
 rcases BU h with h|h
 exact .inr h;exact .inl h
structure SLs where
 u:Value
 out:List Swap
 row:List Str
 a:Nat
structure SLok (n a:Nat) (q:SLs):Prop where
 out:q.out.length<=n
 row:q.row.length<=4
 rs: ∀s∈q.row,Sh s
 os: ∀x∈q.out,Sh x.Of/\Sh x.Team
 a:q.a<=a+2*n
theorem SLok.mono {n m a:Nat} {q:SLs} (h:SLok n a q) (hm:n<=m):SLok m a q:=
 ⟨by have:=h.out;omega,h.row,h.rs,h.os,by have:=h.a;omega⟩
theorem KLok.mono {n m a:Nat} {q:KLs} (h:KLok n a q) (hm:n<=m):KLok m a q:=
 ⟨by have:=h.out;omega,h.left,h.ls,h.os,by have:=h.a;omega⟩
theorem SLok.add {n a:Nat} {u u':Value} {out:List Swap} {row:List Str} {a1 a2:Nat} {t p:Str} {rd:Int} (h:SLok n a ⟨u,out,row,a1⟩) (h1:a2<=a1+2) (ht:Sh t) (hp:Sh p):
 SLok (n+1) a ⟨u',out++[⟨rd,t,p⟩],row,a2⟩:=
 ⟨by have:=h.out;simp at*;omega,h.row,h.rs,fun x hx=>by
  rcases List.mem_append.1 hx with hx|hx
  exact h.os x hx
  simp at hx;subst hx;exact ⟨ht,hp⟩,by have:=h.a;dsimp only at*;omega⟩
end
section
open Op (bytesLess)
structure Asset where
 Player:Str
 Position:Str
 Value:Int
structure Place where
 Position:Str
 Many:Int
abbrev zbn (x:Asset):HVal:= .agg [.str x.Player,.str x.Position,.int .i64 x.Value]
abbrev zyp (x:Place):HVal:= .agg [.str x.Position,.int .i64 x.Many]
abbrev zih (l:List Asset):HVal:= .slice 3 (l.map zbn)
abbrev zmF (l:List Place):HVal:= .slice 2 (l.map zyp)
def zlB:Asset:=⟨[],[],0⟩
def zrP:Place:=⟨[],0⟩
def assetFault (x:Asset):Int:=if !(key x.Player)|| !(key x.Position) then 5 else if out x.Value (-1000000) 1000000 then 1 else 0
def zd1 (l:List Asset):Nat->List Asset->Int
 |_,[]=>0
 |k,x::t=>if assetFault x !=0 then assetFault x else if decide (0<k)&&leS x.Player (l.getD (k-1) zlB).Player then 7 else zd1 l (k+1) t
def zcR (l:List Asset):Int:=if 300<l.length then 2 else zd1 l 0 l
def zdD (l:List Place):Nat->List Place->Int
 |_,[]=>0
 |k,x::t=>if !(key x.Position) then 5 else if out x.Many 0 12 then 1 else if decide (0<k)&&leS x.Position (l.getD (k-1) zrP).Position then 7 else zdD l (k+1) t
def zcS (l:List Place):Int:=if 10<l.length then 2 else zdD l 0 l
def byValue (a b:Asset):Int:=orI [zY b.Value a.Value,zU a.Player b.Player]
def zf2 (l:List Asset) (pos:Str):List Asset:=l.filter (fun x=>x.Position==pos)
def ofP (l:List Asset) (pos:Str):List Asset:=zal byValue (zf2 l pos)
def zed (o:List Asset) (zgj:Int):List Asset:=(o.take (min zgj o.length).toNat).filter (fun y=>decide (0<y.Value))
def zat (of:Str->List Asset) (p:List Place):List Asset:=p.flatMap fun x=>zed (of x.Position) x.Many
def zdV (l:List Asset):Int:=(l.map (·.Value)).sum
def zoo (l:List Asset):List Str:=za8 (l.map (·.Player))
theorem znM {l:List Asset} {k:Nat} {x:Asset} {pos:Str} (h:l[k]? =some x):zf2 (l.take (k+1)) pos=zf2 (l.take k) pos++if x.Position==pos then [x] else []:=by
 rw [zaj h];unfold zf2;rw [Bn]
 by_cases hx:x.Position==pos<;>simp [hx]
theorem zni (l:List Asset) (pos:Str):(zf2 l pos).length<=l.length:=AU _ _
theorem zxQ (l:List Asset) (pos:Str):(ofP l pos).length<=l.length:=by unfold ofP;rw [zbp];exact zni l pos
end
section
open Op (bytesLess)
theorem zvR {l:List Asset} {k:Nat}:(l.map (·.Player)).getD k []=(l.getD k zlB).Player:=by
 by_cases h:k<l.length
 simp [List.getD,Aa h]
 simp [List.getD,Ax (Nat.le_of_not_lt h),zlB]
theorem zle {x:Asset} (h:assetFault x=0):key x.Player=true/\key x.Position=true/\ -1000000<=x.Value/\x.Value<=1000000:=by
 unfold assetFault at h
 by_cases h1:(!(key x.Player)|| !(key x.Position))=true
 rw [if_pos h1] at h;omega;rw [if_neg h1] at h
 by_cases h2:out x.Value (-1000000) 1000000=true
 rw [if_pos h2] at h;omega;have:=zeu (by simpa using h2)
 simp at h1
 exact ⟨h1.1,h1.2,this.1,this.2⟩
theorem zm5 (l:List Asset): ∀(t:List Asset) (k:Nat),zd1 l k t=0->zbg (l.map (·.Player)) k (t.map (·.Player))=0/\∀x∈t,assetFault x=0
 |[],_,_=>⟨rfl,fun x h=>by cases h⟩
 |x::t,k,h=>by
   simp only [zd1] at h
   by_cases h1:assetFault x=0
   rw [if_neg (by simpa using h1)] at h
   by_cases h2:(decide (0<k)&&leS x.Player (l.getD (k-1) zlB).Player)=true
   rw [if_pos h2] at h;omega;rw [if_neg h2] at h;obtain ⟨h3,h4⟩:=zm5 l t (k+1) h;refine ⟨?_,fun y hy=> ?_⟩
   simp only [Ar,zbg,zvR];rw [if_neg (by simp [(zle h1).1]),if_neg h2];exact h3
   rcases List.mem_cons.1 hy with rfl|hy
   exact h1;exact h4 y hy;rw [if_pos (by simpa using h1)] at h;exact absurd h h1
theorem zo4 {l:List Asset} (h:zcR l=0):SortedS (l.map (·.Player))/\∀x∈l,assetFault x=0:=by
 unfold zcR at h
 split at h
 omega
 obtain ⟨h1,h2⟩:=zm5 l l 0 h;exact ⟨zkf (by simpa [zdm] using h1),h2⟩
theorem zna (l:List Place): ∀(t:List Place) (k:Nat),zdD l k t=0->∀x∈t,0<=x.Many/\x.Many<=12
 |[],_,_=>fun x h=>by cases h
 |x::t,k,h=>by
   simp only [zdD] at h
   by_cases h1:(!(key x.Position))=true
   rw [if_pos h1] at h;omega;rw [if_neg h1] at h
   by_cases h2:out x.Many 0 12=true
   rw [if_pos h2] at h;omega;rw [if_neg h2] at h
   by_cases h3:(decide (0<k)&&leS x.Position (l.getD (k-1) zrP).Position)=true
   rw [if_pos h3] at h;omega;rw [if_neg h3] at h
   intro y hy
   rcases List.mem_cons.1 hy with rfl|hy
   exact zeu (by simpa using h2);exact zna l t (k+1) h y hy
theorem zo5 {l:List Place} (h:zcS l=0):(∀x∈l,0<=x.Many/\x.Many<=12)/\l.length<=10:=by
 unfold zcS at h
 split at h
 omega
 exact ⟨zna l l 0 h,by omega⟩
theorem zmD {a b:Str}:zU a b<=0↔bytesLess b a=false:=by
 rw [ze9]
 rcases zb4 a b with h|h|h
 simp [h,zbL h]
 subst h;simp [zar];have hne:a≠b:=fun e=>by subst e;rw [zar] at h;cases h
 simp [h,zbL h,hne]
theorem zcq {a b:Str}:zU a b=0↔a=b:=by
 rw [ze9]
 rcases zb4 a b with h|h|h
 have hne:a≠b:=fun e=>by subst e;rw [zar] at h;cases h
 simp [h,hne]
 subst h;simp [zar];have hne:a≠b:=fun e=>by subst e;rw [zar] at h;cases h
 simp [zbL h,hne]
theorem zhO {a b c:Str} (h1:zU a b<=0) (h2:zU b c<=0):zU a c<=0:=by
 rw [zmD] at*
 rcases zb4 a b with h|h|h
 rcases zb4 b c with h'|h'|h'
 exact zbL (zdv h h');subst h';exact zbL h;rw [h'] at h2;cases h2;subst h;exact h2;rw [h] at h1;cases h1
theorem zeR (a b:Int):orI [a,b]=if a≠0 then a else b:=by
 simp only [orI]
 by_cases ha:a=0<;>by_cases hb:b=0<;>simp [ha,hb]
theorem zsA {a b:Int}:zY a b<=0↔a<=b:=by unfold zY;split<;>(try split)<;>omega
theorem zcT {a b:Int}:zY a b=0↔a=b:=by unfold zY;split<;>(try split)<;>omega
end
section
variable {P:Program}
section
variable {P:Program} {e:Env} {dst:Option Tmp} {ty:TypeId} {pos:String} {af:Array Edge} {g:Option (Nat×Bool)} {M:List MObj} {K:HVal->List MObj->Prop}
theorem zV [Tracks] {α:Type} {f:α->HVal} {x:Operand} {t:TypeId} {d:TD} {size bytes:Nat} {zero:Value} {i b off cap n sz j o:Nat} {es:List α} {y:α} (hf:Fits P t d size bytes zero)
 (hx:ze e x=some (.raw (.pointer (some ⟨b,o,none⟩)))) (ho':o=off+j*sz) (hm:M[i]? =some (.arr (.slice (some ⟨b,off,none⟩) n cap) sz (es.map f))) (hj:es[j]? =some y)
 (hd:d.isAgg=true) (hs:size=(zb (f y)).length) (hv:f y= .agg (zb (f y))) (hk:K (f y) M):EOp P e M ⟨dst,.load t x,ty,pos,af,g⟩ K:=
 zgb (j:=j) (f:=0) (y:=f y) hf hx (by omega) hm (by rw [Ag,hj];rfl) (.inr ⟨hd,by omega,by rw [BY,hs,An];exact hv⟩) hk
theorem zaT [Tracks] {α:Type} {f:α->HVal} {x z:Operand} {t:TypeId} {d:TD} {size bytes:Nat} {zero:Value} {i b off cap n sz j o:Nat} {es:List α} {y y':α} (hf:Fits P t d size bytes zero)
 (hx:ze e x=some (.raw (.pointer (some ⟨b,o,none⟩)))) (ho':o=off+j*sz) (hz:ze e z=some (f y')) (hm:M[i]? =some (.arr (.slice (some ⟨b,off,none⟩) n cap) sz (es.map f))) (hj:es[j]? =some y)
 (hok:zdw size (f y')=true) (hfl:zax (zb (f y'))=true) (hle:(zb (f y')).length=(zb (f y)).length)
 (hk:K .junk (M.set i (.arr (.slice (some ⟨b,off,none⟩) n cap) sz ((es.set j y').map f)))):EOp P e M ⟨dst,.store t x z,ty,pos,af,g⟩ K:=by
 have h0:=(zda hok).1;refine zR (j:=j) (f:=0) (y:=f y) (y':=f y') hf hx (by omega) hz hm (by rw [Ag,hj];rfl) hok hfl (by omega) ?_ ?_;rw [zrY hle];rw [List.map_set] at hk;exact hk
end
theorem Sat.arr_take [Tracks] {I:Imm} {F:List MObj} {w:World} {b off n cap sz m:Nat} {es:List HVal} (hm:m<=es.length) (h:Sat P I (.arr (.slice (some ⟨b,off,none⟩) n cap) sz es::F) w):
 Sat P I (.arr (.slice (some ⟨b,off,none⟩) m cap) sz (es.take m)::F) w:=by
 obtain ⟨_,rc,el,fr,h2,h3,h4,h5,h6,h7⟩:=zir h;refine h.change (m':= .arr (.slice (some ⟨b,off,none⟩) m cap) sz (es.take m)) (fun _ _ _=>rfl) (fun c hc=> .inl hc) (by simp [MObj.blocks]) ?_ rfl rfl rfl
 have hl:(es.take m).length=m:=by simp;omega
 refine .inr ⟨b,off,cap,rc,el,fr,by rw [hl],h2,h3,fun e he=>h4 e (AR he),by omega,h6,fun i j e c v a1 a2 a3=> ?_⟩
 have hi:=zl a1;rw [AC (by omega)] at a1;exact h7 i j e c v a1 a2 a3
theorem Ghost.take [Tracks] {e:Env} {M:List MObj} {b off n cap sz m:Nat} {es:List HVal} (hm:m<=es.length):Ghost e (.arr (.slice (some ⟨b,off,none⟩) n cap) sz es::M) e (.arr (.slice (some ⟨b,off,none⟩) m cap) sz (es.take m)::M):=
 fun _ I F tmps w h1 h2=>⟨I,.refl I,h1,h2.arr_take hm⟩
def zg0 (cap off sz lo:Nat):Nat:=if cap=lo then off else off+lo*sz
section
variable {P:Program} {e:Env} {dst:Option Tmp} {ty:TypeId} {pos:String} {af:Array Edge} {g:Option (Nat×Bool)} {M:List MObj} {K:HVal->List MObj->Prop}
theorem zeT [Tracks] {x:Operand} {lo hi:Option Operand} {t el:TypeId} {size bytes sz b2:Nat} {zero z2:Value} {d:TD} {b off n cap l h:Nat}
 (hf:Fits P t (.slice el) size bytes zero) (hel:Fits P el d sz b2 z2) (hx:ze e x=some (.raw (.slice (some ⟨b,off,none⟩) n cap))) (hlo:zbe e lo 0 l) (hhi:zbe e hi n h) (h1:l<=h) (h2:h<=n) (hc:n<=cap):
 POp P e ⟨dst,.slice t x lo hi none,ty,pos,af,g⟩ (.raw (.slice (some ⟨b,zg0 cap off sz l,none⟩) (h-l) (cap-l))):=
 zx fun I a w ho=>by
  have h3:=(ho.one (x:=x) (by simp [Op.operands]) hx).raw_inv;have hb:(Instr.sliceBounds true n cap (Option.map a.eval lo) (Option.map a.eval hi) none).run P w= .ok (l,h,cap) w:=
   zh6 (P:=P) (e:=e) (lo:=lo) (hi:=hi) (l:=l) (h:=h) (len:=n) (cap:=cap) ho (by intro y hy;simp [Op.operands,hy]) (by intro y hy;simp [Op.operands,hy]) hlo hhi h1 h2 hc true w
  refine ⟨_,?_,.raw _ rfl⟩
  simp [execOp,Instr.sliceAt,run_underlying hf.slice,h3,Instr.slice,hb,hel.run_sizeOf,zg0]
  try (split<;>simp_all [zc2])
  try omega
theorem zeJ [Tracks] {x:Operand} {t el:TypeId} {size bytes sz b2:Nat} {zero z2:Value} {d:TD} {i b off n cap m q o c2:Nat} {es:List HVal} (m':Nat)
 (hf:Fits P t (.slice el) size bytes zero) (hel:Fits P el d sz b2 z2) (hz:z2.cells.size=sz) (hz1:z2.cells.toList.all Value.oneCell'=true)
 (hx:ze e x=some (.raw (.slice (some ⟨b,o,none⟩) q c2))) (ho':q=0\/o=off+m*sz) (hm:M[i]? =some (.arr (.slice (some ⟨b,off,none⟩) n cap) sz es)) (hmq:m+q<=cap) (hmm:m'<=m) (hme:m'<=es.length)
 (hk:K .junk (M.set i (.arr (.slice (some ⟨b,off,none⟩) m' cap) sz (es.take m')))):EOp P e M ⟨dst,.call ⟨.builtin .clear,#[x],#[t]⟩,ty,pos,af,g⟩ K:=
 EOp.of_run fun I F a w ho hs=>by
  have h1:=(ho.one (x:=x) (by simp [Op.operands,Call.operands]) hx).raw_inv;have hp:=hs.pull hm;obtain ⟨_,rc,el',fr,h2,h3,h4,h5,h6,h7⟩:=zir hp;have hrun:(execOp a.eval ⟨dst,.call ⟨.builtin .clear,#[x],#[t]⟩,ty,pos,af,g⟩).run P w=((Builtin.clear_ #[t] ty #[a.eval x]).run P w).andThen fun v w=> .ok (.value v) w:=by
   simp [execOp,resolve,invoke,builtin]
  rcases A0 q with h0|h0
  refine ⟨.tuple #[],.junk,_,w,I,?_,.refl I,hk,.junk _,?_⟩
  rw [hrun,h1,h0]
  simp [Builtin.clear_,run_underlying hf.slice]
  exact zbh hm (hp.arr_take hme);have hso:o=off+m*sz:=by rcases ho' with h|h;omega;exact h
  have hmul:(m+q)*sz<=cap*sz:=Av _ hmq;rw [AP] at hmul;have hlen:(Builtin.zeroCells z2.cells q).toList.length=q*sz:=by rw [AN,zkk,hz]
  have hone: ∀v∈(Builtin.zeroCells z2.cells q).toList,v.oneCell'=true:=fun v hv=>by
   simp only [Builtin.zeroCells,Array.toList_map,List.mem_map] at hv;obtain ⟨r,hr,rfl⟩:=hv;have hq':r<q*z2.cells.size:=by simpa using hr
   have hpos:0<z2.cells.size:=by
    rcases A0 z2.cells.size with h|h
    rw [h] at hq';simp at hq';exact h
   have hlt:r%z2.cells.size<z2.cells.size:=BO _ hpos;rw [getElem!_pos z2.cells _ hlt];exact List.all_eq_true.1 hz1 _ (by simp)
  obtain ⟨w',rc',g1,g2,g3,g4,g5,g6,g7,g8,g9⟩:=zdU (P:=P) b el' fr (off+m*sz) (Builtin.zeroCells z2.cells q).toList 0 w rc h2 h3 hone (by rw [hlen];omega);refine ⟨.tuple #[],.junk,_,w',I,?_,.refl I,hk,.junk _,?_⟩
  rw [hrun,h1,hso];obtain ⟨r,rfl⟩: ∃r,q=r+1:=⟨q-1,by omega⟩
  simp [Builtin.clear_,run_underlying hf.slice,hel.run_zero,g1]
  refine zbh hm (hp.change (m':= .arr (.slice (some ⟨b,off,none⟩) m' cap) sz (es.take m')) (fun k hk hnk=>g5 k (by simpa [MObj.blocks] using hnk)) (fun k hk=> .inl hk) (by simp [MObj.blocks]) ?_ g7 g8 g9.1 (fun _=>Cd g9.2.symm))
  have hl:(es.take m').length=m':=by simp;omega
  refine .inr ⟨b,off,cap,rc',el',fr,by rw [hl],g2,by rw [g3];exact h3,fun e he=>h4 e (AR he),by omega,by rw [g3];exact h6,fun p q' y c v a1 a2 a3=> ?_⟩
  have hi:=zl a1;rw [AC (by omega)] at a1;have hq:=zl a2;rw [h4 y (Ac a1)] at hq;have hpm:(p+1)*sz<=m*sz:=Av _ (by omega);rw [AP] at hpm;rw [g4,if_neg (by omega)] at a3;exact h7 p q' y c v a1 a2 a3
theorem zsu [Tracks] {I:Imm} {a:Act} {o:Oper} (ho:Opds I e a o) {lo hi:Option Operand} (hlo: ∀x,lo=some x->x∈o.op.operands) (hhi: ∀x,hi=some x->x∈o.op.operands)
 {len cap l h:Nat} (h1:zbe e lo 0 l) (h2:zbe e hi len h) (h3:l<=h) (h4:h<=cap) (b:Bool) (w:World):
 (Instr.sliceBounds b len cap (lo.map a.eval) (hi.map a.eval) none).run P w= .ok (l,h,cap) w:=by
 unfold Instr.sliceBounds
 cases lo with
 |none=>
   simp only [zbe] at h1;subst h1
   cases hi with
   |none=>simp only [zbe] at h2;subst h2;simp
   |some y=>
     obtain ⟨k,i,h6,rfl⟩:=h2;have h7:=(ho.one (hhi y rfl) h6).int_inv
     simp [h7,zbU h4]
 |some x=>
   obtain ⟨k',i',h8,rfl⟩:=h1;have h9:=(ho.one (hlo x rfl) h8).int_inv
   cases hi with
   |none=>simp only [zbe] at h2;subst h2;simp [h9,zbU h3]
   |some y=>
     obtain ⟨k,i,h6,rfl⟩:=h2;have h7:=(ho.one (hhi y rfl) h6).int_inv
     simp [h7,h9,zbU h4,zbU h3]
theorem ztV [Tracks] {x:Operand} {lo hi:Option Operand} {t el:TypeId} {size bytes sz b2:Nat} {zero z2:Value} {d:TD} {b off n cap l h:Nat}
 (hf:Fits P t (.slice el) size bytes zero) (hel:Fits P el d sz b2 z2) (hx:ze e x=some (.raw (.slice (some ⟨b,off,none⟩) n cap))) (hlo:zbe e lo 0 l) (hhi:zbe e hi n h) (h1:l<=h) (h2:h<=cap):
 POp P e ⟨dst,.slice t x lo hi none,ty,pos,af,g⟩ (.raw (.slice (some ⟨b,zg0 cap off sz l,none⟩) (h-l) (cap-l))):=
 zx fun I a w ho=>by
  have h3:=(ho.one (x:=x) (by simp [Op.operands]) hx).raw_inv;have hb:(Instr.sliceBounds true n cap (Option.map a.eval lo) (Option.map a.eval hi) none).run P w= .ok (l,h,cap) w:=
   zsu (P:=P) (e:=e) (lo:=lo) (hi:=hi) (l:=l) (h:=h) (len:=n) (cap:=cap) ho (by intro y hy;simp [Op.operands,hy]) (by intro y hy;simp [Op.operands,hy]) hlo hhi h1 h2 true w
  refine ⟨_,?_,.raw _ rfl⟩
  simp [execOp,Instr.sliceAt,run_underlying hf.slice,h3,Instr.slice,hb,hel.run_sizeOf,zg0]
  try (split<;>simp_all [zc2])
  try omega
theorem zgn [Tracks] {x:Operand} {hi:Option Operand} {t el:TypeId} {size bytes sz b2:Nat} {zero z2:Value} {d:TD} {b off n cap h:Nat}
 (hf:Fits P t (.slice el) size bytes zero) (hel:Fits P el d sz b2 z2) (hx:ze e x=some (.raw (.slice (some ⟨b,off,none⟩) n cap))) (hhi:zbe e hi n h) (h2:h<=cap):
 POp P e ⟨dst,.slice t x none hi none,ty,pos,af,g⟩ (.raw (.slice (some ⟨b,off,none⟩) h cap)):=by
 have:=ztV (P:=P) (dst:=dst) (ty:=ty) (pos:=pos) (af:=af) (g:=g) (lo:=none) (l:=0) hf hel hx rfl hhi (Ad _) h2;have e1:zg0 cap off sz 0=off:=by unfold zg0;split<;>omega
 rwa [e1,Nat.sub_zero,Nat.sub_zero] at this
end
end
section
variable {P:Program}
open Go.ChangeShapes Go.WideShapes Go.RowKit
theorem zlD [Tracks] {W W':World} {J:Imm} {M:List MObj} (hl:Le (zbX W) J) (hs:Sat P J M W'):Below W.heap.size W W':=by
 have hb: ∀k,k<W.heap.size->W'.heap[k]? =W.heap[k]?:=fun k hk=>by
  have h1:W.heap[k]? =some W.heap[k]:=by simp [hk]
  rw [h1];exact hs.imm _ _ (hl.heap _ _ h1)
 exact {
  os:=hs.os.trans hl.os
  tape:=hs.tape.trans hl.tape
  output:=hs.output.trans hl.output
  size:=by
   rcases A0 W.heap.size with h|h
   omega
   have h1:=hb (W.heap.size-1) (by omega);have h2:W.heap[W.heap.size-1]? =some (W.heap[W.heap.size-1]'(by omega)):=by simp
   rw [h2] at h1
   rcases Az (W.heap.size-1) W'.heap.size with h3|h3
   omega
   rw [Ak h3] at h1;cases h1
  block:=hb}
theorem zs0 [Tracks] {W:World} (ht:TabI P (zbX W)):Sat P (zbX W) [] W:=⟨fun _ _ h=>h,fun _ h=>by simp at h,by simp [blocks],fun _ h=>by simp [blocks] at h,rfl,rfl,rfl,ht,fun _=>Ae _⟩
theorem zrq [Tracks] {P:Program} {f:FuncId} {l:List Int} (hc:ConP P f [.slice 1 (l.map (.int .i64))] (.bool true)) {W:World} (ht:TabI P (zbX W)) {v:Value} (hv:V (zbX W) (.slice 1 (l.map (.int .i64))) v):
 Calls P f #[v] W fun e W'=>e= .returned (.bool true)/\Below W.heap.size W W':=by
 refine (hc (zbX W) [] W [v] (VL.cons hv VL.nil) (zs0 ht)).mono ?_;rintro e W' ⟨u,h,M',J,rfl,hle,⟨rfl,rfl⟩,hV,hs⟩;exact ⟨by rw [hV.bool_inv],zlD hle hs⟩
theorem zyR [Tracks] {W:World} {a:Addr} {len cap:Nat} {zs:List Int} (hcell: ∀i,i<zs.length->W.cell? (a.add i)=some (.int .i64 (zs.getD i 0))) (hl:len<=zs.length) (hc:len<=cap):
 V (zbX W) (.slice 1 ((zs.take len).map (.int .i64))) (.slice (some a) len cap):=by
 rcases A0 len with h0|h0
 subst h0;exact .slice0 _ _ _;obtain ⟨b,off,rfl,hj⟩:=ints_at hcell (by omega);have hc0:=hj 0 (by omega);unfold World.cell? at hc0
 cases hh:W.heap[b]? with
 |none=>rw [hh] at hc0;simp at hc0
 |some o=>
   cases o with
   |cells rc el fr=>
     have hrc: ∀j,j<zs.length->rc[off+j]? =some (.int .i64 (zs.getD j 0)):=fun j hj'=>by
      have:=hj j hj';unfold World.cell? at this
      simpa [hh] using this
     have hlen:((zs.take len).map (HVal.int .i64)).length=len:=by simp;omega
     have hsz:off+zs.length<=rc.size:=by
      have:=hrc (zs.length-1) (by omega)
      rcases Az (off+(zs.length-1)) rc.size with h3|h3
      omega
      rw [Ak h3] at this;cases this
     have:=V.slice (I:=zbX W) (sz:=1) (es:=(zs.take len).map (.int .i64)) (b:=b) (off:=off) (cap:=cap) (rc:=rc) (el:=el) (fr:=fr) hh
      (fun e he=>by obtain ⟨n,_,rfl⟩:=List.mem_map.1 he;rfl) (by omega) (by omega) (fun i j e c v h1 h2 h3=>by
        have hi:=zl h1;rw [hlen] at hi;rw [Ag,AC hi] at h1;have e1:zs[i]? =some zs[i]:=Aa (by omega);rw [e1] at h1;simp only [AH,As] at h1;subst h1
        cases j with
        |succ j=>simp [zb] at h2
        |zero=>
          simp only [zb,AV,As] at h2;subst h2;have h4:=hrc i (by omega);rw [Nat.mul_one,Bz,h4] at h3;simp only [As] at h3;subst h3;have:zs.getD i 0=zs[i]:=by simp [List.getD,e1]
          rw [this];exact .int _ _)
     rw [hlen] at this;exact this
   |_=>rw [hh] at hc0;simp at hc0
end
section
open Go.Sort Go.Proofs Go.RowKit
variable {P:Program}
theorem zpd {w:World} {name:String} {d:DataW Unit}: ∀{laid:List (String×DataW Unit)} {ps:List MemPlace},DataW.LaidVars P w laid ps->∀(i:Nat),laid[i]? =some (name,d)->
 ∃g t cs fuel p,P.globalNamed name=some g/\(P.globals[g]?).map (·.type)=some t/\w.var? P name=some cs/\DataW.trod (fun _=>()) P w 0 (fun _=>true) false fuel t cs.toList=some (d,p)
 |[],_,_,i,h=>by simp at h
 |(n,x)::r,ps,h,0,hi=>by
   simp at hi
   obtain ⟨rfl,rfl⟩:=hi;obtain ⟨g,t,cs,fuel,p,q,h1,h2,h3,h4,_,_⟩:=h;exact ⟨g,t,cs,fuel,p,h1,h2,h3,h4⟩
 |(n,x)::r,ps,h,i+1,hi=>by
   obtain ⟨g,t,cs,fuel,p,q,_,_,_,_,h5,_⟩:=h;exact zpd h5 i (by simpa using hi)
theorem Sat.maxLen [Tracks] {I:Imm} {M:List MObj} {w:World} (hs:Sat P I M w) {g:Nat} (hg:P.globalNamed "internal/bytealg.MaxLen" =some g): ∃m,w.cell? ⟨g,0,none⟩=some (.int .i64 m):=by
 obtain ⟨c,t,fr,m,h1,h2⟩:=hs.tab.2.1 g hg;have h3:=hs.imm _ _ h1;exact ⟨m,by rw [zbF h3];exact h2⟩
theorem Sat.utf8 [Tracks] {I:Imm} {M:List MObj} {w:World} (hs:Sat P I M w) {g3 g4:Nat} (h3:P.globalNamed "unicode/utf8.first" =some g3) (h4:P.globalNamed "unicode/utf8.acceptRanges" =some g4):
 (∀c,c<256->w.cell? ⟨g3,c,none⟩=some (.int .u8 (Lib.firstT c)))/\(∀i,i<16->w.cell? ⟨g4,2*i,none⟩=some (.int .u8 (Lib.accLo i))/\w.cell? ⟨g4,2*i+1,none⟩=some (.int .u8 (Lib.accHi i))):=by
 obtain ⟨c3,t3,f3,c4,t4,f4,e3,e4,u1,u2⟩:=hs.tab.2.2 g3 g4 h3 h4;exact ⟨fun c hc=>by rw [zbF (hs.imm _ _ e3)];exact u1 c hc,fun i hi=>⟨by rw [zbF (hs.imm _ _ e4)];exact (u2 i hi).1,by rw [zbF (hs.imm _ _ e4)];exact (u2 i hi).2⟩⟩
theorem Sat.lt [Tracks] {I:Imm} {M:List MObj} {w:World} (hs:Sat P I M w):(∀b,(∃o,I.heap b=some o)->b<w.heap.size)/\∀b∈blocks M,b<w.heap.size:=by
 have key: ∀b o,w.heap[b]? =some o->b<w.heap.size:=fun b o h=>by
  rcases Az b w.heap.size with h'|h'
  exact h'
  simp [Ak h'] at h
 refine ⟨fun b ⟨o,h⟩=>key b o (hs.imm b o h),fun b hb=> ?_⟩
 simp only [blocks,Be] at hb;obtain ⟨m,hm,hb⟩:=hb;obtain ⟨o,ho⟩:=(hs.obj m hm).lies hb;exact key b o ho
end
section
section
variable {P:Program} {e:Env} {dst:Option Tmp} {ty:TypeId} {pos:String} {af:Array Edge} {g:Option (Nat×Bool)} {M:List MObj} {K:HVal->List MObj->Prop}
end
end
section
section
variable {P:Program} {e:Env} {dst:Option Tmp} {ty:TypeId} {pos:String} {af:Array Edge} {g:Option (Nat×Bool)} {M:List MObj} {K:HVal->List MObj->Prop}
theorem ziq [Tracks] {I:Imm} {c d:HVal} {u v:Value} (h1:V I c u) (h2:V I d v):V I (.tup [c,d]) (.tuple #[u,v]):=
 .tup (by simp) (fun j c v h3 h4=>(VL.cons h1 (VL.cons h2 VL.nil)).2 j c v h3 (by simpa using h4))
theorem zsi [Tracks] {x y:Operand} {t kt et:TypeId} {size bytes s2 b2 s3 b3:Nat} {zero z2 z3:Value} {d:TD} {i b:Nat} {ls:List (List UInt8×HVal)} {s:List UInt8}
 (hf:Fits P t (.map kt et) size bytes zero) (hkt:Fits P kt .str s2 b2 z2) (het:Fits P et d s3 b3 z3) (hx:ze e x=some (.raw (.map (some b)))) (hy:ze e y=some (.str s)) (hm:M[i]? =some (.map b (sk ls)))
 (hk:K (.tup [match zS s ls with|some p=>p.2|none=>zay z3,.bool (zS s ls).isSome]) M):EOp P e M ⟨dst,.lookup t x y true,ty,pos,af,g⟩ K:=
 EOp.of_run fun I F a w ho hs=>by
  have h1:=(ho.one (x:=x) (by simp [Op.operands]) hx).raw_inv;have h2:=(ho.one (x:=y) (by simp [Op.operands]) hy).str_inv;obtain ⟨es,clk,h3,h4,h5⟩:=hs.obj _ (Al _ (Ac hm));obtain ⟨h6,h7⟩:=zgk h4.1 h5;obtain ⟨n1,n2⟩:=zhj (I:=I) (s:=s) es.toList ls 0 h6 h7
  cases hq:zS s ls with
  |none=>
    rw [hq] at hk;refine ⟨.tuple #[z3,.bool false],_,M,w,I,?_,.refl I,hk,ziq (ze1 I z3) (.bool _),hs⟩
    simp only [execOp,h1,h2,Instr.lookup,Sem.run_bind,run_underlying hf.mapD,Result.andThen_ok,zaC h3,Sem.run_pure,zbT hkt.strD,Instr.findKey,run_underlying hkt.strD,n1 hq,het.run_zero]
    simp
  |some p=>
    obtain ⟨j,h⟩:=p;rw [hq] at hk;obtain ⟨v,g1,g2⟩:=n2 j h hq;refine ⟨.tuple #[v,.bool true],_,M,w,I,?_,.refl I,hk,ziq g2 (.bool _),hs⟩
    simp only [execOp,h1,h2,Instr.lookup,Sem.run_bind,run_underlying hf.mapD,Result.andThen_ok,zaC h3,Sem.run_pure,zbT hkt.strD,Instr.findKey,run_underlying hkt.strD,g1]
    simp
end
section
variable {P:Program}
end
end
section
section
variable {κ:Type} [DecidableEq κ]
def kk (ek:κ->HVal) (l:List (κ×HVal)):List (HVal×HVal):=l.map fun p=>(ek p.1,p.2)
def zbc (x:κ):List (κ×HVal)->Option Nat
 |[]=>none
 |p::r=>if x=p.1 then some 0 else (zbc x r).map (· +1)
def klk (x:κ):List (κ×HVal)->Option HVal
 |[]=>none
 |p::r=>if x=p.1 then some p.2 else klk x r
def zc9 (x:κ) (h:HVal):List (κ×HVal)->List (κ×HVal)
 |[]=>[(x,h)]
 |p::r=>if x=p.1 then (x,h)::r else p::zc9 x h r
theorem zdu {x:κ}: ∀{l:List (κ×HVal)} {j:Nat},zbc x l=some j->∃h,l[j]? =some (x,h)/\klk x l=some h/\∀h',zc9 x h' l=l.set j (x,h')
 |[],j,h=>by simp [zbc] at h
 |p::r,j,h=>by
   simp only [zbc] at h
   by_cases e:x=p.1
   rw [if_pos e] at h
   simp at h;subst h
   exact ⟨p.2,by simp [e],by simp [klk,e],fun h'=>by simp [zc9,e]⟩;rw [if_neg e] at h
   cases hr:zbc x r with
   |none=>rw [hr] at h;simp at h
   |some j'=>
     rw [hr] at h;simp at h;subst h;obtain ⟨y,h1,h2,h3⟩:=zdu hr;exact ⟨y,by simpa using h1,by simp [klk,e,h2],fun h'=>by simp [zc9,e,h3]⟩
theorem zdZ {x:κ}: ∀{l:List (κ×HVal)},zbc x l=none->klk x l=none/\∀h',zc9 x h' l=l++[(x,h')]
 |[],_=>⟨rfl,fun _=>rfl⟩
 |p::r,h=>by
   simp only [zbc] at h
   by_cases e:x=p.1
   rw [if_pos e] at h;simp at h;rw [if_neg e] at h;have hr:zbc x r=none:=by cases hq:zbc x r with|none=>rfl|some j=>rw [hq] at h;simp at h
   obtain ⟨h1,h2⟩:=zdZ hr;exact ⟨by simp [klk,e,h1],fun h'=>by simp [zc9,e,h2]⟩
def KNodup (l:List (κ×HVal)):Prop:=(l.map (·.1)).Nodup
theorem zpU {x y:κ} {h:HVal}: ∀{l:List (κ×HVal)},y∈(zc9 x h l).map (·.1)↔y=x\/y∈l.map (·.1)
 |[]=>by simp [zc9]
 |p::r=>by
   simp only [zc9]
   split
   rename_i e;subst e;simp
   simp only [Ar,BD,zpU]
   constructor
   rintro (a|a|a);exact .inr (.inl a);exact .inl a;exact .inr (.inr a);rintro (a|a|a);exact .inr (.inl a);exact .inl a;exact .inr (.inr a)
theorem KNodup.put {x:κ} {h:HVal}: ∀{l:List (κ×HVal)},KNodup l->KNodup (zc9 x h l)
 |[],_=>by simp [KNodup,zc9]
 |p::r,hn=>by
   unfold KNodup at*;simp only [Ar,Cc] at hn;simp only [zc9]
   split
   rename_i e;subst e;simpa using hn
   rename_i e
   simp only [Ar,Cc];refine ⟨fun q=> ?_,KNodup.put (l:=r) hn.2⟩
   rcases zpU.1 q with q|q
   exact e q.symm;exact hn.1 q
structure KeyOk (P:Program) (kt:TypeId) (ek:κ->HVal):Prop where
 check: ∀(I:Imm) (x:κ) (v:Value) (b:Bool) (w:World),V I (ek x) v->(Instr.checkKey b 10000 kt v).run P w= .ok () w
 eq: ∀(I:Imm) (x y:κ) (u v:Value) (w:World),V I (ek x) u->V I (ek y) v->(Op.equal kt u v).run P w= .ok (decide (x=y)) w
 find: ∀(I:Imm) (x:κ) (v:Value) (es:List MapEntry) (w:World),V I (ek x) v->(∀m∈es,∃y,V I (ek y) m.key)->(Instr.findKey kt v es).run P w=(Instr.findAsking kt v es).run P w
 same: ∀(I:Imm) (x:κ) (u v:Value),V I (ek x) u->V I (ek x) v->Instr.sameBits 10000 u v=true
variable {P:Program} {kt:TypeId} {ek:κ->HVal}
theorem KeyOk.run_key (ok:KeyOk P kt ek) {I:Imm} {x:κ} {v:Value} (hv:V I (ek x) v) (w:World) (es:List MapEntry) (ls:List (κ×HVal)) (hl:es.length=ls.length)
 (hV: ∀(j:Nat) (p:κ×HVal) (m:MapEntry),ls[j]? =some p->es[j]? =some m->V I (ek p.1) m.key/\V I p.2 m.val):(Instr.findKey kt v es).run P w=(Instr.findAsking kt v es).run P w:=
 ok.find I x v es w hv fun m hm=>by
  obtain ⟨j,hj⟩:=Bg hm;have h1:=zl hj;exact ⟨_,(hV j _ m (Aa (by omega)) hj).1⟩
theorem zgR (ok:KeyOk P kt ek) {I:Imm} {x:κ} {v:Value} (hv:V I (ek x) v) (w:World): ∀(es:List MapEntry) (ls:List (κ×HVal)) (i:Nat),es.length=ls.length->
 (∀(j:Nat) (p:κ×HVal) (m:MapEntry),ls[j]? =some p->es[j]? =some m->V I (ek p.1) m.key/\V I p.2 m.val)->
 (zbc x ls=none->(Instr.findAsking kt v es i).run P w= .ok none w)/\∀j,zbc x ls=some j->∃m h,es[j]? =some m/\ls[j]? =some (x,h)/\V I h m.val/\(Instr.findAsking kt v es i).run P w= .ok (some (i+j,m.val)) w
 |[],[],i,_,_=>⟨fun _=>by simp [Instr.findAsking],fun j h=>by simp [zbc] at h⟩
 |[],_::_,i,hl,_=>by simp at hl
 |_::_,[],i,hl,_=>by simp at hl
 |m::es,p::ls,i,hl,hV=>by
   obtain ⟨h1,h2⟩:=hV 0 p m rfl rfl;obtain ⟨ih1,ih2⟩:=zgR ok hv w es ls (i+1) (by simpa using hl) fun j q n a b=>hV (j+1) q n (by simpa using a) (by simpa using b)
   simp only [Instr.findAsking,Sem.run_bind,ok.eq I x p.1 v m.key w hv h1,Result.andThen_ok,zbc]
   by_cases e:x=p.1
   rw [if_pos e];simp only [e,decide_true,if_true,Sem.run_pure];refine ⟨fun h=>by simp at h,fun j h=> ?_⟩
   simp at h;subst h
   exact ⟨m,p.2,rfl,by simp,h2,by simp⟩;rw [if_neg e];simp only [e,decide_false,AQ,if_false];refine ⟨fun h=>ih1 (by cases hq:zbc x ls with|none=>rfl|some j=>rw [hq] at h;simp at h),fun j h=> ?_⟩
   cases hq:zbc x ls with
   |none=>rw [hq] at h;simp at h
   |some j'=>
     rw [hq] at h;simp at h;subst h;obtain ⟨n,y,g1,g2,g3,g4⟩:=ih2 j' hq;exact ⟨n,y,by simpa using g1,by simpa using g2,g3,by rw [g4];congr 3;omega⟩
theorem zme {A:Type} {eA:A->HVal} {I:Imm} {ls:List (A×HVal)} {es:Array MapEntry} (hl:es.size=(kk eA ls).length)
 (hv: ∀(i:Nat) (p:HVal×HVal) (m:MapEntry),(kk eA ls)[i]? =some p->es[i]? =some m->V I p.1 m.key/\V I p.2 m.val):
 es.toList.length=ls.length/\∀(j:Nat) (p:A×HVal) (m:MapEntry),ls[j]? =some p->es.toList[j]? =some m->V I (eA p.1) m.key/\V I p.2 m.val:=by
 refine ⟨by simpa [kk] using hl,fun j p m a b=> ?_⟩
 exact hv j (eA p.1,p.2) m (by simp [kk,a]) (by simpa using b)
variable [Tracks] {e:Env} {dst:Option Tmp} {ty:TypeId} {pos:String} {af:Array Edge} {g:Option (Nat×Bool)} {M:List MObj} {K:HVal->List MObj->Prop}
theorem zsj {x y:Operand} {t et:TypeId} {size bytes s3 b3:Nat} {zero z3:Value} {d:TD} {i b:Nat} {ls:List (κ×HVal)} {s:κ}
 (hf:Fits P t (.map kt et) size bytes zero) (ok:KeyOk P kt ek) (het:Fits P et d s3 b3 z3) (hx:ze e x=some (.raw (.map (some b)))) (hy:ze e y=some (ek s)) (hm:M[i]? =some (.map b (kk ek ls)))
 (hk:K ((klk s ls).getD (zay z3)) M):EOp P e M ⟨dst,.lookup t x y false,ty,pos,af,g⟩ K:=
 EOp.of_run fun I F a w ho hs=>by
  have h1:=(ho.one (x:=x) (by simp [Op.operands]) hx).raw_inv;have h2:=ho.one (x:=y) (by simp [Op.operands]) hy;obtain ⟨es,clk,h3,h4,h5⟩:=hs.obj _ (Al _ (Ac hm));obtain ⟨h6,h7⟩:=zme h4.1 h5;obtain ⟨n1,n2⟩:=zgR ok h2 w es.toList ls 0 h6 h7;have hfk:=ok.run_key h2 w es.toList ls h6 h7
  cases hq:zbc s ls with
  |none=>
    rw [(zdZ hq).1] at hk;refine ⟨z3,_,M,w,I,?_,.refl I,hk,ze1 I z3,hs⟩
    simp only [execOp,h1,Instr.lookup,Sem.run_bind,run_underlying hf.mapD,Result.andThen_ok,zaC h3,Sem.run_pure,ok.check I s _ _ w h2,hfk,n1 hq,het.run_zero]
    simp
  |some j=>
    obtain ⟨m,h,g1,g2,g3,g4⟩:=n2 j hq;obtain ⟨h',g5,g6,_⟩:=zdu hq;rw [g5] at g2;cases g2;rw [g6] at hk;refine ⟨m.val,_,M,w,I,?_,.refl I,hk,g3,hs⟩
    simp only [execOp,h1,Instr.lookup,Sem.run_bind,run_underlying hf.mapD,Result.andThen_ok,zaC h3,Sem.run_pure,ok.check I s _ _ w h2,hfk,g4]
    simp
theorem zrt {x y:Operand} {t et:TypeId} {size bytes s3 b3:Nat} {zero z3:Value} {d:TD} {i b:Nat} {ls:List (κ×HVal)} {s:κ}
 (hf:Fits P t (.map kt et) size bytes zero) (ok:KeyOk P kt ek) (het:Fits P et d s3 b3 z3) (hx:ze e x=some (.raw (.map (some b)))) (hy:ze e y=some (ek s)) (hm:M[i]? =some (.map b (kk ek ls)))
 (hk:K (.tup [(klk s ls).getD (zay z3),.bool (klk s ls).isSome]) M):EOp P e M ⟨dst,.lookup t x y true,ty,pos,af,g⟩ K:=
 EOp.of_run fun I F a w ho hs=>by
  have h1:=(ho.one (x:=x) (by simp [Op.operands]) hx).raw_inv;have h2:=ho.one (x:=y) (by simp [Op.operands]) hy;obtain ⟨es,clk,h3,h4,h5⟩:=hs.obj _ (Al _ (Ac hm));obtain ⟨h6,h7⟩:=zme h4.1 h5;obtain ⟨n1,n2⟩:=zgR ok h2 w es.toList ls 0 h6 h7;have hfk:=ok.run_key h2 w es.toList ls h6 h7
  cases hq:zbc s ls with
  |none=>
    rw [(zdZ hq).1] at hk;refine ⟨.tuple #[z3,.bool false],_,M,w,I,?_,.refl I,hk,ziq (ze1 I z3) (.bool _),hs⟩
    simp only [execOp,h1,Instr.lookup,Sem.run_bind,run_underlying hf.mapD,Result.andThen_ok,zaC h3,Sem.run_pure,ok.check I s _ _ w h2,hfk,n1 hq,het.run_zero]
    simp
  |some j=>
    obtain ⟨m,h,g1,g2,g3,g4⟩:=n2 j hq;obtain ⟨h',g5,g6,_⟩:=zdu hq;rw [g5] at g2;cases g2;rw [g6] at hk;refine ⟨.tuple #[m.val,.bool true],_,M,w,I,?_,.refl I,hk,ziq g3 (.bool _),hs⟩
    simp only [execOp,h1,Instr.lookup,Sem.run_bind,run_underlying hf.mapD,Result.andThen_ok,zaC h3,Sem.run_pure,ok.check I s _ _ w h2,hfk,g4]
    simp
theorem zsk {x y z:Operand} {t et:TypeId} {size bytes:Nat} {zero:Value} {i b:Nat} {ls:List (κ×HVal)} {s:κ} {h:HVal}
 (hf:Fits P t (.map kt et) size bytes zero) (ok:KeyOk P kt ek) (hx:ze e x=some (.raw (.map (some b)))) (hy:ze e y=some (ek s)) (hz:ze e z=some h) (hm:M[i]? =some (.map b (kk ek ls)))
 (hk:K .junk (M.set i (.map b (kk ek (zc9 s h ls))))):EOp P e M ⟨dst,.mapUpdate t x y z,ty,pos,af,g⟩ K:=
 zfn fun I F a w ho hs=>by
  have h1:=(ho.one (x:=x) (by simp [Op.operands]) hx).raw_inv;have h2:=ho.one (x:=y) (by simp [Op.operands]) hy;have h0:=ho.one (x:=z) (by simp [Op.operands]) hz;have hp:=hs.pull hm;obtain ⟨es,clk,h3,h4,h5⟩:=hp.obj _ Am;obtain ⟨h6,h7⟩:=zme h4.1 h5;obtain ⟨n1,n2⟩:=zgR ok h2 w es.toList ls 0 h6 h7;have hfk:=ok.run_key h2 w es.toList ls h6 h7;have hlt:b<w.heap.size:=by
   rcases Az b w.heap.size with h'|h'
   exact h'
   simp [Ak h'] at h3
  have hsz:es.size=ls.length:=by simpa using h6
  have fin: ∀(es':Array MapEntry) (clk':Nat),es'.size=(kk ek (zc9 s h ls)).length/\BornOk es' clk'->
   (∀(i:Nat) (p:HVal×HVal) (m:MapEntry),(kk ek (zc9 s h ls))[i]? =some p->es'[i]? =some m->V I p.1 m.key/\V I p.2 m.val)->
   Sat P I (M.set i (.map b (kk ek (zc9 s h ls)))++F) {w with heap:=w.heap.setIfInBounds b (.map es' clk')}:=fun es' clk' e1 e2=>by
   refine zbh hm (hp.change (m':= .map b (kk ek (zc9 s h ls))) (fun k hk hnk=> ?_) (fun k hk=> .inl hk) (by simp [MObj.blocks]) ⟨es',clk',by simp [hlt],e1,e2⟩ rfl rfl rfl)
   have:k≠b:=by simpa [MObj.blocks] using hnk
   simp [AF (Ne.symm this)]
  cases hq:zbc s ls with
  |none=>
    have hput:=(zdZ hq).2 h;refine ⟨_,_,I,?_,.refl I,hk,fin (es.push ⟨a.eval y,a.eval z,clk⟩) (clk+1) ⟨by rw [hput];simp [kk,hsz],h4.2.push rfl⟩ fun j p m a1 a2=> ?_⟩
    simp only [execOp,h1,Instr.mapUpdate,Sem.run_bind,run_underlying hf.mapD,Result.andThen_ok,zaC h3,ok.check I s _ _ w h2,hfk,n1 hq,Sem.run_pure,zcP h3];rw [hput] at a1;simp only [kk,AB,Ar,Ba] at a1
    by_cases hj:j<ls.length
    rw [Aq (by simpa using hj)] at a1;rw [AM,if_neg (by omega)] at a2;exact h5 j p m (by simpa [kk] using a1) a2;rw [Ap (by simp;omega)] at a1;rw [AM] at a2
    by_cases hje:j=es.size
    rw [if_pos hje] at a2
    simp at a2
    subst a2;have:j-(ls.map fun p=>(ek p.1,p.2)).length=0:=by simp;omega
    rw [this] at a1
    simp at a1
    subst a1;exact ⟨h2,h0⟩;rw [if_neg hje,Ak (by omega)] at a2
    cases a2
  |some j0=>
    obtain ⟨m0,h',g1,g2,g3,g4⟩:=n2 j0 hq;obtain ⟨_,_,_,hput⟩:=zdu hq;have hm0:es[j0]? =some m0:=by simpa using g1
    have hjl:=zl g2;have hkey:=(h7 j0 (s,h') m0 g2 g1).1;refine ⟨_,_,I,?_,.refl I,hk,fin (es.modify j0 fun e=>{e with key:=a.eval y,val:=a.eval z}) clk ⟨by rw [hput];simp [kk,hsz],h4.2.modify _ fun _=>rfl⟩ fun j p m a1 a2=> ?_⟩
    have hstay:(Instr.keyThatStays (((es[j0]?).map (·.key)).getD (a.eval y)) (a.eval y)).run P w= .ok (a.eval y) w:=by
     rw [hm0];simp only [AH,B7,Instr.keyThatStays];rw [if_pos (ok.same I s _ _ hkey h2)];rfl
    simp only [execOp,h1,Instr.mapUpdate,Sem.run_bind,run_underlying hf.mapD,Result.andThen_ok,zaC h3,ok.check I s _ _ w h2,hfk,g4,Sem.run_pure,Bb,hstay,zcP h3];rw [hput] at a1;simp only [kk] at a1;rw [AI] at a2;rw [Ag,B3] at a1
    by_cases hj:j0=j
    subst hj;rw [if_pos rfl,hm0] at a2;rw [if_pos rfl,if_pos hjl] at a1
    simp at a1 a2
    subst a1 a2;exact ⟨h2,h0⟩;rw [if_neg hj] at a1 a2;exact h5 j p m (by simp only [kk,Ag];exact a1) a2
end
end
section
def zmt:List HVal->Bool
 |[]=>true
 | .int _ _::r=>zmt r
 | .str _::r=>zmt r
 | .bool _::r=>zmt r
 |_=>false
theorem zrX: ∀{cs:List HVal} {j:Nat} {c:HVal},zmt cs=true->cs[j]? =some c->(∃k n,c= .int k n)\/(∃s,c= .str s)\/∃b,c= .bool b
 |[],j,c,_,h=>by simp at h
 |x::r,0,c,hs,h=>by
   simp at h;subst h
   cases x<;>simp [zmt] at hs
   exact .inr (.inr ⟨_,rfl⟩);exact .inl ⟨_,_,rfl⟩;exact .inr (.inl ⟨_,rfl⟩)
 |x::r,j+1,c,hs,h=>by
   simp at h
   cases x<;>simp [zmt] at hs<;>exact zrX hs h
theorem zva {I:Imm} {cs:List HVal} {xs ys:List Value} (hs:zmt cs=true) (hx:VL I cs xs) (hy:VL I cs ys):xs=ys/\∀v∈xs,∀n,Instr.sameBits n v v=true:=by
 have key: ∀(j:Nat) (u v:Value),xs[j]? =some u->ys[j]? =some v->u=v/\∀n,Instr.sameBits n u u=true:=fun j u v h1 h2=>by
  have hj:j<cs.length:=by rw [<-hx.1];exact zl h1
  have hc:=Aa hj;have hu:=hx.2 j _ u hc h1;have hv:=hy.2 j _ v hc h2
  rcases zrX hs hc with ⟨k,n,e⟩|⟨s,e⟩|⟨b,e⟩
  rw [e] at hu hv
  haveI:Tracks:=⟨true⟩
  rw [hu.int_inv,hv.int_inv];exact ⟨rfl,fun m=>by cases m<;>simp [Instr.sameBits]⟩;rw [e] at hu hv
  haveI:Tracks:=⟨true⟩
  rw [hu.str_inv,hv.str_inv];exact ⟨rfl,fun m=>by cases m<;>simp [Instr.sameBits,zg4]⟩;rw [e] at hu hv
  haveI:Tracks:=⟨true⟩
  rw [hu.bool_inv,hv.bool_inv];exact ⟨rfl,fun m=>by cases m<;>simp [Instr.sameBits]⟩
 have hl:xs.length=ys.length:=by rw [hx.1,hy.1]
 refine ⟨BI fun j=> ?_,fun v hv n=> ?_⟩
 rcases Az j xs.length with h|h
 rw [Aa h,Aa (by omega)]
 congr 1
 exact (key j _ _ (Aa h) (Aa (by omega))).1;rw [Ax h,Ax (by omega)];obtain ⟨j,hj⟩:=Bg hv;have hlt:=zl hj;exact (key j v _ hj (Aa (by omega))).2 n
section
variable {P:Program}
theorem ziS {t:TypeId} {d:TD} {s by':Nat} {z:Value} (hf:Fits P t d s by' z) {a:HVal} (hk:zd8 d a a=true) {I:Imm} {u:Value} (hu:V I a u) (em:Bool) (n:Nat) (w:World):(Instr.checkKey em (n+1) t u).run P w= .ok () w:=by
 haveI:Tracks:=⟨true⟩
 cases d<;>cases a<;>focus first|(simp [zd8] at hk;done)|skip
 rw [hu.bool_inv];simp [Instr.checkKey,run_underlying hf.boolD];rw [hu.int_inv];simp [Instr.checkKey,run_underlying hf.intD];rw [hu.str_inv];simp [Instr.checkKey,run_underlying hf.strD]
theorem zn7 {I:Imm} {xs:Array Value} {cs:List HVal} (hx:VL I cs xs.toList) (em:Bool) (n:Nat) (w:World):
 ∀(fs:List Field) (k:Nat),zkS P (fs.map fun f=>(f.offset,f.type)) k (cs.drop k) (cs.drop k)->∀f∈fs,∃a,(part f.type xs f.offset).run P w= .ok a w/\(Instr.checkKey em (n+1) f.type a).run P w= .ok () w
 |[],k,_,f,hf=>by simp at hf
 |g::fs,k,hk,f,hf=>by
   haveI:Tracks:=⟨true⟩
   simp only [Ar] at hk
   cases hc:cs.drop k with
   |nil=>rw [hc] at hk;exact hk.elim
   |cons a r=>
     rw [hc] at hk;obtain ⟨h1,⟨d,s,by',z,h2,h3⟩,h4⟩:=hk;simp only at h1 h2;have ha:cs[k]? =some a:=by have:=congrArg (fun l:List HVal=>l[0]?) hc;simpa using this
     have hr:cs.drop (k+1)=r:=by rw [<-Bu (i:=1),hc];rfl
     rcases List.mem_cons.1 hf with rfl|hf
     obtain ⟨u,hu,hu'⟩:=hx.get ha;exact ⟨u,znB h2 (zms h3) (by rw [h1];simpa using hu) w,ziS h2 h3 hu' em n w⟩;exact zn7 hx em n w fs (k+1) (by rw [hr];exact h4) f hf
theorem zgg {κ:Type} [DecidableEq κ] {kt:TypeId} {fs:List (Nat×Nat)} {s by':Nat} {z:Value} {cs:κ->List HVal} (hf:Fits P kt (.struct fs) s by' z) (hq:EqOk P kt) (hk: ∀x y,zkS P fs 0 (cs x) (cs y))
 (he: ∀x y,zeL (cs x) (cs y)=decide (x=y)) (hs: ∀x,zmt (cs x)=true):KeyOk P kt (fun x=> .agg (cs x)):=by
 haveI:Tracks:=⟨true⟩
 obtain ⟨gs,h1,h2⟩:=hf.structD;have hn: ∀f∈gs.toList,f.name≠ "_" :=fun f hf=>by
  have:=hq.names;rw [show P.fieldsOf kt=gs by simp [Program.fieldsOf,h1]] at this;have:=List.all_eq_true.1 this f hf;simpa using this
 refine ⟨fun I x v b w hv=> ?_,fun I x y u v w hu hv=> ?_,fun I x v es w hv hes=>run_findKey_eq w (by rw [h1]) v es,fun I x u v hu hv=> ?_⟩
 obtain ⟨xs,rfl,hx⟩:=hv.agg_inv;have each:=zn7 (P:=P) hx b 9998 w gs.toList 0 (by rw [h2];exact hk x x);rw [show (10000:Nat)=9999+1 from rfl,Instr.checkKey];simp only [Sem.run_bind,run_underlying h1,Result.andThen_ok];rw [<-Array.forIn_toList]
 clear h1 h2
 generalize gs.toList=L at each hn
 induction L with
 |nil=>simp
 |cons f L ih=>
   obtain ⟨a,p1,p2⟩:=each f (by simp);have hn1:=hn f (by simp);simp only [List.forIn_cons,Sem.run_bind,hn1,ne_eq,not_false_eq_true,if_true,Result.andThen_ok,p1,p2,Sem.run_pure];exact ih (fun y hy=>each y (by simp [hy])) (fun y hy=>hn y (by simp [hy]))
 obtain ⟨xs,rfl,hx⟩:=hu.agg_inv;obtain ⟨ys,rfl,hy⟩:=hv.agg_inv;rw [zfM hf hq hx hy (hk x y) w,he];obtain ⟨xs,rfl,hx⟩:=hu.agg_inv;obtain ⟨ys,rfl,hy⟩:=hv.agg_inv;obtain ⟨e1,e2⟩:=zva (hs x) hx hy;have e3:xs=ys:=by have:=congrArg List.toArray e1;simpa using this
 subst e3
 show Instr.sameBits (9999+1) _ _=true
 simp only [Instr.sameBits,beq_self_eq_true,Bool.true_and,List.all_eq_true]
 intro p hp
 have h9: ∀(l:List Value) (p:Value×Value),p∈l.zip l->p.1∈l/\p.1=p.2:=fun l=>by
  induction l with
  |nil=>intro p hp;simp at hp
  |cons a l ih=>
    intro p hp
    simp only [List.zip_cons_cons,BD] at hp
    rcases hp with rfl|hp
    exact ⟨by simp,rfl⟩;exact ⟨by simp [(ih p hp).1],(ih p hp).2⟩
 obtain ⟨q1,q2⟩:=h9 _ p hp;obtain ⟨u,v⟩:=p;simp only at q1 q2;subst q2;exact e2 u q1 9999
end
/-! ranges-/
theorem zmj {α:Type} [DecidableEq α]: ∀{l m:List α},l.Nodup->(∀x∈l,x∈m)->l.length<=m.length
 |[],_,_,_=>Ad _
 |a::l,m,h,hs=>by
   have ha:=hs a Am;obtain ⟨h1,h2⟩:=List.nodup_cons.1 h;have h3:=zmj (m:=m.erase a) h2 fun x hx=>(List.mem_erase_of_ne (fun e:x=a=>h1 (by rw [<-e];exact hx))).2 (hs x (Au _ hx))
   rw [List.length_erase_of_mem ha] at h3;have:=List.length_pos_of_mem ha
   simp;omega
section
variable {P:Program} {e:Env} {dst:Option Tmp} {ty:TypeId} {pos:String} {af:Array Edge} {g:Option (Nat×Bool)} {M:List MObj} {K:HVal->List MObj->Prop}
theorem zpE [Tracks] {x:Operand} {t kt et:TypeId} {size bytes:Nat} {zero:Value} {i b:Nat} {l:List (HVal×HVal)} (hf:Fits P t (.map kt et) size bytes zero) (hx:ze e x=some (.raw (.map (some b)))) (hm:M[i]? =some (.map b l))
 (hk: ∀r,K (.raw (.pointer (some ⟨r,0,none⟩))) (M.set i (.iter r b l []))):EOp P e M ⟨dst,.range t x,ty,pos,af,g⟩ K:=
 EOp.of_run fun I F a w ho hs=>by
  have h1:=(ho.one (x:=x) (by simp [Op.operands]) hx).raw_inv;have hp:=hs.pull hm;obtain ⟨es,clk,h3,h4,h5⟩:=hp.obj _ Am;have hlt:b<w.heap.size:=by
   rcases Az b w.heap.size with h'|h'
   exact h'
   simp [Ak h'] at h3
  refine ⟨.pointer (some ⟨w.heap.size,0,none⟩),_,_,push w (.mapIter (some b) clk #[] clk),I,?_,.refl I,hk w.heap.size,.raw _ rfl,?_⟩
  simp only [execOp,h1,Instr.range,Sem.run_bind,run_underlying hf.mapD,Result.andThen_ok,zaC h3,Sem.run_pure,run_newObj];refine zbh hm (hp.change (m':= .iter w.heap.size b l []) (fun k hk hnk=> ?_) (fun k hk=> ?_) ?_ ⟨es,clk,#[],?_,?_,h4,rfl,h5⟩ rfl rfl rfl)
  simp [push,AM];intro h;omega
  simp [MObj.blocks] at hk⊢;omega
  simp [MObj.blocks];omega
  simp only [push,AM];rw [if_neg (by omega)];exact h3
  simp [push]
theorem zvz [Tracks] {x:Operand} {i r b:Nat} {l:List (HVal×HVal)} {vis:List Nat} (hx:ze e x=some (.raw (.pointer (some ⟨r,0,none⟩)))) (hm:M[i]? =some (.iter r b l vis)) (hv:vis.Nodup) (hvl: ∀j∈vis,j<l.length)
 (h0:vis.length=l.length->K (.tup [.bool false]) M) (h1: ∀(j:Nat) (p:HVal×HVal),l[j]? =some p->j∉vis->K (.tup [.bool true,p.1,p.2]) (M.set i (.iter r b l (vis++[j])))):EOp P e M ⟨dst,.next x false,ty,pos,af,g⟩ K:=
 EOp.of_run fun I F a w ho hs=>by
  have h2:=(ho.one (x:=x) (by simp [Op.operands]) hx).raw_inv;have hp:=hs.pull hm;obtain ⟨es,clk,seen,a1,a2,a3,a4,a5⟩:=hp.obj _ Am;have hgr: ∀w1:World,w1.heap=w.heap->(getObj r).run P w1= .ok (.mapIter (some b) clk seen clk) w1:=fun w1 hw=>by simp [getObj,Sem.run,hw,a2]
  have hgb: ∀w1:World,w1.heap=w.heap->(getObj b).run P w1= .ok (.map es clk) w1:=fun w1 hw=>by simp [getObj,Sem.run,hw,a1]
  have hin: ∀(j:Nat) (m:MapEntry),es[j]? =some m->(seen.contains m.born=true↔j∈vis):=fun j m hj=>by
   have e1:seen.contains m.born=seen.toList.contains m.born:=by simp
   rw [e1,a4,B8,List.mem_map]
   constructor
   rintro ⟨q,hq,e⟩;have hlt:=hvl q hq;have hq2:es[q]? =some es[q]:=Aj (by omega);rw [hq2] at e
   simp at e
   have:=a3.2.2 q j _ m hq2 hj e;rw [<-this];exact hq
   intro hq
   exact ⟨j,hq,by rw [hj];simp⟩
  have hbad:(!seen.isEmpty&& !es.isEmpty&&es.all (fun m=>decide (m.born>=clk)))=false:=by
   by_cases he:es.isEmpty=true
   simp [he]
   have hpos:0<es.size:=by
    rcases A0 es.size with h|h
    simp [Array.isEmpty,h] at he
    exact h
   have hb:=a3.2.1 0 _ (Aj hpos);have:es.all (fun m=>decide (m.born>=clk))=false:=by
    rw [B1]
    intro h
    have:=Array.all_eq_true.1 h 0 hpos
    simp at this;omega
   rw [this];simp
  have hold:(es.filter fun m=> !seen.contains m.born).filter (fun m=>decide (m.born<clk))=es.filter fun m=> !seen.contains m.born:=by
   rw [Array.filter_eq_self]
   intro m hm'
   obtain ⟨j,hj⟩:=BK (Array.mem_filter.1 hm').1
   simpa using a3.2.1 j m hj
  have hnew:(es.filter fun m=> !seen.contains m.born).filter (fun m=>decide (m.born>=clk))= #[]:=by
   rw [Array.filter_eq_empty_iff]
   intro m hm'
   obtain ⟨j,hj⟩:=BK (Array.mem_filter.1 hm').1;have:=a3.2.1 j m hj
   simp;omega
  have hrun:(execOp a.eval ⟨dst,.next x false,ty,pos,af,g⟩).run P w=((Instr.next (.pointer (some ⟨r,0,none⟩)) false ty).run P w).andThen fun v w=> .ok (.value v) w:=by
   simp only [execOp,h2,Sem.run_bind]
   rfl
  generalize hL:(es.filter fun m=> !seen.contains m.born)=left at hold hnew
  by_cases hemp:left.isEmpty=true
  have hfull:vis.length=l.length:=by
   apply Nat.le_antisymm
   have:=zmj (m:=List.range l.length) hv fun j hj=>List.mem_range.2 (hvl j hj)
   simpa using this
   have:=zmj (l:=List.range l.length) (m:=vis) List.nodup_range fun j hj=>by
    have hj':=List.mem_range.1 hj;have hq:es[j]? =some es[j]:=Aj (by omega);rw [<-hin j _ hq]
    cases hc:seen.contains es[j].born with
    |true=>rfl
    |false=>
      have:es[j]∈left:=by rw [<-hL];exact Array.mem_filter.2 ⟨Array.getElem_mem _,by rw [hc];rfl⟩
      have he:left= #[]:=Array.isEmpty_iff.1 hemp;rw [he] at this;simp at this
   simpa using this
  refine ⟨.tuple #[.bool false],.tup [.bool false],M,w,I,?_,.refl I,h0 hfull,.tup (by simp) (fun j c v h h'=> ?_),hs⟩
  rw [hrun];have he:left= #[]:=Array.isEmpty_iff.1 hemp;simp only [Instr.next,Sem.run_bind,hgr w rfl,hgb w rfl,Result.andThen_ok,hbad,AQ,if_false,Sem.run_pure,hL,hold,hnew,hemp,if_true,he]
  simp [Question.forced]
  match j,h,h' with
  |0,h,h'=>simp at h h';subst h h';exact .bool _
  have hemp':left.isEmpty=false:=by simpa using hemp
  have hpos:0<left.size:=by
   rcases A0 left.size with h|h
   exfalso;apply hemp;simp [Array.isEmpty,h]
   exact h
  obtain ⟨c,w1,c1,c2,c3⟩: ∃c w1,(choose (.mapNext left.size)).run P w= .ok c w1/\c<left.size/\(w1=w\/w1={w with drawn:=w.drawn+1}):=by
   by_cases hf:(Question.mapNext left.size).forced=true
   exact ⟨0,w,by simp [hf],hpos,.inl rfl⟩;refine ⟨_,{w with drawn:=w.drawn+1},by simp [hf];rfl,?_,.inr rfl⟩
   simp only [Question.cut];exact BO _ hpos
  have hw1:w1.heap=w.heap:=by rcases c3 with h|h<;>rw [h]
  have hmem:left[c]∈left:=Array.getElem_mem _;have hmf:left[c]∈es/\(!seen.contains left[c].born)=true:=by
   have h9: ∀m,m∈left->m∈es/\(!seen.contains m.born)=true:=fun m hm=>by rw [<-hL] at hm;exact Array.mem_filter.1 hm
   exact h9 _ hmem
  obtain ⟨j,hj⟩:=BK hmf.1;have hnv:j∉vis:=fun q=>by
   have:=(hin j _ hj).2 q;rw [this] at hmf;simp at hmf
  have hjl:j<l.length:=by
   have:j<es.size:=by
    rcases Az j es.size with h'|h'
    exact h'
    simp [Ak h'] at hj
   omega
  have hlj:=Aa hjl;obtain ⟨k1,k2⟩:=a5 j _ _ hlj hj;refine ⟨.tuple #[.bool true,left[c].key,left[c].val],.tup [.bool true,l[j].1,l[j].2],_,{w1 with heap:=w1.heap.setIfInBounds r (.mapIter (some b) clk (seen.push left[c].born) clk)},I,?_,.refl I,h1 j _ hlj hnv,?_,?_⟩
  rw [hrun];have hcand:((#[]:Array (Option MapEntry))++(left++ #[]).map some).size=left.size:=by simp
  have hget:((#[]:Array (Option MapEntry))++(left++ #[]).map some)[c]? =some (some left[c]):=by simp [c2]
  simp only [Instr.next,Sem.run_bind,hgr w rfl,hgb w rfl,Result.andThen_ok,hbad,AQ,if_false,Sem.run_pure,hL,hold,hnew,hemp',hcand,c1,hget]
  simp [setObj,Sem.run,hw1,a2]
  refine .tup (by simp) (fun q c v h h'=> ?_)
  match q,h,h' with
  |0,h,h'=>simp at h h';subst h h';exact .bool _
  |1,h,h'=>simp at h h';subst h h';exact k1
  |2,h,h'=>simp at h h';subst h h';exact k2
  have hrb:r≠b:=by
   have:=hp.nodup;simp only [blocks,AK,MObj.blocks] at this;have:=(List.nodup_append.1 this).1
   simp at this;exact this
  have hrl:r<w.heap.size:=by
   rcases Az r w.heap.size with h'|h'
   exact h'
   simp [Ak h'] at a2
  refine zbh hm (hp.change (m':= .iter r b l (vis++[j])) (fun k hk hnk=> ?_) (fun k hk=> .inl hk) ?_ ⟨es,clk,seen.push left[c].born,?_,?_,a3,?_,a5⟩ (by rcases c3 with h|h<;>rw [h]) (by rcases c3 with h|h<;>rw [h]) (by rcases c3 with h|h<;>rw [h]) (fun _=>by rcases c3 with h|h<;>rw [h];(exact Ae _);exact Bt _))
  have:k≠r:=fun q=>hnk (by rw [q];simp [MObj.blocks])
  simp only [hw1];rw [AF (Ne.symm this)]
  simp [MObj.blocks,hrb]
  simp only [hw1];rw [AF hrb];exact a1
  simp [hw1,hrl]
  simp [a4,hj]
theorem zoP [Tracks] {i r b:Nat} {l:List (HVal×HVal)} {vis:List Nat} (hm:M[i]? =some (.iter r b l vis)):Ghost e M e (M.set i (.map b l)):=fun _ I F tmps w h1 hs=>by
 have hp:=hs.pull hm;obtain ⟨es,clk,seen,a1,a2,a3,a4,a5⟩:=hp.obj _ Am;exact ⟨I,.refl I,h1,zbh hm (hp.change (m':= .map b l) (fun _ _ _=>rfl) (fun k hk=> .inl (by simp [MObj.blocks] at hk⊢;exact .inr hk)) (by simp [MObj.blocks]) ⟨es,clk,a1,a3,a5⟩ rfl rfl rfl)⟩
end
end
section
section
variable {P:Program} {e:Env} {dst:Option Tmp} {ty:TypeId} {pos:String} {af:Array Edge} {g:Option (Nat×Bool)} {M:List MObj} {K:HVal->List MObj->Prop}
theorem zuD [Tracks] {x:Operand} {i r b j:Nat} {l:List (HVal×HVal)} {vis:List Nat} {p:HVal×HVal} (hx:ze e x=some (.raw (.pointer (some ⟨r,0,none⟩)))) (hm:M[i]? =some (.iter r b l (vis++[j]))) (hp':l[j]? =some p)
 (hk:K (.tup [p.1,p.2]) M):EOp P e M ⟨dst,.entry x,ty,pos,af,g⟩ K:=
 EOp.of_run fun I F a w ho hs=>by
  have h2:=(ho.one (x:=x) (by simp [Op.operands]) hx).raw_inv;have hp:=hs.pull hm;obtain ⟨es,clk,seen,a1,a2,a3,a4,a5⟩:=hp.obj _ Am;have hjl:=zl hp';have hj:es[j]? =some es[j]:=Aj (by omega);obtain ⟨k1,k2⟩:=a5 j p _ hp' hj;have hback:seen.back? =some es[j].born:=by
   have:seen=(vis.map fun i=>((es[i]?).map (·.born)).getD 0).toArray.push es[j].born:=by
    apply Array.ext'
    rw [a4];simp [hj]
   rw [this];simp
  have hfind:es.find? (fun m=>m.born==es[j].born)=some es[j]:=by
   cases hf:es.find? (fun m=>m.born==es[j].born) with
   |none=>
     have:=Array.find?_eq_none.1 hf es[j] (Array.getElem_mem _)
     simp at this
   |some m=>
     have h1:=Array.find?_some hf;have h3:=Array.mem_of_find?_eq_some hf;obtain ⟨q,hq⟩:=BK h3;have:=a3.2.2 q j m _ hq hj (by simpa using h1);subst this;rw [hj] at hq;exact hq.symm
  refine ⟨.tuple #[es[j].key,es[j].val],.tup [p.1,p.2],M,w,I,?_,.refl I,hk,ziq k1 k2,hs⟩
  have hgr:(getObj r).run P w= .ok (.mapIter (some b) clk seen clk) w:=by simp [getObj,Sem.run,a2]
  have hgb:(getObj b).run P w= .ok (.map es clk) w:=by simp [getObj,Sem.run,a1]
  simp only [execOp,h2,Instr.entry,Sem.run_bind,hgr,Result.andThen_ok,hback,hgb,bne_self_eq_false,AQ,if_false,hfind,Sem.run_pure]
end
section
variable {κ:Type} [DecidableEq κ]
def zcD (s:κ) (z:HVal) (ls:List (κ×HVal)):List (κ×HVal):=match zbc s ls with|some _=>ls|none=>ls++[(s,z)]
theorem zjl {s:κ} {z:HVal}: ∀{ls:List (κ×HVal)},zbc s ls=none->zbc s (ls++[(s,z)])=some ls.length
 |[],_=>by simp [zbc]
 |p::r,h=>by
   simp only [zbc] at h
   by_cases e:s=p.1
   rw [if_pos e] at h;simp at h;rw [if_neg e] at h;have hr:zbc s r=none:=by cases hq:zbc s r with|none=>rfl|some j=>rw [hq] at h;simp at h
   simp only [AY,zbc,if_neg e,zjl hr];simp
theorem zpT (s:κ) (z h:HVal) (ls:List (κ×HVal)):zc9 s h (zcD s z ls)=zc9 s h ls:=by
 unfold zcD
 cases hq:zbc s ls with
 |some j=>rfl
 |none=>
   simp only
   rw [(zdu (zjl (z:=z) hq)).choose_spec.2.2 h,(zdZ hq).2 h]
   simp
theorem zvN {s:κ} {z:HVal} (ls:List (κ×HVal)):(klk s (zcD s z ls)).getD z=(klk s ls).getD z:=by
 unfold zcD
 cases hq:zbc s ls with
 |some j=>rfl
 |none=>
   obtain ⟨h,h1,h2,_⟩:=zdu (zjl (z:=z) hq)
   simp only
   rw [h2,(zdZ hq).1]
   simp at h1;simp [h1]
variable {P:Program} {kt:TypeId} {ek:κ->HVal} {e:Env} {dst:Option Tmp} {ty:TypeId} {pos:String} {af:Array Edge} {g:Option (Nat×Bool)} {M:List MObj} {K:HVal->List MObj->Prop}
theorem zl1 [Tracks] {x y:Operand} {t et:TypeId} {size bytes s3 b3:Nat} {zero z3:Value} {d:TD} {i b:Nat} {ls:List (κ×HVal)} {s:κ}
 (hf:Fits P t (.map kt et) size bytes zero) (ok:KeyOk P kt ek) (het:Fits P et d s3 b3 z3) (hx:ze e x=some (.raw (.map (some b)))) (hy:ze e y=some (ek s)) (hm:M[i]? =some (.map b (kk ek ls)))
 (hk: ∀(j st:Nat),zbc s (zcD s (zay z3) ls)=some j->K (.tup [(klk s ls).getD (zay z3),.int .i64 (st:Int)]) (M.set i (.mape b (kk ek (zcD s (zay z3) ls)) j st))):EOp P e M ⟨dst,.mapEntry t x y,ty,pos,af,g⟩ K:=
 EOp.of_run fun I F a w ho hs=>by
  have h1:=(ho.one (x:=x) (by simp [Op.operands]) hx).raw_inv;have h2:=ho.one (x:=y) (by simp [Op.operands]) hy;have hp:=hs.pull hm;obtain ⟨es,clk,h3,h4,h5⟩:=hp.obj _ Am;obtain ⟨h6,h7⟩:=zme h4.1 h5;obtain ⟨n1,n2⟩:=zgR ok h2 w es.toList ls 0 h6 h7;have hfk:=ok.run_key h2 w es.toList ls h6 h7;have hlt:b<w.heap.size:=by
   rcases Az b w.heap.size with h'|h'
   exact h'
   simp [Ak h'] at h3
  have hsz:es.size=ls.length:=by simpa using h6
  have fin: ∀(ls':List (κ×HVal)) (es':Array MapEntry) (clk' j st:Nat),es'.size=(kk ek ls').length/\BornOk es' clk'->
   (∀(i:Nat) (p:HVal×HVal) (m:MapEntry),(kk ek ls')[i]? =some p->es'[i]? =some m->V I p.1 m.key/\V I p.2 m.val)->(∃m,es'[j]? =some m/\m.born=st)->
   Sat P I (M.set i (.mape b (kk ek ls') j st)++F) {w with heap:=w.heap.setIfInBounds b (.map es' clk')}:=fun ls' es' clk' j st e1 e2 e3=>by
   refine zbh hm (hp.change (m':= .mape b (kk ek ls') j st) (fun k hk hnk=> ?_) (fun k hk=> .inl hk) (by simp [MObj.blocks]) ⟨es',clk',by simp [hlt],e1,e2,e3⟩ rfl rfl rfl)
   have:k≠b:=by simpa [MObj.blocks] using hnk
   simp [AF (Ne.symm this)]
  cases hq:zbc s ls with
  |none=>
    have hke:zcD s (zay z3) ls=ls++[(s,zay z3)]:=by simp [zcD,hq]
    have hki:=zjl (z:=zay z3) hq;have hlk:=(zdZ hq).1;refine ⟨.tuple #[z3,.int .i64 clk],_,_,_,I,?_,.refl I,hk ls.length clk (by rw [hke];exact hki),by rw [hlk];exact ziq (ze1 I z3) (.int _ _),
     fin _ (es.push ⟨a.eval y,z3,clk⟩) (clk+1) _ _ ⟨by rw [hke];simp [kk,hsz],h4.2.push rfl⟩ (fun j p m a1 a2=> ?_) ⟨⟨a.eval y,z3,clk⟩,by rw [<-hsz];simp,rfl⟩⟩
    simp only [execOp,h1,Instr.mapEntry,Sem.run_bind,run_underlying hf.mapD,Result.andThen_ok,zaC h3,ok.check I s _ _ w h2,hfk,n1 hq,Sem.run_pure,zcP h3,het.run_zero,goInt];rw [hke] at a1;simp only [kk,AB,Ar,Ba] at a1
    by_cases hj:j<ls.length
    rw [Aq (by simpa using hj)] at a1;rw [AM,if_neg (by omega)] at a2;exact h5 j p m (by simpa [kk] using a1) a2;rw [Ap (by simp;omega)] at a1;rw [AM] at a2
    by_cases hje:j=es.size
    rw [if_pos hje] at a2
    simp at a2
    subst a2;have:j-(ls.map fun p=>(ek p.1,p.2)).length=0:=by simp;omega
    rw [this] at a1
    simp at a1
    subst a1;exact ⟨h2,ze1 I z3⟩;rw [if_neg hje,Ak (by omega)] at a2
    cases a2
  |some j0=>
    obtain ⟨m0,h',g1,g2,g3,g4⟩:=n2 j0 hq;obtain ⟨h'',g5,g6,_⟩:=zdu hq;rw [g5] at g2;cases g2;have hke:zcD s (zay z3) ls=ls:=by simp [zcD,hq]
    have hm0:es[j0]? =some m0:=by simpa using g1
    have hkey:V I (ek s) m0.key:=(h7 j0 _ m0 g5 g1).1;refine ⟨.tuple #[m0.val,.int .i64 m0.born],_,_,_,I,?_,.refl I,hk j0 m0.born (by rw [hke];exact hq),by rw [g6];exact ziq g3 (.int _ _),
     fin _ (es.modify j0 fun e=>{e with key:=a.eval y}) clk _ _ ⟨by rw [hke];simp [kk,hsz],h4.2.modify _ fun _=>rfl⟩ (fun j p m a1 a2=> ?_) ⟨{m0 with key:=a.eval y},by rw [AI,if_pos rfl,hm0];rfl,rfl⟩⟩
    have hstay:(Instr.keyThatStays m0.key (a.eval y)).run P w= .ok (a.eval y) w:=by
     simp only [Instr.keyThatStays];rw [if_pos (ok.same I s _ _ hkey h2)];rfl
    simp only [execOp,h1,Instr.mapEntry,Sem.run_bind,run_underlying hf.mapD,Result.andThen_ok,zaC h3,ok.check I s _ _ w h2,hfk,g4,Sem.run_pure,Bb,hstay,zcP h3,goInt,hm0,AH,B7];rw [hke] at a1;rw [AI] at a2
    by_cases hj:j0=j
    subst hj;rw [if_pos rfl,hm0] at a2
    simp at a2
    subst a2;have:=h5 j0 p m0 a1 hm0;simp only [kk,Ag,g5,AH,As] at a1;subst a1;exact ⟨h2,this.2⟩;rw [if_neg hj] at a2;exact h5 j p m a1 a2
theorem zj9 [Tracks] {x y z:Operand} {t:TypeId} {i b j st:Nat} {ls:List (κ×HVal)} {s:κ} {h:HVal}
 (hx:ze e x=some (.raw (.map (some b)))) (hy:ze e y=some (.int .i64 (st:Int))) (hz:ze e z=some h) (hm:M[i]? =some (.mape b (kk ek ls) j st)) (hj:zbc s ls=some j)
 (hk:K .junk (M.set i (.map b (kk ek (zc9 s h ls))))):EOp P e M ⟨dst,.entryStore t x y z,ty,pos,af,g⟩ K:=
 zfn fun I F a w ho hs=>by
  have h1:=(ho.one (x:=x) (by simp [Op.operands]) hx).raw_inv;have h2:=(ho.one (x:=y) (by simp [Op.operands]) hy).int_inv;have h0:=ho.one (x:=z) (by simp [Op.operands]) hz;have hp:=hs.pull hm;obtain ⟨es,clk,h3,h4,h5,m0,h6,h7⟩:=hp.obj _ Am;have hlt:b<w.heap.size:=by
   rcases Az b w.heap.size with h'|h'
   exact h'
   simp [Ak h'] at h3
  obtain ⟨h',g1,_,g2⟩:=zdu hj;have hjl:j<es.size:=by
   rcases Az j es.size with h'|h'
   exact h'
   simp [Ak h'] at h6
  have hfi:es.findIdx? (fun m=>(m.born:Int)==(st:Int))=some j:=by
   rw [Array.findIdx?_eq_some_iff_getElem];refine ⟨hjl,?_,fun q hq=> ?_⟩
   rw [Aj hjl] at h6;have:=Aw h6;rw [this];simp [h7]
   intro hc
   have hq2:=Aj (xs:=es) (i:=q) (by omega);have:=h4.2.2 q j _ m0 hq2 h6 (by have h8:((es[q].born:Nat):Int)=(st:Int):=(by simpa using hc);omega)
   omega
  refine ⟨_,{w with heap:=w.heap.setIfInBounds b (.map (es.modify j fun e=>{e with val:=a.eval z}) clk)},I,?_,.refl I,hk,?_⟩
  simp only [execOp,h1,h2,Instr.entryStore,Sem.run_bind,zaC h3,Result.andThen_ok,asInt,asIntOf,Sem.run_pure,hfi,zcP h3];refine zbh hm (hp.change (m':= .map b (kk ek (zc9 s h ls))) (fun k hk hnk=> ?_) (fun k hk=> .inl hk) (by simp [MObj.blocks]) ⟨es.modify j fun e=>{e with val:=a.eval z},clk,by simp [hlt],⟨by rw [g2];simp [kk];simpa [kk] using h4.1,h4.2.modify _ fun _=>rfl⟩,fun q p m a1 a2=> ?_⟩ rfl rfl rfl)
  have:k≠b:=by simpa [MObj.blocks] using hnk
  simp [AF (Ne.symm this)]
  rw [g2] at a1;simp only [kk] at a1;rw [AI] at a2;rw [Ag,B3] at a1
  by_cases hjq:j=q
  subst hjq;have hl:=zl g1;rw [if_pos rfl,h6] at a2;rw [if_pos rfl,if_pos hl] at a1
  simp at a1 a2
  subst a1 a2;exact ⟨(h5 j (ek s,h') m0 (by simp [kk,g1]) h6).1,h0⟩;rw [if_neg hjq] at a1 a2;exact h5 q p m (by simp only [kk,Ag];exact a1) a2
end
end
section
section
variable {κ:Type} [DecidableEq κ] {α:Type}
def alk (x:κ):List (κ×α)->Option α
 |[]=>none
 |p::r=>if x=p.1 then some p.2 else alk x r
def zA (x:κ) (v:α):List (κ×α)->List (κ×α)
 |[]=>[(x,v)]
 |p::r=>if x=p.1 then (x,v)::r else p::zA x v r
abbrev em (f:α->HVal) (L:List (κ×α)):List (κ×HVal):=L.map fun p=>(p.1,f p.2)
theorem zmf (f:α->HVal) (x:κ): ∀L:List (κ×α),klk x (em f L)=(alk x L).map f
 |[]=>rfl
 |p::r=>by
   have ih:=zmf f x r;simp only [Ar,klk,alk] at ih⊢
   by_cases h:x=p.1
   rw [if_pos h,if_pos h];rfl;rw [if_neg h,if_neg h];exact ih
theorem zmH (f:α->HVal) (x:κ) (v:α): ∀L:List (κ×α),zc9 x (f v) (em f L)=em f (zA x v L)
 |[]=>rfl
 |p::r=>by
   have ih:=zmH f x v r;simp only [Ar,zc9,zA] at ih⊢
   by_cases h:x=p.1
   rw [if_pos h,if_pos h];rfl;rw [if_neg h,if_neg h,ih];rfl
theorem zcX (x y:κ) (v:α): ∀(l:List (κ×α)),alk y (zA x v l)=if y=x then some v else alk y l
 |[]=>by simp [zA,alk]
 |p::r=>by
   have ih:=zcX x y v r;simp only [zA]
   by_cases h:x=p.1
   subst h;rw [if_pos rfl];simp only [alk]
   by_cases hy:y=p.1
   rw [if_pos hy,if_pos hy];rw [if_neg hy,if_neg hy,if_neg hy];rw [if_neg h];simp only [alk]
   by_cases hy:y=p.1
   have: ¬y=x:=fun e=>h (e▸hy)
   rw [if_pos hy,if_neg this,if_pos hy];rw [if_neg hy,ih,if_neg hy]
theorem zex {x:κ}: ∀{l:List (κ×α)},alk x l=none↔x∉l.map (·.1)
 |[]=>by simp [alk]
 |p::r=>by
   have ih:=zex (x:=x) (l:=r);simp only [alk,Ar,BD,not_or]
   by_cases h:x=p.1
   rw [if_pos h];simp [h];rw [if_neg h,ih];simp [h]
theorem zkn {x:κ} {v:α}: ∀{l:List (κ×α)},alk x l=none->zA x v l=l++[(x,v)]
 |[],_=>rfl
 |p::r,h=>by
   simp only [alk] at h
   by_cases hx:x=p.1
   rw [if_pos hx] at h;cases h;rw [if_neg hx] at h;simp only [zA,if_neg hx,AY,zkn h]
theorem zly {x y:κ} {v:α}: ∀{l:List (κ×α)},y∈(zA x v l).map (·.1)↔y=x\/y∈l.map (·.1)
 |[]=>by simp [zA]
 |p::r=>by
   have ih:=zly (x:=x) (y:=y) (v:=v) (l:=r);simp only [zA]
   by_cases h:x=p.1
   subst h;rw [if_pos rfl];simp;rw [if_neg h];simp only [Ar,BD,ih]
   constructor
   rintro (h|h|h);exact .inr (.inl h);exact .inl h;exact .inr (.inr h);rintro (h|h|h);exact .inr (.inl h);exact .inl h;exact .inr (.inr h)
def ANodup (l:List (κ×α)):Prop:=(l.map (·.1)).Nodup
theorem ANodup.nil {A B:Type}:ANodup ([]:List (A×B)):=Bv
theorem ANodup.put {x:κ} {v:α}: ∀{l:List (κ×α)},ANodup l->ANodup (zA x v l)
 |[],_=>by simp [ANodup,zA]
 |p::r,hn=>by
   have h1:=(List.nodup_cons.1 hn)
   by_cases h:x=p.1
   subst h;have e:zA p.1 v (p::r)=(p.1,v)::r:=by simp [zA]
   rw [e];exact List.nodup_cons.2 h1;have e:zA x v (p::r)=p::zA x v r:=by simp [zA,h]
   rw [e];refine List.nodup_cons.2 ⟨fun hm=> ?_,ANodup.put (l:=r) h1.2⟩
   rcases zly.1 hm with e|e
   exact h e.symm;exact h1.1 e
theorem zgD {x:κ} {v:α}: ∀{l:List (κ×α)},ANodup l->((x,v)∈l↔alk x l=some v)
 |[],_=>by simp [alk]
 |p::r,hn=>by
   have h1:=(List.nodup_cons.1 hn);have ih:=zgD (x:=x) (v:=v) (l:=r) h1.2;simp only [BD,alk]
   by_cases h:x=p.1
   subst h;rw [if_pos rfl]
   constructor
   rintro (h|h);rw [<-h];exact absurd (BC (f:=(·.1)) h) h1.1
   intro h;left;simp at h;rw [<-h]
   rw [if_neg h,<-ih]
   constructor
   rintro (h'|h');exact absurd (by rw [<-h']) h;exact h';exact .inr
theorem zbt {x:κ} {v:α}: ∀{l:List (κ×α)},alk x l=some v->(x,v)∈l
 |[],h=>by simp [alk] at h
 |p::r,h=>by
   simp only [alk] at h
   by_cases hx:x=p.1
   rw [if_pos hx] at h;cases h;rw [hx];exact Am;rw [if_neg hx] at h;exact Au _ (zbt h)
theorem zrb (x:κ) (v:α): ∀(l:List (κ×α)),(zA x v l).length=if (alk x l).isSome then l.length else l.length+1
 |[]=>by simp [zA,alk]
 |p::r=>by
   have ih:=zrb x v r
   by_cases h:x=p.1
   have e1:zA x v (p::r)=(x,v)::r:=by simp [zA,h]
   have e2:alk x (p::r)=some p.2:=by simp [alk,h]
   rw [e1,e2];simp;have e1:zA x v (p::r)=p::zA x v r:=by simp [zA,h]
   have e2:alk x (p::r)=alk x r:=by simp [alk,h]
   rw [e1,e2,Ai,ih];split<;>simp
theorem zoT (x:κ) (v:α) (l:List (κ×α)):(zA x v l).length<=l.length+1:=by rw [zrb];split<;>omega
theorem zcG {x:κ} {v:α} {p:κ×α}: ∀{l:List (κ×α)},p∈zA x v l->p=(x,v)\/p∈l
 |[],hp=>by simp [zA] at hp;exact .inl hp
 |q::r,hp=>by
   simp only [zA] at hp
   by_cases h:x=q.1
   rw [if_pos h] at hp
   rcases List.mem_cons.1 hp with e|e
   exact .inl e;exact .inr (Au _ e);rw [if_neg h] at hp
   rcases List.mem_cons.1 hp with e|e
   exact .inr (e▸Am)
   rcases zcG e with e|e
   exact .inl e;exact .inr (Au _ e)
theorem zk2 (f:α->HVal) (s:Str): ∀L:List (Str×α),(zS s (em f L)).map (·.2)=(alk s L).map f
 |[]=>rfl
 |p::r=>by
   have ih:=zk2 f s r;obtain ⟨k,v⟩:=p;simp only [Ar,zS,alk] at ih⊢
   by_cases h:s=k
   rw [if_pos h,if_pos h];rfl;rw [if_neg h,if_neg h,<-ih];cases zS s (r.map fun p=>(p.1,f p.2))<;>rfl
theorem zs2 (f:α->HVal) (s:Str) (v:α): ∀L:List (Str×α),sput s (f v) (em f L)=em f (zA s v L)
 |[]=>rfl
 |p::r=>by
   have ih:=zs2 f s v r;obtain ⟨k,u⟩:=p;simp only [sput,Ar,zS,zA] at ih⊢
   by_cases h:s=k
   subst h;rw [if_pos rfl,if_pos rfl];rfl;rw [if_neg h,if_neg h]
   cases hq:zS s (r.map fun p=>(p.1,f p.2)) with
   |none=>rw [hq] at ih;simp only [Option.map_none,AY,Ar,<-ih]
   |some q=>rw [hq] at ih;simp only [AH,BX,Ar,<-ih]
end
section
variable {κ:Type} [DecidableEq κ] {α:Type}
variable {P:Program} {e:Env} {dst:Option Tmp} {ty:TypeId} {pos:String} {af:Array Edge} {g:Option (Nat×Bool)} {M:List MObj} {K:HVal->List MObj->Prop}
theorem zl6 {f:α->HVal} {o:Option α} {z0:α}:f (o.getD z0)=(o.map f).getD (f z0):=by cases o<;>rfl
theorem zdA [Tracks] {x y:Operand} {t kt et:TypeId} {size bytes s2 b2 s3 b3:Nat} {zero z2 z3:Value} {d:TD} {i b:Nat} {f:α->HVal} {L:List (Str×α)} {s:Str} {z0:α}
 (hf:Fits P t (.map kt et) size bytes zero) (hkt:Fits P kt .str s2 b2 z2) (het:Fits P et d s3 b3 z3) (hx:ze e x=some (.raw (.map (some b)))) (hy:ze e y=some (.str s)) (hm:M[i]? =some (.map b (sk (em f L)))) (hz:zay z3=f z0)
 (hk:K (f ((alk s L).getD z0)) M):EOp P e M ⟨dst,.lookup t x y false,ty,pos,af,g⟩ K:=by
 refine zoa hf hkt het hx hy hm ?_;rw [zl6 (f:=f),<-zk2,<-hz] at hk
 cases h:zS s (em f L) with
 |none=>rw [h] at hk;exact hk
 |some p=>rw [h] at hk;exact hk
theorem ziG [Tracks] {x y:Operand} {t kt et:TypeId} {size bytes s2 b2 s3 b3:Nat} {zero z2 z3:Value} {d:TD} {i b:Nat} {f:α->HVal} {L:List (Str×α)} {s:Str} {z0:α}
 (hf:Fits P t (.map kt et) size bytes zero) (hkt:Fits P kt .str s2 b2 z2) (het:Fits P et d s3 b3 z3) (hx:ze e x=some (.raw (.map (some b)))) (hy:ze e y=some (.str s)) (hm:M[i]? =some (.map b (sk (em f L)))) (hz:zay z3=f z0)
 (hk:K (.tup [f ((alk s L).getD z0),.bool (alk s L).isSome]) M):EOp P e M ⟨dst,.lookup t x y true,ty,pos,af,g⟩ K:=by
 refine zsi hf hkt het hx hy hm ?_;have h1:(alk s L).isSome=((alk s L).map f).isSome:=by cases alk s L<;>rfl
 rw [zl6 (f:=f),h1,<-zk2,<-hz] at hk
 cases h:zS s (em f L) with
 |none=>rw [h] at hk;exact hk
 |some p=>rw [h] at hk;exact hk
theorem zcU [Tracks] {x y z:Operand} {t kt et:TypeId} {size bytes s2 b2:Nat} {zero z2:Value} {i b:Nat} {f:α->HVal} {L:List (Str×α)} {s:Str} {v:α}
 (hf:Fits P t (.map kt et) size bytes zero) (hkt:Fits P kt .str s2 b2 z2) (hx:ze e x=some (.raw (.map (some b)))) (hy:ze e y=some (.str s)) (hz:ze e z=some (f v)) (hm:M[i]? =some (.map b (sk (em f L))))
 (hk:K .junk (M.set i (.map b (sk (em f (zA s v L)))))):EOp P e M ⟨dst,.mapUpdate t x y z,ty,pos,af,g⟩ K:=by
 refine zli hf hkt hx hy hz hm ?_;rw [zs2];exact hk
variable {kt:TypeId} {ek:κ->HVal}
theorem zeK [Tracks] {x y:Operand} {t et:TypeId} {size bytes s3 b3:Nat} {zero z3:Value} {d:TD} {i b:Nat} {f:α->HVal} {L:List (κ×α)} {s:κ} {z0:α}
 (hf:Fits P t (.map kt et) size bytes zero) (ok:KeyOk P kt ek) (het:Fits P et d s3 b3 z3) (hx:ze e x=some (.raw (.map (some b)))) (hy:ze e y=some (ek s)) (hm:M[i]? =some (.map b (kk ek (em f L)))) (hz:zay z3=f z0)
 (hk:K (f ((alk s L).getD z0)) M):EOp P e M ⟨dst,.lookup t x y false,ty,pos,af,g⟩ K:=by
 refine zsj hf ok het hx hy hm ?_;rw [zl6 (f:=f),<-hz] at hk;rw [zmf];exact hk
theorem zqA [Tracks] {x y:Operand} {t et:TypeId} {size bytes s3 b3:Nat} {zero z3:Value} {d:TD} {i b:Nat} {f:α->HVal} {L:List (κ×α)} {s:κ} {z0:α}
 (hf:Fits P t (.map kt et) size bytes zero) (ok:KeyOk P kt ek) (het:Fits P et d s3 b3 z3) (hx:ze e x=some (.raw (.map (some b)))) (hy:ze e y=some (ek s)) (hm:M[i]? =some (.map b (kk ek (em f L)))) (hz:zay z3=f z0)
 (hk:K (.tup [f ((alk s L).getD z0),.bool (alk s L).isSome]) M):EOp P e M ⟨dst,.lookup t x y true,ty,pos,af,g⟩ K:=by
 refine zrt hf ok het hx hy hm ?_;have h1:((alk s L).map f).isSome=(alk s L).isSome:=by cases alk s L<;>rfl
 rw [zl6 (f:=f),<-hz] at hk;rw [zmf,h1];exact hk
theorem zl0 [Tracks] {x y:Operand} {t et:TypeId} {size bytes s3 b3:Nat} {zero z3:Value} {d:TD} {i b j st:Nat} {f:α->HVal} {L:List (κ×α)} {s:κ} {z0:α}
 (hf:Fits P t (.map kt et) size bytes zero) (ok:KeyOk P kt ek) (het:Fits P et d s3 b3 z3) (hx:ze e x=some (.raw (.map (some b)))) (hy:ze e y=some (ek s)) (hm:M[i]? =some (.mape b (kk ek (zcD s (f z0) (em f L))) j st)) (hz:zay z3=f z0)
 (hk:K (f ((alk s L).getD z0)) M):EOp P e M ⟨dst,.lookup t x y false,ty,pos,af,g⟩ K:=by
 have h0:f ((alk s L).getD z0)=(klk s (zcD s (f z0) (em f L))).getD (zay z3):=by rw [hz,zvN,zmf,zl6 (f:=f)]
 rw [h0] at hk
 generalize zcD s (f z0) (em f L)=ls at hm hk
 exact EOp.of_run fun I F a w ho hs=>by
  have h1:=(ho.one (x:=x) (by simp [Op.operands]) hx).raw_inv;have h2:=ho.one (x:=y) (by simp [Op.operands]) hy;obtain ⟨es,clk,h3,h4,h5,_⟩:=hs.obj _ (Al _ (Ac hm));obtain ⟨h6,h7⟩:=zme h4.1 h5;obtain ⟨n1,n2⟩:=zgR ok h2 w es.toList ls 0 h6 h7;have hfk:=ok.run_key h2 w es.toList ls h6 h7
  cases hq:zbc s ls with
  |none=>
    rw [(zdZ hq).1] at hk;refine ⟨z3,_,M,w,I,?_,.refl I,hk,ze1 I z3,hs⟩
    simp only [execOp,h1,Instr.lookup,Sem.run_bind,run_underlying hf.mapD,Result.andThen_ok,zaC h3,Sem.run_pure,ok.check I s _ _ w h2,hfk,n1 hq,het.run_zero]
    simp
  |some j'=>
    obtain ⟨m,h,g1,g2,g3,g4⟩:=n2 j' hq;obtain ⟨h',g5,g6,_⟩:=zdu hq;rw [g5] at g2;cases g2;rw [g6] at hk;refine ⟨m.val,_,M,w,I,?_,.refl I,hk,g3,hs⟩
    simp only [execOp,h1,Instr.lookup,Sem.run_bind,run_underlying hf.mapD,Result.andThen_ok,zaC h3,Sem.run_pure,ok.check I s _ _ w h2,hfk,g4]
    simp
theorem ziH [Tracks] {x y z:Operand} {t et:TypeId} {size bytes:Nat} {zero:Value} {i b:Nat} {f:α->HVal} {L:List (κ×α)} {s:κ} {v:α}
 (hf:Fits P t (.map kt et) size bytes zero) (ok:KeyOk P kt ek) (hx:ze e x=some (.raw (.map (some b)))) (hy:ze e y=some (ek s)) (hz:ze e z=some (f v)) (hm:M[i]? =some (.map b (kk ek (em f L))))
 (hk:K .junk (M.set i (.map b (kk ek (em f (zA s v L)))))):EOp P e M ⟨dst,.mapUpdate t x y z,ty,pos,af,g⟩ K:=by
 refine zsk hf ok hx hy hz hm ?_;rw [zmH];exact hk
theorem zlg [Tracks] {x y:Operand} {t et:TypeId} {size bytes s3 b3:Nat} {zero z3:Value} {d:TD} {i b:Nat} {f:α->HVal} {L:List (κ×α)} {s:κ} {z0:α}
 (hf:Fits P t (.map kt et) size bytes zero) (ok:KeyOk P kt ek) (het:Fits P et d s3 b3 z3) (hx:ze e x=some (.raw (.map (some b)))) (hy:ze e y=some (ek s)) (hm:M[i]? =some (.map b (kk ek (em f L)))) (hz:zay z3=f z0)
 (hk: ∀(j st:Nat),zbc s (zcD s (f z0) (em f L))=some j->K (.tup [f ((alk s L).getD z0),.int .i64 (st:Int)]) (M.set i (.mape b (kk ek (zcD s (f z0) (em f L))) j st))):EOp P e M ⟨dst,.mapEntry t x y,ty,pos,af,g⟩ K:=by
 refine zl1 hf ok het hx hy hm ?_;rw [hz];have h1:(klk s (em f L)).getD (f z0)=f ((alk s L).getD z0):=by rw [zmf];cases alk s L<;>rfl
 rw [h1];exact hk
theorem zje [Tracks] {x y z:Operand} {t:TypeId} {i b j st:Nat} {f:α->HVal} {L:List (κ×α)} {s:κ} {z0 v:α}
 (hx:ze e x=some (.raw (.map (some b)))) (hy:ze e y=some (.int .i64 (st:Int))) (hz:ze e z=some (f v)) (hm:M[i]? =some (.mape b (kk ek (zcD s (f z0) (em f L))) j st)) (hj:zbc s (zcD s (f z0) (em f L))=some j)
 (hk:K .junk (M.set i (.map b (kk ek (em f (zA s v L)))))):EOp P e M ⟨dst,.entryStore t x y z,ty,pos,af,g⟩ K:=by
 refine zj9 hx hy hz hm hj ?_;rw [zpT,zmH];exact hk
theorem zhP [Tracks] {x:Operand} {t kt' et:TypeId} {size bytes:Nat} {zero:Value} {i b:Nat} {l:List (HVal×HVal)} (hf:Fits P t (.map kt' et) size bytes zero) (hx:ze e x=some (.raw (.map (some b)))) (hm:M[i]? =some (.map b l))
 (hk:K (.int .i64 (l.length:Int)) M):EOp P e M ⟨dst,.call ⟨.builtin .len,#[x],#[t]⟩,ty,pos,af,g⟩ K:=
 EOp.of_run fun I F a w ho hs=>by
  have h1:=(ho.one (x:=x) (by simp [Op.operands,Call.operands]) hx).raw_inv;obtain ⟨es,clk,h3,h4,h5⟩:=hs.obj _ (Al _ (Ac hm));exact ⟨.int .i64 (es.size:Int),_,M,w,I,by rw [zkg (ats:= #[])];simp [h1,Builtin.len_,run_underlying hf.mapD,zaC h3,goInt],.refl I,hk,by rw [h4.1];exact .int _ _,hs⟩
end
end
section
open Go.Sort Go.Proofs
structure Play where
 Source:Str
 No:Int
 At:Int
 Week:Int
 Match:Str
 Player:Str
 Stat:Str
 Count:Int
 Undo:Int
structure StatS where
 Name:Str
 Count:Int
structure LineS where
 Player:Str
 Week:Int
 Stats:List StatS
abbrev zai (x:Play):HVal:= .agg [.str x.Source,.int .i64 x.No,.int .i64 x.At,.int .i64 x.Week,.str x.Match,.str x.Player,.str x.Stat,.int .i64 x.Count,.int .i64 x.Undo]
abbrev zbC (l:List Play):HVal:= .slice 9 (l.map zai)
abbrev zdr (x:StatS):HVal:= .agg [.str x.Name,.int .i64 x.Count]
abbrev zyq (l:List StatS):HVal:= .slice 2 (l.map zdr)
abbrev zqK (x:LineS):HVal:= .agg [.str x.Player,.int .i64 x.Week,zyq x.Stats]
abbrev zrs (l:List LineS):HVal:= .slice 3 (l.map zqK)
abbrev Num:=Str×Int
abbrev Of2:=Str×Str
abbrev zgJ (x:Num):HVal:= .agg [.str x.1,.int .i64 x.2]
abbrev eOf (x:Of2):HVal:= .agg [.str x.1,.str x.2]
def zkX:Play:=⟨[],0,0,0,[],[],[],0,0⟩
def zbd (n:Int):Bool:= !(out n 1 60)
def playFault (p:Play):Int:=
 if !(key p.Source) then 5 else if out p.No 1 3000|| !(zT p.At)|| !(zbd p.Week) then 1
 else if !(key p.Match)|| !(key p.Player)|| !(key p.Stat) then 5
 else if out p.Count (-100000) 100000||out p.Undo 0 (p.No-1) then 1
 else if decide (0<p.Undo)&&decide (p.Count≠0) then 3 else 0
def byNo (a b:Play):Int:=orI [zU a.Source b.Source,zY a.No b.No]
def zbz (l:List Play):Nat->List Play->Int
 |_,[]=>0
 |k,p::r=>if playFault p≠0 then playFault p else if 0<k/\byNo p (l.getD (k-1) zkX)<=0 then 7 else zbz l (k+1) r
structure ChkS where
 S:List Str
 W:List (Str×Int)
 c:Bool
def zgH (q:ChkS) (p:Play):ChkS:=
 ⟨zcj p.Source q.S,zA p.Match p.Week q.W,q.c||((alk p.Match q.W).isSome&&((alk p.Match q.W).getD 0 !=p.Week))⟩
def za4 (l:List Play):ChkS:=l.foldl zgH ⟨[],[],false⟩
theorem zd5 {l:List Play} {k:Nat} {x:Play} (h:l[k]? =some x):za4 (l.take (k+1))=zgH (za4 (l.take k)) x:=by
 rw [zaj h];simp [za4,Bi]
def zd0 (q:ChkS):Int:=if 20<q.S.length\/400<q.W.length then 2 else if q.c then 13 else 0
def zb7 (l:List Play):Int:=if 3000<l.length then 2 else if zbz l 0 l≠0 then zbz l 0 l else zd0 (za4 l)
theorem zkY {l:List Play} {k:Nat} {x:Play} {r:List Play} (h1:playFault x=0) (h2:0<k->¬byNo x (l.getD (k-1) zkX)<=0):zbz l k (x::r)=zbz l (k+1) r:=by
 rw [zbz,if_neg (by simp [h1]),if_neg (fun h=>h2 h.1 h.2)]
theorem zjp {l:List Play} {c:Int} (h1:l.length<=3000) (h:zbz l 0 l=c) (hc:c≠0):zb7 l=c:=by
 rw [zb7,if_neg (by omega),if_pos (by rw [h];exact hc),h]
theorem zel {l:List Play} (h1:l.length<=3000) (h:zbz l 0 l=0):zb7 l=zd0 (za4 l):=by
 rw [zb7,if_neg (by omega),if_neg (by simp [h])]
theorem zp3 {l:List Play} (h:zb7 l=0):l.length<=3000/\zbz l 0 l=0:=by
 unfold zb7 at h
 split at h
 omega
 split at h
 contradiction
 rename_i h1 h2;exact ⟨by omega,by simpa using h2⟩
theorem zeS {p:Play} (h:playFault p=0):key p.Source=true/\(1<=p.No/\p.No<=3000)/\zT p.At=true/\zbd p.Week=true/\(key p.Match=true/\key p.Player=true/\key p.Stat=true)/\(-100000<=p.Count/\p.Count<=100000)/\(0<=p.Undo/\p.Undo<=p.No-1):=by
 unfold playFault at h
 split at h
 omega
 split at h
 omega
 split at h
 omega
 split at h
 omega
 rename_i h1 h2 h3 h4
 simp only [BF,Bool.not_eq_true',not_or,Bool.not_eq_false,Bool.not_eq_true] at h1 h2 h3 h4;exact ⟨h1,zeu h2.1.1,h2.1.2,h2.2,⟨h3.1.1,h3.1.2,h3.2⟩,zeu h4.1,zeu h4.2⟩
theorem zot {l:List Play}: ∀(r:List Play) (k:Nat),zbz l k r=0->∀x∈r,playFault x=0
 |[],_,_,x,hx=>by cases hx
 |p::r,k,h,x,hx=>by
   rw [zbz] at h
   split at h
   contradiction
   split at h
   omega
   rename_i h1 _
   rcases List.mem_cons.1 hx with rfl|hx
   simpa using h1
   exact zot r (k+1) h x hx
theorem zsq {l:List Play} (h:zb7 l=0): ∀x∈l,playFault x=0:=zot l 0 (zp3 h).2
/-! the source that counts-/
def zdy (trust:List Str) (at':Int) (B:List (Str×Int)) (p:Play):List (Str×Int):=
 if at'<p.At\/zcL p.Source trust 0<0 then B
 else if (alk p.Match B).isSome=false\/zcL p.Source trust 0<(alk p.Match B).getD 0 then zA p.Match (zcL p.Source trust 0) B else B
def zeq (l:List Play) (trust:List Str) (at':Int):List (Str×Int):=l.foldl (zdy trust at') []
theorem zkp {l:List Play} {trust:List Str} {at':Int} {k:Nat} {x:Play} (h:l[k]? =some x):zeq (l.take (k+1)) trust at'=zdy trust at' (zeq (l.take k) trust at') x:=by
 rw [zaj h];simp [zeq,Bi]
def zmQ (l:List Play) (trust:List Str) (at':Int) (m:Str):Option Str:=(alk m (zeq l trust at')).map fun k=>trust.getD k.toNat []
/-! what is taken back-/
def zmK (at':Int) (A:List (Num×Play)) (p:Play):List (Num×Play):=if p.At<=at' then zA (p.Source,p.No) p A else A
def znz (l:List Play) (at':Int):List (Num×Play):=l.foldl (zmK at') []
theorem zp1 {l:List Play} {at':Int} {k:Nat} {x:Play} (h:l[k]? =some x):znz (l.take (k+1)) at'=zmK at' (znz (l.take k) at') x:=by
 rw [zaj h];simp [znz,Bi]
def zr6 (q p:Play):Bool:=decide (q.Undo=0)&&decide (q.Match=p.Match)&&decide (q.Player=p.Player)&&decide (q.Stat=p.Stat)
def ziI (A:List (Num×Play)) (at':Int) (G:List (Num×Bool)) (p:Play):List (Num×Bool):=
 if at'<p.At\/p.Undo=0 then G else if (alk (p.Source,p.Undo) A).isSome=true/\zr6 ((alk (p.Source,p.Undo) A).getD zkX) p=true then zA (p.Source,p.Undo) true G else G
def zl8 (A:List (Num×Play)) (at':Int) (l:List Play):List (Num×Bool):=l.foldl (ziI A at') []
def zkP (l:List Play) (at':Int):List (Num×Bool):=zl8 (znz l at') at' l
theorem zjQ {A:List (Num×Play)} {l:List Play} {at':Int} {k:Nat} {x:Play} (h:l[k]? =some x):zl8 A at' (l.take (k+1))=ziI A at' (zl8 A at' (l.take k)) x:=by
 rw [zaj h];simp [zl8,Bi]
def zrz (l:List Play) (at':Int) (x:Num):Bool:=(alk x (zkP l at')).getD false
/-! lines-/
def zmb (l:List Play) (trust:List Str) (week at':Int) (p:Play):Bool:=
 !(decide (at'<p.At)||p.Week !=week||decide (0<p.Undo)||zrz l at' (p.Source,p.No)||(zmQ l trust at' p.Match).getD [] !=p.Source)
structure LnS where
 S:List Str
 c:List (Of2×Int)
def zw9 (q:LnS) (p:Play):LnS:=⟨zcj p.Player q.S,zA (p.Player,p.Stat) ((alk (p.Player,p.Stat) q.c).getD 0+p.Count) q.c⟩
def ziN (l:List Play) (trust:List Str) (week at':Int) (q:LnS) (p:Play):LnS:=if zmb l trust week at' p then zw9 q p else q
def zeP (l:List Play) (trust:List Str) (week at':Int) (m:List Play):LnS:=m.foldl (ziN l trust week at') ⟨[],[]⟩
theorem zpW {l m:List Play} {trust:List Str} {week at':Int} {k:Nat} {x:Play} (h:m[k]? =some x):zeP l trust week at' (m.take (k+1))=ziN l trust week at' (zeP l trust week at' (m.take k)) x:=by
 rw [zaj h];simp [zeP,Bi]
def zey (a b:StatS):Int:=zU a.Name b.Name
def zbq (c:List (Of2×Int)) (s:Str):List StatS:=(c.filter fun e=>e.1.1==s&&e.2 !=0).map fun e=>⟨e.1.2,e.2⟩
def zgT (c:List (Of2×Int)) (s:Str):List StatS:=zal zey (zbq c s)
def zhQ (c:List (Of2×Int)) (S:List Str):Bool:=c.any (fun e=>out e.2 (-100000) 100000)||S.any (fun s=>decide (40<(zbq c s).length))
def zif (c:List (Of2×Int)) (S:List Str):Int:=if zhQ c S then 12 else 0
def zig (c:List (Of2×Int)) (S:List Str) (week:Int):List LineS:=if zhQ c S then [] else (za8 S).map fun s=>⟨s,week,zgT c s⟩
def zrC (l:List Play) (trust:List Str) (week at':Int):Int:=zif (zeP l trust week at' l).c (zeP l trust week at' l).S
def zrD (l:List Play) (trust:List Str) (week at':Int):List LineS:=zig (zeP l trust week at' l).c (zeP l trust week at' l).S week
/-! order of trust-/
def zdn (l:List Str):Nat->List Str->Int
 |_,[]=>0
 |k,s::r=>if !(key s) then 5 else if (l.take k).contains s then 6 else zdn l (k+1) r
def zcf (l:List Str):Int:=if 20<l.length then 2 else zdn l 0 l
theorem zsN {s:Str} (h:key s=true):s.length<=40:=by
 simp only [key,zjj,BL,decide_eq_true_eq] at h;exact h.1.1.1.2
theorem zjh {α:Type} {c:α->α->Int} (hc:Cmp c fun _=>True) {l l':List α} (he: ∀x y,x∈l->y∈l->c x y=0->x=y) (hp:l'.Perm l) (hw:l'.Pairwise fun a b=> ¬c b a<0):l'=zal c l:=by
 have hs:=ziM hc (l:=l) (fun _ _=>trivial);have hw':l'.Pairwise fun a b=>c a b<=0:=hw.imp fun {a b} h=>by
  have:=hc.flip b a trivial trivial
  omega
 refine List.Perm.eq_of_pairwise (le:=fun a b=>c a b<=0) (fun a b ha hb h1 h2=> ?_) hw' hs (hp.trans (zbK c l).symm)
 have f1:=hc.flip a b trivial trivial;exact he a b (hp.mem_iff.1 ha) ((zbK c l).mem_iff.1 hb) (by omega)
theorem zgE:Cmp zey fun _=>True where
 flip x y _ _:=by unfold zey;rw [zeI x.Name y.Name];omega
 trans x y z _ _ _ h1 h2:=zhO h1 h2
theorem zs4 {α:Type} {c:α->α->Int} (hc:Cmp c fun _=>True):SWO (ltOf c):=by
 have h: ∀a b,ltOf c a b=decide (c a b<0):=fun a b=>rfl
 refine ⟨fun x=> ?_,fun x y z h1 h2=> ?_,fun x y z h1 h2=> ?_⟩
 rw [h];have:=hc.flip x x trivial trivial;simp;omega;rw [h] at*;simp only [decide_eq_true_eq] at*;have a1:=hc.trans x y z trivial trivial trivial (by omega) (by omega)
 rcases Int.lt_or_eq_of_le a1 with e|e
 exact e
 exfalso
 have f1:=hc.flip x z trivial trivial;have a2:=hc.trans z x y trivial trivial trivial (by have:=hc.flip z x trivial trivial;omega) (by omega);have f2:=hc.flip y z trivial trivial
 omega
 rw [h] at*;simp only [decide_eq_false_iff_not] at*;have f1:=hc.flip x y trivial trivial;have f2:=hc.flip y z trivial trivial;have f3:=hc.flip x z trivial trivial;have g1:=hc.flip y x trivial trivial;have g2:=hc.flip z y trivial trivial;have g3:=hc.flip z x trivial trivial;have:=hc.trans z y x trivial trivial trivial (by omega) (by omega)
 omega
end
section
theorem zny {α:Type} {l:List α} (h:l.Nodup) {i j:Nat} {a:α} (hi:l[i]? =some a) (hj:l[j]? =some a):i=j:=by
 have key: ∀(i j:Nat),i<j->l[i]? =some a->l[j]? =some a->False:=fun i j hij h1 h2=>by
  have hi:=zl h1;have hj:=zl h2;rw [Aa hi] at h1;rw [Aa hj] at h2;exact List.pairwise_iff_getElem.1 h i j hi hj hij (Aw (h1.trans h2.symm))
 rcases BJ i j with h'|h'|h'
 exact (key i j h' hi hj).elim;exact h';exact (key j i h' hj hi).elim
/-! what a range has come to-/
structure VisOk {β:Type} (L:List β) (vis:List Nat) (E:List β):Prop where
 nd:vis.Nodup
 lt: ∀j∈vis,j<L.length
 eq:E.map some=vis.map fun j=>L[j]?
theorem VisOk.nil {β:Type} (L:List β):VisOk L [] []:=⟨Bv,(fun j h=>by cases h),rfl⟩
theorem VisOk.step {β:Type} {L E:List β} {vis:List Nat} (h:VisOk L vis E) {j:Nat} {q:β} (hj:L[j]? =some q) (hn:j∉vis):VisOk L (vis++[j]) (E++[q]) where
 nd:=List.nodup_append.2 ⟨h.nd,by simp,fun a ha b hb=>by simp at hb;subst hb;exact fun e=>hn (e▸ha)⟩
 lt k hk:=by
  rcases List.mem_append.1 hk with hk|hk
  exact h.lt k hk
  simp at hk;subst hk;exact zl hj
 eq:=by simp only [AB,h.eq,Ar,Ba,hj]
theorem VisOk.len {β:Type} {L E:List β} {vis:List Nat} (h:VisOk L vis E):E.length=vis.length:=by
 have:=congrArg List.length h.eq;simpa using this
theorem VisOk.le {β:Type} {L E:List β} {vis:List Nat} (h:VisOk L vis E):vis.length<=L.length:=by
 have:=zmj h.nd (m:=List.range L.length) fun j hj=>List.mem_range.2 (h.lt j hj)
 simpa using this
theorem VisOk.room {β:Type} {L E:List β} {vis:List Nat} (h:VisOk L vis E) {j:Nat} {q:β} (hj:L[j]? =some q) (hn:j∉vis):vis.length<L.length:=by
 have:=(h.step hj hn).le;rw [AA] at this;simp only [Ai,AG] at this
 omega
theorem VisOk.done {β:Type} {L E:List β} {vis:List Nat} (h:VisOk L vis E) (hl:vis.length=L.length):E.Perm L:=by
 have hp:vis.Perm (List.range L.length):=by
  refine (List.perm_ext_iff_of_nodup h.nd List.nodup_range).2 fun a=>⟨fun ha=>List.mem_range.2 (h.lt a ha),fun ha=> ?_⟩
  refine Classical.byContradiction fun hna=> ?_
  have h1:(a::vis).Nodup:=List.nodup_cons.2 ⟨hna,h.nd⟩;have h2:=zmj h1 (m:=List.range L.length) fun j hj=>by
   rcases List.mem_cons.1 hj with rfl|hj
   exact ha;exact List.mem_range.2 (h.lt j hj)
  simp at h2;omega
 have h1:=hp.map fun j=>L[j]?
 rw [<-h.eq] at h1;have h2:((List.range L.length).map fun j=>L[j]?)=L.map some:=by
  refine BI fun i=> ?_
  rw [Ag,Ag]
  rcases Az i L.length with hi|hi
  rw [BB hi,Aa hi];simp [hi];rw [Ax (by simpa using hi),Ax hi];rfl
 rw [h2] at h1;have h3:=h1.filterMap id;have key: ∀l:List β,(l.map some).filterMap id=l:=fun l=>by
  induction l with
  |nil=>rfl
  |cons x l ih=>simp [ih]
 rwa [key,key] at h3
def NextOk {β:Type} (L:List β) (vis:List Nat) (c:Bool) (vis':List Nat):Prop:=
 (c=false/\vis'=vis/\vis.length=L.length)\/(c=true/\∃j q,L[j]? =some q/\j∉vis/\vis'=vis++[j])
theorem NextOk.t {β:Type} {L:List β} {vis vis':List Nat} {c:Bool} (h:NextOk L vis c vis') (hc:c=true): ∃j q,L[j]? =some q/\j∉vis/\vis'=vis++[j]:=by
 rcases h with ⟨h,_⟩|⟨_,h⟩
 rw [hc] at h;cases h;exact h
theorem NextOk.f {β:Type} {L:List β} {vis vis':List Nat} {c:Bool} (h:NextOk L vis c vis') (hc:c=false):vis'=vis/\vis.length=L.length:=by
 rcases h with ⟨_,h⟩|⟨h,_⟩
 exact h;rw [hc] at h;cases h
section
variable {P:Program} {e:Env} {dst:Option Tmp} {ty:TypeId} {pos:String} {af:Array Edge} {g:Option (Nat×Bool)} {M:List MObj} {K:HVal->List MObj->Prop}
theorem zp7 {α:Type}: ∀{M:List α} {i:Nat} {m:α},M[i]? =some m->M.set i m=M
 |[],i,m,h=>by simp at h
 |x::M,0,m,h=>by simp at h;simp [h]
 |x::M,i+1,m,h=>by simp at h;simp [zp7 h]
theorem zpD [Tracks] {β:Type} {L:List β} {enc:β->HVal×HVal} {x:Operand} {i r b:Nat} {l:List (HVal×HVal)} {vis:List Nat} (hx:ze e x=some (.raw (.pointer (some ⟨r,0,none⟩)))) (hm:M[i]? =some (.iter r b l vis)) (hL:l=L.map enc)
 (hv:vis.Nodup) (hvl: ∀j∈vis,j<L.length) (hk: ∀c R vis',NextOk L vis c vis'->K (.tup (.bool c::R)) (M.set i (.iter r b l vis'))):EOp P e M ⟨dst,.next x false,ty,pos,af,g⟩ K:=by
 have hl:l.length=L.length:=by rw [hL,Ah]
 refine zvz hx hm hv (fun j hj=>by rw [hl];exact hvl j hj) (fun hlen=> ?_) (fun j p hj hn=> ?_)
 have:=hk false [] vis (.inl ⟨rfl,rfl,by rw [hlen,hl]⟩);rw [zp7 hm] at this;exact this;rw [hL,Ag] at hj
 cases hq:L[j]? with
 |none=>rw [hq] at hj;cases hj
 |some q=>exact hk true [p.1,p.2] (vis++[j]) (.inr ⟨rfl,j,q,hq,hn,rfl⟩)
theorem zn9 [Tracks] {β:Type} {L:List β} {enc:β->HVal×HVal} {x:Operand} {i r b j:Nat} {l:List (HVal×HVal)} {vis:List Nat} {q:β} (hx:ze e x=some (.raw (.pointer (some ⟨r,0,none⟩)))) (hm:M[i]? =some (.iter r b l (vis++[j]))) (hL:l=L.map enc) (hq:L[j]? =some q)
 (hk:K (.tup [(enc q).1,(enc q).2]) M):EOp P e M ⟨dst,.entry x,ty,pos,af,g⟩ K:=
 zuD hx hm (p:=enc q) (by rw [hL,Ag,hq];rfl) hk
theorem zxd {α:Type} (f:α->HVal) (L:List (Str×α)):sk (em f L)=L.map fun p=>(.str p.1,f p.2):=by simp [sk]
theorem zw7 {κ α:Type} [DecidableEq κ] (ek:κ->HVal) (f:α->HVal) (L:List (κ×α)):kk ek (em f L)=L.map fun p=>(ek p.1,f p.2):=by simp [kk]
end
theorem zAO {α:Type} {a b c d:α} {X:List α}:(a::b::c::d::X).Perm (a::d::c::b::X):=
 List.Perm.cons a (((List.Perm.swap c b (d::X)).trans ((List.Perm.swap d b X).cons c)).trans (((List.Perm.swap d c (b::X)))))
/-! maps whose values are owned slices-/
section
variable {β:Type}
abbrev Grp (β:Type):=List (Str×(Value×List β))
abbrev fG {β:Type} (q:Value×List β):HVal:= .raw q.1
abbrev gZ (β:Type):Value×List β:=(.slice none 0 0,[])
def gV (s:Str) (G:Grp β):Value:=((alk s G).getD (gZ β)).1
def gL (s:Str) (G:Grp β):List β:=((alk s G).getD (gZ β)).2
def grp (sz:Nat) (e:β->HVal) (G:Grp β):List MObj:=G.map fun p=> .arr p.2.1 sz (p.2.2.map e)
theorem zsy {κ α:Type} [DecidableEq κ] {s:κ} {v:α}: ∀{G:List (κ×α)},alk s G=some v->∃n,G[n]? =some (s,v)/\∀u,zA s u G=G.set n (s,u)
 |[],h=>by simp [alk] at h
 |p::r,h=>by
   simp only [alk] at h
   by_cases hs:s=p.1
   rw [if_pos hs] at h;simp only [As] at h;subst h;exact ⟨0,by simp [hs],fun u=>by simp [zA,hs]⟩;rw [if_neg hs] at h;obtain ⟨n,h1,h2⟩:=zsy h;exact ⟨n+1,by simpa using h1,fun u=>by simp [zA,hs,h2]⟩
theorem znL {κ α:Type} [DecidableEq κ] {s:κ} {p:κ->Bool}: ∀{G:List (κ×α)},alk s (G.filter fun q=>p q.1)=if p s then alk s G else none
 |[]=>by simp [alk]
 |q::r=>by
   have ih:=znL (s:=s) (p:=p) (G:=r);rw [AW]
   by_cases hq:p q.1=true
   rw [if_pos hq];simp only [alk]
   by_cases hs:s=q.1
   rw [if_pos hs,if_pos hs,hs,if_pos hq];rw [if_neg hs,if_neg hs,ih];rw [if_neg hq,ih];simp only [alk]
   by_cases hs:s=q.1
   rw [hs,if_neg hq,if_neg hq];rw [if_neg hs]
theorem zka {κ α:Type} [DecidableEq κ] {s:κ} {G:List (κ×α)} (h:alk s G=none):(G.filter fun q=>decide (q.1≠s))=G:=by
 rw [List.filter_eq_self]
 intro q hq
 rw [zex] at h;simp only [decide_eq_true_eq];exact fun e=>h (e▸BC hq)
theorem zkb {κ α:Type} [DecidableEq κ] {s:κ} {v:α}: ∀{G:List (κ×α)},ANodup G->alk s G=some v->G.Perm ((s,v)::G.filter fun q=>decide (q.1≠s))
 |[],_,h=>by simp [alk] at h
 |p::r,hn,h=>by
   have h1:=List.nodup_cons.1 hn;simp only [alk] at h
   by_cases hs:s=p.1
   ·rw [if_pos hs] at h;simp only [As] at h;have h2:alk s r=none:=by rw [zex,hs];exact h1.1
    rw [AW,if_neg (by simp [hs]),zka h2,hs,<-h]
   ·rw [if_neg hs] at h;rw [AW,if_pos (by simp;exact fun e=>hs e.symm)];exact (List.Perm.cons p (zkb h1.2 h)).trans (List.Perm.swap _ _ _)
end
section
variable {P:Program} {e:Env} {dst:Option Tmp} {ty:TypeId} {pos:String} {af:Array Edge} {g:Option (Nat×Bool)} {M:List MObj} {K:HVal->List MObj->Prop} {β:Type} {eb:β->HVal}
theorem zne [Tracks] {I:Imm} {M:List MObj} {w:World} (sz:Nat) (hs:Sat P I M w):Sat P I (.arr (.slice none 0 0) sz []::M) w where
 imm:=hs.imm
 obj m hm:=by
  rcases List.mem_cons.1 hm with rfl|hm
  exact .inl ⟨rfl,rfl⟩;exact hs.obj m hm
 nodup:=by simp only [blocks,AK,MObj.blocks,Bh];exact hs.nodup
 apart b hb:=hs.apart b (by simpa only [blocks,AK,MObj.blocks,Bh] using hb)
 os:=hs.os
 output:=hs.output
 tape:=hs.tape
 tab:=hs.tab
 low:=hs.low
theorem EOp.pre [Tracks] {M':List MObj} {o:Oper} (hm: ∀I F w,Sat P I (M++F) w->Sat P I (M'++F) w) (h:EOp P e M' o K):EOp P e M o K:=fun I F a w ho hs=>h I F a w ho (hm I F w hs)
theorem zqi [Tracks] {o:Oper} (h:EOp P e M o fun x N=> ∃N',N.Perm N'/\K x N'):EOp P e M o K:=fun I F a w ho hs=>
 zaW (fun _ _ ⟨v,x,M',J,h1,h2,⟨N',h3,h4⟩,h5,h6⟩=>⟨v,x,N',J,h1,h2,h4,h5,h6.perm (h3.append_right F)⟩) (h I F a w ho hs)
theorem zo8 [Tracks] {x y:Operand} {t el:TypeId} {size bytes sz b2:Nat} {zero z2:Value} {d:TD} {A:List MObj} {G:Grp β} {s:Str} {ys:List β}
 (hf:Fits P t (.slice el) size bytes zero) (hel:Fits P el d sz b2 z2) (hz:z2.cells.size=sz) (hby:Nat.ble b2 100000=true)
 (hx:ze e x=some (.raw (gV s G))) (hy:ze e y=some (.slice sz (ys.map eb))) (hfl: ∀y∈ys.map eb,zax (zb y)=true) (hlen:(gL s G).length+ys.length<=1000000000)
 (hk: ∀v',K (.raw v') (A++grp sz eb (zA s (v',gL s G++ys) G))):EOp P e (A++grp sz eb G) ⟨dst,.call ⟨.builtin .append,#[x,y],#[t,t]⟩,ty,pos,af,g⟩ K:=by
 cases hq:alk s G with
 |none=>
   have h1:gV s G= .slice none 0 0:=by unfold gV;rw [hq];rfl
   have h2:gL s G=[]:=by unfold gL;rw [hq];rfl
   rw [h1] at hx;rw [h2,Bh] at hk;refine EOp.pre (M':= .arr (.slice none 0 0) sz []::(A++grp sz eb G)) (fun I F w hs=>zne sz hs) (zqi ?_)
   refine zO (i:=0) hf hel hz hby hx hy rfl hfl (by rw [h2] at hlen;simpa using hlen) fun v'=>⟨_,?_,hk v'⟩
   rw [zkn hq];simp only [List.set_cons_zero,grp,AB,Ar,Ba,Bh];rw [<-AT];exact (List.perm_append_comm (l₁:=[MObj.arr v' sz (ys.map eb)]) (l₂:=A++G.map fun p=>MObj.arr p.2.1 sz (p.2.2.map eb)))
 |some q=>
   obtain ⟨v,l⟩:=q;have h1:gV s G=v:=by unfold gV;rw [hq];rfl
   have h2:gL s G=l:=by unfold gL;rw [hq];rfl
   obtain ⟨n,h3,h4⟩:=zsy hq;rw [h1] at hx;rw [h2] at hk hlen;have h5:(A++grp sz eb G)[A.length+n]? =some (.arr v sz (l.map eb)):=by
    rw [Ap (by omega),B0]
    simp [grp,h3]
   refine zO (i:=A.length+n) hf hel hz hby hx hy h5 hfl (by simpa using hlen) fun v'=> ?_
   have h6:(A++grp sz eb G).set (A.length+n) (.arr v' sz (l.map eb++ys.map eb))=A++grp sz eb (zA s (v',l++ys) G):=by
    rw [Ca _ _ (by omega),B0,h4]
    simp [grp,List.map_set]
   rw [h6];exact hk v'
theorem zoO [Tracks] {A:List MObj} {G G':Grp β} {s:Str} {sz:Nat} (hn:ANodup G) (hG:alk s G=alk s G'):Ghost e (A++grp sz eb G) e (.arr (gV s G') sz ((gL s G').map eb)::(A++grp sz eb (G.filter fun q=>decide (q.1≠s)))):=by
 cases hq:alk s G with
 |none=>
   have h1:gV s G'= .slice none 0 0:=by unfold gV;rw [<-hG,hq];rfl
   have h2:gL s G'=[]:=by unfold gL;rw [<-hG,hq];rfl
   rw [h1,h2,zka hq];exact zM sz
 |some q=>
   obtain ⟨v,l⟩:=q;have h1:gV s G'=v:=by unfold gV;rw [<-hG,hq];rfl
   have h2:gL s G'=l:=by unfold gL;rw [<-hG,hq];rfl
   rw [h1,h2];refine Ghost.perm ?_;have h3:=((zkb hn hq).map fun p=>MObj.arr p.2.1 sz (p.2.2.map eb)).append_left A;refine h3.trans ?_;simp only [Ar,grp];exact List.perm_middle
end
end
section
section
variable {κ α γ:Type} [DecidableEq κ]
theorem VisOk.fresh {L E:List (κ×α)} {vis:List Nat} (h:VisOk L vis E) (hn:ANodup L) {j:Nat} {q:κ×α} (hj:L[j]? =some q) (hv:j∉vis):alk q.1 E=none:=by
 rw [zex]
 intro hm
 obtain ⟨q',h1,h2⟩:=List.mem_map.1 hm;have h3:some q'∈E.map some:=BC h1;rw [h.eq] at h3;obtain ⟨j',h4,h5⟩:=List.mem_map.1 h3;have e:j'=j:=zny hn (a:=q.1) (by rw [Ag,h5];simp [h2]) (by rw [Ag,hj];rfl);exact hv (e▸h4)
theorem ANodup.perm {A B:Type} {E L:List (A×B)} (hn:ANodup L) (hp:E.Perm L):ANodup E:=(hp.map (fun p:A×B=>p.1)).nodup_iff.2 hn
theorem zq8 {E L:List (κ×α)} (hp:E.Perm L) (hn:ANodup L) (m:κ):alk m E=alk m L:=by
 have hne:ANodup E:=hn.perm hp
 cases h:alk m L with
 |none=>
   rw [zex] at h⊢;exact fun hm=>h ((hp.map (·.1)).mem_iff.1 hm)
 |some v=>exact (zgD hne).1 (hp.mem_iff.2 ((zgD hn).2 h))
theorem zoR (g:α->γ) (m:κ): ∀(E:List (κ×α)),alk m (E.map fun q=>(q.1,g q.2))=(alk m E).map g
 |[]=>rfl
 |p::r=>by
   have ih:=zoR g m r;simp only [Ar,alk]
   by_cases h:m=p.1
   rw [if_pos h,if_pos h];rfl;rw [if_neg h,if_neg h,ih]
theorem ANodup.map {A B C:Type} (g:B->C) {E:List (A×B)} (h:ANodup E):ANodup (E.map fun q=>(q.1,g q.2)):=by
 unfold ANodup at*;rw [AX];exact h
end
theorem zry (s:Str): ∀(l:List Str) (k:Int),zcL s l k= -1\/(k<=zcL s l k/\zcL s l k<k+l.length)
 |[],k=> .inl rfl
 |x::r,k=>by
   simp only [zcL]
   by_cases h:s=x
   rw [if_pos h];right;simp;omega;rw [if_neg h]
   rcases zry s r (k+1) with h'|h'
   exact .inl h'
   right;simp only [Ai];omega
theorem zoU {trust:List Str} {n:Int}: ∀(l:List Play) (B:List (Str×Int)),ANodup B->(∀q∈B,0<=q.2/\q.2<trust.length)->ANodup (l.foldl (zdy trust n) B)/\∀q∈l.foldl (zdy trust n) B,0<=q.2/\q.2<trust.length
 |[],B,h1,h2=>⟨h1,h2⟩
 |p::r,B,h1,h2=>by
   refine zoU r (zdy trust n B p) ?_ ?_;unfold zdy;split;exact h1
   split
   exact h1.put;exact h1;unfold zdy;split;exact h2
   rename_i hc
   split
   intro q hq
   rcases zcG hq with rfl|hq
   rcases zry p.Source trust 0 with h|h
   exfalso;exact hc (.inr (by rw [h];decide))
   dsimp only;omega
   exact h2 q hq;exact h2
theorem zkq (l:List Play) (trust:List Str) (n:Int):ANodup (zeq l trust n):=(zoU l [] ANodup.nil (fun q h=>by cases h)).1
theorem zs9 {l:List Play} {trust:List Str} {n:Int} {q:Str×Int} (h:q∈zeq l trust n):0<=q.2/\q.2<trust.length:=(zoU l [] ANodup.nil (fun q h=>by cases h)).2 q h
abbrev zoH (trust:List Str) (E:List (Str×Int)):List (Str×Str):=E.map fun q=>(q.1,trust.getD q.2.toNat [])
theorem zvg {trust:List Str} {L E:List (Str×Int)} {vis:List Nat} (h:VisOk L vis E) (hn:ANodup L) {j:Nat} {q:Str×Int} (hj:L[j]? =some q) (hv:j∉vis):zA q.1 (trust.getD q.2.toNat []) (zoH trust E)=zoH trust (E++[q]):=by
 rw [zkn]
 simp
 have:=zoR (fun k:Int=>trust.getD k.toNat []) q.1 E;rw [this,h.fresh hn hj hv];rfl
theorem zwi {l:List Play} {trust:List Str} {n:Int} {E:List (Str×Int)} (hp:E.Perm (zeq l trust n)) (m:Str):alk m (zoH trust E)=zmQ l trust n m:=by
 have:=zoR (fun k:Int=>trust.getD k.toNat []) m E;rw [this,zq8 hp (zkq _ _ _)];rfl
theorem zt4 {l:List Play} {trust:List Str} {n:Int} {E:List (Str×Int)} (hp:E.Perm (zeq l trust n)):ANodup (zoH trust E):=
 ANodup.map (fun k:Int=>trust.getD k.toNat []) ((zkq _ _ _).perm hp)
/-! groups of statistics-/
structure GOk (E:List (Of2×Int)) (G:Grp StatS):Prop where
 nd:ANodup G
 raw: ∀s,gL s G=zbq E s
theorem GOk.nil:GOk [] []:=⟨ANodup.nil,fun s=>rfl⟩
theorem zll (E:List (Of2×Int)) (q:Of2×Int) (s:Str):zbq (E++[q]) s=zbq E s++if q.1.1=s/\q.2≠0 then [⟨q.1.2,q.2⟩] else []:=by
 unfold zbq;rw [Bn,AB,AW]
 by_cases h:q.1.1=s/\q.2≠0
 rw [if_pos h,if_pos (by simpa using h)];rfl;rw [if_neg h,if_neg (by simpa using h)];rfl
theorem GOk.skip {E:List (Of2×Int)} {G:Grp StatS} (h:GOk E G) {q:Of2×Int} (hq:q.2=0):GOk (E++[q]) G:=
 ⟨h.nd,fun s=>by rw [zll,if_neg (by simp [hq]),A9,h.raw]⟩
theorem zys (s t:Str) (v:Value) (l:List StatS) (G:Grp StatS):gL t (zA s (v,l) G)=if t=s then l else gL t G:=by
 unfold gL;rw [zcX];split<;>rfl
theorem GOk.put {E:List (Of2×Int)} {G:Grp StatS} (h:GOk E G) {q:Of2×Int} (hq: ¬q.2=0) (v:Value):GOk (E++[q]) (zA q.1.1 (v,gL q.1.1 G++[⟨q.1.2,q.2⟩]) G):=by
 refine ⟨h.nd.put,fun s=> ?_⟩
 rw [zys,zll]
 by_cases hs:s=q.1.1
 rw [if_pos hs,if_pos ⟨hs.symm,hq⟩,hs,h.raw];rw [if_neg hs,if_neg (fun e=>hs e.1.symm),A9,h.raw]
theorem znb (E:List (Of2×Int)) (s:Str):(zbq E s).length<=E.length:=by
 unfold zbq;rw [Ah];exact AU _ _
theorem zlk {E c:List (Of2×Int)} (h:E.Perm c) (s:Str):(zbq E s).Perm (zbq c s):=(h.filter _).map _
theorem zu5 {c:List (Of2×Int)} (h:ANodup c) (s:Str) {x y:StatS} (hx:x∈zbq c s) (hy:y∈zbq c s) (e:x.Name=y.Name):x=y:=by
 unfold zbq at hx hy;obtain ⟨p,hp,rfl⟩:=List.mem_map.1 hx;obtain ⟨p',hp',rfl⟩:=List.mem_map.1 hy;have h1:=List.mem_filter.1 hp;have h2:=List.mem_filter.1 hp';have k1:p.1.1=s:=by have:=h1.2;simp only [BL,beq_iff_eq] at this;exact this.1
 have k2:p'.1.1=s:=by have:=h2.2;simp only [BL,beq_iff_eq] at this;exact this.1
 have k3:p.1=p'.1:=Prod.ext (k1.trans k2.symm) e;have a1:=(zgD h (x:=p.1) (v:=p.2)).1 h1.1;have a2:=(zgD h (x:=p'.1) (v:=p'.2)).1 h2.1;rw [<-k3,a1] at a2;have k4:p.2=p'.2:=Aw a2;have k5:p.1.2=p'.1.2:=e;rw [k4,k5]
theorem zr0 {E c:List (Of2×Int)} (hE:E.Perm c) (hn:ANodup c) {G:Grp StatS} (hG:GOk E G) {s:Str} {l':List StatS} (hp:l'.Perm (gL s G)) (hw:l'.Pairwise fun a b=> ¬zey b a<0):l'=zgT c s:=by
 unfold zgT;rw [hG.raw] at hp;exact zjh zgE (fun x y hx hy e=>zu5 hn s hx hy (zcq.1 e)) (hp.trans (zlk hE s)) hw
theorem zrw {E c:List (Of2×Int)} (hE:E.Perm c) {G:Grp StatS} (hG:GOk E G) (s:Str):(gL s G).length=(zbq c s).length:=by
 rw [hG.raw];exact (zlk hE s).length_eq
abbrev zgo (G:Grp StatS) (N:List Str):Grp StatS:=G.filter fun q=> !(N.contains q.1)
theorem zwc (G:Grp StatS):zgo G []=G:=by unfold zgo;rw [List.filter_eq_self];simp
theorem zwb {G:Grp StatS} {N:List Str} {s:Str} (h:s∉N):alk s (zgo G N)=alk s G:=by
 have:=znL (s:=s) (p:=fun k=> !(N.contains k)) (G:=G);unfold zgo;rw [this,if_pos (by simpa using h)]
theorem zu6 (G:Grp StatS) (N:List Str) (s:Str):(zgo G N).filter (fun q=>decide (q.1≠s))=zgo G (N++[s]):=by
 unfold zgo;rw [List.filter_filter];refine List.filter_congr fun q _=> ?_
 by_cases h1:q.1∈N<;>by_cases h2:q.1=s<;>simp [h1,h2]
theorem ztW {G:Grp StatS} {N:List Str} (h:ANodup G):ANodup (zgo G N):=by
 unfold ANodup at*;exact h.sublist ((List.filter_sublist).map _)
theorem zt3 {l:List Str} (hn:l.Nodup) {k:Nat} {s:Str} (h:l[k]? =some s):s∉l.take k:=by
 intro hm
 obtain ⟨j,hj⟩:=Bg hm;have hjk:j<k:=by have:=zl hj;simp at this;omega
 rw [AC hjk] at hj;have:=zny hn hj h
 omega
theorem zk4 (l:List Str):(za8 l).Perm l:=List.mergeSort_perm _ _
theorem ztE {c:List (Of2×Int)} {S:List Str} {q:Of2×Int} (hq:q∈c) (ho:out q.2 (-100000) 100000=true):zhQ c S=true:=by
 unfold zhQ;rw [BF];left;rw [B5];exact ⟨q,hq,ho⟩
theorem ztF {c:List (Of2×Int)} {S:List Str} {s:Str} (hs:s∈S) (ho:40<(zbq c s).length):zhQ c S=true:=by
 unfold zhQ;rw [BF];right;rw [B5];exact ⟨s,hs,by simpa using ho⟩
theorem zuG {c:List (Of2×Int)} {S:List Str} (h1: ∀q∈c,out q.2 (-100000) 100000=false) (h2: ∀s∈S,¬40<(zbq c s).length):zhQ c S=false:=by
 unfold zhQ;rw [BM]
 constructor
 rw [B2];intro q hq;rw [h1 q hq];simp;rw [B2];intro s hs;simpa using h2 s hs
/-! lines-/
theorem zkV {s t:Str} {S:List Str}:t∈zcj s S↔t=s\/t∈S:=by
 unfold zcj
 by_cases h:S.contains s=true
 rw [if_pos h];have:s∈S:=by simpa using h
 constructor
 exact .inr;rintro (rfl|h);exact this;exact h;rw [if_neg h];simp;exact Or.comm
theorem zh7 {s:Str} {S:List Str} (h:S.Nodup):(zcj s S).Nodup:=by
 unfold zcj
 by_cases hc:S.contains s=true
 rw [if_pos hc];exact h;rw [if_neg hc];exact List.nodup_append.2 ⟨h,by simp,fun a ha b hb=>by simp at hb;subst hb;intro e;subst e;simp at hc;exact hc ha⟩
theorem zsZ (s:Str) (S:List Str):(zcj s S).length<=S.length+1:=by
 unfold zcj;split
 omega
 simp
structure LnOk (q:LnS) (n:Nat):Prop where
 c:ANodup q.c
 S:q.S.Nodup
 k: ∀s∈q.S,s.length<=40
 cl:q.c.length<=n
 Sl:q.S.length<=n
 bd: ∀e∈q.c,-(100000*(n:Int))<=e.2/\e.2<=100000*(n:Int)
theorem LnOk.val {q:LnS} {n:Nat} (h:LnOk q n) (s:Of2): -(100000*(n:Int))<=(alk s q.c).getD 0/\(alk s q.c).getD 0<=100000*(n:Int):=by
 cases hq:alk s q.c with
 |none=>simp;omega
 |some v=>exact h.bd _ (zbt hq)
theorem LnOk.put {q:LnS} {n:Nat} (h:LnOk q n) {p:Play} (hp:playFault p=0):LnOk (zw9 q p) (n+1):=by
 obtain ⟨_,_,_,_,⟨_,k2,_⟩,hb,_⟩:=zeS hp;have hv:=h.val (p.Player,p.Stat);refine ⟨h.c.put,zh7 h.S,fun s hs=> ?_,Ay (zoT _ _ _) (by have:=h.cl;omega),Ay (zsZ _ _) (by have:=h.Sl;omega),fun e he=> ?_⟩
 rcases zkV.1 hs with rfl|hs
 exact zsN k2;exact h.k s hs
 rcases zcG he with rfl|he
 dsimp only;omega
 have:=h.bd e he;omega
theorem LnOk.up {q:LnS} {n:Nat} (h:LnOk q n):LnOk q (n+1):=
 ⟨h.c,h.S,h.k,by have:=h.cl;omega,by have:=h.Sl;omega,fun e he=>by have:=h.bd e he;omega⟩
theorem zsR {l:List Play} {trust:List Str} {week n:Int}: ∀(m:List Play) (q:LnS) (i:Nat),LnOk q i->(∀x∈m,playFault x=0)->LnOk (m.foldl (ziN l trust week n) q) (i+m.length)
 |[],q,i,h,_=>h
 |x::m,q,i,h,hm=>by
   have h1:LnOk (ziN l trust week n q x) (i+1):=by
    unfold ziN;split;exact h.put (hm x Am);exact h.up
   have:=zsR (l:=l) (trust:=trust) (week:=week) (n:=n) m _ (i+1) h1 fun y hy=>hm y (Au _ hy)
   rw [BT,Ai,show i+(m.length+1)=i+1+m.length by omega];exact this
theorem zxa {l m:List Play} {trust:List Str} {week n:Int} (hm: ∀x∈m,playFault x=0):LnOk (zeP l trust week n m) m.length:=by
 have:=zsR (l:=l) (trust:=trust) (week:=week) (n:=n) m ⟨[],[]⟩ 0 ⟨ANodup.nil,Bv,(fun s h=>by cases h),Ae _,Ae _,fun e h=>by cases h⟩ hm;rw [Bb] at this;exact this
theorem zvJ {l:List Play} {O:List (Str×Str)} {trust:List Str} {week n:Int} {x:Play} (hO: ∀m,alk m O=zmQ l trust n m)
 (h:(((n<x.At\/¬x.Week=week)\/0<x.Undo)\/(alk (x.Source,x.No) (zkP l n)).getD false=true)\/¬(alk x.Match O).getD []=x.Source):zmb l trust week n x=false:=by
 rw [hO] at h;simp only [zmb,zrz,Bool.not_eq_false',BF,decide_eq_true_eq,bne_iff_ne,ne_eq];exact h
theorem zvK {l:List Play} {O:List (Str×Str)} {trust:List Str} {week n:Int} {x:Play} (hO: ∀m,alk m O=zmQ l trust n m)
 (h:(((x.At<=n/\x.Week=week)/\x.Undo<=0)/\(alk (x.Source,x.No) (zkP l n)).getD false=false)/\(alk x.Match O).getD []=x.Source):zmb l trust week n x=true:=by
 rw [hO] at h;obtain ⟨⟨⟨⟨h1,h2⟩,h3⟩,h4⟩,h5⟩:=h;simp only [zmb,zrz,h4,h5,h2,Bool.not_eq_true',BM,decide_eq_false_iff_not,bne_self_eq_false,and_true]
 omega
def zjY (l:List Play) (t:List Str) (week n:Int):Int:=if orI [zb7 l,zcf t] !=0 then orI [zb7 l,zcf t] else if !(zbd week)|| !(zT n) then 1 else zrC l t week n
def zjZ (l:List Play) (t:List Str) (week n:Int):List LineS:=if orI [zb7 l,zcf t] !=0 then [] else if !(zbd week)|| !(zT n) then [] else zrD l t week n
theorem okPT {l:List Play} {t:List Str} (h:orI [zb7 l,zcf t]=0):zb7 l=0/\zcf t=0:=by
 rw [zeR] at h;split at h
 contradiction
 rename_i h1;exact ⟨by simpa using h1,h⟩
end
section
structure MendS where
 Player:Str
 Week:Int
 Stat:Str
 Count:Int
 At:Int
 Version:Int
 By:Str
abbrev zb1 (x:MendS):HVal:= .agg [.str x.Player,.int .i64 x.Week,.str x.Stat,.int .i64 x.Count,.int .i64 x.At,.int .i64 x.Version,.str x.By]
abbrev zcr (l:List MendS):HVal:= .slice 7 (l.map zb1)
abbrev Plc:=Str×Int
def zdL:MendS:=⟨[],0,[],0,0,0,[]⟩
def zd2 (a b:MendS):Int:=orI [zU a.Player b.Player,zY a.Week b.Week,zU a.Stat b.Stat,zY a.Version b.Version]
section
variable {α:Type}
def zdq (f:α->Int) (c:α->α->Int) (d:α) (l:List α):Nat->List α->Int
 |_,[]=>0
 |k,x::r=>if f x≠0 then f x else if 0<k/\c x (l.getD (k-1) d)<=0 then 7 else zdq f c d l (k+1) r
theorem zrj {f:α->Int} {c:α->α->Int} {d:α} {l:List α} {k:Nat} {x:α} {r:List α} (h1:f x=0) (h2:0<k->¬c x (l.getD (k-1) d)<=0):zdq f c d l k (x::r)=zdq f c d l (k+1) r:=by
 rw [zdq,if_neg (by simp [h1]),if_neg (fun h=>h2 h.1 h.2)]
theorem zuq {f:α->Int} {c:α->α->Int} {d:α} {l:List α} {k:Nat} {x:α} {r:List α} (h1:f x≠0):zdq f c d l k (x::r)=f x:=by
 rw [zdq,if_pos h1]
theorem zur {f:α->Int} {c:α->α->Int} {d:α} {l:List α} {k:Nat} {x:α} {r:List α} (h1:f x=0) (h0:0<k) (h2:c x (l.getD (k-1) d)<=0):zdq f c d l k (x::r)=7:=by
 rw [zdq,if_neg (by simp [h1]),if_pos ⟨h0,h2⟩]
theorem zdi {c d:α->α->Int} (hc:Cmp c fun _=>True) (hd:Cmp d fun _=>True):Cmp (fun a b=>if c a b≠0 then c a b else d a b) fun _=>True where
 flip x y _ _:=by
  have f1:=hc.flip x y trivial trivial;have f2:=hc.flip y x trivial trivial;have f3:=hd.flip x y trivial trivial
  by_cases h:c x y=0
  have h':c y x=0:=by omega
  rw [if_neg (by simp [h]),if_neg (by simp [h'])];exact f3;have h':c y x≠0:=by omega
  rw [if_pos h,if_pos h'];exact f1
 trans x y z _ _ _ h1 h2:=by
  have fxy:=hc.flip x y trivial trivial;have fyx:=hc.flip y x trivial trivial;have fyz:=hc.flip y z trivial trivial;have fzy:=hc.flip z y trivial trivial;have fxz:=hc.flip x z trivial trivial;have fzx:=hc.flip z x trivial trivial;have a1:c x y<=0:=by split at h1<;>omega
  have a2:c y z<=0:=by split at h2<;>omega
  have a3:=hc.trans x y z trivial trivial trivial a1 a2
  by_cases h:c x z=0
  have b1:=hc.trans z x y trivial trivial trivial (by omega) a1;have b2:=hc.trans y z x trivial trivial trivial a2 (by omega);have e1:c x y=0:=by omega
  have e2:c y z=0:=by omega
  rw [if_neg (by simp [e1])] at h1;rw [if_neg (by simp [e2])] at h2;rw [if_neg (by simp [h])];exact hd.trans x y z trivial trivial trivial h1 h2;rw [if_pos h];exact a3
theorem zfW (f:α->Str):Cmp (fun a b=>zU (f a) (f b)) fun _=>True where
 flip x y _ _:=by rw [zeI (f x) (f y)];omega
 trans x y z _ _ _ h1 h2:=zhO h1 h2
theorem ze8 (f:α->Int):Cmp (fun a b=>zY (f a) (f b)) fun _=>True where
 flip x y _ _:=by rw [zjd (f x) (f y)];omega
 trans x y z _ _ _ h1 h2:=by rw [zsA] at*;omega
theorem zxT (a:Int):orI [a]=a:=by
 by_cases h:a=0<;>simp [orI,h]
theorem zd7 (a b:Int) (r:List Int):orI (a::b::r)=if a≠0 then a else orI (b::r):=by rw [orI]
end
theorem zi8:Cmp zd2 fun _=>True:=by
 have h:=zdi (zfW MendS.Player) (zdi (ze8 MendS.Week) (zdi (zfW MendS.Stat) (ze8 MendS.Version)));have e:zd2=fun a b=>if zU a.Player b.Player≠0 then zU a.Player b.Player else if zY a.Week b.Week≠0 then zY a.Week b.Week else if zU a.Stat b.Stat≠0 then zU a.Stat b.Stat else zY a.Version b.Version:=by
  funext a b;unfold zd2;rw [zd7,zd7,zeR]
 rw [e];exact h
theorem zxU {a b:Int} (h:(if a≠0 then a else b)=0):a=0/\b=0:=by
 split at h
 contradiction
 rename_i h1;exact ⟨by simpa using h1,h⟩
def zaH (x:MendS):Int:=
 if !(key x.Player)|| !(key x.Stat)|| !(key x.By) then 5
 else if !(zbd x.Week)||out x.Count (-100000) 100000|| !(zT x.At)||out x.Version 1 1000 then 1 else 0
def zef (m:List MendS):Int:=if 500<m.length then 2 else zdq zaH zd2 zdL m 0 m
theorem zrF {x:MendS} (h:zaH x=0):key x.Player=true/\key x.Stat=true/\zbd x.Week=true/\(-100000<=x.Count/\x.Count<=100000)/\zT x.At=true:=by
 unfold zaH at h
 split at h
 omega
 split at h
 omega
 rename_i h1 h2
 simp only [BF,Bool.not_eq_true',not_or,Bool.not_eq_false,Bool.not_eq_true] at h1 h2;exact ⟨h1.1.1,h1.1.2,h2.1.1.1,zeu h2.1.1.2,h2.1.2⟩
theorem zjo {m r:List MendS} {k:Nat} {x:MendS} {c:Int} (hl: ¬500<m.length) (hg:zdq zaH zd2 zdL m 0 m=zdq zaH zd2 zdL m k (x::r)) (hc:c≠0) (hf:zaH x=c):c=zef m:=by
 rw [zef,if_neg hl,hg,zuq (by rw [hf];exact hc),hf]
theorem zpY {m r:List MendS} {k:Nat} {x:MendS} (hl: ¬500<m.length) (hg:zdq zaH zd2 zdL m 0 m=zdq zaH zd2 zdL m k (x::r)) (hf:zaH x=0) (h0:0<k) (h:zd2 x (m.getD (k-1) zdL)<=0):7=zef m:=by
 rw [zef,if_neg hl,hg,zur hf h0 h]
end
section
open Op
structure PlayerS where
 Key:Str
 Name:Str
 Positions:List Str
structure StintS where
 Player:Str
 Club:Str
 Week:Int
structure HealthS where
 Player:Str
 From:Int
 To:Int
 Kind:Int
structure FixS where
 Week:Int
 At:Int
 Home:Str
 Away:Str
structure RuleS where
 Key:Str
 Stat:Str
 Position:Str
 Kind:Int
 Many:Int
 Num:Int
 Den:Int
structure SlotS where
 Key:Str
 Positions:List Str
structure BoundS where
 Most:Int
 Hurt:Int
 Adds:Int
 Hold:Int
structure MoveS where
 At:Int
 Kind:Int
 Team:Str
 Player:Str
structure GameS where
 Week:Int
 Home:Str
 Away:Str
 Played:Bool
 FNum:Int
 FDen:Int
 ONum:Int
 ODen:Int
structure ChoiceS where
 Team:Str
 Week:Int
 At:Int
 Players:List Str
 Captain:Str
structure LeagueS where
 Players:List PlayerS
 Stints:List StintS
 Fixtures:List FixS
 Rules:List RuleS
 Slots:List SlotS
 Bounds:BoundS
 Teams:List Str
 Games:List GameS
 Breaks:List Int
 Trust:List Str
 Start:Int
def HasAB (T:List Str):Prop:=T.contains [116,97]=true/\T.contains [116,98]=true
theorem HasAB.app {T:List Str} (h:HasAB T) (U:List Str):HasAB (T++U):=by
 unfold HasAB at*;simp only [Cb,decide_eq_true_eq,List.mem_append] at*;exact ⟨.inl h.1,.inl h.2⟩
abbrev zcY (x:PlayerS):HVal:= .agg [.str x.Key,.str x.Name,eSs x.Positions]
abbrev zaA (l:List PlayerS):HVal:= .slice 3 (l.map zcY)
abbrev zcs (x:StintS):HVal:= .agg [.str x.Player,.str x.Club,.int .i64 x.Week]
abbrev zcy (l:List StintS):HVal:= .slice 3 (l.map zcs)
abbrev zbR (x:HealthS):HVal:= .agg [.str x.Player,.int .i64 x.From,.int .i64 x.To,.int .i64 x.Kind]
abbrev zbo (l:List HealthS):HVal:= .slice 4 (l.map zbR)
abbrev zaE (x:FixS):HVal:= .agg [.int .i64 x.Week,.int .i64 x.At,.str x.Home,.str x.Away]
abbrev zfz (l:List FixS):HVal:= .slice 4 (l.map zaE)
abbrev zqL (x:RuleS):HVal:= .agg [.str x.Key,.str x.Stat,.str x.Position,.int .i64 x.Kind,.int .i64 x.Many,.int .i64 x.Num,.int .i64 x.Den]
abbrev ziF (l:List RuleS):HVal:= .slice 7 (l.map zqL)
abbrev za6 (x:SlotS):HVal:= .agg [.str x.Key,eSs x.Positions]
abbrev zft (l:List SlotS):HVal:= .slice 2 (l.map za6)
abbrev zdR (x:BoundS):HVal:= .agg [.int .i64 x.Most,.int .i64 x.Hurt,.int .i64 x.Adds,.int .i64 x.Hold]
abbrev zcx (x:MoveS):HVal:= .agg [.int .i64 x.At,.int .i64 x.Kind,.str x.Team,.str x.Player]
abbrev zbH (l:List MoveS):HVal:= .slice 4 (l.map zcx)
abbrev zaJ (x:GameS):HVal:= .agg [.int .i64 x.Week,.str x.Home,.str x.Away,.bool x.Played,.int .i64 x.FNum,.int .i64 x.FDen,.int .i64 x.ONum,.int .i64 x.ODen]
abbrev zj8 (l:List GameS):HVal:= .slice 8 (l.map zaJ)
abbrev zag (x:ChoiceS):HVal:= .agg [.str x.Team,.int .i64 x.Week,.int .i64 x.At,eSs x.Players,.str x.Captain]
abbrev zfJ (l:List ChoiceS):HVal:= .slice 5 (l.map zag)
abbrev zxm (g:LeagueS):List HVal:=[zaA g.Players,zcy g.Stints,zfz g.Fixtures,ziF g.Rules,zft g.Slots,.int .i64 g.Bounds.Most,.int .i64 g.Bounds.Hurt,.int .i64 g.Bounds.Adds,.int .i64 g.Bounds.Hold,eSs g.Teams,zj8 g.Games,eIs g.Breaks,eSs g.Trust,.int .i64 g.Start]
abbrev zej (g:LeagueS):HVal:= .agg (zxm g)
def zdl:PlayerS:=⟨[],[],[]⟩
def zeg:StintS:=⟨[],[],0⟩
def zfd:HealthS:=⟨[],0,0,0⟩
def zjP:FixS:=⟨0,0,[],[]⟩
def zjr:RuleS:=⟨[],[],[],0,0,0,0⟩
def zjs:SlotS:=⟨[],[]⟩
def zhZ:MoveS:=⟨0,0,[],[]⟩
def zdK:GameS:=⟨0,[],[],false,0,0,0,0⟩
def ze7:ChoiceS:=⟨[],0,0,[],[]⟩
/-! lists looked through element by element,each with the one ahead-/
section
variable {α:Type}
def zaR (g:Nat->α->α->Int) (d:α) (l:List α):Nat->List α->Int
 |_,[]=>0
 |k,x::r=>if g k x (l.getD (k-1) d)≠0 then g k x (l.getD (k-1) d) else zaR g d l (k+1) r
def zd6 (n:Nat) (g:Nat->α->α->Int) (d:α) (l:List α):Int:=if n<l.length then 2 else zaR g d l 0 l
variable {g:Nat->α->α->Int} {d:α} {l r:List α} {k n:Nat} {x:α} {e:Int}
theorem zaP (h:g k x (l.getD (k-1) d)=0):zaR g d l k (x::r)=zaR g d l (k+1) r:=by rw [zaR,if_neg (fun q=>q h)]
theorem zb9 (h:n<l.length):2=zd6 n g d l:=by rw [zd6,if_pos h]
theorem zbS (hn: ¬n<l.length) (hg:zaR g d l 0 l=zaR g d l l.length []):0=zd6 n g d l:=by rw [zd6,if_neg hn,hg];rfl
theorem zG (hn: ¬n<l.length) (hg:zaR g d l 0 l=zaR g d l k (x::r)) (he:g k x (l.getD (k-1) d)=e) (h0:e≠0):e=zd6 n g d l:=by
 rw [zd6,if_neg hn,hg,zaR,if_pos (by rw [he];exact h0),he]
theorem zrk: ∀{r:List α} {k:Nat},l.drop k=r->zaR g d l k r=0->∀(i:Nat) (x:α),k<=i->l[i]? =some x->g i x (l.getD (i-1) d)=0
 |[],k,hd,_,i,x,hi,hx=>by
   have h1:l.length<=k:=by simpa using hd
   have:=zl hx
   omega
 |y::r,k,hd,h,i,x,hi,hx=>by
   rw [zaR] at h
   split at h
   contradiction
   rename_i h0
   rcases Nat.eq_or_lt_of_le hi with e|e
   subst e;have:l[k]? =some y:=by have:=congrArg (fun q:List α=>q[0]?) hd;simpa using this
   rw [this] at hx;cases hx
   simpa using h0
   exact zrk (by rw [<-Bu (i:=1),hd];rfl) h i x e hx
theorem zmJ (h:zd6 n g d l=0):l.length<=n/\∀(i:Nat) (x:α),l[i]? =some x->g i x (l.getD (i-1) d)=0:=by
 unfold zd6 at h
 split at h
 contradiction
 exact ⟨by omega,fun i x hx=>zrk (k:=0) rfl h i x (Ad _) hx⟩
end
/-! what is wrong-/
abbrev leB (a b:Str):Bool:=bytesLess a b||a==b
def zgO (l:List Str):Int:=if l.length=0 then 8 else if 10<l.length then 2 else zdm l
def zch (k:Nat) (x p:PlayerS):Int:=if key x.Key=false then 5 else if 0<k/\leB x.Key p.Key=true then 7 else zgO x.Positions
def zbA (l:List PlayerS):Int:=zd6 500 zch zdl l
def zbl (l:List PlayerS) (s:Str):Bool:=(l.map (·.Key)).contains s
def zc8 (L:List PlayerS) (k:Nat) (x p:StintS):Int:=
 if zbl L x.Player=false then 8 else if x.Club≠[]/\key x.Club=false then 5 else if zbd x.Week=false then 1
 else if 0<k/\orI [zU x.Player p.Player,zY x.Week p.Week]<=0 then 7 else 0
def zhC (L:List PlayerS) (l:List StintS):Int:=zd6 1000 (zc8 L) zeg l
def zgq (L:List PlayerS) (l:List StintS):Int:=if zbA L≠0 then zbA L else zhC L l
def zbw (L:List PlayerS) (k:Nat) (x p:HealthS):Int:=
 if zbl L x.Player=false then 8 else if out x.To 2 61=true\/out x.From 1 (x.To-1)=true then 1 else if out x.Kind 1 2=true then 4
 else if 0<k/\orI [zU x.Player p.Player,zY x.From p.From]<=0 then 7 else if 0<k/\x.Player=p.Player/\x.From<p.To then 13 else 0
def zpa (L:List PlayerS) (l:List HealthS):Int:=zd6 1000 (zbw L) zfd l
def ziL (L:List PlayerS) (l:List HealthS):Int:=if zbA L≠0 then zbA L else zpa L l
def zeM (k:Nat) (x p:FixS):Int:=
 if zbd x.Week=false\/zT x.At=false then 1 else if key x.Home=false\/key x.Away=false then 5 else if x.Home=x.Away then 6
 else if 0<k/\orI [zY x.Week p.Week,zY x.At p.At,zU x.Home p.Home]<=0 then 7 else 0
def zgL (l:List FixS):Int:=zd6 1000 zeM zjP l
def znx (n d:Int):Bool:=Nat.gcd n.natAbs d.natAbs==1
def zcA (n d most:Int):Int:=if d<1\/znx n d=false then 3 else if (100:Int).tmod d≠0\/out n (-most*d) (most*d)=true then 1 else 0
def zqP (k:Int):Bool:=k==2||k==3
def zds (k:Nat) (x p:RuleS):Int:=
 if (key x.Key=false\/key x.Stat=false)\/x.Position≠[]/\key x.Position=false then 5 else if 0<k/\leB x.Key p.Key=true then 7
 else if out x.Kind 1 4=true then 4 else if zqP x.Kind=true/\out x.Many 1 100000=true\/zqP x.Kind=false/\x.Many≠0 then 1
 else zcA x.Num x.Den 10000
def ziR (l:List RuleS):Int:=zd6 100 zds zjr l
def zb8 (l:List SlotS):Nat->List SlotS->Int
 |_,[]=>0
 |k,x::r=>if key x.Key=false then 5 else if ((l.take k).any fun y=>y.Key==x.Key)=true then 6 else if zgO x.Positions≠0 then zgO x.Positions else zb8 l (k+1) r
def zdE (l:List SlotS):Int:=if l.length=0 then 8 else if 12<l.length then 2 else zb8 l 0 l
def zbZ (b:BoundS):Int:=if ((out b.Most 1 20=true\/out b.Hurt 0 20=true)\/out b.Adds 0 2000=true)\/out b.Hold 0 1209600000=true then 1 else 0
def zfw (a b:MoveS):Int:=orI [zY a.At b.At,zU a.Team b.Team,zU a.Player b.Player,zY a.Kind b.Kind]
def zdJ (k:Nat) (x p:MoveS):Int:=
 if zT x.At=false then 1 else if out x.Kind 1 4=true then 4 else if key x.Team=false\/key x.Player=false then 5
 else if 0<k/\zfw x p<=0 then 7 else 0
def zcN (l:List MoveS):Int:=zd6 2000 zdJ zhZ l
def zct (l:List Str):Int:=if 20<l.length then 2 else if l.length<2 then 8 else zdm l
def ze2 (a b:GameS):Int:=orI [zY a.Week b.Week,zU a.Home b.Home,zU a.Away b.Away]
def zge (x:GameS):Int:=
 if x.Played=false then (if ¬(x.FNum=0/\x.FDen=0)\/¬(x.ONum=0/\x.ODen=0) then 3 else 0)
 else if zcA x.FNum x.FDen 1000000=3\/zcA x.ONum x.ODen 1000000=3 then 3 else orI [zcA x.FNum x.FDen 1000000,zcA x.ONum x.ODen 1000000]
def zb2 (T:List Str) (k:Nat) (x p:GameS):Int:=
 if zbd x.Week=false then 1 else if T.contains x.Home=false\/T.contains x.Away=false then 8 else if x.Home=x.Away then 6
 else if zge x≠0 then zge x else if 0<k/\ze2 x p<=0 then 7 else 0
def zhf (x y:GameS):Bool:=y.Week==x.Week&&(y.Home==x.Home||y.Home==x.Away||y.Away==x.Home||y.Away==x.Away)
def zc7 (l:List GameS):Nat->List GameS->Bool
 |_,[]=>false
 |k,x::r=>(l.take k).any (zhf x)||zc7 l (k+1) r
def zdB (T:List Str) (l:List GameS):Int:=if zd6 1000 (zb2 T) zdK l≠0 then zd6 1000 (zb2 T) zdK l else if zc7 l 0 l=true then 13 else 0
def zfj (T:List Str) (l:List GameS):Int:=if zct T≠0 then zct T else zdB T l
def zdo (l:List Int):Nat->List Int->Int
 |_,[]=>0
 |k,n::r=>if out n 1 5=true then 4 else if (l.take k).contains n=true then 6 else zdo l (k+1) r
def zhs (l:List Int):Int:=if 5<l.length then 2 else zdo l 0 l
end
section
section
variable {α:Type}
def Srt (c:α->α->Int) (l:List α):Prop:=l.Pairwise fun a b=>c a b<=0
theorem Cmp.self {c:α->α->Int} (hc:Cmp c fun _=>True) (x:α):c x x<=0:=by
 have:=hc.flip x x trivial trivial;omega
theorem Srt.get {c:α->α->Int} (hc:Cmp c fun _=>True) {l:List α} (h:Srt c l) {i j:Nat} {x y:α} (hij:i<=j) (hx:l[i]? =some x) (hy:l[j]? =some y):c x y<=0:=by
 rcases Az i j with hlt|hge
 have h1:=zl hx;have h2:=zl hy;have:=List.pairwise_iff_getElem.1 h i j h1 h2 hlt;rw [Aa h1] at hx;rw [Aa h2] at hy;rw [Aw hx,Aw hy] at this;exact this;have e:i=j:=by omega
 rw [e,hy] at hx;rw [Aw hx];exact hc.self _
theorem Srt.take {c:α->α->Int} {l:List α} (h:Srt c l) (k:Nat):Srt c (l.take k):=List.Pairwise.sublist (List.take_sublist k l) h
theorem Srt.drop {c:α->α->Int} {l:List α} (h:Srt c l) (k:Nat):Srt c (l.drop k):=List.Pairwise.sublist (List.drop_sublist k l) h
theorem Srt.nil {c:α->α->Int}:Srt c []:=List.Pairwise.nil
end
end
end Go.HL
section
namespace Go.HL
section
variable {P:Program} {ops:Array Oper} {n:Nat} {S:List MObj->Prop} {ld:List Nat} {K:Env->List MObj->Prop} {e:Env} {M:List MObj} {listed:Array Bool} {fuel:Nat} {d:Nat} {op:Op} {ty:TypeId} {pos:String} {af:Array Edge} {h:HVal}
theorem zoQ [Tracks] (i:Nat) {j:Nat} {want c:Bool} (hi:ops[i]? =some ⟨some d,op,ty,pos,af,some (j,want)⟩) (hd:Nat.blt d n=true) (hf:Region.free .any ops listed i=true) (hr:(Region.ready .any ops listed).contains i=true) (hl:i∈ld) (hS:S M)
 (hg:zdt ops e j want=some c) (hp:c=true->∃e2,OpenTo e e2/\∀M,S M->EOp P e2 M ⟨some d,op,ty,pos,af,some (j,want)⟩ fun x M'=>x=h/\M'=M)
 (k:HAny P ops n S ld K fuel (listed.setIfInBounds i true) (upd e d (.opt c h)) M):HAny P ops n S ld K (fuel+1) listed e M:=
 HAny.first (T:=S) hi (fun t ht=>by simp at ht;subst ht;exact zfo hd) (.inr ⟨rfl,hl⟩) fuel listed e M (Region.free_spec hi hf) (by simpa using hr)
  ⟨c,hg,fun hc M hM=>by
   obtain ⟨e2,h1,h2⟩:=hp hc
   intro I F a w ho hs
   exact zaW (fun _ _ ⟨v,x,M',J,h3,h4,⟨e1,e3⟩,h5,h6⟩=>⟨v,.opt c h,M,J,h3,h4,⟨rfl,rfl⟩,.opt (fun _=>e1▸h5) (fun hf=>by rw [hc] at hf;cases hf),e3▸h6⟩) (h2 M hM I F a w (ho.open h1) hs),
   fun hc=>⟨h,by rw [hc]⟩⟩ hS k
end
theorem zBa {x:Nat} (h:x<16):IntKind.wrap .u8 (x:Int)=(x:Int):=by
 have:(List.range 16).all (fun x=>IntKind.wrap .u8 (x:Int)==(x:Int))=true:=by decide
 simpa using List.all_eq_true.1 this x (List.mem_range.2 h)
theorem zyj {x:Nat} (h:x<16):IntKind.wrap .u64 (x:Int)=(x:Int):=by
 have:(List.range 16).all (fun x=>IntKind.wrap .u64 (x:Int)==(x:Int))=true:=by decide
 simpa using List.all_eq_true.1 this x (List.mem_range.2 h)
theorem zN {k:IntKind} {a b:Int} (h:a=b):some (HVal.int k a)=some (.int k b):=by rw [h]
section
variable {α:Type} {c:α->α->Int}
theorem zjS (l:List α):zal c (l.take 1)++l.drop 1=l:=by
 cases l with
 |nil=>rfl
 |cons x r=>simp [zal,zcM,zkR]
theorem zfc {A R:List α} {x:α}:(A++x::R)[A.length]? =some x:=by simp
theorem zgf {A R:List α} {x:α} (h:0<A.length):(A++x::R)[A.length-1]? =some ((A[A.length-1]?).getD x):=by
 rw [Aq (by omega),Aa (by omega)]
 simp [Aa (show A.length-1<A.length by omega)]
theorem zmP {A:List α} (h:0<A.length): ∃B y,A=B++[y]:=by
 have hne:A≠[]:=fun e=>by subst e;simp at h
 exact ⟨_,_,(Bj hne).symm⟩
theorem zhl {A:List α} {y d:α}:((A++[y])[(A++[y]).length-1]?).getD d=y:=by simp
theorem znD {A R:List α} {x y:α}:(((A++[y])++x::R).set (A++[y]).length y).set ((A++[y]).length-1) x=A++x::y::R:=by
 have e1:((A++[y])++x::R).set (A++[y]).length y=(A++[y])++y::R:=by rw [Ca _ _ (Ae _)];simp
 rw [e1,AT];have e2:(A++[y]).length-1=A.length:=by simp
 rw [e2,Ca _ _ (Ae _)]
 simp
theorem znv {l A B:List α} {x:α} {k:Nat} (hx:l[k]? =some x) (hB:zcM c x (zal c (l.take k))=zcM c x A++B) (h:0<A.length->¬c x ((A[A.length-1]?).getD x)<0):A++x::(B++l.drop (k+1))=zal c (l.take (k+1))++l.drop (k+1):=by
 rw [zaj hx,zoi,hB]
 rcases A0 A.length with h0|h0
 obtain rfl:=List.length_eq_zero_iff.1 h0
 simp [zvL]
 obtain ⟨A',y,rfl⟩:=zmP h0;have:=h h0;rw [zhl] at this;rw [zpS,if_neg this];simp
theorem znw {A B:List α} {x y:α} {S:List α} (hB:zcM c x S=zcM c x (A++[y])++B) (h:c x y<0):zcM c x S=zcM c x A++(y::B):=by
 rw [hB,zpS,if_pos h];simp
end
end Go.HL
namespace Go.HL
section
variable {α:Type} {p:α->Bool}
structure DelInv (p:α->Bool) (l:List α) (j:Nat) (D:List α):Prop where
 len:D.length=l.length
 jle:j<=l.length
 lt:((l.take j).filter (fun x=> !p x)).length<j
 kept:D.take ((l.take j).filter (fun x=> !p x)).length=(l.take j).filter (fun x=> !p x)
 rest:D.drop j=l.drop j
theorem zjO {l:List α} {j:Nat} {x:α} (hx:l[j]? =some x):(l.take (j+1)).filter (fun x=> !p x)=(l.take j).filter (fun x=> !p x)++if p x then [] else [x]:=by
 rw [zaj hx,Bn]
 by_cases h:p x<;>simp [h]
theorem DelInv.get {l D:List α} {j:Nat} {x:α} (h:DelInv p l j D) (hx:l[j]? =some x):D[j]? =some x:=by
 have h1:=congrArg (fun t=>t[0]?) h.rest;simp only [AJ,Bz] at h1;rw [h1];exact hx
theorem DelInv.drop1 {l D:List α} {j:Nat} (h:DelInv p l j D):D.drop (j+1)=l.drop (j+1):=by
 have:=congrArg (List.drop 1) h.rest
 simpa [Bu] using this
theorem DelInv.skip {l D:List α} {j:Nat} {x:α} (h:DelInv p l j D) (hx:l[j]? =some x) (hp:p x=true):DelInv p l (j+1) D/\((l.take (j+1)).filter (fun x=> !p x)).length=((l.take j).filter (fun x=> !p x)).length:=by
 have e:=zjO (p:=p) hx;rw [if_pos hp,A9] at e;refine ⟨⟨h.len,by have:=zl hx;omega,by rw [e];have:=h.lt;omega,by rw [e];exact h.kept,h.drop1⟩,by rw [e]⟩
theorem DelInv.keep {l D:List α} {j:Nat} {x:α} (h:DelInv p l j D) (hx:l[j]? =some x) (hp:p x=false):
 DelInv p l (j+1) (D.set ((l.take j).filter (fun x=> !p x)).length x)/\((l.take (j+1)).filter (fun x=> !p x)).length=((l.take j).filter (fun x=> !p x)).length+1:=by
 have e:=zjO (p:=p) hx;rw [if_neg (by simp [hp])] at e;have hlt:=h.lt;have hj:=zl hx;have hl:=h.len;have el:((l.take (j+1)).filter (fun x=> !p x)).length=((l.take j).filter (fun x=> !p x)).length+1:=by rw [e];simp
 refine ⟨⟨by simp [hl],by omega,by omega,?_,?_⟩,el⟩
 rw [el,e];have hk:=h.kept
 generalize ((l.take j).filter (fun x=> !p x))=F at*
 rw [zaj (Bl (by omega)),List.take_set_of_le (Ae _),hk];rw [List.drop_set_of_lt (by omega)];exact h.drop1
theorem zhS (p:α->Bool): ∀(l:List α) (k:Int),0<=k->zab p l k≠ -1->∃i:Nat,zab p l k=k+i/\i<l.length/\(∃x,l[i]? =some x/\p x=true)/\∀y∈l.take i,p y=false
 |[],k,_,h=>by simp [zab] at h
 |x::r,k,h0,h=>by
   by_cases hx:p x=true
   exact ⟨0,by simp [zab,hx],by simp,⟨x,rfl,hx⟩,by simp⟩;have e:zab p (x::r) k=zab p r (k+1):=by simp [zab,hx]
   rw [e] at h⊢;obtain ⟨i,h1,h2,⟨y,h3,h4⟩,h5⟩:=zhS p r (k+1) (by omega) h;refine ⟨i+1,by rw [h1];simp;omega,by simp;omega,⟨y,by simpa using h3,h4⟩,fun z hz=> ?_⟩
   simp only [BR,BD] at hz
   rcases hz with rfl|hz
   simpa using hx
   exact h5 z hz
theorem zjg (p:α->Bool): ∀(l:List α) (k:Int),0<=k->zab p l k= -1->l.filter (fun x=> !p x)=l
 |[],_,_,_=>rfl
 |x::r,k,h0,h=>by
   by_cases hx:p x=true
   simp [zab,hx] at h;omega
   have e:zab p (x::r) k=zab p r (k+1):=by simp [zab,hx]
   rw [e] at h;rw [AW,if_pos (by simp [hx]),zjg p r (k+1) (by omega) h]
theorem DelInv.start {l:List α} {i:Nat} {x:α} (hi:i<l.length) (hx:l[i]? =some x) (hp:p x=true) (hb: ∀y∈l.take i,p y=false):DelInv p l (i+1) l/\((l.take (i+1)).filter (fun x=> !p x)).length=i:=by
 have e:=zjO (p:=p) hx;rw [if_pos hp,A9,(List.filter_eq_self (l:=l.take i) (p:=fun x=> !p x)).2 (fun y hy=>by simp [hb y hy])] at e;have hl:(l.take i).length=i:=by simp;omega
 refine ⟨⟨rfl,by omega,by rw [e];omega,by rw [e,hl],rfl⟩,by rw [e,hl]⟩
theorem DelInv.done {l D:List α} (h:DelInv p l l.length D):D.take (l.filter (fun x=> !p x)).length=l.filter (fun x=> !p x):=by
 have:=h.kept
 rwa [An] at this
end
theorem ziU {cap off sz m n:Nat} (h1:m<=n) (h2:n<=cap):n-m=0\/zg0 cap off sz m=off+m*sz:=by
 unfold zg0
 by_cases h:cap=m
 exact .inl (by omega);exact .inr (by rw [if_neg h])
end Go.HL
namespace Go.HL
end Go.HL
end
namespace Go.HL
section
section
variable {α:Type} {c:α->α->Int}
def Blk (c:α->α->Int) (bs:Nat) (l:List α):Prop:= ∀q,Srt c ((l.drop (bs*q)).take bs)
theorem Blk.all {bs:Nat} {l:List α} (h:Blk c bs l) (hl:l.length<=bs):Srt c l:=by
 have:=h 0;rw [Nat.mul_zero,BY,Bm hl] at this;exact this
theorem Blk.nil {bs:Nat}:Blk c bs []:=fun q=>by simp [Srt.nil]
theorem Blk.add {bs k:Nat} {Z W:List α} (h:Blk c bs Z) (hZ:Z.length=bs*k) (hW:Srt c W) (hl:W.length<=bs):Blk c bs (Z++W):=by
 intro q
 rcases BJ q k with hq|hq|hq
 have h1:bs*q+bs<=Z.length:=by rw [hZ,<-Nat.mul_succ];exact Nat.mul_le_mul_left bs hq
 rw [List.drop_append_of_le_length (by omega),List.take_append_of_le_length (by rw [Bd];omega)];exact h q;rw [hq,<-hZ,List.drop_left,Bm hl];exact hW;have h1:Z.length+bs<=bs*q:=by rw [hZ,<-Nat.mul_succ];exact Nat.mul_le_mul_left bs hq
 rw [List.drop_of_length_le (by rw [AA];omega)]
 simp [Srt.nil]
theorem Blk.at {bs q a:Nat} {l:List α} (h:Blk c bs l) (ha:a=bs*q):Srt c ((l.drop a).take bs):=by rw [ha];exact h q
theorem zvO {A D:List α} {x:α} (h:0<D.length):((A++D)[(A++D).length-1]?).getD x=(D[D.length-1]?).getD x:=by
 rw [Ap (by rw [AA];omega)]
 congr 2;rw [AA];omega
theorem zmg {A D:List α} {x:α} (h:0<D.length):((A++D)[A.length+D.length-1]?).getD x=(D[D.length-1]?).getD x:=by
 have:=zvO (A:=A) (x:=x) h;rw [AA] at this;exact this
theorem zrA {A D:List α} {x y:α}:((A++(D++[y]))[A.length+(D++[y]).length-1]?).getD x=y:=by
 rw [zmg (by simp)];exact zhl
theorem zkT {A D R:List α} {x y:α}:((A++(D++[y]))++x::R)[(A++(D++[y])).length-1]? =some y:=by
 have e:(A++(D++[y]))++x::R=(A++D)++y::x::R:=by simp
 have hl:(A++(D++[y])).length-1=(A++D).length:=by simp [<-AZ]
 rw [e,hl];simp
theorem zsM {A D B E C R:List α} {x:α} (h:D++x::(B++E)=R):(A++D)++x::(B++E++C)=A++R++C:=by rw [<-h];simp
theorem zji (hc:Cmp c fun _=>True) (l:List α):Srt c (zal c l):=ziM hc (fun _ _=>trivial)
theorem win {l:List α} {a m:Nat}:l.drop a=(l.drop a).take m++l.drop (a+m):=by rw [<-Bu,Bf]
theorem zqf {l:List α} {a m:Nat}:l.take (a+m)=l.take a++(l.drop a).take m:=List.take_add
end
end
section
section
variable {α:Type} [DecidableEq α]
def zX (p:Option α):List α->List α
 |[]=>[]
 |x::r=>if p=some x then zX (some x) r else x::zX (some x) r
theorem zmh: ∀(l:List α) (p:Option α) (s:α),s∈zX p l->s∈l
 |[],_,s,h=>by simp [zX] at h
 |x::r,p,s,h=>by
   simp only [zX] at h
   split at h
   exact Au _ (zmh r _ s h)
   rcases List.mem_cons.1 h with h|h
   subst h;simp;exact Au _ (zmh r _ s h)
theorem zoM (x:α): ∀(A:List α) (p:Option α),zX p (A++[x])=zX p A++if (A.getLast?.or p)=some x then [] else [x]
 |[],p=>by
   by_cases h:p=some x<;>simp [zX,h]
 |y::A,p=>by
   have ih:=zoM x A (some y);have e:((y::A).getLast?.or p)=(A.getLast?.or (some y)):=by
    cases A with
    |nil=>simp
    |cons z A=>simp [List.getLast?_cons_cons,List.getLast?_cons]
   simp only [AY,zX];rw [e,ih]
   split<;>simp
theorem zic {l:List α} {k:Nat} {x y:α} (hx:l[k]? =some x) (hy:l[k-1]? =some y) (h0:0<k):zX none (l.take (k+1))=zX none (l.take k)++if x=y then [] else [x]:=by
 have hk:=zl hx;rw [zaj hx,zoM];have e:((l.take k).getLast?.or none)=some y:=by
  rw [List.getLast?_eq_getElem?,AD,Ce (by omega),AC (by omega),hy];rfl
 rw [e]
 by_cases h:x=y
 rw [if_pos h,if_pos (by rw [h])];rw [if_neg h,if_neg (by simpa using fun q:y=x=>h q.symm)]
theorem zqh {l:List α} (h:l.length<2):zX none l=l:=by
 match l,h with
 |[],_=>rfl
 |[x],_=>rfl
structure CmpA (l:List α) (j:Nat) (D:List α):Prop where
 len:D.length=l.length
 lo:D.take (zX none (l.take j)).length=zX none (l.take j)
 lt:(zX none (l.take j)).length<j
 hi: ∀i,j<=i+1->D[i]? =l[i]?
theorem CmpA.start {l:List α} {k:Nat} {x y:α} (hx:l[k]? =some x) (hy:l[k-1]? =some y) (h0:0<k) (e:x=y) (h:zX none (l.take k)=l.take k):CmpA l (k+1) l/\(zX none (l.take (k+1))).length=k:=by
 have hk:=zl hx;have h1:zX none (l.take (k+1))=l.take k:=by rw [zic hx hy h0,if_pos e,h];simp
 have h2:(l.take k).length=k:=by rw [AD];omega
 exact ⟨⟨rfl,by rw [h1,h2],by rw [h1,h2];omega,fun _ _=>rfl⟩,by rw [h1,h2]⟩
theorem CmpA.same {l D:List α} {j:Nat} (h:CmpA l j D) {x y:α} (hx:l[j]? =some x) (hy:l[j-1]? =some y) (e:x=y):CmpA l (j+1) D/\(zX none (l.take (j+1))).length=(zX none (l.take j)).length:=by
 have h0:=h.lt;have h1:zX none (l.take (j+1))=zX none (l.take j):=by rw [zic hx hy (by omega),if_pos e];simp
 exact ⟨⟨h.len,by rw [h1];exact h.lo,by rw [h1];omega,fun i hi=>h.hi i (by omega)⟩,by rw [h1]⟩
theorem CmpA.more {l D:List α} {j:Nat} (h:CmpA l j D) {x y:α} (hx:l[j]? =some x) (hy:l[j-1]? =some y) (e:x≠y):CmpA l (j+1) (D.set (zX none (l.take j)).length x)/\(zX none (l.take (j+1))).length=(zX none (l.take j)).length+1:=by
 have h0:=h.lt;have hl:=h.len;have hj:=zl hx;have h1:zX none (l.take (j+1))=zX none (l.take j)++[x]:=by rw [zic hx hy (by omega),if_neg e]
 have h2:(zX none (l.take (j+1))).length=(zX none (l.take j)).length+1:=by rw [h1];simp
 refine ⟨⟨by simpa using hl,?_,by omega,fun i hi=> ?_⟩,h2⟩
 rw [h2,h1];have h3:(D.set (zX none (l.take j)).length x)[(zX none (l.take j)).length]? =some x:=by
  rw [Bl (by omega)]
 rw [zaj h3,List.take_set_of_le (Ae _),h.lo];rw [A2 (by omega)];exact h.hi i (by omega)
theorem zqg: ∀(l:List α) (p:Option α),(zX p l).length<=l.length
 |[],p=>by simp [zX]
 |x::r,p=>by
   have:=zqg r (some x);simp only [zX]
   split
   simp only [Ai];omega;simp only [Ai];omega
theorem zqb {cap off sz m:Nat} (h:m<cap):zg0 cap off sz m=off+m*sz:=by
 unfold zg0;rw [if_neg (by omega)]
/-! two lists without repeats,each strictly sorted-/
variable {c:α->α->Int}
end
end
end Go.HL
section
namespace Go.HL
theorem zr1 (a b:List Asset):zdV (a++b)=zdV a+zdV b:=by simp [zdV]
theorem zps: ∀{L:List Asset},(∀x∈L,-1000000<=x.Value/\x.Value<=1000000)-> -1000000*(L.length:Int)<=zdV L/\zdV L<=1000000*(L.length:Int)
 |[],_=>by simp [zdV]
 |x::L,h=>by
   have ih:=zps (L:=L) fun y hy=>h y (Au _ hy)
   have hx:=h x (by simp);have e:zdV (x::L)=x.Value+zdV L:=by simp [zdV]
   rw [e,Ai];omega
theorem zok {l:List Asset} {pos:Str} {m:Int} {y:Asset} (h:y∈zed (ofP l pos) m):y∈l:=by
 unfold zed at h;have h1:=AR (List.mem_filter.1 h).1;unfold ofP zf2 at h1;exact (List.mem_filter.1 ((zmd byValue).1 h1)).1
theorem ztw (o:List Asset) (m:Int):(zed o m).length<=o.length:=by
 unfold zed;refine Ay (AU _ _) ?_
 simp;omega
theorem zlj (f:Str->List Asset) {p:List Place} {i:Nat} {x:Place} (h:p[i]? =some x):zat f (p.take (i+1))=zat f (p.take i)++zed (f x.Position) x.Many:=by
 rw [zaj h];simp [zat]
theorem zl4 {f:Str->List Asset} {n:Nat} (hf: ∀s,(f s).length<=n): ∀p:List Place,(zat f p).length<=n*p.length
 |[]=>by simp [zat]
 |x::p=>by
   have ih:=zl4 hf p;have h1:=ztw (f x.Position) x.Many;have h2:=hf x.Position;have e:zat f (x::p)=zed (f x.Position) x.Many++zat f p:=by simp [zat]
   rw [e,AA,Ai,Nat.mul_succ];omega
theorem zrE {f:Str->List Asset} {l:List Asset} (hf: ∀s m y,y∈zed (f s) m->y∈l) {p:List Place} {y:Asset} (h:y∈zat f p):y∈l:=by
 unfold zat at h;obtain ⟨x,_,hx⟩:=List.mem_flatMap.1 h;exact hf _ _ y hx
theorem zru {f:Str->List Asset} {l:List Asset} {p:List Place} {i:Nat} (hf: ∀s m y,y∈zed (f s) m->y∈l) (hn: ∀s,(f s).length<=12) (hp:p.length<=10) (hv: ∀x∈l,-1000000<=x.Value/\x.Value<=1000000):
 (zat f (p.take i)).length<=120/\ -120000000<=zdV (zat f (p.take i))/\zdV (zat f (p.take i))<=120000000:=by
 have h1:=zl4 hn (p.take i);have h2:(p.take i).length<=10:=by simp;omega
 have h3:=zps (L:=zat f (p.take i)) fun y hy=>hv y (zrE hf hy)
 have h4:(zat f (p.take i)).length<=120:=by omega
 omega
theorem zyL {C l:List Asset} {k:Nat} (hC: ∀y∈C,y∈l) (hn:C.length<=12) (hv: ∀x∈l,-1000000<=x.Value/\x.Value<=1000000):
 ((C.take k).filter (fun y=>decide (0<y.Value))).length<=12/\ -12000000<=zdV ((C.take k).filter (fun y=>decide (0<y.Value)))/\zdV ((C.take k).filter (fun y=>decide (0<y.Value)))<=12000000:=by
 have h1:=AU (fun y:Asset=>decide (0<y.Value)) (C.take k);have h2:(C.take k).length<=12:=by simp;omega
 have h3:=zps (L:=(C.take k).filter (fun y=>decide (0<y.Value))) fun y hy=>hv y (hC y (AR (List.mem_filter.1 hy).1))
 omega
theorem zk0 {C:List Asset} {k:Nat} {y:Asset} (h:C[k]? =some y):(C.take (k+1)).filter (fun y=>decide (0<y.Value))=(C.take k).filter (fun y=>decide (0<y.Value))++if 0<y.Value then [y] else []:=by
 rw [zaj h,Bn]
 by_cases hy:0<y.Value<;>simp [hy]
theorem zpB {o:List Asset} {m:Int} {N:Nat} (hN:(if (o.length:Int)<m then (o.length:Int) else m)=(N:Int)):zed o m=((o.take N).drop 0).filter (fun y=>decide (0<y.Value)):=by
 unfold zed;have:(min m (o.length:Int)).toNat=N:=by split at hN<;>omega
 rw [this,BY]
def zjU (l:List Asset) (p:List Place):Int:=orI [zcR l,zcS p]
theorem zxR {l:List Asset} {p:List Place} (h:zjU l p=0):zcR l=0/\zcS p=0:=zvV h
def zt2 (l:List Asset) (p:List Place):Int:=zdV (zat (ofP l) p)
end Go.HL
namespace Go.HL
end Go.HL
namespace Go.HL
end Go.HL
end
namespace Go.HL
section
structure GL (α:Type) where
 u:Value
 out:List α
 a:Nat
structure GLok {α:Type} (P:α->Prop) (n m:Nat) (q:GL α):Prop where
 len:q.out.length<=n
 all: ∀x∈q.out,P x
 a:q.a<=m
section
variable {α:Type} {P:α->Prop}
theorem GLok.add {n m m':Nat} {u u':Value} {out:List α} {a1 a2:Nat} {x:α} (h:GLok P n m ⟨u,out,a1⟩) (hx:P x) (ha:a2<=m'):GLok P (n+1) m' ⟨u',out++[x],a2⟩:=
 ⟨by have:=h.len;simp at*;omega,fun y hy=>by
  rcases List.mem_append.1 hy with hy|hy
  exact h.all y hy
  simp at hy;subst hy;exact hx,ha⟩
theorem GLok.same {n m m':Nat} {u:Value} {out:List α} {a1 a2:Nat} (h:GLok P n m ⟨u,out,a1⟩) (ha:a2<=m'):GLok P (n+1) m' ⟨u,out,a2⟩:=
 ⟨by have:=h.len;dsimp only at*;omega,h.all,ha⟩
theorem zei {l:List α} {j:Nat} {y:α} (h: ∀x∈l,P x) (hy:P y): ∀x∈l.set j y,P x:=fun x hx=>by
 rcases ztN hx with rfl|hx
 exact hy;exact h x hx
end
theorem zoq:Sh []:=by simp [Sh]
def zg3:Asset:=⟨[97],[103,107],5⟩
def zke:Place:=⟨[103,107],1⟩
theorem zyI:zjU [zg3] [zke]=0:=by kernel_rfl
theorem zrK:zat (ofP [zg3]) [zke]=[zg3]:=by kernel_rfl
theorem zxS:zt2 [zg3] [zke]=5:=by unfold zt2;rw [zrK];rfl
theorem zu0:zoo (zat (ofP [zg3]) [zke])=[[97]]:=by rw [zrK];simp [zoo,za8,zg3]
end
section
structure PairS where
 Name:Str
 Val:Str
abbrev zga (x:PairS):HVal:= .agg [.str x.Name,.str x.Val]
abbrev zn4 (l:List PairS):HVal:= .slice 2 (l.map zga)
end
section

end
section
open Op (bytesLess)
end
section

end
section

end
section

end
section

end
section

end
section
def zl3 {α:Type} (e:α->HVal) (a b:α):Bool:=zeL (zb (e a)) (zb (e b))
end
section
section
variable {α:Type} [DecidableEq α]
end
theorem zrn [Tracks] {P:Program} {f:FuncId} {hargs:List HVal} {v:Value} {sz:Nat} {es:List HVal} {Q:HVal->List MObj->Prop} (h0:v= .slice none 0 0->es=[]->Con P f hargs [.arr v sz es] Q)
 (h1: ∀b off cap,v= .slice (some ⟨b,off,none⟩) es.length cap->Con P f hargs [.arr v sz es] Q):Con P f hargs [.arr v sz es] Q:=fun I F w args ha hs=>by
 rcases hs.obj (.arr v sz es) (by simp) with ⟨g1,g2⟩|⟨b,off,cap,rc,el,fr,g1,_⟩
 exact h0 g1 g2 I F w args ha hs;exact h1 b off cap g1 I F w args ha hs
end
section
def zqT:Room:=⟨[[97],[98]],2,2,[[112],[113],[114],[115]],1000,0⟩
theorem zwe:zcm zqT []=0:=by kernel_rfl
theorem zst:zju zqT []=[[97],[98],[98],[97]]:=by kernel_rfl
end
section
def zmG:Str:=[103,111,97,108]
def zmM:Play:=⟨[115],1,0,1,[109],[112],zmG,2,0⟩
def ztL:LineS:=⟨[112],1,[⟨zmG,2⟩]⟩
theorem zrV:zeP [zmM] [[115]] 1 5 [zmM]=⟨[[112]],[(([112],zmG),2)]⟩:=by kernel_rfl
theorem zrW:orI [zb7 [zmM],zcf [[115]]]=0:=by kernel_rfl
theorem zoy:zhQ [(([112],zmG),2)] [[112]]=false:=by kernel_rfl
theorem zss:zgT [(([112],zmG),2)] [112]=[⟨zmG,2⟩]:=by kernel_rfl
theorem zya:zjY [zmM] [[115]] 1 5=0:=by
 rw [zjY,zrW,if_neg (by decide),if_neg (by decide),zrC,zrV,zif,zoy];rfl
theorem zyb:zjZ [zmM] [[115]] 1 5=[ztL]:=by
 rw [zjZ,zrW,if_neg (by decide),if_neg (by decide),zrD,zrV,zig,zoy,if_neg (by decide)]
 simp [za8,zss,ztL]
end
section

end
section
theorem Cmp.lt_trans {α:Type} {c:α->α->Int} {s:α->Prop} (h:Cmp c s) {x y z:α} (hx:s x) (hy:s y) (hz:s z) (h1:c x y<0) (h2:c y z<0):c x z<0:=by
 rcases Int.lt_or_le (c x z) 0 with q|q
 exact q
 exfalso
 have a1:=h.flip y z hy hz;have a2:=h.flip z x hz hx;have hzx:c z x<=0:=by
  rcases Int.lt_or_le 0 (c z x) with r|r
  have:=h.flip x z hx hz;omega;exact r
 have:=h.trans z x y hz hx hy hzx (by omega)
 omega
theorem zpA (x y:Play):byNo x y= -byNo y x:=by
 unfold byNo;rw [zjd,zeI x.Source,zrL]
theorem zqw {a b c:Str} (h1:zU a b<=0) (h2:zU b c<=0) (h:zU a c=0):zU a b=0/\zU b c=0:=by
 have e:=zcq.1 h;subst e;rw [zeI b a] at*
 omega
end
section
def zcn {κ:Type} (c:List ((Str×κ)×Int)) (s:Str):List (κ×Int):=(c.filter fun e=>e.1.1==s).map fun e=>(e.1.2,e.2)
theorem zpR {κ:Type} [DecidableEq κ] (s:Str) (st:κ) (v:Int) (s':Str): ∀c:List ((Str×κ)×Int),zcn (zA (s,st) v c) s'=if s'=s then zA st v (zcn c s) else zcn c s'
 |[]=>by
   by_cases e:s'=s
   subst e;simp [zcn,zA];have: ¬s=s':=fun q=>e q.symm
   simp [zcn,zA,e,this]
 |p::r=>by
   have ih:=zpR s st v s' r;obtain ⟨⟨a,b⟩,w⟩:=p;simp only [zA,Prod.mk.injEq]
   by_cases h1:s=a
   subst h1
   by_cases h2:st=b
   subst h2;rw [if_pos ⟨rfl,rfl⟩]
   by_cases e:s'=s
   subst e;simp [zcn,zA];have: ¬s=s':=fun q=>e q.symm
   simp [zcn,e,this]
   rw [if_neg (fun q=>h2 q.2)]
   by_cases e:s'=s
   subst e;rw [if_pos rfl] at ih⊢;simp only [zcn,AW,beq_self_eq_true,if_true,Ar,zA,if_neg h2] at ih⊢;rw [ih];have: ¬s=s':=fun q=>e q.symm
   rw [if_neg e] at ih⊢;simp only [zcn,AW,beq_iff_eq,if_neg this] at ih⊢;exact ih;rw [if_neg (fun q=>h1 q.1)]
   by_cases e:s'=s
   subst e;have: ¬a=s':=fun q=>h1 q.symm
   rw [if_pos rfl] at ih⊢;simp only [zcn,AW,beq_iff_eq,if_neg this] at ih⊢;exact ih;rw [if_neg e] at ih⊢
   by_cases h3:a=s'
   simp only [zcn,AW,beq_iff_eq,if_pos h3,Ar] at ih⊢;rw [ih];simp only [zcn,AW,beq_iff_eq,if_neg h3] at ih⊢;exact ih
theorem zpQ {κ:Type} [DecidableEq κ] (s:Str) (st:κ): ∀c:List ((Str×κ)×Int),alk st (zcn c s)=alk (s,st) c
 |[]=>rfl
 |⟨⟨a,b⟩,w⟩::r=>by
   have ih:=zpQ s st r
   by_cases h:a=s
   subst h;simp only [zcn,AW,beq_self_eq_true,if_true,Ar,alk,Prod.mk.injEq,true_and] at ih⊢;rw [ih];have: ¬s=a:=fun q=>h q.symm
   simp only [zcn,AW,beq_iff_eq,if_neg h,alk,Prod.mk.injEq,this,false_and,if_false] at ih⊢;exact ih
def zoG (E:List (Str×Int)):List StatS:=zal zey ((E.filter fun e=>e.2 !=0).map fun e=>⟨e.1,e.2⟩)
end
section
theorem zx7 {l:List Str} {s:Str} (hs:SortedS l) (h:l.contains s=true):l[zdb l s]? =some s/\∀(j:Nat) (z:Str),j<zdb l s->l[j]? =some z->z≠s:=by
 obtain ⟨k,hk,e⟩:=A4 (by simpa using h);have hk':l[k]? =some s:=by rw [Aa hk,e]
 have hp:zdb l s=k:=zmO (by omega) (fun j x hj hx=>hs.get hj hx hk') (fun j x hj hx=>by
  rcases Nat.lt_or_eq_of_le hj with q|q
  exact zbL (hs.get q hk' hx);subst q;rw [hk'] at hx;cases hx;exact zar _)
 rw [hp];refine ⟨hk',fun j z hj hz e2=> ?_⟩
 have:=hs.get hj hz hk';rw [e2,zar] at this;cases this
/-! as a walk tells it-/
section
variable {α:Type} {f:α->Int} {c:α->α->Int} {d:α} {l r:List α} {k:Nat} {x:α} {e:Int}
end
theorem zo7 {a b:Str}:zU a b<0↔Op.bytesLess a b=true:=by
 have h1:=zeI a b
 constructor
 intro h
 rcases zb4 a b with q|q|q
 exact q;rw [zcq.2 q] at h;omega;have:=zmD.2 (zbL q);omega
 intro h
 have h2: ¬zU a b=0:=fun e=>by rw [zcq.1 e,zar] at h;cases h
 have h3:=zmD.2 (zbL h)
 omega
end
section
open Op
theorem zpr {l:List Str} (h: ∀(j:Nat) (x y:Str),l[j]? =some x->l[j+1]? =some y->bytesLess x y=true):SortedS l:=by
 have key: ∀(d i:Nat) (a b:Str),l[i]? =some a->l[i+d+1]? =some b->bytesLess a b=true:=by
  intro d
  induction d with
  |zero=>intro i a b ha hb;exact h i a b ha hb
  |succ d ih=>
    intro i a b ha hb
    have hl:=zl hb;obtain ⟨c,hc⟩: ∃c,l[i+d+1]? =some c:=⟨_,Aa (by omega)⟩
    exact zdv (ih i a c ha hc) (h (i+d+1) c b hc (by rw [<-hb];congr 1))
 refine List.pairwise_iff_getElem.2 fun i j hi hj hij=> ?_
 exact key (j-i-1) i _ _ (Aa hi) (by rw [show i+(j-i-1)+1=j by omega];exact Aa hj)
end
section
/-! sets of numbers as bits-/
abbrev zyH:Int:= -1000
inductive WayB (al:Nat->Nat->Bool) (can:List (List Nat)) (fr:Nat) (g:List Nat):List Nat->Int->Prop
 |nil:WayB al can fr g [] 0
 |snoc {q:List Nat} {c:Int} {k:Nat} (h:WayB al can fr g q c) (hk:k∈(fr+q.length)::can.getD (fr+q.length) []) (ha:al (fr+q.length) k=true) (hn:k∉g++q):
    WayB al can fr g (q++[k]) (c+if k=fr+q.length then 0 else 1)
theorem WayB.bd {al:Nat->Nat->Bool} {can:List (List Nat)} {fr:Nat} {g q:List Nat} {c:Int} (h:WayB al can fr g q c):0<=c/\c<=q.length:=by
 induction h with
 |nil=>simp
 |snoc h hk ha hn ih=>rw [AA,B9];split<;>omega
structure CanOk (can:List (List Nat)):Prop where
 lt: ∀i,∀k∈can.getD i [],k<can.length
 ne: ∀i,i∉can.getD i []
 len:can.length<=14
section
variable {al:Nat->Nat->Bool} {can:List (List Nat)} {fr:Nat} {g:List Nat}
theorem WayB.lt {q:List Nat} {c:Int} (hc:CanOk can) (h:WayB al can fr g q c) (hl:fr+q.length<=can.length): ∀k∈q,k<can.length:=by
 induction h with
 |nil=>simp
 |snoc h hk ha hn ih=>
   rw [AA,B9] at hl
   intro k hm
   rcases List.mem_append.1 hm with hm|hm
   exact ih (by omega) k hm;rw [List.mem_singleton.1 hm]
   rcases List.mem_cons.1 hk with e|e
   omega
   exact hc.lt _ _ e
theorem WayB.nodup {q:List Nat} {c:Int} (hg:g.Nodup) (h:WayB al can fr g q c):(g++q).Nodup:=by
 induction h with
 |nil=>simpa using hg
 |snoc h hk ha hn ih=>
   rw [<-AT];refine List.nodup_append.2 ⟨ih,by simp,fun a ha b hb=> ?_⟩
   rw [List.mem_singleton.1 hb];exact fun e=>hn (e▸ha)
end
end
section
/-! ways by their heads-/
section
variable {al:Nat->Nat->Bool} {can:List (List Nat)}
end
end
section
def zAM (S:List Bool) (i:Nat):Int:=if S.getD i false=true then 0 else 1
def cS (S:List Bool):Nat->Nat->Int
 |_,0=>0
 |fr,m+1=>zAM S fr+cS S (fr+1) m
section
variable {can:List (List Nat)} {S:List Bool}
end
end
section
def BdB (m:Int) (l:List Int):Prop:= ∀t,l.getD t 0=zyH\/(0<=l.getD t 0/\l.getD t 0<=m)
theorem BdB.mono {m m':Int} {l:List Int} (h:BdB m l) (hm:m<=m'):BdB m' l:=fun t=>by
 rcases h t with e|e
 exact .inl e;exact .inr ⟨e.1,by omega⟩
end
section
open Op
end
section
open Go
section
variable {P:Program} {e:Env} {dst:Option Tmp} {ty:TypeId} {pos:String} {af:Array Edge} {g:Option (Nat×Bool)} {M:List MObj} {K:HVal->List MObj->Prop}
def zcb {α:Type} (x:Str):List (Str×α)->List (Str×α)
 |[]=>[]
 |p::r=>if x=p.1 then r else p::zcb x r
theorem zp8 {s:Str}: ∀{l:List (Str×HVal)},(∀j h,zS s l=some (j,h)->zcb s l=l.eraseIdx j)/\(zS s l=none->zcb s l=l)
 |[]=>⟨fun j h hh=>by simp [zS] at hh,fun _=>rfl⟩
 |(k,x)::r=>by
   obtain ⟨h1,h2⟩:=zp8 (s:=s) (l:=r)
   by_cases hk:s=k
   refine ⟨fun j h hh=> ?_,fun hh=> ?_⟩
   simp [zS,hk] at hh;rw [<-hh.1];simp [zcb,hk]
   simp [zS,hk] at hh
   refine ⟨fun j h hh=> ?_,fun hh=> ?_⟩
   simp only [zS,if_neg hk] at hh
   cases hr:zS s r with
   |none=>rw [hr] at hh;simp at hh
   |some p=>
     rw [hr] at hh
     simp at hh
     rw [<-hh.1,zcb,if_neg hk,h1 p.1 p.2 hr];rfl
   simp only [zS,if_neg hk] at hh
   cases hr:zS s r with
   |none=>rw [zcb,if_neg hk,h2 hr]
   |some p=>rw [hr] at hh;simp at hh
theorem zsw {α:Type} {f:α->HVal} {s:Str}: ∀L:List (Str×α),zcb s (em f L)=em f (zcb s L)
 |[]=>rfl
 |p::r=>by
   have ih:=zsw (f:=f) (s:=s) r;simp only [Ar,zcb] at ih⊢
   by_cases h:s=p.1
   rw [if_pos h,if_pos h];rw [if_neg h,if_neg h,ih];rfl
theorem BornOk.erase {es:Array MapEntry} {clk:Nat} (h:BornOk es clk) {k:Nat} (hk:k<es.size):BornOk (es.eraseIdx k hk) clk:=by
 have key: ∀i m,(es.eraseIdx k hk)[i]? =some m->es[if i<k then i else i+1]? =some m:=fun i m hm=>by
  rw [Array.getElem?_eraseIdx] at hm;split at hm<;>rename_i hi<;>simp [hi,hm]
 refine ⟨fun i m hm=>h.1 _ m (key i m hm),fun i j m n hm hn he=> ?_⟩
 have:=h.2 _ _ m n (key i m hm) (key j n hn) he
 split at this<;>split at this<;>omega
theorem zoB {at':Array TypeId} {xs:Array Operand} {ρ:Operand->Value} (w:World):
 (execOp ρ ⟨dst,.call ⟨.builtin .delete,xs,at'⟩,ty,pos,af,g⟩).run P w=((Builtin.delete_ at' ty (xs.map ρ)).run P w).andThen (fun v w=> .ok (.value v) w):=by
 simp [execOp,resolve,invoke,builtin]
theorem ztB [Tracks] {α:Type} {x y:Operand} {t kt et:TypeId} {size bytes s2 b2:Nat} {zero z2:Value} {i b:Nat} {f:α->HVal} {L:List (Str×α)} {s:Str}
 (hf:Fits P t (.map kt et) size bytes zero) (hkt:Fits P kt .str s2 b2 z2) (hx:ze e x=some (.raw (.map (some b)))) (hy:ze e y=some (.str s)) (hm:M[i]? =some (.map b (sk (em f L))))
 (hk:K (.tup []) (M.set i (.map b (sk (em f (zcb s L)))))):EOp P e M ⟨dst,.call ⟨.builtin .delete,#[x,y],#[t,kt]⟩,ty,pos,af,g⟩ K:=
 EOp.of_run fun I F a w ho hs=>by
  have h1:=(ho.one (x:=x) (by simp [Op.operands,Call.operands]) hx).raw_inv;have h2:=(ho.one (x:=y) (by simp [Op.operands,Call.operands]) hy).str_inv;have hp:=hs.pull hm;obtain ⟨es,clk,h3,h4,h5⟩:=hp.obj _ Am;obtain ⟨h6,h7⟩:=zgk h4.1 h5;obtain ⟨n1,n2⟩:=zhj (I:=I) (s:=s) es.toList (em f L) 0 h6 h7;obtain ⟨d1,d2⟩:=zp8 (s:=s) (l:=em f L);rw [zsw] at d1 d2;have hlt:b<w.heap.size:=(Array.getElem?_eq_some_iff.1 h3).1;have fin: ∀(es':Array MapEntry),es'.size=(sk (em f (zcb s L))).length/\BornOk es' clk->
   (∀(i:Nat) (p:HVal×HVal) (m:MapEntry),(sk (em f (zcb s L)))[i]? =some p->es'[i]? =some m->V I p.1 m.key/\V I p.2 m.val)->
   Sat P I (M.set i (.map b (sk (em f (zcb s L))))++F) {w with heap:=w.heap.setIfInBounds b (.map es' clk)}:=fun es' e1 e2=>by
   refine zbh hm (hp.change (m':= .map b (sk (em f (zcb s L)))) (fun k hk hnk=> ?_) (fun k hk=> .inl hk) (by simp [MObj.blocks]) ⟨es',clk,by simp [hlt],e1,e2⟩ rfl rfl rfl)
   have:k≠b:=by simpa [MObj.blocks] using hnk
   simp [AF (Ne.symm this)]
  cases hq:zS s (em f L) with
  |none=>
    rw [d2 hq] at fin;refine ⟨.tuple #[],.tup [],_,{w with heap:=w.heap.setIfInBounds b (.map es clk)},I,?_,.refl I,hk,.tup rfl (fun j c v h _=>by simp at h),?_⟩
    rw [zoB];simp only [BN,Ar,Ba,h1,h2,Builtin.delete_,A6,AV,AO,Sem.run_bind,run_underlying hf.mapD,Result.andThen_ok,zaC h3,zbT hkt.strD,Instr.findKey,run_underlying hkt.strD,n1 hq,Sem.run_pure,zcP h3];rw [d2 hq];exact fin es h4 h5
  |some q=>
    obtain ⟨j0,h'⟩:=q;obtain ⟨v,g1,g2⟩:=n2 j0 h' hq;have hj0:=znC hq;have hjl:=zl hj0;have hsz:es.size=(em f L).length:=by simpa [sk] using h4.1
    have hjs:j0<es.size:=by omega
    have hes:es.eraseIdxIfInBounds j0=es.eraseIdx j0 hjs:=by unfold Array.eraseIdxIfInBounds;rw [dif_pos hjs]
    have hd:sk (em f (zcb s L))=(sk (em f L)).eraseIdx j0:=by
     rw [d1 j0 h' hq];have e1: ∀(l:List (Str×HVal)) (j:Nat),sk (l.eraseIdx j)=(sk l).eraseIdx j:=fun l=>by
      induction l with
      |nil=>intro j;rfl
      |cons p r ih=>
        intro j
        cases j with
        |zero=>rfl
        |succ j=>simp only [BZ,sk,Ar] at ih⊢;rw [ih]
     exact e1 _ _
    refine ⟨.tuple #[],.tup [],_,{w with heap:=w.heap.setIfInBounds b (.map (es.eraseIdx j0 hjs) clk)},I,?_,.refl I,hk,.tup rfl (fun j c v h _=>by simp at h),fin (es.eraseIdx j0 hjs) ⟨?_,h4.2.erase hjs⟩ fun p q m a1 a2=> ?_⟩
    rw [zoB];simp only [BN,Ar,Ba,h1,h2,Builtin.delete_,A6,AV,AO,Sem.run_bind,run_underlying hf.mapD,Result.andThen_ok,zaC h3,zbT hkt.strD,Instr.findKey,run_underlying hkt.strD,g1,Sem.run_pure,Bb,hes,zcP h3];rw [hd,Array.size_eraseIdx,List.length_eraseIdx];have:(sk (em f L)).length=es.size:=h4.1.symm;rw [this,if_pos hjs];rw [hd,List.getElem?_eraseIdx] at a1;rw [Array.getElem?_eraseIdx] at a2
    split at a1
    rename_i hp1;rw [if_pos hp1] at a2;exact h5 _ _ _ a1 a2
    rename_i hp1;rw [if_neg hp1] at a2;exact h5 _ _ _ a1 a2
end
end
section
open Go
section
variable {P:Program} {e:Env} {dst:Option Tmp} {ty:TypeId} {pos:String} {af:Array Edge} {g:Option (Nat×Bool)} {M:List MObj} {K:HVal->List MObj->Prop}
end
/-! a row that fills up-/
end
section
open Go
section
variable {P:Program} {e:Env} {dst:Option Tmp} {ty:TypeId} {pos:String} {af:Array Edge} {g:Option (Nat×Bool)}
end
end
section
open Op
def zep:List Int->List Int->Int
 |[],[]=>0
 |[],_::_=> -1
 |_::_,[]=>1
 |x::a,y::b=>if zY x y≠0 then zY x y else zep a b
end
section
open Op
theorem zxJ {s:Str} (h:key s=true):leB s []=false:=by
 have hn:s≠[]:=by
  rintro rfl;have:key ([]:Str)=false:=by decide
  rw [this] at h;cases h
 cases s with
 |nil=>exact absurd rfl hn
 |cons a t=>rfl
theorem ord2 {a b:Str} {m n:Int}:orI [zU a b,zY m n]<=0↔bytesLess a b=true\/a=b/\m<=n:=by
 rw [zeR]
 split
 rename_i h
 have h0:a≠b:=fun e=>h (zcq.2 e)
 rw [<-zo7]
 constructor
 intro q;left;omega
 rintro (q|q)
 omega
 exact absurd q.1 h0
 rename_i h
 have h0:a=b:=zcq.1 (by simpa using h);subst h0;rw [zsA]
 constructor
 intro q;exact .inr ⟨rfl,q⟩
 rintro (q|q);rw [zar] at q;cases q;exact q.2
def zk3 (n:Int):Int:=if n<0 then-1 else if 0<n then 1 else 0
theorem zwf {a b:Int}:zk3 (a-b)=zY a b:=by
 unfold zk3 zY
 (repeat' split)<;>first|rfl|omega
theorem zvv {a b c d:Int}:zep [a,b] [c,d]=orI [zY a c,zY b d]:=by
 rw [zeR,zep,zep,zep]
 split
 rfl
 split
 rfl
 rename_i h;have:zY b d=0:=by simpa using h
 rw [this]
theorem zxt {x p:FixS}:orI [zY x.Week p.Week,zY x.At p.At,zU x.Home p.Home]<=0↔0<zep [p.Week,p.At] [x.Week,x.At]\/zep [p.Week,p.At] [x.Week,x.At]=0/\bytesLess p.Home x.Home=false:=by
 rw [zvv,zeR,<-zmD];unfold orI
 by_cases h1:x.Week=p.Week
 by_cases h2:x.At=p.At
 have e1:zY x.Week p.Week=0:=zcT.2 h1;have e2:zY x.At p.At=0:=zcT.2 h2;have e3:zY p.Week x.Week=0:=zcT.2 h1.symm;have e4:zY p.At x.At=0:=zcT.2 h2.symm;simp only [e1,e2,e3,e4];rw [zeR]
 constructor
 intro h
 refine .inr ⟨rfl,?_⟩
 simpa [orI] using h
 rintro (h|⟨_,h⟩);exact absurd h (by decide)
 simpa [orI] using h
 have e1:zY x.Week p.Week=0:=zcT.2 h1;have e3:zY p.Week x.Week=0:=zcT.2 h1.symm;have e2:zY x.At p.At≠0:=fun e=>h2 (zcT.1 e)
 have e4:=zjd x.At p.At;simp only [e1,e3];rw [zeR,if_pos e2]
 simp
 omega
 have e1:zY x.Week p.Week≠0:=fun e=>h1 (zcT.1 e)
 have e3:=zjd x.Week p.Week;have e4:zY p.Week x.Week≠0:=by omega
 rw [if_pos e1,if_pos e4]
 omega
end
section
open Op
structure BookS where
 League:LeagueS
 Moves:List MoveS
 Plays:List Play
 Mends:List MendS
 Health:List HealthS
 Choices:List ChoiceS
abbrev zws (b:BookS):List HVal:=[zaA b.League.Players,zcy b.League.Stints,zfz b.League.Fixtures,ziF b.League.Rules,zft b.League.Slots,.int .i64 b.League.Bounds.Most,.int .i64 b.League.Bounds.Hurt,.int .i64 b.League.Bounds.Adds,.int .i64 b.League.Bounds.Hold,
 eSs b.League.Teams,zj8 b.League.Games,eIs b.League.Breaks,eSs b.League.Trust,.int .i64 b.League.Start,zbH b.Moves,zbC b.Plays,zcr b.Mends,zbo b.Health,zfJ b.Choices]
abbrev zbW (b:BookS):HVal:= .agg (zws b)
def zi5 (a b:ChoiceS):Int:=orI [zU a.Team b.Team,zY a.Week b.Week,zY a.At b.At]
def zby (s:Str):Bool:=s==[]||key s
def zbv (T:List Str) (n:Nat) (k:Nat) (x p:ChoiceS):Int:=
 if T.contains x.Team=false then 8 else if zbd x.Week=false\/zT x.At=false then 1 else if x.Players.length≠n then 3
 else if ((x.Players++[x.Captain]).all zby)=false then 5 else if 0<k/\zi5 x p<=0 then 7 else 0
def zo6 (T:List Str) (n:Nat) (l:List ChoiceS):Int:=zd6 1000 (zbv T n) ze7 l
def zgh (g:LeagueS):Int:=orI [zgq g.Players g.Stints,zgL g.Fixtures,ziR g.Rules,zdE g.Slots,zbZ g.Bounds,zfj g.Teams g.Games]
def zjT (g:LeagueS):Int:=orI [zhs g.Breaks,zcf g.Trust]
def zc0 (l:List GameS):Bool:=l.any (·.Played)
def zb3 (g:LeagueS):Int:=
 if zgh g≠0 then zgh g else if zc0 g.Games=true then 11 else if zjT g≠0 then zjT g
 else if zT g.Start=false\/345686400000<g.Start+36288000000 then 1 else 0
def zck (b:BookS):Int:=if zb3 b.League≠0 then zb3 b.League else orI [zcN b.Moves,zb7 b.Plays,zef b.Mends,zpa b.League.Players b.Health,zo6 b.League.Teams b.League.Slots.length b.Choices]
theorem zb6: ∀{a b:List Int},orI (a++b)=if orI a≠0 then orI a else orI b
 |[],b=>by simp [orI]
 |x::a,b=>by
   rw [AY,orI,orI,zb6]
   by_cases h:x≠0
   rw [if_pos h,if_pos h,if_pos h];rw [if_neg h,if_neg h]
theorem zvU {a r:List Int}:orI (orI a::r)=orI (a++r):=by rw [zb6,orI]
theorem zpe (g:LeagueS):zgh g=orI ([zbA g.Players]++([zhC g.Players g.Stints,zgL g.Fixtures,ziR g.Rules,zdE g.Slots,zbZ g.Bounds,zct g.Teams]++[zdB g.Teams g.Games])):=by
 have e1:zgq g.Players g.Stints=orI [zbA g.Players,zhC g.Players g.Stints]:=by rw [zeR];rfl
 have e2:zfj g.Teams g.Games=orI [zct g.Teams,zdB g.Teams g.Games]:=by rw [zeR];rfl
 unfold zgh;rw [e1,zvU]
 show orI [zbA g.Players,zhC g.Players g.Stints,zgL g.Fixtures,ziR g.Rules,zdE g.Slots,zbZ g.Bounds,zfj g.Teams g.Games]=orI [zbA g.Players,zhC g.Players g.Stints,zgL g.Fixtures,ziR g.Rules,zdE g.Slots,zbZ g.Bounds,zct g.Teams,zdB g.Teams g.Games]
 have e3: ∀l:List Int,orI (l++[zfj g.Teams g.Games])=orI (l++[zct g.Teams,zdB g.Teams g.Games]):=fun l=>by
  rw [zb6,zb6,e2]
  congr 1
  rw [orI]
  split
  rfl
  rename_i h;have h0:orI [zct g.Teams,zdB g.Teams g.Games]=0:=by simpa using h
  rw [h0];rfl
 exact e3 [zbA g.Players,zhC g.Players g.Stints,zgL g.Fixtures,ziR g.Rules,zdE g.Slots,zbZ g.Bounds]
theorem zuQ {g:LeagueS} (h:zbA g.Players≠0):zbA g.Players=zb3 g:=by
 have e:zgh g=zbA g.Players:=by rw [zpe,zb6,zxT,if_pos h]
 rw [zb3,e,if_pos h]
def zhB (g:LeagueS):Int:=orI [zhC g.Players g.Stints,zgL g.Fixtures,ziR g.Rules,zdE g.Slots,zbZ g.Bounds,zct g.Teams]
theorem zyA {g:LeagueS} (h:zbA g.Players=0) (h2:zhB g≠0):zhB g=zb3 g:=by
 have e:zgh g=zhB g:=by
  rw [zpe,zb6,if_neg (by simp [orI,h]),zb6];exact if_pos h2
 rw [zb3,e,if_pos h2]
theorem zqO {g:LeagueS} (h:zbA g.Players=0) (h2:zhB g=0):zgh g=zdB g.Teams g.Games:=by
 rw [zpe,zb6,if_neg (by simp [orI,h]),zb6,if_neg (by rw [show orI [zhC g.Players g.Stints,zgL g.Fixtures,ziR g.Rules,zdE g.Slots,zbZ g.Bounds,zct g.Teams]=zhB g from rfl,h2];simp)];rw [orI]
 split
 rfl
 rename_i h;simp at h;rw [h];rfl
theorem zvP {g:LeagueS} (h2:zhB g=0):zct g.Teams=0:=by
 unfold zhB at h2;have e:([zhC g.Players g.Stints,zgL g.Fixtures,ziR g.Rules,zdE g.Slots,zbZ g.Bounds,zct g.Teams]:List Int)=[zhC g.Players g.Stints,zgL g.Fixtures,ziR g.Rules,zdE g.Slots,zbZ g.Bounds]++[zct g.Teams]:=rfl;rw [e,zb6] at h2
 split at h2
 contradiction
 rw [orI] at h2
 split at h2
 contradiction
 rename_i h;simpa using h
theorem zxu {T:List Str} {l:List GameS} (h:zct T=0):zfj T l=zdB T l:=by rw [zfj,if_neg (by simp [h])]
theorem zyB {g:LeagueS} (h:zbA g.Players=0) (h2:zhB g=0) (h3:zdB g.Teams g.Games≠0):zdB g.Teams g.Games=zb3 g:=by
 rw [zb3,zqO h h2,if_pos h3]
theorem zyC {g:LeagueS} (h:zbA g.Players=0) (h2:zhB g=0) (h3:zdB g.Teams g.Games=0) (h4:zc0 g.Games=true):11=zb3 g:=by
 rw [zb3,zqO h h2,if_neg (by simp [h3]),if_pos h4]
def zrB (g:LeagueS):Int:=orI [zhs g.Breaks,zcf g.Trust,if zT g.Start then 0 else 1]
theorem zsP (g:LeagueS):zrB g=if zjT g≠0 then zjT g else if zT g.Start=false then 1 else 0:=by
 unfold zrB zjT;rw [show ([zhs g.Breaks,zcf g.Trust,if zT g.Start then 0 else 1]:List Int)=[zhs g.Breaks,zcf g.Trust]++[if zT g.Start then 0 else 1] from rfl,zb6]
 congr 1
 rw [orI]
 cases zT g.Start<;>rfl
theorem zyD {g:LeagueS} (h:zbA g.Players=0) (h2:zhB g=0) (h3:zdB g.Teams g.Games=0) (h4:zc0 g.Games=false) (h5:zrB g≠0):zrB g=zb3 g:=by
 rw [zb3,zqO h h2,if_neg (by simp [h3]),if_neg (by rw [h4];simp)];rw [zsP] at h5⊢
 split
 rfl
 rename_i h6
 rw [if_neg h6] at h5
 cases h7:zT g.Start with
 |false=>simp
 |true=>rw [h7] at h5;simp at h5
theorem zuR {g:LeagueS} (h:zbA g.Players=0) (h2:zhB g=0) (h3:zdB g.Teams g.Games=0) (h4:zc0 g.Games=false) (h5:zrB g=0):zb3 g=if 345686400000<g.Start+36288000000 then 1 else 0:=by
 rw [zb3,zqO h h2,if_neg (by simp [h3]),if_neg (by rw [h4];simp)];rw [zsP] at h5
 split at h5
 contradiction
 rename_i h6
 rw [if_neg h6]
 cases h7:zT g.Start with
 |false=>rw [h7] at h5;simp at h5
 |true=>simp
def zb5:List Str:=[[77,97,114,121,32,74,111,32,83,109,105,116,104],[77,97,120,32,77,97,114,116,105,110],[74,111],[65,110,97,32,77,97,114,105,97,32,77,97],[79,39,78,101,105,108,32,109],[90,111,195,171,32,77,97]]
/-! what generated leagues and books are-/
end
section
open Op
def zfa (N:List Str) (s:Str):Int:=if N.contains s=true then ((zdb N s:Nat):Int) else-1
theorem zhi {N:List Str} {s:Str}:zfa N s<0↔N.contains s=false:=by
 unfold zfa
 cases N.contains s with
 |true=>simp
 |false=>simp
theorem zun {l:List PlayerS} {s:Str} {i:Nat}:(bif decide ((i:Int)<(l.length:Int)) then zU (l.getD i zdl).Key s==0 else false)=((l.map (·.Key))[i]? ==some s):=by
 by_cases h:i<l.length
 obtain ⟨x,hx⟩: ∃x,l[i]? =some x:=⟨_,Aa h⟩
 have e:l.getD i zdl=x:=by rw [Af,hx];rfl
 rw [Ag,hx,e];have h2:(i:Int)<(l.length:Int):=by omega
 simp only [h2,decide_true,cond_true,AH];rw [AL]
 simp [zcq]
 have h2: ¬(i:Int)<(l.length:Int):=by omega
 rw [Ax (by simpa using Nat.le_of_not_lt h)]
 simp [h2]
theorem zos {L:List PlayerS} {s:Str}:zab (fun x:PlayerS=>x.Key==s) L 0<0↔zbl L s=false:=by
 have h:=zcW (fun x:PlayerS=>x.Key==s) L 0 (by omega);have e:L.any (fun x:PlayerS=>x.Key==s)=zbl L s:=by
  unfold zbl;rw [AL,B5,B8,List.mem_map]
  constructor
  rintro ⟨x,h1,h2⟩;exact ⟨x,h1,by simpa using h2⟩;rintro ⟨x,h1,h2⟩;exact ⟨x,h1,by simpa using h2⟩
 rw [e] at h
 constructor
 intro q;rw [<-h];simp;omega
 intro q;rw [q] at h;simp at h;omega
theorem zh2 {l:List PlayerS} (h:zbA l=0):SortedS (l.map (·.Key)):=by
 obtain ⟨_,h2⟩:=zmJ h;have nx: ∀(j:Nat) (x y:Str),(l.map (·.Key))[j]? =some x->(l.map (·.Key))[j+1]? =some y->bytesLess x y=true:=by
  intro j x y hx hy
  rw [Ag] at hx hy;obtain ⟨a,ha,rfl⟩:=Option.map_eq_some_iff.1 hx;obtain ⟨b,hb,rfl⟩:=Option.map_eq_some_iff.1 hy;have:=h2 (j+1) b hb;have ed:l.getD (j+1-1) zdl=a:=by rw [Nat.add_sub_cancel,Af,ha];rfl
  rw [ed] at this;unfold zch at this
  split at this
  omega
  split at this
  omega
  rename_i h3
  have h4:leB b.Key a.Key=false:=by
   cases e:leB b.Key a.Key with
   |false=>rfl
   |true=>exact absurd ⟨by omega,e⟩ h3
  unfold leB at h4;rw [BM] at h4
  rcases zb4 a.Key b.Key with q|q|q
  exact q;rw [q] at h4;simp at h4;rw [q] at h4;cases h4.1
 exact zpr nx
/-! games-/
def zh8 (l:List GameS):List ((Str×Int)×Bool):=l.foldl (fun L x=>zA (x.Away,x.Week) true (zA (x.Home,x.Week) true L)) []
def ofG (t:Str) (w:Int) (y:GameS):Bool:=y.Week==w&&(y.Home==t||y.Away==t)
theorem zvb {l:List GameS} {x:GameS}:zh8 (l++[x])=zA (x.Away,x.Week) true (zA (x.Home,x.Week) true (zh8 l)):=by unfold zh8;rw [Bi];rfl
theorem zp6 {t:Str} {w:Int}: ∀{l:List GameS} {L:List ((Str×Int)×Bool)},(alk (t,w) (l.foldl (fun L x=>zA (x.Away,x.Week) true (zA (x.Home,x.Week) true L)) L)).getD false=((alk (t,w) L).getD false||l.any (ofG t w))
 |[],L=>by simp
 |x::l,L=>by
   rw [BT,zp6,Br,<-B4]
   congr 1
   rw [zcX,zcX];unfold ofG
   by_cases h1:(t,w)=(x.Away,x.Week)
   rw [if_pos h1]
   cases h1
   simp
   rw [if_neg h1]
   by_cases h2:(t,w)=(x.Home,x.Week)
   rw [if_pos h2]
   cases h2
   simp
   rw [if_neg h2];have e:(x.Week==w&&(x.Home==t||x.Away==t))=false:=by
    rw [B1]
    intro h
    simp at h
    rcases h.2 with q|q
    exact h2 (by rw [h.1,q]);exact h1 (by rw [h.1,q])
   rw [e,Bc]
theorem zs1 {t:Str} {w:Int} {l:List GameS}:(alk (t,w) (zh8 l)).getD false=l.any (ofG t w):=by
 unfold zh8;rw [zp6];rfl
theorem zus {l:List GameS} {x:GameS}:l.any (zhf x)=(l.any (ofG x.Home x.Week)||l.any (ofG x.Away x.Week)):=by
 induction l with
 |nil=>rfl
 |cons y l ih=>
   rw [Br,Br,Br,ih];unfold zhf ofG
   cases y.Week==x.Week<;>cases y.Home==x.Home<;>cases y.Home==x.Away<;>cases y.Away==x.Home<;>cases y.Away==x.Away<;>simp
def ziE (l:List GameS) (k:Nat):Bool:=(List.range k).any fun i=>(l.take i).any (zhf (l.getD i zdK))
theorem zrp {l:List GameS} {k:Nat} {x:GameS} (h:l[k]? =some x):ziE l (k+1)=(ziE l k||(l.take k).any (zhf x)):=by
 unfold ziE;rw [List.range_succ,List.any_append,Br,List.any_nil,Bc,Af,h];rfl
theorem zro {l:List GameS}: ∀{r:List GameS} {k:Nat},l.drop k=r->k<=l.length->(ziE l k||zc7 l k r)=ziE l l.length
 |[],k,hd,hk=>by
   have:l.length<=k:=by simpa using hd
   have e:k=l.length:=by omega
   subst e;rw [zc7,Bc]
 |x::r,k,hd,hk=>by
   have hx:l[k]? =some x:=by have:=congrArg (fun q:List GameS=>q[0]?) hd;simpa using this
   have hkl:=zl hx;rw [zc7,<-B4,<-zrp hx];exact zro (by rw [<-Bu (i:=1),hd];rfl) (by omega)
theorem zxq {l:List GameS}:zc7 l 0 l=ziE l l.length:=by
 have:=zro (l:=l) (r:=l) (k:=0) rfl (Ad _);rw [<-this];rfl
end
section
open Op
theorem zpL {a b:Nat}:Nat.gcd b (a%b)=Nat.gcd a b:=by rw [Nat.gcd_comm b,<-Nat.gcd_rec,Nat.gcd_comm]
theorem zmi {s:Str} (h:s∈zb5):out (s.length:Int) 1 60=false:=by
 revert h;revert s;decide
structure LeaB (g:LeagueS):Prop where
 pl:g.Players.length<=1000000
 nm: ∀p∈g.Players,p.Name∈zb5
 po: ∀p∈g.Players,p.Positions.length<=1000000
 st:g.Stints.length<=1000000
 fx:g.Fixtures.length<=1000000
 ru:g.Rules.length<=1000000
 rw': ∀x∈g.Rules,(-1000000000<=x.Num/\x.Num<=1000000000)/\ -1000000000<=x.Den/\x.Den<=1000000000
 sl:g.Slots.length<=1000000
 sp: ∀x∈g.Slots,x.Positions.length<=1000000
 tm:g.Teams.length<=1000000
 ga:g.Games.length<=1000000
 gb: ∀x∈g.Games,((-1000000000<=x.FNum/\x.FNum<=1000000000)/\ -1000000000<=x.FDen/\x.FDen<=1000000000)/\(-1000000000<=x.ONum/\x.ONum<=1000000000)/\ -1000000000<=x.ODen/\x.ODen<=1000000000
 br:g.Breaks.length<=1000000
 tr:g.Trust.length<=1000000
 sta: -1000000000000000<=g.Start/\g.Start<=1000000000000000
structure BookB (b:BookS):Prop where
 lea:LeaB b.League
 mv:b.Moves.length<=1000000
 pl:b.Plays.length<=1000000
 me:b.Mends.length<=1000000
 he:b.Health.length<=1000000
 ch:b.Choices.length<=1000000
 cp: ∀x∈b.Choices,x.Players.length<=1000000
/-! slots,breaks-/
theorem zrZ {l:List SlotS} (h0:l.length≠0) (h1: ¬12<l.length) (hg:zb8 l 0 l=zb8 l l.length []):0=zdE l:=by
 rw [zdE,if_neg h0,if_neg h1,hg];rfl
theorem zgS {l r:List SlotS} {k:Nat} {x:SlotS} {e:Int} (h0:l.length≠0) (h1: ¬12<l.length) (hg:zb8 l 0 l=zb8 l k (x::r)) (he:zb8 l k (x::r)=e):e=zdE l:=by
 rw [zdE,if_neg h0,if_neg h1,hg,he]
theorem zsz {l:List Int} (h1: ¬5<l.length) (hg:zdo l 0 l=zdo l l.length []):0=zhs l:=by rw [zhs,if_neg h1,hg];rfl
theorem zmA {l r:List Int} {k:Nat} {x:Int} {e:Int} (h1: ¬5<l.length) (hg:zdo l 0 l=zdo l k (x::r)) (he:zdo l k (x::r)=e):e=zhs l:=by rw [zhs,if_neg h1,hg,he]
/-! names of a choice-/
theorem zxM {s:Str} (h1:s≠[]) (h2:key s=false):zby s=false:=by
 unfold zby;rw [h2,Bc,beq_eq_false_iff_ne];exact h1
theorem zxN {s:Str} (h:s≠[]->key s=true):zby s=true:=by
 unfold zby
 by_cases e:s=[]
 rw [e];rfl;rw [h e,Bool.or_true]
theorem zuZ {l:List Str} {s:Str} (hs:s∈l) (h:zby s=false):l.all zby=false:=by
 rw [List.all_eq_false];exact ⟨s,hs,by rw [h];simp⟩
/-! games-/
def inC (l:List GameS) (x:GameS) (k j:Nat):Bool:=ziE l k||([x.Home,x.Away].take j).any fun t=>(l.take k).any (ofG t x.Week)
def inM (l:List GameS) (x:GameS) (k j:Nat):List ((Str×Int)×Bool):=([x.Home,x.Away].take j).foldl (fun L t=>zA (t,x.Week) true L) (zh8 (l.take k))
theorem zxB {l:List GameS} {x:GameS} {k j:Nat} {s:Str} (hne:x.Home≠x.Away) (hs:[x.Home,x.Away][j]? =some s):
 (inC l x k j||(alk (s,x.Week) (inM l x k j)).getD false)=inC l x k (j+1)/\zA (s,x.Week) true (inM l x k j)=inM l x k (j+1):=by
 match j,hs with
 |0,hs=>
   simp at hs;subst hs
   refine ⟨?_,rfl⟩
   unfold inC inM;simp only [List.take_zero,List.any_nil,Bc,List.foldl_nil,BR,Br];rw [zs1]
 |1,hs=>
   simp at hs;subst hs
   refine ⟨?_,rfl⟩
   unfold inC inM;simp only [List.take_zero,List.any_nil,Bc,List.foldl_nil,BR,Br,BT];rw [zcX,if_neg (fun e=>by have e9:=congrArg Prod.fst e;first|exact hne e9|exact hne e9.symm),zs1,B4]
theorem zsL {l:List GameS} {x:GameS} {k:Nat}:inC l x k 0=ziE l k/\inM l x k 0=zh8 (l.take k):=by
 unfold inC inM;simp
theorem zyw {l:List GameS} {x:GameS} {k:Nat} (hx:l[k]? =some x):inC l x k 2=ziE l (k+1)/\inM l x k 2=zh8 (l.take (k+1)):=by
 refine ⟨?_,?_⟩
 rw [zrp hx,zus];unfold inC
 simp
 rw [zaj hx,zvb];unfold inM
 simp
theorem zsH {T:List Str} {l:List GameS} (hn: ¬1000<l.length) (hg:zaR (zb2 T) zdK l 0 l=zaR (zb2 T) zdK l l.length []):zdB T l=if ziE l l.length=true then 13 else 0:=by
 have h0:zd6 1000 (zb2 T) zdK l=0:=(zbS hn hg).symm;rw [zdB,h0,if_neg (by simp),zxq]
theorem zdj {T:List Str} {l:List GameS} {e:Int} (h:e=zd6 1000 (zb2 T) zdK l) (h0:e≠0):e=zdB T l:=by
 rw [zdB,<-h,if_pos h0]
theorem zyT {m:Int} (h1: -18446744073709551616<=m) (h2:m<0):IntKind.wrap .u64 m=m+18446744073709551616:=by
 unfold IntKind.wrap
 simp [IntKind.bits,IntKind.signed]
 omega
theorem zyt {b:BookS} (h: ¬zb3 b.League≠0):ziL b.League.Players b.Health=zpa b.League.Players b.Health:=by
 have h0:zb3 b.League=0:=by simpa using h
 have h1:zbA b.League.Players=0:=by
  refine Classical.byContradiction fun hq=> ?_
  have:=zuQ hq;rw [h0] at this;exact hq this
 rw [ziL,if_neg (by simp [h1])]
end
section
open Go
def spl (c:UInt8):Str->List Str
 |[]=>[[]]
 |b::l=>if b=c then []::spl c l else match spl c l with
   |[]=>[[b]]
   |x::r=>(b::x)::r
def jn (c:UInt8):List Str->Str
 |[]=>[]
 |[x]=>x
 |x::r=>x++c::jn c r
theorem zxD {c:UInt8} {x:Str} {r:List Str} (h:r≠[]):jn c (x::r)=x++c::jn c r:=by
 cases r with
 |nil=>exact absurd rfl h
 |cons y r=>rfl
theorem zpb (c:UInt8): ∀l:List Str,Lib.join l [c]=jn c l
 |[]=>rfl
 |[x]=>Lib.join_one x [c]
 |x::y::r=>by
   rw [zxD (by simp),<-zpb c (y::r),Lib.join_cons,Lib.join_cons]
   simp [Lib.joinTail]
end
end Go.HL
