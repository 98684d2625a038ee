/- Part 2 of the proof: a program logic, contracts of functions and plain facts; no conditions. -/
import Derived.Test.YtpgopgjleokciaaGreatDoorQTopPointsAndMissed1
import Derived.Carry
import Derived.KernelRfl
import Derived.Laws.MakeOwn
import Derived.Lib.Bytealg
import Derived.Lib.LaidTab
import Derived.OpenShut
import Derived.Shelf.SlSortCmp.Insertion
import Derived.Shelf.Strconv.Atoi
import Derived.Shelf.Strconv.Itoa3
import Derived.Shelf.Strings.Prefix
import Derived.Test.YtpgopgjleokciaaGreatDoorProg
import Derived.WideKeyRuns
import GoSem.ClaimJoined
set_option linter.unusedVariables false
set_option linter.unusedSimpArgs false
set_option maxHeartbeats 16000000
namespace Go.Proofs.YtpgopgjleokciaaGreatDoor
set_option maxRecDepth 100000
section
open Go.Proofs.Tryz
open Go.HL
instance ti3:FitsI prog 3 (.int .i64) 1 8 (.int .i64 0):=⟨⟨by kernel_rfl,by kernel_rfl⟩⟩
abbrev ty3:=ti3.ok
instance ti4:FitsI prog 4 .bool 1 1 (.bool false):=⟨⟨by kernel_rfl,by kernel_rfl⟩⟩
abbrev ty4:=ti4.ok
theorem ty5:Fits prog 5 (.int .u8) 1 1 (.int .u8 0):=⟨by kernel_rfl,by kernel_rfl⟩
instance ti9:FitsI prog 9 .str 1 16 (.string ⟨#[]⟩):=⟨⟨by kernel_rfl,by kernel_rfl⟩⟩
abbrev ty9:=ti9.ok
instance ti22:FitsI prog 22 (.slice 3) 1 24 (.slice none 0 0):=⟨⟨by kernel_rfl,by kernel_rfl⟩⟩
abbrev zac:=ti22.ok
instance ti25:FitsI prog 25 (.struct [(0,22),(1,3)]) 2 32 (.agg #[.slice none 0 0,.int .i64 0]):=⟨⟨by kernel_rfl,by kernel_rfl⟩⟩
abbrev ty25:=ti25.ok
instance ti26:FitsI prog 26 (.slice 136) 1 24 (.slice none 0 0):=⟨⟨by kernel_rfl,by kernel_rfl⟩⟩
abbrev znb:=ti26.ok
instance ti27:FitsI prog 27 (.slice 265) 1 24 (.slice none 0 0):=⟨⟨by kernel_rfl,by kernel_rfl⟩⟩
abbrev zhs:=ti27.ok
instance ti28:FitsI prog 28 (.slice 253) 1 24 (.slice none 0 0):=⟨⟨by kernel_rfl,by kernel_rfl⟩⟩
abbrev zc7:=ti28.ok
instance ti29:FitsI prog 29 (.slice 261) 1 24 (.slice none 0 0):=⟨⟨by kernel_rfl,by kernel_rfl⟩⟩
abbrev zoR:=ti29.ok
instance ti30:FitsI prog 30 (.slice 66) 1 24 (.slice none 0 0):=⟨⟨by kernel_rfl,by kernel_rfl⟩⟩
abbrev zcl:=ti30.ok
instance ti32:FitsI prog 32 (.struct [(0,3),(1,3),(2,3),(3,3)]) 4 32 (.agg #[.int .i64 0,.int .i64 0,.int .i64 0,.int .i64 0]):=⟨⟨by kernel_rfl,by kernel_rfl⟩⟩
abbrev zjn:=ti32.ok
instance ti33:FitsI prog 33 (.slice 9) 1 24 (.slice none 0 0):=⟨⟨by kernel_rfl,by kernel_rfl⟩⟩
abbrev zq:=ti33.ok
instance ti34:FitsI prog 34 (.slice 182) 1 24 (.slice none 0 0):=⟨⟨by kernel_rfl,by kernel_rfl⟩⟩
abbrev zgo:=ti34.ok
instance ti36:FitsI prog 36 (.struct [(0,26),(1,27),(2,28),(3,29),(4,30),(5,32),(9,33),(10,34),(11,22),(12,33),(13,3)]) 14 256 (.agg #[.slice none 0 0,.slice none 0 0,.slice none 0 0,.slice none 0 0,.slice none 0 0,.int .i64 0,.int .i64 0,.int .i64 0,.int .i64 0,.slice none 0 0,.slice none 0 0,.slice none 0 0,.slice none 0 0,.int .i64 0]):=⟨⟨by kernel_rfl,by kernel_rfl⟩⟩
abbrev zbi:=ti36.ok
instance ti37:FitsI prog 37 (.slice 111) 1 24 (.slice none 0 0):=⟨⟨by kernel_rfl,by kernel_rfl⟩⟩
abbrev zb9:=ti37.ok
instance ti38:FitsI prog 38 (.slice 81) 1 24 (.slice none 0 0):=⟨⟨by kernel_rfl,by kernel_rfl⟩⟩
abbrev zht:=ti38.ok
instance ti39:FitsI prog 39 (.slice 187) 1 24 (.slice none 0 0):=⟨⟨by kernel_rfl,by kernel_rfl⟩⟩
abbrev zgO:=ti39.ok
instance ti40:FitsI prog 40 (.slice 192) 1 24 (.slice none 0 0):=⟨⟨by kernel_rfl,by kernel_rfl⟩⟩
abbrev zjo:=ti40.ok
instance ti41:FitsI prog 41 (.slice 49) 1 24 (.slice none 0 0):=⟨⟨by kernel_rfl,by kernel_rfl⟩⟩
abbrev zeF:=ti41.ok
instance ti43:FitsI prog 43 (.struct [(0,36),(14,37),(15,38),(16,39),(17,40),(18,41)]) 19 376 (.agg #[.slice none 0 0,.slice none 0 0,.slice none 0 0,.slice none 0 0,.slice none 0 0,.int .i64 0,.int .i64 0,.int .i64 0,.int .i64 0,.slice none 0 0,.slice none 0 0,.slice none 0 0,.slice none 0 0,.int .i64 0,.slice none 0 0,.slice none 0 0,.slice none 0 0,.slice none 0 0,.slice none 0 0]):=⟨⟨by kernel_rfl,by kernel_rfl⟩⟩
abbrev zbM:=ti43.ok
instance ti49:FitsI prog 49 (.struct [(0,9),(1,3),(2,3),(3,33),(4,9)]) 5 72 (.agg #[.string ⟨#[]⟩,.int .i64 0,.int .i64 0,.slice none 0 0,.string ⟨#[]⟩]):=⟨⟨by kernel_rfl,by kernel_rfl⟩⟩
abbrev zcm:=ti49.ok
instance ti50:FitsI prog 50 (.slice 138) 1 24 (.slice none 0 0):=⟨⟨by kernel_rfl,by kernel_rfl⟩⟩
abbrev zcn:=ti50.ok
instance ti51:FitsI prog 51 (.int .i64) 1 8 (.int .i64 0):=⟨⟨by kernel_rfl,by kernel_rfl⟩⟩
abbrev zgp:=ti51.ok
instance ti55:FitsI prog 55 (.struct [(0,3),(1,3)]) 2 16 (.agg #[.int .i64 0,.int .i64 0]):=⟨⟨by kernel_rfl,by kernel_rfl⟩⟩
abbrev zU:=ti55.ok
instance ti59:FitsI prog 59 (.slice 147) 1 24 (.slice none 0 0):=⟨⟨by kernel_rfl,by kernel_rfl⟩⟩
abbrev zij:=ti59.ok
instance ti66:FitsI prog 66 (.struct [(0,9),(1,33)]) 2 40 (.agg #[.string ⟨#[]⟩,.slice none 0 0]):=⟨⟨by kernel_rfl,by kernel_rfl⟩⟩
abbrev zcF:=ti66.ok
instance ti69:FitsI prog 69 (.ptr 43) 1 8 (.pointer none):=⟨⟨by kernel_rfl,by kernel_rfl⟩⟩
abbrev zcQ:=ti69.ok
instance ti71:FitsI prog 71 (.struct [(0,69),(1,3)]) 2 16 (.agg #[.pointer none,.int .i64 0]):=⟨⟨by kernel_rfl,by kernel_rfl⟩⟩
abbrev zc8:=ti71.ok
instance ti77:FitsI prog 77 (.slice 96) 1 24 (.slice none 0 0):=⟨⟨by kernel_rfl,by kernel_rfl⟩⟩
abbrev znc:=ti77.ok
instance ti81:FitsI prog 81 (.struct [(0,9),(1,3),(2,3),(3,3),(4,9),(5,9),(6,9),(7,3),(8,3)]) 9 104 (.agg #[.string ⟨#[]⟩,.int .i64 0,.int .i64 0,.int .i64 0,.string ⟨#[]⟩,.string ⟨#[]⟩,.string ⟨#[]⟩,.int .i64 0,.int .i64 0]):=⟨⟨by kernel_rfl,by kernel_rfl⟩⟩
abbrev zb3:=ti81.ok
instance ti83:FitsI prog 83 (.struct [(0,33),(1,3),(2,3),(3,33),(4,3),(5,3)]) 6 80 (.agg #[.slice none 0 0,.int .i64 0,.int .i64 0,.slice none 0 0,.int .i64 0,.int .i64 0]):=⟨⟨by kernel_rfl,by kernel_rfl⟩⟩
abbrev zx4:=ti83.ok
instance ti89:FitsI prog 89 (.struct [(0,9),(1,9),(2,3)]) 3 40 (.agg #[.string ⟨#[]⟩,.string ⟨#[]⟩,.int .i64 0]):=⟨⟨by kernel_rfl,by kernel_rfl⟩⟩
abbrev zdz:=ti89.ok
instance ti90:FitsI prog 90 (.slice 89) 1 24 (.slice none 0 0):=⟨⟨by kernel_rfl,by kernel_rfl⟩⟩
abbrev ziK:=ti90.ok
instance ti92:FitsI prog 92 (.struct [(0,9),(1,3)]) 2 24 (.agg #[.string ⟨#[]⟩,.int .i64 0]):=⟨⟨by kernel_rfl,by kernel_rfl⟩⟩
abbrev zoS:=ti92.ok
instance ti93:FitsI prog 93 (.slice 92) 1 24 (.slice none 0 0):=⟨⟨by kernel_rfl,by kernel_rfl⟩⟩
abbrev zA4:=ti93.ok
instance ti94:FitsI prog 94 (.slice 302) 1 24 (.slice none 0 0):=⟨⟨by kernel_rfl,by kernel_rfl⟩⟩
abbrev zc9:=ti94.ok
instance ti96:FitsI prog 96 (.struct [(0,9),(1,3),(2,94)]) 3 48 (.agg #[.string ⟨#[]⟩,.int .i64 0,.slice none 0 0]):=⟨⟨by kernel_rfl,by kernel_rfl⟩⟩
abbrev zcY:=ti96.ok
instance ti103:FitsI prog 103 (.struct [(0,30),(1,50)]) 2 48 (.agg #[.slice none 0 0,.slice none 0 0]):=⟨⟨by kernel_rfl,by kernel_rfl⟩⟩
abbrev zfn:=ti103.ok
instance ti111:FitsI prog 111 (.struct [(0,3),(1,3),(2,9),(3,9)]) 4 48 (.agg #[.int .i64 0,.int .i64 0,.string ⟨#[]⟩,.string ⟨#[]⟩]):=⟨⟨by kernel_rfl,by kernel_rfl⟩⟩
abbrev zG:=ti111.ok
instance ti117:FitsI prog 117 (.ptr 49) 1 8 (.pointer none):=⟨⟨by kernel_rfl,by kernel_rfl⟩⟩
abbrev zjK:=ti117.ok
theorem zii:Fits prog 128 (.struct [(0,9),(1,33),(2,33)]) 3 64 (.agg #[.string ⟨#[]⟩,.slice none 0 0,.slice none 0 0]):=⟨by kernel_rfl,by kernel_rfl⟩
theorem zGM:Fits prog 133 (.ptr 136) 1 8 (.pointer none):=⟨by kernel_rfl,by kernel_rfl⟩
instance ti136:FitsI prog 136 (.struct [(0,9),(1,9),(2,33)]) 3 56 (.agg #[.string ⟨#[]⟩,.string ⟨#[]⟩,.slice none 0 0]):=⟨⟨by kernel_rfl,by kernel_rfl⟩⟩
abbrev zeO:=ti136.ok
instance ti138:FitsI prog 138 (.struct [(0,9),(1,33),(2,55),(4,4)]) 5 64 (.agg #[.string ⟨#[]⟩,.slice none 0 0,.int .i64 0,.int .i64 0,.bool false]):=⟨⟨by kernel_rfl,by kernel_rfl⟩⟩
abbrev zch:=ti138.ok
instance ti147:FitsI prog 147 (.struct [(0,9),(1,9)]) 2 32 (.agg #[.string ⟨#[]⟩,.string ⟨#[]⟩]):=⟨⟨by kernel_rfl,by kernel_rfl⟩⟩
abbrev zc1:=ti147.ok
instance ti151:FitsI prog 151 (.slice 243) 1 24 (.slice none 0 0):=⟨⟨by kernel_rfl,by kernel_rfl⟩⟩
abbrev zx0:=ti151.ok
instance ti153:FitsI prog 153 (.slice 157) 1 24 (.slice none 0 0):=⟨⟨by kernel_rfl,by kernel_rfl⟩⟩
abbrev zx1:=ti153.ok
instance ti157:FitsI prog 157 (.struct [(0,3),(1,9),(2,9)]) 3 40 (.agg #[.int .i64 0,.string ⟨#[]⟩,.string ⟨#[]⟩]):=⟨⟨by kernel_rfl,by kernel_rfl⟩⟩
abbrev zpd:=ti157.ok
instance ti162:FitsI prog 162 (.slice 51) 1 24 (.slice none 0 0):=⟨⟨by kernel_rfl,by kernel_rfl⟩⟩
abbrev zd9:=ti162.ok
theorem zrn:Fits prog 167 (.slice 4) 1 24 (.slice none 0 0):=⟨by kernel_rfl,by kernel_rfl⟩
instance ti182:FitsI prog 182 (.struct [(0,3),(1,9),(2,9),(3,4),(4,55),(6,55)]) 8 80 (.agg #[.int .i64 0,.string ⟨#[]⟩,.string ⟨#[]⟩,.bool false,.int .i64 0,.int .i64 0,.int .i64 0,.int .i64 0]):=⟨⟨by kernel_rfl,by kernel_rfl⟩⟩
abbrev zcs:=ti182.ok
instance ti187:FitsI prog 187 (.struct [(0,9),(1,3),(2,9),(3,3),(4,3),(5,3),(6,9)]) 7 80 (.agg #[.string ⟨#[]⟩,.int .i64 0,.string ⟨#[]⟩,.int .i64 0,.int .i64 0,.int .i64 0,.string ⟨#[]⟩]):=⟨⟨by kernel_rfl,by kernel_rfl⟩⟩
abbrev zbq:=ti187.ok
instance ti192:FitsI prog 192 (.struct [(0,9),(1,3),(2,3),(3,3)]) 4 40 (.agg #[.string ⟨#[]⟩,.int .i64 0,.int .i64 0,.int .i64 0]):=⟨⟨by kernel_rfl,by kernel_rfl⟩⟩
abbrev zcB:=ti192.ok
instance ti194:FitsI prog 194 .func 1 8 (.nilFunc):=⟨⟨by kernel_rfl,by kernel_rfl⟩⟩
abbrev zGN:=ti194.ok
theorem ziQ:Fits prog 206 (.map 9 4) 1 8 (.map none):=⟨by kernel_rfl,by kernel_rfl⟩
instance ti207:FitsI prog 207 (.map 9 3) 1 8 (.map none):=⟨⟨by kernel_rfl,by kernel_rfl⟩⟩
abbrev zeP:=ti207.ok
instance ti230:FitsI prog 230 (.map 9 9) 1 8 (.map none):=⟨⟨by kernel_rfl,by kernel_rfl⟩⟩
abbrev ziR:=ti230.ok
theorem zB5:Fits prog 232 (.map 237 4) 1 8 (.map none):=⟨by kernel_rfl,by kernel_rfl⟩
theorem ztU:Fits prog 235 (.map 239 3) 1 8 (.map none):=⟨by kernel_rfl,by kernel_rfl⟩
instance ti237:FitsI prog 237 (.struct [(0,9),(1,3)]) 2 24 (.agg #[.string ⟨#[]⟩,.int .i64 0]):=⟨⟨by kernel_rfl,by kernel_rfl⟩⟩
abbrev zm9:=ti237.ok
instance ti239:FitsI prog 239 (.struct [(0,9),(1,9)]) 2 32 (.agg #[.string ⟨#[]⟩,.string ⟨#[]⟩]):=⟨⟨by kernel_rfl,by kernel_rfl⟩⟩
abbrev zro:=ti239.ok
instance ti243:FitsI prog 243 (.struct [(0,3),(1,9),(2,9)]) 3 40 (.agg #[.int .i64 0,.string ⟨#[]⟩,.string ⟨#[]⟩]):=⟨⟨by kernel_rfl,by kernel_rfl⟩⟩
abbrev zna:=ti243.ok
instance ti253:FitsI prog 253 (.struct [(0,3),(1,3),(2,9),(3,9)]) 4 48 (.agg #[.int .i64 0,.int .i64 0,.string ⟨#[]⟩,.string ⟨#[]⟩]):=⟨⟨by kernel_rfl,by kernel_rfl⟩⟩
abbrev zaK:=ti253.ok
instance ti261:FitsI prog 261 (.struct [(0,9),(1,9),(2,9),(3,3),(4,3),(5,55)]) 7 80 (.agg #[.string ⟨#[]⟩,.string ⟨#[]⟩,.string ⟨#[]⟩,.int .i64 0,.int .i64 0,.int .i64 0,.int .i64 0]):=⟨⟨by kernel_rfl,by kernel_rfl⟩⟩
abbrev zgG:=ti261.ok
instance ti265:FitsI prog 265 (.struct [(0,9),(1,9),(2,3)]) 3 40 (.agg #[.string ⟨#[]⟩,.string ⟨#[]⟩,.int .i64 0]):=⟨⟨by kernel_rfl,by kernel_rfl⟩⟩
abbrev zcP:=ti265.ok
instance ti267:FitsI prog 267 .func 1 8 (.nilFunc):=⟨⟨by kernel_rfl,by kernel_rfl⟩⟩
abbrev zGO:=ti267.ok
theorem zk4:Fits prog 271 (.int .u64) 1 8 (.int .u64 0):=⟨by kernel_rfl,by kernel_rfl⟩
instance ti292:FitsI prog 292 (.map 9 33) 1 8 (.map none):=⟨⟨by kernel_rfl,by kernel_rfl⟩⟩
abbrev zdH:=ti292.ok
instance ti293:FitsI prog 293 (.map 393 3) 1 8 (.map none):=⟨⟨by kernel_rfl,by kernel_rfl⟩⟩
abbrev zjL:=ti293.ok
instance ti295:FitsI prog 295 (.struct [(0,32),(4,292),(5,292),(6,230),(7,207),(8,293)]) 9 72 (.agg #[.int .i64 0,.int .i64 0,.int .i64 0,.int .i64 0,.map none,.map none,.map none,.map none,.map none]):=⟨⟨by kernel_rfl,by kernel_rfl⟩⟩
abbrev zB6:=ti295.ok
theorem zB7:Fits prog 298 (.map 237 81) 1 8 (.map none):=⟨by kernel_rfl,by kernel_rfl⟩
theorem zx2:Fits prog 300 (.map 9 94) 1 8 (.map none):=⟨by kernel_rfl,by kernel_rfl⟩
instance ti302:FitsI prog 302 (.struct [(0,9),(1,3)]) 2 24 (.agg #[.string ⟨#[]⟩,.int .i64 0]):=⟨⟨by kernel_rfl,by kernel_rfl⟩⟩
abbrev zci:=ti302.ok
theorem zpe:Fits prog 312 (.int .u64) 1 8 (.int .u64 0):=⟨by kernel_rfl,by kernel_rfl⟩
theorem zk5:Fits prog 333 (.arr 256 4) 256 256 (.agg #[.bool false,.bool false,.bool false,.bool false,.bool false,.bool false,.bool false,.bool false,.bool false,.bool false,.bool false,.bool false,.bool false,.bool false,.bool false,.bool false,.bool false,.bool false,.bool false,.bool false,.bool false,.bool false,.bool false,.bool false,.bool false,.bool false,.bool false,.bool false,.bool false,.bool false,.bool false,.bool false,.bool false,.bool false,.bool false,.bool false,.bool false,.bool false,.bool false,.bool false,.bool false,.bool false,.bool false,.bool false,.bool false,.bool false,.bool false,.bool false,.bool false,.bool false,.bool false,.bool false,.bool false,.bool false,.bool false,.bool false,.bool false,.bool false,.bool false,.bool false,.bool false,.bool false,.bool false,.bool false,.bool false,.bool false,.bool false,.bool false,.bool false,.bool false,.bool false,.bool false,.bool false,.bool false,.bool false,.bool false,.bool false,.bool false,.bool false,.bool false,.bool false,.bool false,.bool false,.bool false,.bool false,.bool false,.bool false,.bool false,.bool false,.bool false,.bool false,.bool false,.bool false,.bool false,.bool false,.bool false,.bool false,.bool false,.bool false,.bool false,.bool false,.bool false,.bool false,.bool false,.bool false,.bool false,.bool false,.bool false,.bool false,.bool false,.bool false,.bool false,.bool false,.bool false,.bool false,.bool false,.bool false,.bool false,.bool false,.bool false,.bool false,.bool false,.bool false,.bool false,.bool false,.bool false,.bool false,.bool false,.bool false,.bool false,.bool false,.bool false,.bool false,.bool false,.bool false,.bool false,.bool false,.bool false,.bool false,.bool false,.bool false,.bool false,.bool false,.bool false,.bool false,.bool false,.bool false,.bool false,.bool false,.bool false,.bool false,.bool false,.bool false,.bool false,.bool false,.bool false,.bool false,.bool false,.bool false,.bool false,.bool false,.bool false,.bool false,.bool false,.bool false,.bool false,.bool false,.bool false,.bool false,.bool false,.bool false,.bool false,.bool false,.bool false,.bool false,.bool false,.bool false,.bool false,.bool false,.bool false,.bool false,.bool false,.bool false,.bool false,.bool false,.bool false,.bool false,.bool false,.bool false,.bool false,.bool false,.bool false,.bool false,.bool false,.bool false,.bool false,.bool false,.bool false,.bool false,.bool false,.bool false,.bool false,.bool false,.bool false,.bool false,.bool false,.bool false,.bool false,.bool false,.bool false,.bool false,.bool false,.bool false,.bool false,.bool false,.bool false,.bool false,.bool false,.bool false,.bool false,.bool false,.bool false,.bool false,.bool false,.bool false,.bool false,.bool false,.bool false,.bool false,.bool false,.bool false,.bool false,.bool false,.bool false,.bool false,.bool false,.bool false,.bool false,.bool false,.bool false,.bool false,.bool false,.bool false,.bool false,.bool false,.bool false,.bool false,.bool false,.bool false,.bool false,.bool false,.bool false,.bool false,.bool false,.bool false,.bool false]):=⟨by kernel_rfl,by kernel_rfl⟩
theorem zB8:Fits prog 338 (.map 340 4) 1 8 (.map none):=⟨by kernel_rfl,by kernel_rfl⟩
instance ti340:FitsI prog 340 (.struct [(0,9),(1,3)]) 2 24 (.agg #[.string ⟨#[]⟩,.int .i64 0]):=⟨⟨by kernel_rfl,by kernel_rfl⟩⟩
abbrev zrp:=ti340.ok
theorem zk6:Fits prog 343 (.map 346 94) 1 8 (.map none):=⟨by kernel_rfl,by kernel_rfl⟩
instance ti346:FitsI prog 346 (.struct [(0,9),(1,3)]) 2 24 (.agg #[.string ⟨#[]⟩,.int .i64 0]):=⟨⟨by kernel_rfl,by kernel_rfl⟩⟩
abbrev zg8:=ti346.ok
theorem zx3:Fits prog 393 (.struct [(0,9),(1,3)]) 2 24 (.agg #[.string ⟨#[]⟩,.int .i64 0]):=⟨by kernel_rfl,by kernel_rfl⟩
theorem pl25:Places prog [(0,22),(1,3)] [(0,1),(1,1)]:=⟨rfl,⟨_,_,_,zac⟩,⟨rfl,⟨_,_,_,ty3⟩,trivial⟩⟩
theorem pl32:Places prog [(0,3),(1,3),(2,3),(3,3)] [(0,1),(1,1),(2,1),(3,1)]:=⟨rfl,⟨_,_,_,ty3⟩,⟨rfl,⟨_,_,_,ty3⟩,⟨rfl,⟨_,_,_,ty3⟩,⟨rfl,⟨_,_,_,ty3⟩,trivial⟩⟩⟩⟩
theorem zks:Places prog [(0,26),(1,27),(2,28),(3,29),(4,30),(5,32),(9,33),(10,34),(11,22),(12,33),(13,3)] [(0,1),(1,1),(2,1),(3,1),(4,1),(5,4),(9,1),(10,1),(11,1),(12,1),(13,1)]:=⟨rfl,⟨_,_,_,znb⟩,⟨rfl,⟨_,_,_,zhs⟩,⟨rfl,⟨_,_,_,zc7⟩,⟨rfl,⟨_,_,_,zoR⟩,⟨rfl,⟨_,_,_,zcl⟩,⟨rfl,⟨_,_,_,zjn⟩,⟨rfl,⟨_,_,_,zq⟩,⟨rfl,⟨_,_,_,zgo⟩,⟨rfl,⟨_,_,_,zac⟩,⟨rfl,⟨_,_,_,zq⟩,⟨rfl,⟨_,_,_,ty3⟩,trivial⟩⟩⟩⟩⟩⟩⟩⟩⟩⟩⟩
theorem pl43:Places prog [(0,36),(14,37),(15,38),(16,39),(17,40),(18,41)] [(0,14),(14,1),(15,1),(16,1),(17,1),(18,1)]:=⟨rfl,⟨_,_,_,zbi⟩,⟨rfl,⟨_,_,_,zb9⟩,⟨rfl,⟨_,_,_,zht⟩,⟨rfl,⟨_,_,_,zgO⟩,⟨rfl,⟨_,_,_,zjo⟩,⟨rfl,⟨_,_,_,zeF⟩,trivial⟩⟩⟩⟩⟩⟩
theorem pl49:Places prog [(0,9),(1,3),(2,3),(3,33),(4,9)] [(0,1),(1,1),(2,1),(3,1),(4,1)]:=⟨rfl,⟨_,_,_,ty9⟩,⟨rfl,⟨_,_,_,ty3⟩,⟨rfl,⟨_,_,_,ty3⟩,⟨rfl,⟨_,_,_,zq⟩,⟨rfl,⟨_,_,_,ty9⟩,trivial⟩⟩⟩⟩⟩
theorem zid:Places prog [(0,3),(1,3)] [(0,1),(1,1)]:=⟨rfl,⟨_,_,_,ty3⟩,⟨rfl,⟨_,_,_,ty3⟩,trivial⟩⟩
theorem zAy:Places prog [(0,9),(1,33)] [(0,1),(1,1)]:=⟨rfl,⟨_,_,_,ty9⟩,⟨rfl,⟨_,_,_,zq⟩,trivial⟩⟩
theorem zAz:Places prog [(0,69),(1,3)] [(0,1),(1,1)]:=⟨rfl,⟨_,_,_,zcQ⟩,⟨rfl,⟨_,_,_,ty3⟩,trivial⟩⟩
theorem zu3:Places prog [(0,9),(1,3),(2,3),(3,3),(4,9),(5,9),(6,9),(7,3),(8,3)] [(0,1),(1,1),(2,1),(3,1),(4,1),(5,1),(6,1),(7,1),(8,1)]:=⟨rfl,⟨_,_,_,ty9⟩,⟨rfl,⟨_,_,_,ty3⟩,⟨rfl,⟨_,_,_,ty3⟩,⟨rfl,⟨_,_,_,ty3⟩,⟨rfl,⟨_,_,_,ty9⟩,⟨rfl,⟨_,_,_,ty9⟩,⟨rfl,⟨_,_,_,ty9⟩,⟨rfl,⟨_,_,_,ty3⟩,⟨rfl,⟨_,_,_,ty3⟩,trivial⟩⟩⟩⟩⟩⟩⟩⟩⟩
theorem pl83:Places prog [(0,33),(1,3),(2,3),(3,33),(4,3),(5,3)] [(0,1),(1,1),(2,1),(3,1),(4,1),(5,1)]:=⟨rfl,⟨_,_,_,zq⟩,⟨rfl,⟨_,_,_,ty3⟩,⟨rfl,⟨_,_,_,ty3⟩,⟨rfl,⟨_,_,_,zq⟩,⟨rfl,⟨_,_,_,ty3⟩,⟨rfl,⟨_,_,_,ty3⟩,trivial⟩⟩⟩⟩⟩⟩
theorem pl89:Places prog [(0,9),(1,9),(2,3)] [(0,1),(1,1),(2,1)]:=⟨rfl,⟨_,_,_,ty9⟩,⟨rfl,⟨_,_,_,ty9⟩,⟨rfl,⟨_,_,_,ty3⟩,trivial⟩⟩⟩
theorem pl92:Places prog [(0,9),(1,3)] [(0,1),(1,1)]:=⟨rfl,⟨_,_,_,ty9⟩,⟨rfl,⟨_,_,_,ty3⟩,trivial⟩⟩
theorem pl96:Places prog [(0,9),(1,3),(2,94)] [(0,1),(1,1),(2,1)]:=⟨rfl,⟨_,_,_,ty9⟩,⟨rfl,⟨_,_,_,ty3⟩,⟨rfl,⟨_,_,_,zc9⟩,trivial⟩⟩⟩
theorem zBU:Places prog [(0,30),(1,50)] [(0,1),(1,1)]:=⟨rfl,⟨_,_,_,zcl⟩,⟨rfl,⟨_,_,_,zcn⟩,trivial⟩⟩
theorem zGv:Places prog [(0,3),(1,3),(2,9),(3,9)] [(0,1),(1,1),(2,1),(3,1)]:=⟨rfl,⟨_,_,_,ty3⟩,⟨rfl,⟨_,_,_,ty3⟩,⟨rfl,⟨_,_,_,ty9⟩,⟨rfl,⟨_,_,_,ty9⟩,trivial⟩⟩⟩⟩
theorem zGw:Places prog [(0,9),(1,33),(2,33)] [(0,1),(1,1),(2,1)]:=⟨rfl,⟨_,_,_,ty9⟩,⟨rfl,⟨_,_,_,zq⟩,⟨rfl,⟨_,_,_,zq⟩,trivial⟩⟩⟩
theorem zGx:Places prog [(0,9),(1,9),(2,33)] [(0,1),(1,1),(2,1)]:=⟨rfl,⟨_,_,_,ty9⟩,⟨rfl,⟨_,_,_,ty9⟩,⟨rfl,⟨_,_,_,zq⟩,trivial⟩⟩⟩
theorem zBV:Places prog [(0,9),(1,33),(2,55),(4,4)] [(0,1),(1,1),(2,2),(4,1)]:=⟨rfl,⟨_,_,_,ty9⟩,⟨rfl,⟨_,_,_,zq⟩,⟨rfl,⟨_,_,_,zU⟩,⟨rfl,⟨_,_,_,ty4⟩,trivial⟩⟩⟩⟩
theorem zBW:Places prog [(0,9),(1,9)] [(0,1),(1,1)]:=⟨rfl,⟨_,_,_,ty9⟩,⟨rfl,⟨_,_,_,ty9⟩,trivial⟩⟩
theorem zGy:Places prog [(0,3),(1,9),(2,9)] [(0,1),(1,1),(2,1)]:=⟨rfl,⟨_,_,_,ty3⟩,⟨rfl,⟨_,_,_,ty9⟩,⟨rfl,⟨_,_,_,ty9⟩,trivial⟩⟩⟩
theorem zGz:Places prog [(0,3),(1,9),(2,9),(3,4),(4,55),(6,55)] [(0,1),(1,1),(2,1),(3,1),(4,2),(6,2)]:=⟨rfl,⟨_,_,_,ty3⟩,⟨rfl,⟨_,_,_,ty9⟩,⟨rfl,⟨_,_,_,ty9⟩,⟨rfl,⟨_,_,_,ty4⟩,⟨rfl,⟨_,_,_,zU⟩,⟨rfl,⟨_,_,_,zU⟩,trivial⟩⟩⟩⟩⟩⟩
theorem zGA:Places prog [(0,9),(1,3),(2,9),(3,3),(4,3),(5,3),(6,9)] [(0,1),(1,1),(2,1),(3,1),(4,1),(5,1),(6,1)]:=⟨rfl,⟨_,_,_,ty9⟩,⟨rfl,⟨_,_,_,ty3⟩,⟨rfl,⟨_,_,_,ty9⟩,⟨rfl,⟨_,_,_,ty3⟩,⟨rfl,⟨_,_,_,ty3⟩,⟨rfl,⟨_,_,_,ty3⟩,⟨rfl,⟨_,_,_,ty9⟩,trivial⟩⟩⟩⟩⟩⟩⟩
theorem zGB:Places prog [(0,9),(1,3),(2,3),(3,3)] [(0,1),(1,1),(2,1),(3,1)]:=⟨rfl,⟨_,_,_,ty9⟩,⟨rfl,⟨_,_,_,ty3⟩,⟨rfl,⟨_,_,_,ty3⟩,⟨rfl,⟨_,_,_,ty3⟩,trivial⟩⟩⟩⟩
theorem zxJ:Places prog [(0,9),(1,3)] [(0,1),(1,1)]:=⟨rfl,⟨_,_,_,ty9⟩,⟨rfl,⟨_,_,_,ty3⟩,trivial⟩⟩
theorem zGC:Places prog [(0,9),(1,9)] [(0,1),(1,1)]:=⟨rfl,⟨_,_,_,ty9⟩,⟨rfl,⟨_,_,_,ty9⟩,trivial⟩⟩
theorem zGD:Places prog [(0,3),(1,3),(2,9),(3,9)] [(0,1),(1,1),(2,1),(3,1)]:=⟨rfl,⟨_,_,_,ty3⟩,⟨rfl,⟨_,_,_,ty3⟩,⟨rfl,⟨_,_,_,ty9⟩,⟨rfl,⟨_,_,_,ty9⟩,trivial⟩⟩⟩⟩
theorem zGE:Places prog [(0,9),(1,9),(2,9),(3,3),(4,3),(5,55)] [(0,1),(1,1),(2,1),(3,1),(4,1),(5,2)]:=⟨rfl,⟨_,_,_,ty9⟩,⟨rfl,⟨_,_,_,ty9⟩,⟨rfl,⟨_,_,_,ty9⟩,⟨rfl,⟨_,_,_,ty3⟩,⟨rfl,⟨_,_,_,ty3⟩,⟨rfl,⟨_,_,_,zU⟩,trivial⟩⟩⟩⟩⟩⟩
theorem zGF:Places prog [(0,9),(1,9),(2,3)] [(0,1),(1,1),(2,1)]:=⟨rfl,⟨_,_,_,ty9⟩,⟨rfl,⟨_,_,_,ty9⟩,⟨rfl,⟨_,_,_,ty3⟩,trivial⟩⟩⟩
theorem zGG:Places prog [(0,32),(4,292),(5,292),(6,230),(7,207),(8,293)] [(0,4),(4,1),(5,1),(6,1),(7,1),(8,1)]:=⟨rfl,⟨_,_,_,zjn⟩,⟨rfl,⟨_,_,_,zdH⟩,⟨rfl,⟨_,_,_,zdH⟩,⟨rfl,⟨_,_,_,ziR⟩,⟨rfl,⟨_,_,_,zeP⟩,⟨rfl,⟨_,_,_,zjL⟩,trivial⟩⟩⟩⟩⟩⟩
theorem zBX:Places prog [(0,9),(1,3)] [(0,1),(1,1)]:=⟨rfl,⟨_,_,_,ty9⟩,⟨rfl,⟨_,_,_,ty3⟩,trivial⟩⟩
theorem zGH:Places prog [(0,9),(1,3)] [(0,1),(1,1)]:=⟨rfl,⟨_,_,_,ty9⟩,⟨rfl,⟨_,_,_,ty3⟩,trivial⟩⟩
theorem zBY:Places prog [(0,9),(1,3)] [(0,1),(1,1)]:=⟨rfl,⟨_,_,_,ty9⟩,⟨rfl,⟨_,_,_,ty3⟩,trivial⟩⟩
theorem zBZ:Places prog [(0,9),(1,3)] [(0,1),(1,1)]:=⟨rfl,⟨_,_,_,ty9⟩,⟨rfl,⟨_,_,_,ty3⟩,trivial⟩⟩
theorem zuz:EqOk prog 55:=⟨by kernel_rfl,by kernel_rfl,by kernel_rfl⟩
theorem zBN:EqOk prog 111:=⟨by kernel_rfl,by kernel_rfl,by kernel_rfl⟩
theorem zGj:EqOk prog 237:=⟨by kernel_rfl,by kernel_rfl,by kernel_rfl⟩
theorem zGk:EqOk prog 239:=⟨by kernel_rfl,by kernel_rfl,by kernel_rfl⟩
theorem zGl:EqOk prog 340:=⟨by kernel_rfl,by kernel_rfl,by kernel_rfl⟩
theorem zGm:EqOk prog 346:=⟨by kernel_rfl,by kernel_rfl,by kernel_rfl⟩
theorem zGn:EqOk prog 393:=⟨by kernel_rfl,by kernel_rfl,by kernel_rfl⟩
theorem ca4:Callable prog 4:=⟨_,func4,by kernel_rfl,by kernel_rfl⟩
theorem ca5:Callable prog 5:=⟨_,func5,by kernel_rfl,by kernel_rfl⟩
theorem ca6:Callable prog 6:=⟨_,func6,by kernel_rfl,by kernel_rfl⟩
theorem ca7:Callable prog 7:=⟨_,func7,by kernel_rfl,by kernel_rfl⟩
theorem ca8:Callable prog 8:=⟨_,func8,by kernel_rfl,by kernel_rfl⟩
theorem ca9:Callable prog 9:=⟨_,func9,by kernel_rfl,by kernel_rfl⟩
theorem ca10:Callable prog 10:=⟨_,func10,by kernel_rfl,by kernel_rfl⟩
theorem ca11:Callable prog 11:=⟨_,func11,by kernel_rfl,by kernel_rfl⟩
theorem ca12:Callable prog 12:=⟨_,func12,by kernel_rfl,by kernel_rfl⟩
theorem ca13:Callable prog 13:=⟨_,func13,by kernel_rfl,by kernel_rfl⟩
theorem ca14:Callable prog 14:=⟨_,func14,by kernel_rfl,by kernel_rfl⟩
theorem ca15:Callable prog 15:=⟨_,func15,by kernel_rfl,by kernel_rfl⟩
theorem zhi:Callable prog 16:=⟨_,func16,by kernel_rfl,by kernel_rfl⟩
theorem zzA:Callable prog 17:=⟨_,func17,by kernel_rfl,by kernel_rfl⟩
theorem ca18:Callable prog 18:=⟨_,func18,by kernel_rfl,by kernel_rfl⟩
theorem ca19:Callable prog 19:=⟨_,func19,by kernel_rfl,by kernel_rfl⟩
theorem ca20:Callable prog 20:=⟨_,func20,by kernel_rfl,by kernel_rfl⟩
theorem ca21:Callable prog 21:=⟨_,func21,by kernel_rfl,by kernel_rfl⟩
theorem ca22:Callable prog 22:=⟨_,func22,by kernel_rfl,by kernel_rfl⟩
theorem ca23:Callable prog 23:=⟨_,func23,by kernel_rfl,by kernel_rfl⟩
theorem ca24:Callable prog 24:=⟨_,func24,by kernel_rfl,by kernel_rfl⟩
theorem ca25:Callable prog 25:=⟨_,func25,by kernel_rfl,by kernel_rfl⟩
theorem zkf:Callable prog 26:=⟨_,func26,by kernel_rfl,by kernel_rfl⟩
theorem zzB:Callable prog 27:=⟨_,func27,by kernel_rfl,by kernel_rfl⟩
theorem zzC:Callable prog 28:=⟨_,func28,by kernel_rfl,by kernel_rfl⟩
theorem ca29:Callable prog 29:=⟨_,func29,by kernel_rfl,by kernel_rfl⟩
theorem zw4:Callable prog 30:=⟨_,func30,by kernel_rfl,by kernel_rfl⟩
theorem zw5:Callable prog 31:=⟨_,func31,by kernel_rfl,by kernel_rfl⟩
theorem ca32:Callable prog 32:=⟨_,func32,by kernel_rfl,by kernel_rfl⟩
theorem zw7:Callable prog 33:=⟨_,func33,by kernel_rfl,by kernel_rfl⟩
theorem zw8:Callable prog 34:=⟨_,func34,by kernel_rfl,by kernel_rfl⟩
theorem zw9:Callable prog 35:=⟨_,func35,by kernel_rfl,by kernel_rfl⟩
theorem ca36:Callable prog 36:=⟨_,func36,by kernel_rfl,by kernel_rfl⟩
theorem ca37:Callable prog 37:=⟨_,func37,by kernel_rfl,by kernel_rfl⟩
theorem ca38:Callable prog 38:=⟨_,func38,by kernel_rfl,by kernel_rfl⟩
theorem ca39:Callable prog 39:=⟨_,func39,by kernel_rfl,by kernel_rfl⟩
theorem zeB:Callable prog 40:=⟨_,func40,by kernel_rfl,by kernel_rfl⟩
theorem zkg:Callable prog 41:=⟨_,func41,by kernel_rfl,by kernel_rfl⟩
theorem ca42:Callable prog 42:=⟨_,func42,by kernel_rfl,by kernel_rfl⟩
theorem zzD:Callable prog 43:=⟨_,func43,by kernel_rfl,by kernel_rfl⟩
theorem ca44:Callable prog 44:=⟨_,func44,by kernel_rfl,by kernel_rfl⟩
theorem ca45:Callable prog 45:=⟨_,func45,by kernel_rfl,by kernel_rfl⟩
theorem ca46:Callable prog 46:=⟨_,func46,by kernel_rfl,by kernel_rfl⟩
theorem ca47:Callable prog 47:=⟨_,func47,by kernel_rfl,by kernel_rfl⟩
theorem ca48:Callable prog 48:=⟨_,func48,by kernel_rfl,by kernel_rfl⟩
theorem zzE:Callable prog 49:=⟨_,func49,by kernel_rfl,by kernel_rfl⟩
theorem ca50:Callable prog 50:=⟨_,func50,by kernel_rfl,by kernel_rfl⟩
theorem zhj:Callable prog 51:=⟨_,func51,by kernel_rfl,by kernel_rfl⟩
theorem zlq:Callable prog 52:=⟨_,func52,by kernel_rfl,by kernel_rfl⟩
theorem zkh:Callable prog 53:=⟨_,func53,by kernel_rfl,by kernel_rfl⟩
theorem ca54:Callable prog 54:=⟨_,func54,by kernel_rfl,by kernel_rfl⟩
theorem ca55:Callable prog 55:=⟨_,func55,by kernel_rfl,by kernel_rfl⟩
theorem ca56:Callable prog 56:=⟨_,func56,by kernel_rfl,by kernel_rfl⟩
theorem ca57:Callable prog 57:=⟨_,func57,by kernel_rfl,by kernel_rfl⟩
theorem ca58:Callable prog 58:=⟨_,func58,by kernel_rfl,by kernel_rfl⟩
theorem ca59:Callable prog 59:=⟨_,func59,by kernel_rfl,by kernel_rfl⟩
theorem ca60:Callable prog 60:=⟨_,func60,by kernel_rfl,by kernel_rfl⟩
theorem ca61:Callable prog 61:=⟨_,func61,by kernel_rfl,by kernel_rfl⟩
theorem ca62:Callable prog 62:=⟨_,func62,by kernel_rfl,by kernel_rfl⟩
theorem ca63:Callable prog 63:=⟨_,func63,by kernel_rfl,by kernel_rfl⟩
theorem ca64:Callable prog 64:=⟨_,func64,by kernel_rfl,by kernel_rfl⟩
theorem ca65:Callable prog 65:=⟨_,func65,by kernel_rfl,by kernel_rfl⟩
theorem ca66:Callable prog 66:=⟨_,func66,by kernel_rfl,by kernel_rfl⟩
theorem ca67:Callable prog 67:=⟨_,func67,by kernel_rfl,by kernel_rfl⟩
theorem ca68:Callable prog 68:=⟨_,func68,by kernel_rfl,by kernel_rfl⟩
theorem ca69:Callable prog 69:=⟨_,func69,by kernel_rfl,by kernel_rfl⟩
theorem ca70:Callable prog 70:=⟨_,func70,by kernel_rfl,by kernel_rfl⟩
theorem ca71:Callable prog 71:=⟨_,func71,by kernel_rfl,by kernel_rfl⟩
theorem ca72:Callable prog 72:=⟨_,func72,by kernel_rfl,by kernel_rfl⟩
theorem ca73:Callable prog 73:=⟨_,func73,by kernel_rfl,by kernel_rfl⟩
theorem ca74:Callable prog 74:=⟨_,func74,by kernel_rfl,by kernel_rfl⟩
theorem zcD:Callable prog 75:=⟨_,func75,by kernel_rfl,by kernel_rfl⟩
theorem ca76:Callable prog 76:=⟨_,func76,by kernel_rfl,by kernel_rfl⟩
theorem ca77:Callable prog 77:=⟨_,func77,by kernel_rfl,by kernel_rfl⟩
theorem zzF:Callable prog 78:=⟨_,func78,by kernel_rfl,by kernel_rfl⟩
theorem zxa:Callable prog 79:=⟨_,func79,by kernel_rfl,by kernel_rfl⟩
theorem zzG:Callable prog 80:=⟨_,func80,by kernel_rfl,by kernel_rfl⟩
theorem ca81:Callable prog 81:=⟨_,func81,by kernel_rfl,by kernel_rfl⟩
theorem ca82:Callable prog 82:=⟨_,func82,by kernel_rfl,by kernel_rfl⟩
theorem ca83:Callable prog 83:=⟨_,func83,by kernel_rfl,by kernel_rfl⟩
theorem zzH:Callable prog 84:=⟨_,func84,by kernel_rfl,by kernel_rfl⟩
theorem ca85:Callable prog 85:=⟨_,func85,by kernel_rfl,by kernel_rfl⟩
theorem ca86:Callable prog 86:=⟨_,func86,by kernel_rfl,by kernel_rfl⟩
theorem zzI:Callable prog 87:=⟨_,func87,by kernel_rfl,by kernel_rfl⟩
theorem zxb:Callable prog 88:=⟨_,func88,by kernel_rfl,by kernel_rfl⟩
theorem zrH:Callable prog 89:=⟨_,func89,by kernel_rfl,by kernel_rfl⟩
theorem zrI:Callable prog 90:=⟨_,func90,by kernel_rfl,by kernel_rfl⟩
theorem zn8:Callable prog 91:=⟨_,func91,by kernel_rfl,by kernel_rfl⟩
theorem zmH:Callable prog 92:=⟨_,func92,by kernel_rfl,by kernel_rfl⟩
theorem ca93:Callable prog 93:=⟨_,func93,by kernel_rfl,by kernel_rfl⟩
theorem ca94:Callable prog 94:=⟨_,func94,by kernel_rfl,by kernel_rfl⟩
theorem ca95:Callable prog 95:=⟨_,func95,by kernel_rfl,by kernel_rfl⟩
theorem ca96:Callable prog 96:=⟨_,func96,by kernel_rfl,by kernel_rfl⟩
theorem ca97:Callable prog 97:=⟨_,func97,by kernel_rfl,by kernel_rfl⟩
theorem ca98:Callable prog 98:=⟨_,func98,by kernel_rfl,by kernel_rfl⟩
theorem zzJ:Callable prog 99:=⟨_,func99,by kernel_rfl,by kernel_rfl⟩
theorem zcf:Callable prog 100:=⟨_,func100,by kernel_rfl,by kernel_rfl⟩
theorem zmF:Callable prog 101:=⟨_,func101,by kernel_rfl,by kernel_rfl⟩
theorem zEj:Callable prog 102:=⟨_,func102,by kernel_rfl,by kernel_rfl⟩
theorem zBb:Callable prog 103:=⟨_,func103,by kernel_rfl,by kernel_rfl⟩
theorem zEk:Callable prog 104:=⟨_,func104,by kernel_rfl,by kernel_rfl⟩
theorem zEl:Callable prog 105:=⟨_,func105,by kernel_rfl,by kernel_rfl⟩
theorem zEm:Callable prog 106:=⟨_,func106,by kernel_rfl,by kernel_rfl⟩
theorem zEn:Callable prog 107:=⟨_,func107,by kernel_rfl,by kernel_rfl⟩
theorem zEo:Callable prog 108:=⟨_,func108,by kernel_rfl,by kernel_rfl⟩
theorem zEp:Callable prog 109:=⟨_,func109,by kernel_rfl,by kernel_rfl⟩
theorem zBc:Callable prog 110:=⟨_,func110,by kernel_rfl,by kernel_rfl⟩
theorem zEq:Callable prog 111:=⟨_,func111,by kernel_rfl,by kernel_rfl⟩
theorem zwW:Callable prog 112:=⟨_,func112,by kernel_rfl,by kernel_rfl⟩
theorem zEr:Callable prog 113:=⟨_,func113,by kernel_rfl,by kernel_rfl⟩
theorem zEs:Callable prog 114:=⟨_,func114,by kernel_rfl,by kernel_rfl⟩
theorem zEt:Callable prog 115:=⟨_,func115,by kernel_rfl,by kernel_rfl⟩
theorem ztx:Callable prog 116:=⟨_,func116,by kernel_rfl,by kernel_rfl⟩
theorem zBd:Callable prog 117:=⟨_,func117,by kernel_rfl,by kernel_rfl⟩
theorem zgv:Callable prog 118:=⟨_,func118,by kernel_rfl,by kernel_rfl⟩
theorem zhU:Callable prog 119:=⟨_,func119,by kernel_rfl,by kernel_rfl⟩
theorem zEu:Callable prog 120:=⟨_,func120,by kernel_rfl,by kernel_rfl⟩
theorem zEv:Callable prog 121:=⟨_,func121,by kernel_rfl,by kernel_rfl⟩
theorem zjy:Callable prog 122:=⟨_,func122,by kernel_rfl,by kernel_rfl⟩
theorem zwX:Callable prog 123:=⟨_,func123,by kernel_rfl,by kernel_rfl⟩
theorem zmG:Callable prog 124:=⟨_,func124,by kernel_rfl,by kernel_rfl⟩
theorem zEw:Callable prog 125:=⟨_,func125,by kernel_rfl,by kernel_rfl⟩
theorem zty:Callable prog 126:=⟨_,func126,by kernel_rfl,by kernel_rfl⟩
theorem zBe:Callable prog 127:=⟨_,func127,by kernel_rfl,by kernel_rfl⟩
theorem zBf:Callable prog 128:=⟨_,func128,by kernel_rfl,by kernel_rfl⟩
theorem zEx:Callable prog 129:=⟨_,func129,by kernel_rfl,by kernel_rfl⟩
theorem zEy:Callable prog 130:=⟨_,func130,by kernel_rfl,by kernel_rfl⟩
theorem zBg:Callable prog 131:=⟨_,func131,by kernel_rfl,by kernel_rfl⟩
theorem zBh:Callable prog 132:=⟨_,func132,by kernel_rfl,by kernel_rfl⟩
theorem zEz:Callable prog 133:=⟨_,func133,by kernel_rfl,by kernel_rfl⟩
theorem zEA:Callable prog 134:=⟨_,func134,by kernel_rfl,by kernel_rfl⟩
theorem zBi:Callable prog 135:=⟨_,func135,by kernel_rfl,by kernel_rfl⟩
theorem zbH:Callable prog 136:=⟨_,func136,by kernel_rfl,by kernel_rfl⟩
theorem zEB:Callable prog 137:=⟨_,func137,by kernel_rfl,by kernel_rfl⟩
theorem zEC:Callable prog 138:=⟨_,func138,by kernel_rfl,by kernel_rfl⟩
theorem zED:Callable prog 139:=⟨_,func139,by kernel_rfl,by kernel_rfl⟩
theorem zEE:Callable prog 140:=⟨_,func140,by kernel_rfl,by kernel_rfl⟩
theorem zBj:Callable prog 141:=⟨_,func141,by kernel_rfl,by kernel_rfl⟩
theorem zEF:Callable prog 142:=⟨_,func142,by kernel_rfl,by kernel_rfl⟩
theorem zEG:Callable prog 143:=⟨_,func143,by kernel_rfl,by kernel_rfl⟩
theorem zEH:Callable prog 144:=⟨_,func144,by kernel_rfl,by kernel_rfl⟩
theorem zBk:Callable prog 145:=⟨_,func145,by kernel_rfl,by kernel_rfl⟩
theorem zEI:Callable prog 146:=⟨_,func146,by kernel_rfl,by kernel_rfl⟩
theorem zEJ:Callable prog 147:=⟨_,func147,by kernel_rfl,by kernel_rfl⟩
theorem ztz:Callable prog 148:=⟨_,func148,by kernel_rfl,by kernel_rfl⟩
theorem zEK:Callable prog 149:=⟨_,func149,by kernel_rfl,by kernel_rfl⟩
theorem zEL:Callable prog 150:=⟨_,func150,by kernel_rfl,by kernel_rfl⟩
theorem zEM:Callable prog 151:=⟨_,func151,by kernel_rfl,by kernel_rfl⟩
theorem zEN:Callable prog 152:=⟨_,func152,by kernel_rfl,by kernel_rfl⟩
theorem zEO:Callable prog 153:=⟨_,func153,by kernel_rfl,by kernel_rfl⟩
theorem zEP:Callable prog 154:=⟨_,func154,by kernel_rfl,by kernel_rfl⟩
theorem zEQ:Callable prog 155:=⟨_,func155,by kernel_rfl,by kernel_rfl⟩
theorem zfO:Callable prog 156:=⟨_,func156,by kernel_rfl,by kernel_rfl⟩
theorem zdb:Callable prog 157:=⟨_,func157,by kernel_rfl,by kernel_rfl⟩
theorem zER:Callable prog 158:=⟨_,func158,by kernel_rfl,by kernel_rfl⟩
theorem zES:Callable prog 159:=⟨_,func159,by kernel_rfl,by kernel_rfl⟩
theorem zET:Callable prog 160:=⟨_,func160,by kernel_rfl,by kernel_rfl⟩
theorem zEU:Callable prog 161:=⟨_,func161,by kernel_rfl,by kernel_rfl⟩
theorem zEV:Callable prog 162:=⟨_,func162,by kernel_rfl,by kernel_rfl⟩
theorem zEW:Callable prog 163:=⟨_,func163,by kernel_rfl,by kernel_rfl⟩
theorem zEX:Callable prog 164:=⟨_,func164,by kernel_rfl,by kernel_rfl⟩
theorem ztA:Callable prog 165:=⟨_,func165,by kernel_rfl,by kernel_rfl⟩
theorem zBl:Callable prog 166:=⟨_,func166,by kernel_rfl,by kernel_rfl⟩
theorem zEY:Callable prog 167:=⟨_,func167,by kernel_rfl,by kernel_rfl⟩
theorem zEZ:Callable prog 168:=⟨_,func168,by kernel_rfl,by kernel_rfl⟩
theorem zE0:Callable prog 169:=⟨_,func169,by kernel_rfl,by kernel_rfl⟩
theorem zwY:Callable prog 170:=⟨_,func170,by kernel_rfl,by kernel_rfl⟩
theorem zE1:Callable prog 171:=⟨_,func171,by kernel_rfl,by kernel_rfl⟩
theorem zE2:Callable prog 172:=⟨_,func172,by kernel_rfl,by kernel_rfl⟩
theorem zBm:Callable prog 173:=⟨_,func173,by kernel_rfl,by kernel_rfl⟩
theorem zE3:Callable prog 174:=⟨_,func174,by kernel_rfl,by kernel_rfl⟩
theorem zE4:Callable prog 175:=⟨_,func175,by kernel_rfl,by kernel_rfl⟩
theorem zE5:Callable prog 176:=⟨_,func176,by kernel_rfl,by kernel_rfl⟩
theorem zE6:Callable prog 177:=⟨_,func177,by kernel_rfl,by kernel_rfl⟩
theorem zBn:Callable prog 178:=⟨_,func178,by kernel_rfl,by kernel_rfl⟩
theorem zE7:Callable prog 179:=⟨_,func179,by kernel_rfl,by kernel_rfl⟩
theorem zE8:Callable prog 180:=⟨_,func180,by kernel_rfl,by kernel_rfl⟩
theorem zBo:Callable prog 181:=⟨_,func181,by kernel_rfl,by kernel_rfl⟩
theorem zBp:Callable prog 182:=⟨_,func182,by kernel_rfl,by kernel_rfl⟩
theorem zBq:Callable prog 184:=⟨_,func184,by kernel_rfl,by kernel_rfl⟩
theorem zwZ:Callable prog 185:=⟨_,func185,by kernel_rfl,by kernel_rfl⟩
theorem zE9:Callable prog 187:=⟨_,func187,by kernel_rfl,by kernel_rfl⟩
theorem zFa:Callable prog 188:=⟨_,func188,by kernel_rfl,by kernel_rfl⟩
theorem zFb:Callable prog 189:=⟨_,func189,by kernel_rfl,by kernel_rfl⟩
theorem zFc:Callable prog 190:=⟨_,func190,by kernel_rfl,by kernel_rfl⟩
theorem zBr:Callable prog 191:=⟨_,func191,by kernel_rfl,by kernel_rfl⟩
theorem zw0:Callable prog 192:=⟨_,func192,by kernel_rfl,by kernel_rfl⟩
theorem zw1:Callable prog 193:=⟨_,func193,by kernel_rfl,by kernel_rfl⟩
theorem zFd:Callable prog 194:=⟨_,func194,by kernel_rfl,by kernel_rfl⟩
theorem zBs:Callable prog 195:=⟨_,func195,by kernel_rfl,by kernel_rfl⟩
theorem zFe:Callable prog 196:=⟨_,func196,by kernel_rfl,by kernel_rfl⟩
theorem zFf:Callable prog 197:=⟨_,func197,by kernel_rfl,by kernel_rfl⟩
theorem zFg:Callable prog 198:=⟨_,func198,by kernel_rfl,by kernel_rfl⟩
theorem zBt:Callable prog 199:=⟨_,func199,by kernel_rfl,by kernel_rfl⟩
theorem zBu:Callable prog 200:=⟨_,func200,by kernel_rfl,by kernel_rfl⟩
theorem zBv:Callable prog 201:=⟨_,func201,by kernel_rfl,by kernel_rfl⟩
theorem zBw:Callable prog 202:=⟨_,func202,by kernel_rfl,by kernel_rfl⟩
theorem zBx:Callable prog 203:=⟨_,func203,by kernel_rfl,by kernel_rfl⟩
theorem zFh:Callable prog 204:=⟨_,func204,by kernel_rfl,by kernel_rfl⟩
theorem zFi:Callable prog 205:=⟨_,func205,by kernel_rfl,by kernel_rfl⟩
theorem zw2:Callable prog 206:=⟨_,func206,by kernel_rfl,by kernel_rfl⟩
theorem zFj:Callable prog 207:=⟨_,func207,by kernel_rfl,by kernel_rfl⟩
theorem zFk:Callable prog 208:=⟨_,func208,by kernel_rfl,by kernel_rfl⟩
theorem zBy:Callable prog 209:=⟨_,func209,by kernel_rfl,by kernel_rfl⟩
theorem zBz:Callable prog 210:=⟨_,func210,by kernel_rfl,by kernel_rfl⟩
theorem zFl:Callable prog 211:=⟨_,func211,by kernel_rfl,by kernel_rfl⟩
theorem zFm:Callable prog 212:=⟨_,func212,by kernel_rfl,by kernel_rfl⟩
theorem zFn:Callable prog 213:=⟨_,func213,by kernel_rfl,by kernel_rfl⟩
theorem zFo:Callable prog 214:=⟨_,func214,by kernel_rfl,by kernel_rfl⟩
theorem zFp:Callable prog 215:=⟨_,func215,by kernel_rfl,by kernel_rfl⟩
theorem zBA:Callable prog 216:=⟨_,func216,by kernel_rfl,by kernel_rfl⟩
theorem zBB:Callable prog 217:=⟨_,func217,by kernel_rfl,by kernel_rfl⟩
theorem zFq:Callable prog 218:=⟨_,func218,by kernel_rfl,by kernel_rfl⟩
theorem zFr:Callable prog 219:=⟨_,func219,by kernel_rfl,by kernel_rfl⟩
theorem zFs:Callable prog 220:=⟨_,func220,by kernel_rfl,by kernel_rfl⟩
theorem zFt:Callable prog 221:=⟨_,func221,by kernel_rfl,by kernel_rfl⟩
theorem zFu:Callable prog 222:=⟨_,func222,by kernel_rfl,by kernel_rfl⟩
theorem zFv:Callable prog 223:=⟨_,func223,by kernel_rfl,by kernel_rfl⟩
theorem zFw:Callable prog 224:=⟨_,func224,by kernel_rfl,by kernel_rfl⟩
theorem zFx:Callable prog 225:=⟨_,func225,by kernel_rfl,by kernel_rfl⟩
theorem zFy:Callable prog 226:=⟨_,func226,by kernel_rfl,by kernel_rfl⟩
theorem zFz:Callable prog 227:=⟨_,func227,by kernel_rfl,by kernel_rfl⟩
theorem zFA:Callable prog 228:=⟨_,func228,by kernel_rfl,by kernel_rfl⟩
theorem zFB:Callable prog 229:=⟨_,func229,by kernel_rfl,by kernel_rfl⟩
theorem zBC:Callable prog 230:=⟨_,func230,by kernel_rfl,by kernel_rfl⟩
theorem zBD:Callable prog 231:=⟨_,func231,by kernel_rfl,by kernel_rfl⟩
theorem zFC:Callable prog 232:=⟨_,func232,by kernel_rfl,by kernel_rfl⟩
theorem zFD:Callable prog 233:=⟨_,func233,by kernel_rfl,by kernel_rfl⟩
theorem zBE:Callable prog 234:=⟨_,func234,by kernel_rfl,by kernel_rfl⟩
theorem zFE:Callable prog 235:=⟨_,func235,by kernel_rfl,by kernel_rfl⟩
theorem zFF:Callable prog 236:=⟨_,func236,by kernel_rfl,by kernel_rfl⟩
theorem zFG:Callable prog 237:=⟨_,func237,by kernel_rfl,by kernel_rfl⟩
theorem zBF:Callable prog 238:=⟨_,func238,by kernel_rfl,by kernel_rfl⟩
theorem zFH:Callable prog 239:=⟨_,func239,by kernel_rfl,by kernel_rfl⟩
theorem zFI:Callable prog 240:=⟨_,func240,by kernel_rfl,by kernel_rfl⟩
theorem zFJ:Callable prog 241:=⟨_,func241,by kernel_rfl,by kernel_rfl⟩
theorem zFK:Callable prog 242:=⟨_,func242,by kernel_rfl,by kernel_rfl⟩
theorem zBG:Callable prog 252:=⟨_,func252,by kernel_rfl,by kernel_rfl⟩
theorem zFL:Callable prog 255:=⟨_,func255,by kernel_rfl,by kernel_rfl⟩
theorem zBH:Callable prog 256:=⟨_,func256,by kernel_rfl,by kernel_rfl⟩
theorem zFM:Callable prog 257:=⟨_,func257,by kernel_rfl,by kernel_rfl⟩
theorem zFN:Callable prog 258:=⟨_,func258,by kernel_rfl,by kernel_rfl⟩
theorem zBI:Callable prog 260:=⟨_,func260,by kernel_rfl,by kernel_rfl⟩
theorem zFO:Callable prog 261:=⟨_,func261,by kernel_rfl,by kernel_rfl⟩
theorem zFP:Callable prog 262:=⟨_,func262,by kernel_rfl,by kernel_rfl⟩
theorem zFQ:Callable prog 263:=⟨_,func263,by kernel_rfl,by kernel_rfl⟩
theorem zFR:Callable prog 264:=⟨_,func264,by kernel_rfl,by kernel_rfl⟩
theorem zFS:Callable prog 265:=⟨_,func265,by kernel_rfl,by kernel_rfl⟩
theorem zFT:Callable prog 266:=⟨_,func266,by kernel_rfl,by kernel_rfl⟩
theorem zFU:Callable prog 269:=⟨_,func269,by kernel_rfl,by kernel_rfl⟩
theorem zFV:Callable prog 270:=⟨_,func270,by kernel_rfl,by kernel_rfl⟩
theorem zFW:Callable prog 271:=⟨_,func271,by kernel_rfl,by kernel_rfl⟩
theorem zFX:Callable prog 272:=⟨_,func272,by kernel_rfl,by kernel_rfl⟩
theorem zFY:Callable prog 273:=⟨_,func273,by kernel_rfl,by kernel_rfl⟩
theorem zFZ:Callable prog 274:=⟨_,func274,by kernel_rfl,by kernel_rfl⟩
theorem zF0:Callable prog 275:=⟨_,func275,by kernel_rfl,by kernel_rfl⟩
theorem zBJ:Callable prog 276:=⟨_,func276,by kernel_rfl,by kernel_rfl⟩
theorem zF1:Callable prog 277:=⟨_,func277,by kernel_rfl,by kernel_rfl⟩
theorem zF2:Callable prog 278:=⟨_,func278,by kernel_rfl,by kernel_rfl⟩
theorem zF3:Callable prog 279:=⟨_,func279,by kernel_rfl,by kernel_rfl⟩
theorem zF4:Callable prog 280:=⟨_,func280,by kernel_rfl,by kernel_rfl⟩
theorem zF5:Callable prog 281:=⟨_,func281,by kernel_rfl,by kernel_rfl⟩
theorem zF6:Callable prog 285:=⟨_,func285,by kernel_rfl,by kernel_rfl⟩
theorem zF7:Callable prog 286:=⟨_,func286,by kernel_rfl,by kernel_rfl⟩
theorem zF8:Callable prog 292:=⟨_,func292,by kernel_rfl,by kernel_rfl⟩
theorem zw3:Callable prog 295:=⟨_,func295,by kernel_rfl,by kernel_rfl⟩
theorem ztB:Callable prog 297:=⟨_,func297,by kernel_rfl,by kernel_rfl⟩
theorem zF9:Callable prog 298:=⟨_,func298,by kernel_rfl,by kernel_rfl⟩
theorem zBK:Callable prog 309:=⟨_,func309,by kernel_rfl,by kernel_rfl⟩
theorem zGa:Callable prog 314:=⟨_,func314,by kernel_rfl,by kernel_rfl⟩
theorem zGb:Callable prog 315:=⟨_,func315,by kernel_rfl,by kernel_rfl⟩
theorem zGc:Callable prog 317:=⟨_,func317,by kernel_rfl,by kernel_rfl⟩
theorem zw6:Callable prog 318:=⟨_,func318,by kernel_rfl,by kernel_rfl⟩
theorem ztC:Callable prog 319:=⟨_,func319,by kernel_rfl,by kernel_rfl⟩
theorem zGd:Callable prog 329:=⟨_,func329,by kernel_rfl,by kernel_rfl⟩
theorem zGe:Callable prog 356:=⟨_,func356,by kernel_rfl,by kernel_rfl⟩
theorem zGf:Callable prog 357:=⟨_,func357,by kernel_rfl,by kernel_rfl⟩
theorem zGg:Callable prog 358:=⟨_,func358,by kernel_rfl,by kernel_rfl⟩
theorem ztD:Callable prog 359:=⟨_,func359,by kernel_rfl,by kernel_rfl⟩
theorem ztE:Callable prog 360:=⟨_,func360,by kernel_rfl,by kernel_rfl⟩
theorem zBL:Callable prog 378:=⟨_,func378,by kernel_rfl,by kernel_rfl⟩
theorem mixed:prog.follows .mixedOrders=true:=by kernel_rfl
end
end Go.Proofs.YtpgopgjleokciaaGreatDoor
namespace Go.HL
section
abbrev Str:=List UInt8
theorem zk {α:Type} {l:List α} {k:Nat} {x:α} (h:l[k]? =some x):l.drop k=x::l.drop (k+1):=by
 have hlt:=zp h;rw [Aa hlt] at h;rw [BL hlt]
 simp at h
 rw [h]
theorem zaf {α:Type} {l:List α} {k:Nat} {x:α} (h:l[k]? =some x):l.take (k+1)=l.take k++[x]:=by
 have hlt:=zp h;rw [Aa hlt] at h;rw [List.take_succ_eq_append_getElem hlt]
 simp at h
 rw [h]
theorem zH {α:Type} {l:List α} {k:Nat} (h:l.length<=k):l.drop k=[]:=BB h
theorem hd0 {s:Str} (h:s≠[]):s[0]? =some (s.headD 0):=by
 cases s with
 |nil=>exact absurd rfl h
 |cons a r=>rfl
abbrev eSs (l:List Str):HVal:= .slice 1 (l.map .str)
abbrev eIs (l:List Int):HVal:= .slice 1 (l.map (.int .i64))
def out (n lo hi:Int):Bool:=decide (n<lo)||decide (hi<n)
theorem zfk {n lo hi:Int} (h:out n lo hi=false):lo<=n/\n<=hi:=by simp [out] at h;omega
theorem zqZ {a b A B:Int} (h1:0<=a) (h2:a<=A) (h3:0<=b) (h4:b<=B):0<=a*b/\a*b<=A*B:=
 ⟨Int.mul_nonneg h1 h3,Int.mul_le_mul h2 h4 h3 (by omega)⟩
def zaa (n:Int):Bool:= !(out n 0 345686399999)
def zg6 (c:UInt8):Bool:=(decide (97<=c.toNat)&&decide (c.toNat<=122))||(decide (48<=c.toNat)&&decide (c.toNat<=57))||c.toNat==45||c.toNat==95
def zjB (s:Str):Bool:=s !=[]&&decide (s.length<=40)&&decide (97<=(s.headD 0).toNat)&&decide ((s.headD 0).toNat<=122)
theorem zCE {s:Str} (h:((¬s=[]/\(s.length:Int)<=40)/\97<=(((List.head? s).getD 0).toNat:Int))/\(((List.head? s).getD 0).toNat:Int)<=122):zjB s=true:=by
 obtain ⟨⟨⟨h1,h2⟩,h3⟩,h4⟩:=h
 simp [zjB];exact ⟨⟨⟨h1,by omega⟩,by omega⟩,by omega⟩
theorem zCD {s:Str} (h:((s=[]\/40<(s.length:Int))\/(((List.head? s).getD 0).toNat:Int)<97)\/122<(((List.head? s).getD 0).toNat:Int)):zjB s=false:=by
 rw [Cs];simp [zjB]
 intro h1 h2 h3
 rcases h with ((h|h)|h)|h
 ·exact absurd h h1
 all_goals omega
theorem zCC {x:UInt8} (h:(x.toNat:Int)<97\/122<(x.toNat:Int)->(x.toNat:Int)<48\/57<(x.toNat:Int)->¬(x.toNat:Int)=45->(x.toNat:Int)=95):zg6 x=true:=by
 simp [zg6];omega
theorem zCB {x:UInt8} (h:((((x.toNat:Int)<97\/122<(x.toNat:Int))/\((x.toNat:Int)<48\/57<(x.toNat:Int)))/\¬(x.toNat:Int)=45)/\¬(x.toNat:Int)=95):zg6 x=false:=by
 rw [Cs];simp [zg6];omega
def key (s:Str):Bool:=zjB s&&s.all zg6
def zdD (s:Str):List Str->Int->Int
 |[],_=> -1
 |x::r,k=>if s=x then k else zdD s r (k+1)
theorem zou (s:Str): ∀(l:List Str) (k:Int),0<=k->decide (0<=zdD s l k)=l.contains s
 |[],k,h=>by simp [zdD]
 |x::r,k,h=>by
   have ih:=zou s r (k+1) (by omega)
   by_cases hx:s=x
   simp [zdD,hx,h]
   have e1:zdD s (x::r) k=zdD s r (k+1):=by simp [zdD,hx]
   rw [e1,ih];simp [hx]
end
end Go.HL
namespace Go.Proofs.YtpgopgjleokciaaGreatDoor
set_option maxRecDepth 100000
set_option linter.unusedVariables false
set_option linter.unusedSimpArgs false
section
open Go.Proofs.Tryz
open Go.HL
theorem zal [Tracks] {n lo hi:Int}:ConP prog 136 [.int .i64 n,.int .i64 lo,.int .i64 hi] (.bool (out n lo hi)):=by
 refine uOb func136 ntmps136 ?_;refine zh1 ?_;refine zw rfl ?_
 simp [out]
theorem zbC [Tracks] {n:Int}:ConP prog 53 [.int .i64 n] (.bool (zaa n)):=by
 refine uOb func53 ntmps53 ?_;refine gz5 ?_;refine dq (uCl zbH rfl zal) ?_;refine gz4 ?_;refine zw rfl ?_
 rfl
theorem zak [Tracks] {s:Str}:ConP prog 75 [.str s] (.bool (key s)):=by
 refine uOb func75 ntmps75 ?_;refine zdu ?_;refine uGr rfl (fun hc=>zaO (j:=0) (b:=s.headD 0) ty9 rfl rfl rfl (hd0 uSa)) ?_;refine gz4 ?_;refine uGr rfl (fun hc=>zaO (j:=0) (b:=s.headD 0) ty9 rfl rfl rfl (hd0 uSa)) ?_;refine gz3 ?_;refine uCo (fun h1=> ?_) fun h2=> ?_
 refine gz4 ?_;refine zw rfl ?_
 (rw [key,zCD h1];rfl)
 refine gz9 ?_;refine uT1 [2,3,24,30] (fun k=>[(24,.int .i64 k)]) (fun k=>[]) (fun k=>k<=s.length/\key s=(s.drop k).all zg6) (fun k=>s.length-k) (0) ?_ ?_;exact ⟨Ad _,by rw [key,zCE h2];rfl⟩;rintro k ⟨hk,hg⟩;refine gz4 ?_;refine uCo (fun h3=> ?_) fun h4=> ?_
 obtain ⟨x,hx⟩: ∃x,s[k]? =some x:=⟨_,Aa h3⟩
 have hd:=zk hx;rw [hd] at hg;refine zct ?_;refine dq (zaO ty9 rfl rfl rfl (by assumption)) ?_;refine gz27 ?_;refine uCo (fun h5=> ?_) fun h6=> ?_
 refine gz4 ?_;refine zw rfl ?_
 (rw [hg,B9,zCB h5];rfl)
 refine gz7 ?_;refine ⟨k+1,?_,?_,⟨rfl,trivial⟩,uK,Ac _⟩
 refine ⟨by omega,?_⟩
 rw [hg,B9,zCC h6];rfl
 dsimp only;omega
 rw [zH uO] at hg;refine gz2 ?_;refine zv ?_;refine gz6 ?_;refine zw rfl ?_
 (rw [hg];rfl)
theorem zeR [Tracks] {l:List Str} {s:Str} (hl:l.length<=1000000000):ConP prog 135 [eSs l,.str s] (.int .i64 (zdD s l 0)):=by
 refine uOb func135 ntmps135 ?_;refine zaw ?_;refine uT1 [4,2,8,11] (fun k=>[(8,.int .i64 k)]) (fun k=>[]) (fun k=>k<=l.length/\zdD s l 0=zdD s (l.drop k) k) (fun k=>l.length-k) (0) ?_ ?_
 simp
 rintro k ⟨hk,hg⟩;refine gz4 ?_;refine uCo (fun h1=> ?_) fun h2=> ?_
 obtain ⟨x,hx⟩: ∃x,l[k]? =some x:=⟨_,Aa h1⟩
 have hd:=zk hx;rw [hd] at hg;refine zpW ?_;refine uCo (fun h3=> ?_) fun h4=> ?_
 refine gz5 ?_;refine zw rfl ?_
 (congr 1;simp_all [zdD])
 refine gz7 ?_;refine ⟨k+1,?_,?_,⟨rfl,trivial⟩,uK,Ac _⟩
 refine ⟨by omega,?_⟩
 rw [hg,zdD,if_neg h4];rfl
 dsimp only;omega
 rw [zH uSa] at hg;refine gz2 ?_;refine zv ?_;refine gz6 ?_;refine zw rfl ?_
 (rw [hg];rfl)
theorem zK [Tracks] {l:List Str} {s:Str} (hl:l.length<=1000000000):ConP prog 51 [eSs l,.str s] (.bool (l.contains s)):=by
 refine uOb func51 ntmps51 ?_;refine gz6 ?_;refine dq (uCl zBi rfl (zeR (by assumption))) ?_;refine gz4 ?_;refine zw rfl ?_
 congr 1;exact zou s l 0 uO
end
end Go.Proofs.YtpgopgjleokciaaGreatDoor
namespace Go.HL
section
theorem getD_some {α:Type} {l:List α} {k:Nat} {d:α} (h:k<l.length):l[k]? =some (l.getD k d):=by
 simp [Aa h,List.getD]
def leS (s p:Str):Bool:=Op.bytesLess s p||s==p
structure Room where
 Teams:List Str
 Rounds:Int
 Way:Int
 Players:List Str
 Clock:Int
 Start:Int
structure Keep where
 Team:Str
 Player:Str
 Round:Int
structure Swap where
 Round:Int
 Of:Str
 Team:Str
structure Pick where
 No:Int
 Team:Str
 Player:Str
 At:Int
 Auto:Bool
structure Turn where
 round:Int
 of:Str
 team:Str
abbrev zqE (r:Room):HVal:= .agg [eSs r.Teams,.int .i64 r.Rounds,.int .i64 r.Way,eSs r.Players,.int .i64 r.Clock,.int .i64 r.Start]
abbrev zGi (x:Swap):HVal:= .agg [.int .i64 x.Round,.str x.Of,.str x.Team]
abbrev zqF (x:Turn):HVal:= .agg [.int .i64 x.round,.str x.of,.str x.team]
abbrev zod (l:List Swap):HVal:= .slice 3 (l.map zGi)
abbrev zDA (l:List Turn):HVal:= .slice 3 (l.map zqF)
def ztS:Swap:=⟨0,[],[]⟩
def zBQ:Keep:=⟨[],[],0⟩
def zbL (l:List Str):Nat->List Str->Int
 |_,[]=>0
 |k,s::r=>if !key s then 5 else if decide (0<k)&&leS s (l.getD (k-1) []) then 7 else zbL l (k+1) r
def zdQ (l:List Str):Int:=zbL l 0 l
def ziJ (l:List Str):Nat->List Str->Int
 |_,[]=>0
 |k,s::r=>if !key s then 5 else if (l.take k).contains s then 6 else ziJ l (k+1) r
def teamsFault (l:List Str):Int:=if l.length=0 then 8 else if 20<l.length then 2 else ziJ l 0 l
def playersFault (l:List Str):Int:=if 500<l.length then 2 else zdQ l
def zb1 (r:Room):Int:=
 if teamsFault r.Teams !=0 then teamsFault r.Teams
 else if out r.Rounds 1 30 then 1 else if out r.Way 1 3 then 4
 else if playersFault r.Players !=0 then playersFault r.Players
 else if out r.Clock 1000 86400000|| !(zaa r.Start) then 1
 else if (r.Players.length:Int)<r.Teams.length*r.Rounds then 12 else 0
def backwards (way round:Int):Bool:=
 if way=2 then round.tmod 2==0 else if way=3 then round==2||(decide (2<round)&&round.tmod 2==1) else false
def owner (round:Int) (of:Str):List Swap->Str
 |[]=>of
 |s::r=>if s.Round=round/\s.Of=of then s.Team else owner round of r
end
end Go.HL
namespace Go.Proofs.YtpgopgjleokciaaGreatDoor
set_option maxRecDepth 100000
set_option linter.unusedVariables false
set_option linter.unusedSimpArgs false
section
open Go.Proofs.Tryz
open Go.HL
theorem zg1 [Tracks] {l:List Str} (hl:l.length<=1000000):ConP prog 165 [eSs l] (.int .i64 (zdQ l)):=by
 refine uOb func165 ntmps165 ?_;refine zaw ?_;refine uT1 [2,3,7,20] (fun k=>[(7,.int .i64 k)]) (fun k=>[]) (fun k=>k<=l.length/\(zdQ l=zbL l k (l.drop k))) (fun k=>l.length-k) (0) ?_ ?_;exact ⟨Ad _,rfl⟩;rintro k ⟨hk,hg⟩;refine gz4 ?_;refine uCo (fun h1=> ?_) fun h2=> ?_
 obtain ⟨x,hx⟩: ∃x,l[k]? =some x:=⟨_,Aa h1⟩
 have hdx:=zk hx;rw [hdx] at hg;refine zdu ?_;refine dq (uCl zcD rfl zak) ?_;refine gz2 ?_;refine uCo (fun h3=> ?_) fun h4=> ?_
 refine gz4 ?_;refine uRp ?_;rw [hg];simp_all [zbL,leS];refine zaw ?_;refine uGr rfl (fun hc=>by have hq:=hc;(try simp at hq);exact zA (j:=k-1) (a:=l.getD (k-1) []) zq ty9 rfl rfl uO (getD_some uO)) ?_;refine gz4 ?_;refine uCo (fun h5=> ?_) fun h6=> ?_
 refine gz4 ?_;refine uRp ?_;rw [hg];simp_all [zbL,leS];refine gz7 ?_;refine ⟨k+1,?_,?_,⟨rfl,trivial⟩,uK,Ac _⟩
 refine ⟨by omega,?_⟩
 rw [hg];simp_all [zbL,leS]
 dsimp only;omega
 have hnk:l.length<=k:=by omega
 obtain rfl:k=l.length:=by omega
 rw [zH (Af _)] at hg;refine gz2 ?_;refine zv ?_;refine gz6 ?_;refine uRp ?_;rw [hg];simp_all [zbL,leS]
theorem znT [Tracks] {l:List Str} (hl:l.length<=1000000):ConP prog 232 [eSs l] (.int .i64 (teamsFault l)):=by
 refine uOb func232 ntmps232 ?_;refine zct ?_;refine uCo (fun h1=> ?_) fun h2=> ?_
 refine gz4 ?_;refine uRp ?_
 (rw [teamsFault,if_pos uSa])
 refine gz6 ?_;refine uCo (fun h3=> ?_) fun h4=> ?_
 refine gz4 ?_;refine uRp ?_
 (rw [teamsFault,if_neg uSa,if_pos uO])
 refine zaw ?_;refine uT1 [2,3,15,14] (fun k=>[(15,.int .i64 k)]) (fun k=>[]) (fun k=>k<=l.length/\(teamsFault l=ziJ l k (l.drop k))) (fun k=>l.length-k) (0) ?_ ?_;refine ⟨Ad _,?_⟩
 rw [teamsFault,if_neg uSa,if_neg uO];rfl;rintro k ⟨hk,hg⟩;refine gz4 ?_;refine uCo (fun h5=> ?_) fun h6=> ?_
 obtain ⟨x,hx⟩: ∃x,l[k]? =some x:=⟨_,Aa h5⟩
 have hdx:=zk hx;rw [hdx] at hg;refine zdu ?_;refine dq (uCl zcD rfl zak) ?_;refine gz2 ?_;refine uCo (fun h7=> ?_) fun h8=> ?_
 refine gz4 ?_;refine uRp ?_
 (rw [hg];simp_all [ziJ])
 refine gz5 ?_;refine dq (zaP zq ty9 rfl rfl ⟨_,_,rfl,rfl⟩ uO uO) ?_;refine gz1 ?_;refine dq (uCl zhj rfl (zK uSo)) ?_;refine gz1 ?_;refine uCo (fun h9=> ?_) fun h10=> ?_
 refine gz4 ?_;refine uRp ?_
 (rw [hg];simp_all [ziJ])
 refine gz7 ?_;refine ⟨k+1,?_,?_,⟨rfl,trivial⟩,uK,Ac _⟩
 refine ⟨by omega,?_⟩
 rw [hg];simp_all [ziJ]
 dsimp only;omega
 have hnk:l.length<=k:=by omega
 obtain rfl:k=l.length:=by omega
 rw [zH (Af _)] at hg;refine gz2 ?_;refine zv ?_;refine gz6 ?_;refine uRp ?_
 (rw [hg];simp_all [ziJ])
theorem zms [Tracks] {l:List Str} (hl:l.length<=1000000):ConP prog 233 [eSs l] (.int .i64 (playersFault l)):=by
 refine uOb func233 ntmps233 ?_;refine gz9 ?_;refine uCo (fun h1=> ?_) fun h2=> ?_
 refine gz4 ?_;refine uRp ?_;unfold playersFault
 split<;>first|rfl|(exfalso;omega)
 refine gz4 ?_;refine dq (uCl ztA rfl (zg1 (by assumption))) ?_;refine gz3 ?_;refine uRp ?_;unfold playersFault
 split<;>first|rfl|(exfalso;omega)
theorem zph [Tracks] {r:Room} (ht:r.Teams.length<=1000000) (hp:r.Players.length<=1000000):ConP prog 155 [zqE r] (.int .i64 (zb1 r)):=by
 refine uOb func155 ntmps155 ?_;refine gz8 ?_;refine dq (uCl zFC rfl (znT (by assumption))) ?_;refine gz6 ?_;refine uCo (fun h1=> ?_) fun h2=> ?_
 refine gz5 ?_;refine uRp ?_
 simp_all [zb1]
 refine gz7 ?_;refine dq (uCl zbH rfl zal) ?_;refine gz2 ?_;refine uCo (fun h3=> ?_) fun h4=> ?_
 refine gz4 ?_;refine uRp ?_
 simp_all [zb1]
 refine gz3 ?_;refine dq (uCl zbH rfl zal) ?_;refine gz2 ?_;refine uCo (fun h5=> ?_) fun h6=> ?_
 refine gz4 ?_;refine uRp ?_
 simp_all [zb1]
 refine gz7 ?_;refine dq (uCl zFD rfl (zms (by assumption))) ?_;refine gz6 ?_;refine uCo (fun h7=> ?_) fun h8=> ?_
 refine gz5 ?_;refine uRp ?_
 simp_all [zb1]
 refine gz7 ?_;refine dq (uCl zbH rfl zal) ?_;refine gz3 ?_;refine uGr rfl (fun hc=>uCl zkh rfl zbC) ?_;refine gz4 ?_;refine uCo (fun h9=> ?_) fun h10=> ?_
 refine gz4 ?_;refine uRp ?_
 simp_all [zb1]
 refine gz9 ?_;have hR:=zfk (n:=r.Rounds) (lo:=1) (hi:=30) uSa;have hm:=zqZ (a:=(r.Teams.length:Int)) (b:=r.Rounds) (A:=1000000) (B:=30) uO uO uO uO;refine dq (zby rfl rfl uO uO) ?_;refine gz3 ?_;refine uCo (fun h11=> ?_) fun h12=> ?_
 refine gz4 ?_;refine uRp ?_
 simp_all [zb1]
 refine gz7 ?_;refine uRp ?_
 simp_all [zb1]
theorem zpi [Tracks] {way round:Int}:ConP prog 158 [.int .i64 way,.int .i64 round] (.bool (backwards way round)):=by
 refine uOb func158 ntmps158 ?_;refine zdl ?_;refine uCo (fun h1=> ?_) fun h2=> ?_
 refine gz2 ?_;refine dq (zcx rfl rfl uO) ?_;refine gz4 ?_;refine zw rfl ?_
 show HVal.bool _=_
 simp_all [backwards]
 refine gz4 ?_;refine uCo (fun h3=> ?_) fun h4=> ?_
 refine gz8 ?_;refine uGr rfl (fun hc=>by have hq:=hc;(try simp at hq);exact zcx rfl rfl uO) ?_;refine gz6 ?_;refine zw rfl ?_
 show HVal.bool _=_
 simp_all [backwards]
 refine gz7 ?_;refine zw rfl ?_
 show HVal.bool _=_
 simp_all [backwards]
theorem ztc [Tracks] {l:List Swap} {round:Int} {of:Str} (hl:l.length<=1000000):ConP prog 160 [zod l,.int .i64 round,.str of] (.str (owner round of l)):=by
 refine uOb func160 ntmps160 ?_;refine zaw ?_;refine uT1 [6,1,8,1,11,17] (fun k=>[(11,.int .i64 k)]) (fun k=>[]) (fun k=>k<=l.length/\(owner round of l=owner round of (l.drop k))) (fun k=>l.length-k) (0) ?_ ?_;exact ⟨Ad _,by simp_all⟩;rintro k ⟨hk,hg⟩;refine gz4 ?_;refine uCo (fun h1=> ?_) fun h2=> ?_
 obtain ⟨x,hx⟩: ∃x,l[k]? =some x:=⟨_,Aa h1⟩
 have hdx:=zk hx;rw [hdx] at hg;refine gz7 ?_;refine de rfl (zj zna rfl fun b8=> ?_)
 refine de0 (zn zna rfl rfl rfl rfl rfl ?_)
 refine gz1 ?_;refine ze (zm 8 rfl) ?_;refine zdl ?_;refine uCo (fun h3=> ?_) fun h4=> ?_
 refine gz6 ?_;refine zw rfl ?_
 show HVal.str _=_
 rw [hg];simp_all [owner];refine gz7 ?_;refine ⟨k+1,?_,?_,⟨rfl,trivial⟩,uK,Ac _⟩
 refine ⟨by omega,?_⟩
 rw [hg];simp_all [owner]
 dsimp only;omega
 have hnk:l.length<=k:=by omega
 obtain rfl:k=l.length:=by omega
 rw [zH (Af _)] at hg;refine gz2 ?_;refine zv ?_;refine gz7 ?_;refine zw rfl ?_
 show HVal.str _=_
 rw [hg];simp_all [owner]
end
end Go.Proofs.YtpgopgjleokciaaGreatDoor
namespace Go.HL
section
open Op (bytesLess)
def zaj (a b:Int):Int:=if a<b then-1 else if b<a then 1 else 0
def orI:List Int->Int
 |[]=>0
 |x::r=>if x≠0 then x else orI r
abbrev zY (a b:Str):Int:=Lib.compareBytes a b
theorem zag: ∀a:Str,bytesLess a a=false
 |[]=>rfl
 |x::r=>by simp [bytesLess,zag r]
theorem zew: ∀{a b c:Str},bytesLess a b=true->bytesLess b c=true->bytesLess a c=true
 |_,[],_,h,_=>by simp [bytesLess] at h
 |_,_::_,[],_,h=>by simp [bytesLess] at h
 |[],_::_,_::_,_,_=>by simp [bytesLess]
 |x::a,y::b,z::c,h1,h2=>by
   simp only [bytesLess,Bv,decide_eq_true_eq,A2,beq_iff_eq] at h1 h2⊢
   rcases h1 with h1|⟨rfl,h1⟩
   rcases h2 with h2|⟨rfl,h2⟩
   exact .inl (UInt8.lt_trans h1 h2);exact .inl h1
   rcases h2 with h2|⟨rfl,h2⟩
   exact .inl h2;exact .inr ⟨rfl,zew h1 h2⟩
theorem zb6: ∀a b:Str,bytesLess a b=true\/a=b\/bytesLess b a=true
 |[],[]=> .inr (.inl rfl)
 |[],_::_=> .inl (by simp [bytesLess])
 |_::_,[]=> .inr (.inr (by simp [bytesLess]))
 |x::a,y::b=>by
   rcases UInt8.lt_or_lt_of_ne' x y with h|h|h
   exact .inl (by simp [bytesLess,h]);subst h
   rcases zb6 a b with h|h|h
   exact .inl (by simp [bytesLess,h]);exact .inr (.inl (by rw [h]));exact .inr (.inr (by simp [bytesLess,h]));exact .inr (.inr (by simp [bytesLess,h]))
where
 UInt8.lt_or_lt_of_ne' (x y:UInt8):x<y\/x=y\/y<x:=by
  rcases B0 x.toNat y.toNat with h|h|h
  exact .inl (UInt8.lt_iff_toNat_lt.2 h);exact .inr (.inl (UInt8.toNat_inj.1 h));exact .inr (.inr (UInt8.lt_iff_toNat_lt.2 h))
theorem zbR {a b:Str} (h:bytesLess a b=true):bytesLess b a=false:=by
 cases h2:bytesLess b a with
 |false=>rfl
 |true=>have:=zew h h2;rw [zag] at this;cases this
theorem zCH {a b:Str}:leS a b= !(bytesLess b a):=by
 unfold leS
 rcases zb6 a b with h|h|h
 simp [h,zbR h]
 subst h;simp [zag];have hne:a≠b:=fun e=>by subst e;rw [zag] at h;cases h
 simp [h,zbR h,hne]
theorem zgx: ∀a b:Str,zY a b=if bytesLess a b then-1 else if a=b then 0 else 1
 |[],[]=>rfl
 |[],_::_=>rfl
 |_::_,[]=>rfl
 |x::a,y::b=>by
   have ih:=zgx a b;simp only [zY,Lib.compareBytes] at ih⊢
   by_cases h1:x<y
   simp [bytesLess,h1]
   by_cases h2:y<x
   have hne: ¬x=y:=fun e=>by subst e;exact absurd h2 h1
   simp [bytesLess,h1,h2,hne]
   have he:x=y:=by
    rcases B0 x.toNat y.toNat with h|h|h
    exact absurd (UInt8.lt_iff_toNat_lt.2 h) h1;exact UInt8.toNat_inj.1 h;exact absurd (UInt8.lt_iff_toNat_lt.2 h) h2
   subst he
   simp [bytesLess,h1,ih]
theorem zuX {i j:Nat} (h:i+j<=2000000):HVal.int .i64 (IntKind.wrap .i64 ((IntKind.wrap .u64 ((i:Int)+(j:Int))).fdiv (2^min (Int.toNat 1) (IntKind.bits .u64))))= .int .i64 (((i+j)/2:Nat):Int):=by
 have h1:IntKind.wrap .u64 ((i:Int)+(j:Int))=((i+j:Nat):Int):=by simp [IntKind.wrap,IntKind.bits,IntKind.signed];omega
 have h2:min (Int.toNat 1) (IntKind.bits .u64)=1:=by decide
 rw [h1,h2];have h3:(((i+j:Nat):Int).fdiv (2^1))=(((i+j)/2:Nat):Int):=by
  rw [Int.fdiv_eq_ediv_of_nonneg _ (by decide)];rfl
 rw [h3,zkx (by omega) (by omega)]
def SortedS (l:List Str):Prop:=List.Pairwise (fun a b=>bytesLess a b=true) l
theorem SortedS.get {l:List Str} (h:SortedS l) {i j:Nat} {a b:Str} (hij:i<j) (ha:l[i]? =some a) (hb:l[j]? =some b):bytesLess a b=true:=by
 have h1:=zp ha;have h2:=zp hb;have:=List.pairwise_iff_getElem.1 h i j h1 h2 hij;rw [Aa h1] at ha;rw [Aa h2] at hb
 simp at ha hb
 rw [<-ha,<-hb];exact this
theorem zwO {l:List Str} (hs:SortedS l) {s x:Str} {m:Nat} (hx:l[m]? =some x) (h:Op.bytesLess x s=true): ∀(k:Nat) (y:Str),k<m+1->l[k]? =some y->Op.bytesLess y s=true:=fun k y hk hy=>by
 by_cases e:k=m
 subst e;rw [hx] at hy;cases hy;exact h;exact zew (hs.get (by omega:k<m) hy hx) h
theorem ztw {l:List Str} (hs:SortedS l) {s x:Str} {m:Nat} (hx:l[m]? =some x) (h:Op.bytesLess x s=false): ∀(k:Nat) (y:Str),m<=k->l[k]? =some y->Op.bytesLess y s=false:=fun k y hk hy=>by
 by_cases e:k=m
 subst e;rw [hx] at hy;cases hy;exact h
 cases hq:Op.bytesLess y s with
 |false=>rfl
 |true=>have:=zew (hs.get (by omega:m<k) hx hy) hq;rw [h] at this;cases this
theorem zzw {l:List Str} {s:Str} {i:Nat} (b:Bool):(bif decide ((i:Int)<(l.length:Int)) then bif l.getD i []==s then true else bif false then b else false else false)=(l[i]? ==some s):=by
 by_cases h:i<l.length
 have h':(i:Int)<(l.length:Int):=by omega
 simp only [h',decide_true,cond_true,cond_false,getD_some (d:=[]) h]
 cases hb:l.getD i []==s with
 |true=>simp at hb;simp [hb]
 |false=>simp at hb;simp [hb]
 have h': ¬(i:Int)<(l.length:Int):=by omega
 simp [h',Ax (by omega:l.length<=i)]
def zbU (l:List Str) (s:Str):Nat:=l.countP fun x=>bytesLess x s
theorem zl6 {l:List Str} {s:Str} {i:Nat} (hi:i<=l.length) (h1: ∀(k:Nat) (x:Str),k<i->l[k]? =some x->bytesLess x s=true) (h2: ∀(k:Nat) (x:Str),i<=k->l[k]? =some x->bytesLess x s=false):
 zbU l s=i:=by
 unfold zbU;have e:l=l.take i++l.drop i:=(Bi i l).symm;rw [e,List.countP_append];have a1:(l.take i).countP (fun x=>bytesLess x s)=(l.take i).length:=by
  rw [List.countP_eq_length]
  intro x hx
  obtain ⟨k,hk,rfl⟩:=AT hx;simp only [Az] at hk;refine h1 k _ (by omega) ?_;rw [List.getElem_take];exact Aa (by omega)
 have a2:(l.drop i).countP (fun x=>bytesLess x s)=0:=by
  rw [List.countP_eq_zero]
  intro x hx
  obtain ⟨k,hk,rfl⟩:=AT hx
  simp at hk
  have:=h2 (i+k) (l[i+k]) (by omega) (Aa (by omega));rw [List.getElem_drop]
  simp [this]
 rw [a1,a2]
 simp;omega
theorem zpV {l:List Str} {s:Str} (hs:SortedS l) {i:Nat} (hi:i<=l.length) (h1: ∀(k:Nat) (x:Str),k<i->l[k]? =some x->bytesLess x s=true) (h2: ∀(k:Nat) (x:Str),i<=k->l[k]? =some x->bytesLess x s=false):
 (l[i]? ==some s)=l.contains s:=by
 rw [AF]
 simp
 constructor
 intro h;exact Ab h
 intro h
 obtain ⟨k,hk,rfl⟩:=AT h;have hk':=Aa hk
 rcases B0 k i with h3|h3|h3
 have:=h1 k _ h3 hk';rw [zag] at this;cases this;subst h3;exact hk';have hii:i<l.length:=by omega
 have hlt:=hs.get h3 (Aa hii) hk';have:=h2 i _ (Af _) (Aa hii);rw [hlt] at this;cases this
def zW {α:Type} (p:α->Bool):List α->Int->Int
 |[],_=> -1
 |x::r,k=>if p x then k else zW p r (k+1)
theorem zdd {α:Type} (p:α->Bool): ∀(l:List α) (k:Int),0<=k->decide (0<=zW p l k)=l.any p
 |[],k,h=>by simp [zW]
 |x::r,k,h=>by
   have ih:=zdd p r (k+1) (by omega)
   by_cases hx:p x=true
   simp [zW,hx,h]
   have e1:zW p (x::r) k=zW p r (k+1):=by simp [zW,hx]
   rw [e1,ih];simp [hx]
end
end Go.HL
namespace Go.Proofs.YtpgopgjleokciaaGreatDoor
set_option maxRecDepth 100000
set_option linter.unusedVariables false
set_option linter.unusedSimpArgs false
section
open Go.Proofs.Tryz
open Go.HL
theorem zkP [Tracks] {n:Int}:ConP prog 234 [.int .i64 n] (.bool false):=by
 refine uOb func234 ntmps234 ?_;refine zaw ?_;refine zw rfl ?_
 simp
theorem zeq [Tracks] {s:Str}:ConP prog 297 [.str s] (.bool false):=by
 refine uOb func297 ntmps297 ?_;refine zaw ?_;refine zw rfl ?_
 simp
theorem zhD [Tracks] {s:Str}:ConP prog 378 [.str s] (.bool false):=by
 refine uOb func378 ntmps378 ?_;refine zaw ?_;refine zw rfl ?_
 simp
theorem zV [Tracks] {a b:Int}:ConP prog 157 [.int .i64 a,.int .i64 b] (.int .i64 (zaj a b)):=by
 refine uOb func157 ntmps157 ?_;refine gz5 ?_;refine dq (uCl zBE rfl zkP) ?_;refine gz4 ?_;refine dq (uCl zBE rfl zkP) ?_;refine gz6 ?_;refine zdL rfl ?_;refine gz6 ?_;refine zdL rfl ?_;refine gz8 ?_;refine uCo (fun h1=> ?_) fun h2=> ?_
 refine gz4 ?_;refine uRp ?_;unfold zaj;(repeat' split)<;>first|rfl|omega
 refine gz8 ?_;refine uCo (fun h3=> ?_) fun h4=> ?_
 refine gz4 ?_;refine uRp ?_;unfold zaj;(repeat' split)<;>first|rfl|omega
 refine gz6 ?_;refine uRp ?_;unfold zaj;(repeat' split)<;>first|rfl|omega
theorem zbe [Tracks] {l:List Int} (hl:l.length<=1000000):ConP prog 156 [eIs l] (.int .i64 (orI l)):=by
 refine uOb func156 ntmps156 ?_;refine zee ?_;refine uT1 [2,1,5,1,8,9] (fun k=>[(8,.int .i64 k)]) (fun k=>[]) (fun k=>k<=l.length/\(orI l=orI (l.drop k))) (fun k=>l.length-k) (0) ?_ ?_;exact ⟨Ad _,by simp_all⟩;rintro k ⟨hk,hg⟩;refine gz4 ?_;refine uCo (fun h1=> ?_) fun h2=> ?_
 obtain ⟨x,hx⟩: ∃x,l[k]? =some x:=⟨_,Aa h1⟩
 have hdx:=zk hx;rw [hdx] at hg;refine zdu ?_;refine uCo (fun h3=> ?_) fun h4=> ?_
 refine gz5 ?_;refine uRp ?_;rw [hg];simp_all [orI];refine gz7 ?_;refine ⟨k+1,?_,?_,⟨rfl,trivial⟩,uK,Ac _⟩
 refine ⟨by omega,?_⟩
 rw [hg];simp_all [orI]
 dsimp only;omega
 have hnk:l.length<=k:=by omega
 obtain rfl:k=l.length:=by omega
 rw [zH (Af _)] at hg;refine gz2 ?_;refine zv ?_;refine gz7 ?_;refine uRp ?_;rw [hg];simp_all [orI]
theorem zf0 [Tracks] {l:List Int} (hl:l.length<=1000000):ConP prog 43 [eIs l] (.int .i64 (orI l)):=by
 refine uOb func43 ntmps43 ?_;refine zee ?_;refine uT1 [2,1,5,1,8,9] (fun k=>[(8,.int .i64 k)]) (fun k=>[]) (fun k=>k<=l.length/\(orI l=orI (l.drop k))) (fun k=>l.length-k) (0) ?_ ?_;exact ⟨Ad _,by simp_all⟩;rintro k ⟨hk,hg⟩;refine gz4 ?_;refine uCo (fun h1=> ?_) fun h2=> ?_
 obtain ⟨x,hx⟩: ∃x,l[k]? =some x:=⟨_,Aa h1⟩
 have hdx:=zk hx;rw [hdx] at hg;refine zdu ?_;refine uCo (fun h3=> ?_) fun h4=> ?_
 refine gz5 ?_;refine uRp ?_;rw [hg];simp_all [orI];refine gz7 ?_;refine ⟨k+1,?_,?_,⟨rfl,trivial⟩,uK,Ac _⟩
 refine ⟨by omega,?_⟩
 rw [hg];simp_all [orI]
 dsimp only;omega
 have hnk:l.length<=k:=by omega
 obtain rfl:k=l.length:=by omega
 rw [zH (Af _)] at hg;refine gz2 ?_;refine zv ?_;refine gz7 ?_;refine uRp ?_;rw [hg];simp_all [orI]
theorem zb0 [Tracks] {l:List Int} (hl:l.length<=1000000):ConP prog 26 [eIs l] (.int .i64 (orI l)):=by
 refine uOb func26 ntmps26 ?_;refine zaw ?_;refine uT1 [2,1,4,1,7,8] (fun k=>[(7,.int .i64 k)]) (fun k=>[]) (fun k=>k<=l.length/\(orI l=orI (l.drop k))) (fun k=>l.length-k) (0) ?_ ?_;exact ⟨Ad _,by simp_all⟩;rintro k ⟨hk,hg⟩;refine gz4 ?_;refine uCo (fun h1=> ?_) fun h2=> ?_
 obtain ⟨x,hx⟩: ∃x,l[k]? =some x:=⟨_,Aa h1⟩
 have hdx:=zk hx;rw [hdx] at hg;refine zee ?_;refine uCo (fun h3=> ?_) fun h4=> ?_
 refine gz5 ?_;refine uRp ?_;rw [hg];simp_all [orI];refine gz7 ?_;refine ⟨k+1,?_,?_,⟨rfl,trivial⟩,uK,Ac _⟩
 refine ⟨by omega,?_⟩
 rw [hg];simp_all [orI]
 dsimp only;omega
 have hnk:l.length<=k:=by omega
 obtain rfl:k=l.length:=by omega
 rw [zH (Af _)] at hg;refine gz2 ?_;refine zv ?_;refine gz6 ?_;refine uRp ?_;rw [hg];simp_all [orI]
theorem zhe [Tracks] {a b:Str}:ConP prog 187 [.str a,.str b] (.int .i64 (zY a b)):=by
 refine uOb func187 ntmps187 ?_;refine gz6 ?_;refine dq (zxK func254 (by kernel_rfl) (by kernel_rfl) (by kernel_rfl) (by kernel_rfl) rfl rfl rfl) ?_;refine gz3 ?_;refine zw rfl ?_
 rfl
theorem zM [Tracks] {a b:Str}:ConP prog 100 [.str a,.str b] (.int .i64 (zY a b)):=by
 refine uOb func100 ntmps100 ?_;refine gz6 ?_;refine dq (uCl zE9 rfl zhe) ?_;refine gz3 ?_;refine zw rfl ?_
 rfl
theorem zpg [Tracks] {a b:Str}:ConP prog 292 [.str a,.str b] (.bool (Op.bytesLess a b)):=by
 refine uOb func292 ntmps292 ?_;refine gz5 ?_;refine dq (uCl ztB rfl zeq) ?_;refine gz2 ?_;refine uGr rfl (fun hc=>uCl ztB rfl zeq) ?_;refine zaw ?_;refine zw rfl ?_
 rfl
theorem ziv [Tracks] {l m:List Str} (hl:l.length<=1000000):ConP prog 25 [eSs l,eSs m] (.bool (l==m)):=by
 refine uOb func25 ntmps25 ?_;refine zct ?_;refine uCo (fun h1=> ?_) fun h2=> ?_
 refine gz4 ?_;refine zw rfl ?_
 show HVal.bool _=_
 (congr 1;symm;rw [beq_eq_false_iff_ne];intro h;subst h;omega)
 refine gz9 ?_;refine uT1 [4,2,13,13] (fun k=>[(13,.int .i64 k)]) (fun k=>[]) (fun k=>k<=l.length/\(l.length=m.length/\(l==m)=(l.drop k==m.drop k))) (fun k=>l.length-k) (0) ?_ ?_;refine ⟨Ad _,?_,rfl⟩
 omega
 rintro k ⟨hk,hg⟩;refine gz4 ?_;refine uCo (fun h3=> ?_) fun h4=> ?_
 obtain ⟨x,hx⟩: ∃x,l[k]? =some x:=⟨_,Aa h3⟩
 have hdx:=zk hx;obtain ⟨y,hy⟩: ∃y,m[k]? =some y:=⟨_,Aa uO⟩
 rw [hdx,zk hy] at hg;refine gz8 ?_;refine uDr mixed ?_;refine zaw ?_;refine uCo (fun h5=> ?_) fun h6=> ?_
 refine gz4 ?_;refine zw rfl ?_
 show HVal.bool _=_
 (rw [hg.2];simp_all)
 refine gz7 ?_;refine ⟨k+1,?_,?_,⟨rfl,trivial⟩,uK,Ac _⟩
 refine ⟨by omega,hg.1,?_⟩
 rw [hg.2];simp_all
 dsimp only;omega
 have hnk:l.length<=k:=by omega
 obtain rfl:k=l.length:=by omega
 rw [zH (Af _)] at hg;refine gz2 ?_;refine zv ?_;refine gz6 ?_;refine zw rfl ?_
 show HVal.bool _=_
 (rw [hg.2];simp_all)
end
end Go.Proofs.YtpgopgjleokciaaGreatDoor
namespace Go.HL
section
def ziI (r:Room) (l:List Swap):Nat->List Swap->Int
 |_,[]=>0
 |k,x::t=>if out x.Round 1 r.Rounds then 1 else if !(r.Teams.contains x.Of)|| !(r.Teams.contains x.Team) then 8
   else if decide (0<k)&&decide (orI [zaj x.Round (l.getD (k-1) ztS).Round,zY x.Of (l.getD (k-1) ztS).Of]<=0) then 7 else ziI r l (k+1) t
def zdc (r:Room) (l:List Swap):Int:=if zb1 r !=0 then zb1 r else if 600<l.length then 2 else ziI r l 0 l
def zrT (r:Room) (l:List Keep):Nat->List Str->Bool->List Keep->Int
 |_,_,tw,[]=>if tw then 6 else 0
 |k,kept,tw,x::t=>if !(r.Teams.contains x.Team)|| !(r.Players.contains x.Player) then 8 else if out x.Round 1 r.Rounds then 1
   else if decide (0<k)&&decide (orI [zY x.Team (l.getD (k-1) zBQ).Team,zaj x.Round (l.getD (k-1) zBQ).Round]<=0) then 7
   else zrT r l (k+1) (zb8 x.Player kept) (tw||kept.contains x.Player) t
def zjG (r:Room) (sw:List Swap) (round:Int):List Turn:=
 (if backwards r.Way round then r.Teams.reverse else r.Teams).map fun t=>⟨round,t,owner round t sw⟩
def zey (r:Room) (sw:List Swap):Nat->List Turn
 |0=>[]
 |n+1=>zey r sw n++zjG r sw (n+1)
def turns (r:Room) (sw:List Swap):List Turn:=zey r sw r.Rounds.toNat
theorem zjm (r:Room) (sw:List Swap): ∀n,(zey r sw n).length=n*r.Teams.length
 |0=>by simp [zey]
 |n+1=>by
   have:(zjG r sw ((n:Int)+1)).length=r.Teams.length:=by unfold zjG;split<;>simp
   simp only [zey,Av,zjm r sw n,this,Nat.succ_mul]
theorem zre {l:List Str}: ∀(k:Nat),k<=l.length->zbL l k (l.drop k)=0->∀(i j:Nat) (a b:Str),k<=j->i+1=j->l[i]? =some a->l[j]? =some b->Op.bytesLess a b=true:=by
 intro k hk
 generalize hm:l.length-k=m
 induction m generalizing k with
 |zero=>
   intro _ i j a b h1 h2 ha hb
   have:=zp hb;omega
 |succ m ih=>
   intro h i j a b h1 h2 ha hb
   have hlt:k<l.length:=by omega
   have hx:=Aa hlt;rw [zk hx,zbL] at h
   by_cases hkey:key l[k]=true
   simp only [hkey,Bool.not_true,AR,if_false] at h
   by_cases hle:(decide (0<k)&&leS l[k] (l.getD (k-1) []))=true
   rw [if_pos hle] at h;omega;rw [if_neg hle] at h
   by_cases hj:k+1<=j
   exact ih (k+1) (by omega) (by omega) h i j a b hj h2 ha hb;obtain rfl:j=k:=by omega
   have h0:0<j:=by omega
   simp only [h0,decide_true,Bool.true_and] at hle;have e1:l.getD (j-1) []=a:=by
    have:j-1=i:=by omega
    rw [this];simp [List.getD,ha]
   have e2:l[j]=b:=by rw [hx] at hb;simpa using hb
   rw [e1,e2,zCH] at hle
   simpa using hle
   simp [hkey] at h
theorem zl8 {l:List Str} (h:zdQ l=0):SortedS l:=by
 have hadj:=zre (l:=l) 0 (Ad _) (by simpa [zdQ] using h);have key: ∀(d i:Nat) (a b:Str),l[i]? =some a->l[i+d+1]? =some b->Op.bytesLess a b=true:=by
  intro d
  induction d with
  |zero=>intro i a b ha hb;exact hadj i (i+1) a b (by omega) rfl ha hb
  |succ d ih=>
    intro i a b ha hb
    have hlt:=zp hb;have hc:=Aa (l:=l) (i:=i+d+1) (by omega);have h1:=ih i a _ ha hc;have h2:=hadj (i+d+1) (i+(d+1)+1) _ b (by omega) (by omega) hc hb;exact zew h1 h2
 refine List.pairwise_iff_getElem.2 fun i j hi hj hij=> ?_
 refine key (j-i-1) i _ _ (Aa hi) ?_;have:i+(j-i-1)+1=j:=by omega
 rw [this];exact Aa hj
theorem zn9 {r:Room} (h:zb1 r=0):SortedS r.Players/\r.Teams.length<=20/\0<r.Teams.length/\1<=r.Rounds/\r.Rounds<=30/\r.Players.length<=500:=by
 unfold zb1 at h
 by_cases h1:teamsFault r.Teams=0
 rw [if_neg (by simp [h1])] at h
 by_cases h2:out r.Rounds 1 30=true
 rw [if_pos h2] at h;omega;rw [if_neg h2] at h
 by_cases h3:out r.Way 1 3=true
 rw [if_pos h3] at h;omega;rw [if_neg h3] at h
 by_cases h4:playersFault r.Players=0
 have h2':=zfk (by simpa using h2);unfold teamsFault at h1;unfold playersFault at h4
 split at h4
 omega
 split at h1
 omega
 split at h1
 omega
 exact ⟨zl8 h4,by omega,by omega,h2'.1,h2'.2,by omega⟩;rw [if_pos (by simpa using h4)] at h;exact absurd h h4;rw [if_pos (by simpa using h1)] at h;exact absurd h h1
end
end Go.HL
namespace Go.Proofs.YtpgopgjleokciaaGreatDoor
set_option maxRecDepth 100000
set_option linter.unusedVariables false
set_option linter.unusedSimpArgs false
section
open Go.Proofs.Tryz
open Go.HL
theorem zgt [Tracks] {l:List Str} {s:Str} (hl:l.length<=1000000) (hs:SortedS l):ConP prog 357 [eSs l,.str s] (.tup [.int .i64 (zbU l s),.bool (l.contains s)]):=by
 refine uOb func357 ntmps357 ?_;refine zpW ?_;refine uT2 [7,3,13,18] (fun i j=>[(7,.int .i64 i),(8,.int .i64 j)]) (fun i j=>[]) (fun i j=>i<=j/\j<=l.length/\(∀(k:Nat) (x:Str),k<i->l[k]? =some x->Op.bytesLess x s=true)/\(∀(k:Nat) (x:Str),j<=k->l[k]? =some x->Op.bytesLess x s=false)) (fun i j=>j-i) (0) (l.length) ?_ ?_;exact ⟨Ad _,Af _,fun k x h=>by omega,fun k x h1 h2=>by have:=zp h2;omega⟩;rintro i j ⟨hij,hjl,ha,hb⟩;refine gz6 ?_;refine uCo (fun h1=> ?_) fun h2=> ?_
 obtain ⟨x,hx⟩: ∃x,l[(i+j)/2]? =some x:=⟨_,Aa uO⟩
 have hm:(i+j)/2<j/\i<=(i+j)/2:=by omega
 refine gz7 ?_;refine dq (zcd ty3 zk4 rfl) ?_;refine dq (zo7 rfl rfl uO) ?_;refine dq (zS (zcd zk4 ty3 rfl) (zuX (i:=i) (j:=j) uO)) ?_;refine gz5 ?_;refine dq (zA (j:=(i+j)/2) (a:=x) zq ty9 rfl rfl rfl hx) ?_;refine gz2 ?_;refine dq (uCl zF8 rfl zpg) ?_;refine gz1 ?_;refine uCo (fun h3=> ?_) fun h4=> ?_
 refine gz6 ?_;exact ⟨(i+j)/2+1,j,⟨by omega,hjl,zwO hs hx h3,hb⟩,uD,⟨rfl,rfl,trivial⟩,uK,Ac _⟩;refine gz5 ?_;exact ⟨i,(i+j)/2,⟨by omega,by omega,ha,ztw hs hx h4⟩,uD,⟨rfl,rfl,trivial⟩,uK,Ac _⟩;obtain rfl:i=j:=by omega
 refine gz2 ?_;refine zN ?_;refine zaw ?_;refine uGr rfl (fun hc=>by have hq:=hc;(try simp at hq);exact zA (j:=i) (a:=l.getD i []) zq ty9 rfl rfl rfl (getD_some uO)) ?_;refine gz6 ?_;refine uGr rfl (fun hc=>zA (j:=i) (a:=l.getD i []) zq ty9 rfl rfl rfl (getD_some uSa)) ?_;refine gz1 ?_;refine uGr rfl (fun hc=>uCl zBL rfl zhD) ?_;refine gz2 ?_;refine uGr rfl (fun hc=>uCl zBL rfl zhD) ?_;refine gz7 ?_;refine zw rfl ?_;rw [zl6 hjl ha hb,<-zpV hs hjl ha hb,<-zzw false]
theorem znS [Tracks] {r:Room} {l:List Swap} (ht:r.Teams.length<=1000000) (hp:r.Players.length<=1000000) (hl:l.length<=1000000):ConP prog 70 [zqE r,zod l] (.int .i64 (zdc r l)):=by
 refine uOb func70 ntmps70 ?_;refine gz7 ?_;refine dq (uCl zEQ rfl (zph (by assumption) (by assumption))) ?_;refine gz6 ?_;refine uCo (fun h1=> ?_) fun h2=> ?_
 refine gz5 ?_;refine uRp ?_
 (rw [zdc,if_pos uSa])
 refine gz8 ?_;refine uCo (fun h3=> ?_) fun h4=> ?_
 refine gz4 ?_;refine uRp ?_
 (rw [zdc,if_neg uSa,if_pos uO])
 refine gz9 ?_;refine uT1 [4,1,6,2,18,53] (fun k=>[(18,.int .i64 k)]) (fun k=>[]) (fun k=>k<=l.length/\(zdc r l=ziI r l k (l.drop k))) (fun k=>l.length-k) (0) ?_ ?_;refine ⟨Ad _,?_⟩
 rw [zdc,if_neg uSa,if_neg uO];rfl;rintro k ⟨hk,hg⟩;refine gz4 ?_;refine uCo (fun h5=> ?_) fun h6=> ?_
 obtain ⟨x,hx⟩: ∃x,l[k]? =some x:=⟨_,Aa h5⟩
 have hdx:=zk hx;rw [hdx] at hg;refine gz8 ?_;refine de rfl (zj zna rfl fun b7=> ?_)
 refine gz1 ?_;refine de0 (zn zna rfl rfl rfl rfl rfl ?_)
 refine gz1 ?_;refine ze (zm 7 rfl) ?_;refine gz6 ?_;refine dq (uCl zbH rfl zal) ?_;refine gz2 ?_;refine uCo (fun h7=> ?_) fun h8=> ?_
 refine gz4 ?_;refine uRp ?_
 (rw [hg,ziI];simp_all)
 refine gz5 ?_;refine dq (uCl zhj rfl (zK uO)) ?_;refine gz6 ?_;refine uGr rfl (fun hc=>by have hq:=hc;(try simp at hq);exact uCl zhj rfl (zK uO)) ?_;refine gz4 ?_;refine uCo (fun h9=> ?_) fun h10=> ?_
 refine gz4 ?_;refine uRp ?_
 (rw [hg,ziI];simp_all)
 refine uDr mixed ?_;refine gz8 ?_;refine uGy 8 rfl rfl (fun hc=>by have hq:=hc;(try simp at hq);exact zA (j:=k-1) (a:=l.getD (k-1) ztS) zx0 zna rfl rfl uO (getD_some uO)) ?_;refine gz2 ?_;refine uGy 11 rfl rfl (fun hc=>uCl zdb rfl zV) ?_;refine gz5 ?_;refine uGy 17 rfl rfl (fun hc=>by have hq:=hc;(try simp at hq);exact zA (j:=k-1) (a:=l.getD (k-1) ztS) zx0 zna rfl rfl uO (getD_some uO)) ?_;refine gz2 ?_;refine uGy 20 rfl rfl (fun hc=>uCl zcf rfl zM) ?_;refine uGy 21 rfl rfl (fun hc=>za (hs:=[_,_]) zac ty3 rfl rfl (by decide) (by decide) rfl) ?_;refine uGy 22 rfl rfl (fun hc=>uCl zfO rfl (zbe (l:=[_,_]) (by simp))) ?_;refine gz4 ?_;refine uCo (fun h11=> ?_) fun h12=> ?_
 refine gz4 ?_;refine uRp ?_
 (rw [hg,ziI];simp_all)
 refine gz8 ?_;refine ⟨k+1,?_,?_,⟨rfl,trivial⟩,uK,Ac _⟩
 refine ⟨by omega,?_⟩
 rw [hg,ziI];simp_all
 intro h1 h2;have:=h12 h1;omega
 dsimp only;omega
 have hnk:l.length<=k:=by omega
 obtain rfl:k=l.length:=by omega
 rw [zH (Af _)] at hg;refine gz2 ?_;refine zv ?_;refine gz6 ?_;refine uRp ?_
 (rw [hg];rfl)
end
end Go.Proofs.YtpgopgjleokciaaGreatDoor
namespace Go.HL
section
def Rev (l c:List Str) (i:Nat):Prop:=c.length=l.length/\∀k,k<l.length->c[k]? =if k<i\/l.length-i<=k then l[l.length-1-k]? else l[k]?
theorem zzb (l:List Str):Rev l l 0:=⟨rfl,fun k hk=>by rw [if_neg (by omega)]⟩
theorem zAP {l c:List Str} {i:Nat} {a b:Str} (h:Rev l c i) (hi:i<l.length-1-i) (ha:c[i]? =some a) (hb:c[l.length-1-i]? =some b):Rev l ((c.set i b).set (l.length-1-i) a) (i+1):=by
 obtain ⟨h1,h2⟩:=h;refine ⟨by simp [h1],fun k hk=> ?_⟩
 have ea:=h2 i (by omega);have eb:=h2 (l.length-1-i) (by omega);rw [if_neg (by omega),ha] at ea;rw [if_neg (by omega),hb] at eb
 by_cases e1:k=l.length-1-i
 subst e1;rw [if_pos (by omega)];have:l.length-1-(l.length-1-i)=i:=by omega
 rw [this,<-ea,Bb (by simp;omega)];rw [A0 (by omega)]
 by_cases e2:k=i
 subst e2;rw [if_pos (by omega),<-eb,Bb (by omega)];rw [A0 (by omega),h2 k hk]
 by_cases e3:k<i\/l.length-i<=k
 rw [if_pos e3,if_pos (by omega)];rw [if_neg e3,if_neg (by omega)]
theorem zDa {l c:List Str} {i:Nat} (h:Rev l c i) (hi:l.length<=2*i+1):c=l.reverse:=by
 obtain ⟨h1,h2⟩:=h
 apply Bo
 intro k
 by_cases hk:k<l.length
 rw [h2 k hk];rw [List.getElem?_reverse hk]
 by_cases e:k<i\/l.length-i<=k
 rw [if_pos e];rw [if_neg e]
 congr 1;omega
 rw [Ax (by omega),Ax (by simp;omega)]
end
end Go.HL
namespace Go.Proofs.YtpgopgjleokciaaGreatDoor
set_option maxRecDepth 100000
set_option linter.unusedVariables false
set_option linter.unusedSimpArgs false
section
open Go.Proofs.Tryz
open Go.HL
theorem zab [Tracks] {l:List Str} (hl:l.length<=1000000):zwH prog 41 [eSs l] 1 (l.map .str):=by
 refine uOb func41 ntmps41 ?_;refine gz6 ?_;refine de rfl (zso zq rfl rfl fun b4 hb4=> ?_)
 refine gz1 ?_;refine uCo (fun h1=> ?_) fun h2=> ?_
 refine gz4 ?_;exact zav (zL 1) rfl ⟨_,rfl,by simp_all⟩;refine gz3 ?_;refine de rfl (zv7 zq ty9 fun v5=> ?_)
 refine gz1 ?_;refine de rfl (zI (i:=0) zq ty9 rfl rfl rfl rfl rfl (by simp [zaq,zd]) uSo fun v7=> ?_)
 refine gz3 ?_;exact zxQ rfl rfl
theorem zhS [Tracks] {l:List Str} {v:Value} (hl:l.length<=1000000):Con prog 159 [.raw v] [.arr v 1 (l.map .str)] (fun x M'=>x= .tup []/\M'=[.arr v 1 (l.reverse.map .str)]):=by
 refine uOb func159 ntmps159 ?_;refine gz2 ?_;refine de rfl (zv6 (i:=0) zq rfl rfl ?_)
 rw [Ah];refine gz5 ?_;refine uU3 [2,2,7,21] (fun (i:Nat) (j:Int) (c:List Str)=>[(2,.int .i64 i),(3,.int .i64 j)]) (fun (i:Nat) (j:Int) (c:List Str)=>[.arr v 1 (c.map .str)]) (fun (i:Nat) (j:Int) (c:List Str)=>i<=l.length/\j=(l.length:Int)-1-i/\Rev l c i) (fun (i:Nat) (j:Int) (c:List Str)=>l.length-i) (0) ((l.length:Int)-1) (l) ?_ ?_;exact ⟨Ad _,by omega,zzb l⟩;rintro i j c ⟨hi,hj,hr⟩;refine gz6 ?_;refine uCo (fun h1=> ?_) fun h2=> ?_
 have hlen:=hr.1;obtain ⟨x,hx⟩: ∃x,c[i]? =some x:=⟨_,Aa uO⟩
 obtain ⟨y,hy⟩: ∃y,c[l.length-1-i]? =some y:=⟨_,Aa uO⟩
 refine zDE (i:=0) rfl (fun h0 he=> ?_) (fun b off cap hv=> ?_)
 exfalso;simp at he;subst he;simp at hlen;omega
 subst hv;refine gz4 ?_;refine zbk (fun M=>M=[.arr (.slice (some ⟨b,off,none⟩) (c.map HVal.str).length cap) 1 (c.map .str)]) [7,11] mixed ?_;refine gz6 ?_;refine uB 6 rfl (zx (j:=l.length-1-i) zq ty9 rfl rfl uO uSo) ?_;refine uM 7 rfl rfl (fun M hM=>by subst hM;exact zhX (i:=0) (j:=l.length-1-i) (f:=0) (y:= .str y) ty9 rfl rfl rfl (by simp [hy]) (.inl ⟨rfl,rfl⟩) ⟨rfl,rfl⟩) ?_;refine gz2 ?_;refine uB 10 rfl (zx (j:=i) zq ty9 rfl rfl rfl uSo) ?_;refine uM 11 rfl rfl (fun M hM=>by subst hM;exact zhX (i:=0) (j:=i) (f:=0) (y:= .str x) ty9 rfl rfl rfl (by simp [hx]) (.inl ⟨rfl,rfl⟩) ⟨rfl,rfl⟩) ?_;refine uB 12 rfl (zx (j:=i) zq ty9 rfl rfl rfl uSo) ?_;refine uF 13 ?_;refine zz (zQ (i:=0) (j:=i) (f:=0) (y:= .str x) (y':= .str y) ty9 rfl rfl rfl rfl (by simp [hx]) rfl rfl (by simp [zd]) rfl ?_)
 refine ⟨uE,?_⟩
 refine uB 14 rfl (zx (j:=l.length-1-i) zq ty9 rfl rfl uO uSo) ?_;refine uF 15 ?_;refine zz (zQ (i:=0) (j:=l.length-1-i) (f:=0) (y:= .str y) (y':= .str x) ty9 rfl rfl rfl rfl (by simp [Bz];rw [if_neg uO];simp [hy]) rfl rfl (by simp [zd]) rfl ?_)
 refine ⟨uE,?_⟩
 refine zct ?_;refine ⟨i+1,j-1,(c.set i y).set (l.length-1-i) x,?_,?_,⟨rfl,rfl,trivial⟩,uK,zo (by simp [B3])⟩
 exact ⟨by omega,by omega,zAP hr uO hx hy⟩
 dsimp only;omega
 have hend:=zDa hr uO;refine gz2 ?_;refine zcK ?_;refine gz1 ?_;exact ⟨_,_,Ghost.sub (Sub.refl _),_,_,rfl,Weak.refl _,rfl,by rw [hend]⟩
end
end Go.Proofs.YtpgopgjleokciaaGreatDoor
namespace Go.HL
section
def zk3 (r:Room) (s:List Swap):List Str:=if zdc r s !=0 then [] else (turns r s).map (·.team)
theorem znk {r:Room} {l:List Swap} (h:zdc r l=0):zb1 r=0/\l.length<=600:=by
 unfold zdc at h
 by_cases h1:zb1 r=0
 rw [if_neg (by simp [h1])] at h
 split at h
 omega
 exact ⟨h1,by omega⟩;rw [if_pos (by simpa using h1)] at h;exact absurd h h1
theorem zAu {a b:Int} (h:orI [a,b]=0):a=0/\b=0:=by
 simp only [orI] at h
 split at h<;>simp_all
theorem zzo {r:Room} {s:List Swap} (h:zb1 r=0):(turns r s).length<=600:=by
 obtain ⟨_,h1,_,h2,h3,_⟩:=zn9 h;unfold turns;rw [zjm];have:=Nat.mul_le_mul (show r.Rounds.toNat<=30 by omega) h1
 omega
end
end Go.HL
namespace Go.Proofs.YtpgopgjleokciaaGreatDoor
set_option maxRecDepth 100000
set_option linter.unusedVariables false
set_option linter.unusedSimpArgs false
section
open Go.Proofs.Tryz
open Go.HL
theorem ztd [Tracks] {r:Room} {s:List Swap} (ht:r.Teams.length<=20) (hr0:1<=r.Rounds) (hr:r.Rounds<=30) (hl:s.length<=1000000):ConP prog 71 [.vptr (zd (zqE r)) 0,zod s] (zDA (turns r s)):=by
 refine uOb func71 ntmps71 ?_;refine gz6 ?_;refine ze (zL 3) ?_;refine gz5 ?_;refine uU2 [5,3,9,39] (fun (n:Nat) (v:Value)=>[(6,.int .i64 ((n:Int)+1)),(5,.raw v)]) (fun (n:Nat) (v:Value)=>[.arr v 3 ((zey r s n).map zqF)]) (fun (n:Nat) (v:Value)=>n<=r.Rounds.toNat) (fun (n:Nat) (v:Value)=>r.Rounds.toNat-n) (0) (.slice none 0 0) ?_ ?_;exact Ad _
 intro n v hn
 refine gz9 ?_;refine uCo (fun h1=> ?_) fun h2=> ?_
 have hn30:n<r.Rounds.toNat:=by omega
 refine gz9 ?_;refine de rfl (uCa zkg rfl (zab uO) fun v22=> ?_)
 refine gz2 ?_;refine uVj [23,8] (fun (L:List Str)=>[]) (fun (L:List Str)=>[.arr v22 1 (L.map .str),.arr v 3 ((zey r s n).map zqF)]) (fun (L:List Str)=>L=if backwards r.Way ((n:Int)+1) then r.Teams.reverse else r.Teams) ?_ ?_
 skip
 refine gz6 ?_;refine dq (uCl zER rfl zpi) ?_;refine gz1 ?_;refine uCo (fun h3=> ?_) fun h4=> ?_
 refine gz2 ?_;refine de rfl (za8 (M1:=[_]) (R:=[_]) zES rfl (WeakL.refl _) (Ac _) (zhS (l:=r.Teams) uO) ?_)
 rintro _ _ ⟨rfl,rfl⟩;refine gz1 ?_;refine ⟨_,?_,trivial,uK,Ac _⟩
 simp_all
 refine gz1 ?_;refine ⟨_,?_,trivial,uK,Ac _⟩
 simp_all
 intro L hL
 have hLl:L.length=r.Teams.length:=by rw [hL];split<;>simp
 have hb:=zjm r s n;have hm:=Nat.mul_le_mul (show n<=30 by omega) (show r.Teams.length<=20 by omega);refine ze (znC 7 rfl) ?_;refine gz6 ?_;refine uV2 [5,1,9,1,33,15] (fun (k:Nat) (u:Value)=>[(33,.int .i64 k),(5,.raw u)]) (fun (k:Nat) (u:Value)=>[.arr u 3 ((zey r s n).map zqF++(L.take k).map fun t=>zqF ⟨(n:Int)+1,t,owner ((n:Int)+1) t s⟩)]) (fun (k:Nat) (u:Value)=>k<=L.length/\(True)) (fun (k:Nat) (u:Value)=>L.length-k) (0) (v) ?_ ?_ ?_ ?_;exact ⟨Ad _,by simp_all⟩;exact ⟨rfl,rfl,trivial⟩;exact zo (by simp)
 intro k u hinv
 obtain ⟨hk,-⟩:=hinv;refine gz4 ?_;refine uCo (fun h5=> ?_) fun h6=> ?_
 obtain ⟨x,hx⟩: ∃x,L[k]? =some x:=⟨_,Aa h5⟩
 have hdx:=zk hx;refine zpW ?_;refine dq (uCl zET rfl (ztc (by assumption))) ?_;refine dq (zB (cs:=[_,_,_]) zpd zGy rfl) ?_;refine dq (za (hs:=[_]) zx1 zpd rfl rfl (by decide) (by decide) rfl) ?_;refine de rfl (zI (i:=0) zx1 zpd rfl rfl rfl rfl rfl (by simp [zaq,zd]) uSo fun v46=> ?_)
 refine gz8 ?_;refine ⟨k+1,_,?_,?_,⟨rfl,rfl,trivial⟩,uK,zo (by simp [List.take_add_one,hx])⟩
 exact ⟨by omega,trivial⟩
 dsimp only;omega
 have hnk:L.length<=k:=by omega
 obtain rfl:k=L.length:=by omega
 refine gz2 ?_;refine zN ?_;refine gz8 ?_;refine ⟨n+1,_,?_,?_,⟨rfl,rfl,trivial⟩,uK,zo (by simp [zey,zjG,hL,Ay,Function.comp_def])⟩
 omega
 dsimp only;omega
 obtain rfl:n=r.Rounds.toNat:=by omega
 refine gz2 ?_;refine zN ?_;refine gz7 ?_;exact zl7 (M:=[]) 4 rfl rfl rfl
theorem ztb [Tracks] {r:Room} {s:List Swap} (ht:r.Teams.length<=1000000) (hp:r.Players.length<=1000000) (hl:s.length<=1000000):ConP prog 23 [zqE r,zod s] (.tup [eSs (zk3 r s),.int .i64 (zdc r s)]):=by
 refine uOb func23 ntmps23 ?_;refine gz9 ?_;refine dq (uCl ca70 rfl (znS (by assumption) (by assumption) (by assumption))) ?_;refine gz6 ?_;refine uCo (fun h1=> ?_) fun h2=> ?_
 refine gz6 ?_;exact zcA rfl (zai (by rw [zk3,if_pos uSa];exact z7 1) (Weak.refl _));refine gz5 ?_;refine ze (zL 1) ?_;refine gz2 ?_;obtain ⟨_,hq1,_,hq2,hq3,_⟩:=zn9 (r:=r) ((znk (l:=s) h2).1);have hlen:=zzo (r:=r) (s:=s) (znk h2).1;refine gz1 ?_;refine dq (uCl ca71 rfl (ztd (by assumption) (by assumption) (by assumption) (by assumption))) ?_;refine gz4 ?_;refine uV2 [7,1,9,1,19,10] (fun (k:Nat) (u:Value)=>[(19,.int .i64 k),(7,.raw u)]) (fun (k:Nat) (u:Value)=>[.arr u 1 (((turns r s).take k).map fun t=> .str t.team)]) (fun (k:Nat) (u:Value)=>k<=(turns r s).length/\(True)) (fun (k:Nat) (u:Value)=>(turns r s).length-k) (0) (.slice none 0 0) ?_ ?_ ?_ ?_;exact ⟨Ad _,by simp_all⟩;exact ⟨rfl,rfl,trivial⟩;exact zo (by simp)
 intro k u hinv
 obtain ⟨hk,-⟩:=hinv;refine gz4 ?_;refine uCo (fun h3=> ?_) fun h4=> ?_
 obtain ⟨x,hx⟩: ∃x,(turns r s)[k]? =some x:=⟨_,Aa h3⟩
 have hdx:=zk hx;refine gz7 ?_;refine de rfl (zj zpd rfl fun b9=> ?_)
 refine de0 (zn zpd rfl rfl rfl rfl rfl ?_)
 refine gz1 ?_;refine ze (zm 9 rfl) ?_;refine gz4 ?_;refine dq (za (hs:=[_]) zq ty9 rfl rfl (by decide) (by decide) rfl) ?_;refine de rfl (zI (i:=0) zq ty9 rfl rfl rfl rfl rfl (by simp [zaq,zd]) uSo fun v27=> ?_)
 refine gz8 ?_;refine ⟨k+1,_,?_,?_,⟨rfl,rfl,trivial⟩,uK,zo (by simp [List.take_add_one,hx])⟩
 exact ⟨by omega,trivial⟩
 dsimp only;omega
 have hnk:(turns r s).length<=k:=by omega
 obtain rfl:k=(turns r s).length:=by omega
 refine gz2 ?_;refine zN ?_;refine gz8 ?_
 (refine zl7 (M:=[]) 4 rfl rfl ?_
  simp_all [zk3,eSs,Function.comp_def,zaB,za6])
end
end Go.Proofs.YtpgopgjleokciaaGreatDoor
namespace Go.HL
section
def asciiSet (l:List UInt8):List HVal:=(List.range 256).map fun i=> .bool (l.contains (UInt8.ofNat i))
theorem zdT (l:List UInt8):(asciiSet l).length=256:=by simp [asciiSet]
theorem znK (l:List UInt8) (c:UInt8):(asciiSet l)[c.toNat]? =some (.bool (l.contains c)):=by
 have:=c.toNat_lt
 simp [asciiSet,Bp,this]
theorem zqL {α:Type} (f:α->Bool): ∀l:List α,zaq (l.map fun i=> .bool (f i))=true
 |[]=>rfl
 |x::l=>by simp only [Au,zaq];exact zqL f l
theorem zs8 (l:List UInt8):zaq (asciiSet l)=true:=zqL _ _
theorem zuc (l:List UInt8) (c:UInt8):zaE (asciiSet l) (0+c.toNat*1) [.bool true]=asciiSet (l++[c]):=by
 have hc:=c.toNat_lt;have hl:0+c.toNat*1=c.toNat:=by omega
 rw [hl]
 apply Bo
 intro i
 have hlen:=zdT l;simp only [zaE,Cx]
 by_cases hi:i<c.toNat
 rw [Ao (by simp;omega),Ao (by simp [hlen];omega),AE hi];have h256:i<256:=by omega
 have hne:UInt8.ofNat i≠c:=fun h=>by
  have:=congrArg UInt8.toNat h;rw [UInt8.toNat_ofNat_of_lt' (by simpa [UInt8.size] using h256)] at this;omega
 simp [asciiSet,Bp,h256,hne]
 by_cases he:i=c.toNat
 subst he;rw [Ao (by simp [hlen];omega),Al (by simp [hlen];omega)];rw [znK]
 simp [hlen,Ci (Nat.le_of_lt hc)]
 rw [Al (by simp [hlen];omega),AK];have e1:c.toNat+1+(i-((asciiSet l).take c.toNat++[HVal.bool true]).length)=i:=by simp [hlen];omega
 rw [e1]
 by_cases h256:i<256
 have hne:UInt8.ofNat i≠c:=fun h=>by
  have:=congrArg UInt8.toNat h;rw [UInt8.toNat_ofNat_of_lt' (by simpa [UInt8.size] using h256)] at this;omega
 simp [asciiSet,Bp,h256,hne]
 rw [Ax (by rw [zdT];omega),Ax (by rw [zdT];omega)]
def zdF (p:UInt8->Bool) (s:Str):Str:=(s.reverse.dropWhile p).reverse
theorem zgF (p:UInt8->Bool) (s:Str) (c:UInt8):zdF p (s++[c])=if p c then zdF p s else s++[c]:=by
 unfold zdF;rw [List.reverse_append];simp only [List.reverse_cons,List.reverse_nil,Bx,BF,Bd]
 split<;>simp
theorem zys (p:UInt8->Bool): ∀s:Str,(s.dropWhile p).length<=s.length
 |[]=>Af _
 |x::s=>by
   rw [Bd]
   split
   exact Nat.le_succ_of_le (zys p s);exact Af _
theorem zsT (p:UInt8->Bool) (s:Str):(zdF p s).length<=s.length:=by
 unfold zdF;rw [List.length_reverse];have:=zys p s.reverse
 rwa [List.length_reverse] at this
theorem zyt (p:UInt8->Bool): ∀s:Str,s.dropWhile p=[]->∀c∈s,p c=true
 |[],_,c,h=>by cases h
 |x::s,h,c,hc=>by
   rw [Bd] at h
   by_cases hx:p x=true
   rw [if_pos hx] at h
   rcases List.mem_cons.1 hc with rfl|hc
   exact hx;exact zyt p s h c hc;rw [if_neg hx] at h;cases h
theorem zA2 (p:UInt8->Bool) (s:Str):((zdF p s).dropWhile p==[])=s.all p:=by
 induction s using List.reverseRecOn' with
 |nil=>rfl
 |snoc s c ih=>
   rw [zgF]
   by_cases hc:p c=true
   rw [if_pos hc,ih];simp [hc];rw [if_neg hc];have:(s++[c]).all p=false:=by simp [hc]
   rw [this]
   cases hd:(s++[c]).dropWhile p with
   |nil=>exact absurd (zyt _ _ hd c (by simp)) hc
   |cons _ _=>rfl
where
 List.reverseRecOn' {motive:Str->Prop} (nil:motive []) (snoc: ∀s c,motive s->motive (s++[c])) (l:Str):motive l:=by
  have: ∀n (l:Str),l.length=n->motive l:=by
   intro n
   induction n with
   |zero=>intro l h;rw [List.length_eq_zero_iff.1 h];exact nil
   |succ n ih=>
     intro l h
     have hne:l≠[]:=fun h0=>by subst h0;simp at h
     rw [<-BA hne];exact snoc _ _ (ih _ (by simp [h]))
  exact this l.length l rfl
def zg3:Str:=[97,98,99,100,101,102,103,104,105,106,107,108,109,110,111,112,113,114,115,116,117,118,119,120,121,122,48,49,50,51,52,53,54,55,56,57,45,95]
def zjV:Str:=[97,98,99,100,101,102,103,104,105,106,107,108,109,110,111,112,113,114,115,116,117,118,119,120,121,122]
theorem zt9 {p:UInt8->Bool} (h:(List.range 256).all (fun i=>p (UInt8.ofNat i))=true) (c:UInt8):p c=true:=by
 have:=List.all_eq_true.1 h c.toNat (List.mem_range.2 c.toNat_lt)
 simpa using this
theorem zzR (c:UInt8):zg3.contains c=zg6 c:=by
 have:=zt9 (p:=fun c=>zg3.contains c==zg6 c) (by kernel_rfl) c
 simpa using this
theorem zrk (c:UInt8):decide (0<=Lib.indexByte zjV c)=(decide (97<=c.toNat)&&decide (c.toNat<=122)):=by
 have:=zt9 (p:=fun c=>decide (0<=Lib.indexByte zjV c)==(decide (97<=c.toNat)&&decide (c.toNat<=122))) (by kernel_rfl) c
 simpa using this
theorem zCF (s:Str):key s=((!(out s.length 1 40)&&((zdF (zg3.contains ·) s).dropWhile (zg3.contains ·)==[]))&&decide (0<=Lib.indexByte zjV (s.headD 0))):=by
 rw [zA2,zrk];have:(fun x=>zg3.contains x)=zg6:=funext zzR;rw [this];unfold key zjB
 cases s with
 |nil=>simp [out]
 |cons x r=>
   simp only [List.headD_cons];have h1:(!(out ((x::r).length:Int) 1 40))=decide ((x::r).length<=40):=by
    simp only [out,Ai];rw [AF];simp;omega
   rw [h1];have h2:((x::r) !=[])=true:=rfl;rw [h2];have hb: ∀a b c d:Bool,(true&&a&&c&&d&&b)=(a&&b&&(c&&d)):=by decide
   exact hb _ _ _ _
theorem zxD (n:Int):(if out n 0 345686399999 then (1:Int) else 0)=if zaa n then 0 else 1:=by
 have:out n 0 345686399999= !(zaa n):=by
  simp only [out,zaa];rw [AF];simp;try omega
 rw [this];cases zaa n<;>rfl
end
end Go.HL
namespace Go.Proofs.YtpgopgjleokciaaGreatDoor
set_option maxRecDepth 100000
set_option linter.unusedVariables false
set_option linter.unusedSimpArgs false
section
open Go.Proofs.Tryz
open Go.HL
theorem zlo [Tracks] {l:Str} (hl:l.length<=1000000) (ha: ∀c∈l,c.toNat<128):ConP prog 264 [.str l] (.tup [.agg (asciiSet l),.bool true]):=by
 refine zaC func264 rfl ntmps264 rfl rfl ?_;refine gz1 ?_;refine de rfl (zj zk5 rfl fun b2=> ?_)
 refine gz7 ?_;refine uV1 [3,17] (fun (k:Nat)=>[(4,.int .i64 k)]) (fun (k:Nat)=>[.cells b2 (asciiSet (l.take k))]) (fun (k:Nat)=>k<=l.length/\(True)) (fun (k:Nat)=>l.length-k) (0) ?_ ?_ ?_ ?_;exact ⟨Ad _,by simp_all⟩;exact ⟨rfl,trivial⟩;exact zo rfl
 intro k hinv
 obtain ⟨hk,-⟩:=hinv;refine gz7 ?_;refine uCo (fun h1=> ?_) fun h2=> ?_
 obtain ⟨x,hx⟩: ∃x,l[k]? =some x:=⟨_,Aa h1⟩
 have hdx:=zk hx;have hc:=ha x (Ab hx);refine gz7 ?_;refine dq (zaO ty9 rfl rfl rfl (by assumption)) ?_;refine gz7 ?_;refine zZ rfl (fun h3=> ?_) (fun h3=> ?_)
 exfalso
 try simp at h3
 omega
 try simp at h3
 refine gz4 ?_;refine dq (zu6 zk5 ty4 rfl rfl rfl uO) ?_;refine de0 (zoi (i:=0) ty4 rfl rfl rfl rfl rfl (by rw [zdT];omega) ?_)
 refine gz8 ?_;refine ⟨k+1,?_,?_,⟨rfl,trivial⟩,uK,zo (by show [MObj.cells b2 (zaE _ (0+x.toNat*1) [.bool true])]=_;rw [zuc];dsimp only;rw [List.take_add_one,hx];rfl)⟩
 exact ⟨by omega,trivial⟩
 dsimp only;omega
 have hnk:l.length<=k:=by omega
 obtain rfl:k=l.length:=by omega
 refine gz2 ?_;refine zv ?_;refine gz2 ?_;refine ze (zaH (M':=[.cells b2 (asciiSet l)]) (by rw [Ak])) ?_;refine gz1 ?_;refine de rfl (zja (i:=0) (h:= .agg (asciiSet l)) zk5 rfl rfl rfl rfl (zdT l) ?_)
 refine de0 (zn (h:= .agg (asciiSet l)) zk5 rfl rfl (by simp [zd3,zdT]) (zs8 l) (zdT l) ?_)
 refine gz3 ?_;refine ⟨_,_,zm 2 rfl,[_,_],_,⟨⟨_,_,_,_,_,rfl,zk5,.inr ⟨rfl,rfl,rfl⟩⟩,⟨rfl,trivial⟩⟩,Weak.refl _,?_,rfl⟩
 rfl
theorem ze4 [Tracks] {l:Str} {c:UInt8}:ConP prog 309 [.vptr (asciiSet l) 0,.int .u8 c.toNat] (.bool (l.contains c)):=by
 have hc:=c.toNat_lt;refine uOb func309 ntmps309 ?_;refine gz7 ?_;refine dq (zAE zk5 ty4 rfl rfl rfl uO) ?_;refine dq (zO ty4 rfl rfl (by rw [show 0+c.toNat*1=c.toNat from by omega];exact znK l c)) ?_;refine gz3 ?_;refine zw rfl ?_
 rfl
theorem zkF [Tracks] {s l:Str} (hl:s.length<=1000000):ConP prog 265 [.str s,.vptr (asciiSet l) 0] (.str (s.dropWhile (l.contains ·))):=by
 refine uOb func265 ntmps265 ?_;refine gz5 ?_;refine uU1 [0,1,5,10] (fun (t:Str)=>[(0,.str t)]) (fun (t:Str)=>[]) (fun (t:Str)=>t.length<=s.length/\s.dropWhile (l.contains ·)=t.dropWhile (l.contains ·)) (fun (t:Str)=>t.length) (s) ?_ ?_;exact ⟨Af _,rfl⟩;rintro t ⟨ht,hg⟩;refine gz6 ?_;refine uCo (fun h1=> ?_) fun h2=> ?_
 obtain ⟨x,u,rfl⟩: ∃x u,t=x::u:=by cases t with|nil=>simp at h1|cons x u=>exact ⟨x,u,rfl⟩
 have hlen:(x::u).length=u.length+1:=rfl;refine gz7 ?_;refine dq (zaO (j:=0) (b:=x) ty9 rfl rfl rfl rfl) ?_;refine dq (uCl zBK rfl ze4) ?_;refine gz2 ?_;refine uCo (fun h3=> ?_) fun h4=> ?_
 refine gz3 ?_;refine zv ?_;refine gz7 ?_;refine zw rfl ?_
 show HVal.str _=_
 rw [hg];simp_all [Bd];refine gz4 ?_;refine dq (zie (l:=1) ty9 rfl ⟨_,_,rfl,rfl⟩ rfl uO uO) ?_;refine gz3 ?_;refine ⟨_,?_,?_,⟨rfl,trivial⟩,uK,Ac _⟩
 refine ⟨by simp at ht⊢;omega,?_⟩
 rw [hg];simp_all [Bd]
 dsimp only;simp
 obtain rfl:t=[]:=by simpa using h2
 refine gz2 ?_;refine zv ?_;refine gz7 ?_;refine zw rfl ?_
 show HVal.str _=_
 rw [hg];simp_all [Bd]
theorem zke [Tracks] {s l:Str} (hl:s.length<=1000000):ConP prog 266 [.str s,.vptr (asciiSet l) 0] (.str (zdF (l.contains ·) s)):=by
 refine uOb func266 ntmps266 ?_;refine gz5 ?_;refine uU1 [0,1,5,16] (fun (t:Str)=>[(0,.str t)]) (fun (t:Str)=>[]) (fun (t:Str)=>t.length<=s.length/\zdF (l.contains ·) s=zdF (l.contains ·) t) (fun (t:Str)=>t.length) (s) ?_ ?_;exact ⟨Af _,rfl⟩;rintro t ⟨ht,hg⟩;refine gz6 ?_;refine uCo (fun h1=> ?_) fun h2=> ?_
 obtain ⟨u,x,rfl⟩: ∃u x,t=u++[x]:=⟨_,_,(BA (by intro h0;subst h0;simp at h1)).symm⟩
 have hlen:(u++[x]).length=u.length+1:=by simp
 refine zaw ?_;refine dq (zaO (j:=u.length) (b:=x) ty9 rfl rfl uO (by simp)) ?_;refine dq (uCl zBK rfl ze4) ?_;refine gz2 ?_;refine uCo (fun h3=> ?_) fun h4=> ?_
 refine gz3 ?_;refine zv ?_;refine gz7 ?_;refine zw rfl ?_
 show HVal.str _=_
 rw [hg];first|rfl|(rw [zgF,if_neg uSa])
 refine gz7 ?_;refine dq (zie (l:=0) (h:=u.length) ty9 rfl rfl ⟨_,_,rfl,by omega⟩ uO uO) ?_;refine gz3 ?_;refine ⟨_,?_,?_,⟨rfl,trivial⟩,uK,Ac _⟩
 refine ⟨by simp at ht⊢;omega,?_⟩
 rw [hg,zgF,if_pos uSa];simp
 dsimp only;simp
 obtain rfl:t=[]:=by simpa using h2
 refine gz2 ?_;refine zv ?_;refine gz7 ?_;refine zw rfl ?_
 show HVal.str _=_
 rw [hg];first|rfl|(rw [zgF,if_neg uSa])
theorem zrG [Tracks] {s l:Str} (hs:s.length<=1000000) (hl:l.length<=1000000) (h2l:2<=l.length) (ha: ∀c∈l,c.toNat<128):ConP prog 202 [.str s,.str l] (.str ((zdF (l.contains ·) s).dropWhile (l.contains ·))):=by
 refine uOb func202 ntmps202 ?_;refine zdl ?_;refine uCo (fun h1=> ?_) fun h2=> ?_
 refine gz5 ?_;refine zw rfl ?_
 show HVal.str _=_
 focus (rcases h1 with rfl|rfl<;>first|(simp at h2l;done)|(simp [zdF];done))
 refine gz9 ?_;refine uGr rfl (fun hc=>zaO (j:=0) (b:=l.headD 0) ty9 rfl rfl rfl (hd0 (by intro h0;subst h0;simp at h2l))) ?_;refine gz3 ?_;refine zZ rfl (fun h3=> ?_) (fun h3=> ?_)
 exfalso
 try simp at h3
 omega
 try simp at h3
 refine gz5 ?_;refine dq (uCl zFR rfl (zlo (by assumption) (by assumption))) ?_;refine gz3 ?_;refine de rfl (zj zk5 rfl fun b5=> ?_)
 refine de0 (zn zk5 rfl rfl rfl rfl rfl ?_)
 refine gz2 ?_;refine ze (zm 5 rfl) ?_;refine gz3 ?_;refine zsv rfl ?_;refine gz2 ?_;refine dq (uCl zFT rfl (zke (by assumption))) ?_;refine dq (uCl zFS rfl (zkF (Aq (zsT _ _) hs))) ?_;refine gz3 ?_;refine zw rfl ?_
 show HVal.str _=_
 rfl
theorem zhf [Tracks] {s:Str} {c:Int}:ConP prog 269 [.str s,.int .u8 c] (.int .i64 (Lib.indexByte s c.toNat.toUInt8)):=by
 refine uOb func269 ntmps269 ?_;refine gz6 ?_;refine dq (ztt func313 (by kernel_rfl) (by kernel_rfl) (by kernel_rfl) (by kernel_rfl) rfl rfl rfl) ?_;refine gz3 ?_;refine zw rfl ?_
 rfl
theorem zir [Tracks] {s:Str} {c:Int}:ConP prog 203 [.str s,.int .u8 c] (.int .i64 (Lib.indexByte s c.toNat.toUInt8)):=by
 refine uOb func203 ntmps203 ?_;refine gz6 ?_;refine dq (uCl zFU rfl zhf) ?_;refine gz3 ?_;refine zw rfl ?_
 rfl
theorem zc2 [Tracks] {n lo hi:Int}:ConP prog 124 [.int .i64 n,.int .i64 lo,.int .i64 hi] (.bool (!(out n lo hi))):=by
 refine uOb func124 ntmps124 ?_;refine zh1 ?_;refine zw rfl ?_
 show HVal.bool _=_
 congr 1;simp [out];rw [AF];simp;try omega
theorem zbP [Tracks] {s:Str} (hs:s.length<=1000000):ConP prog 122 [.str s] (.bool (key s)):=by
 refine uOb func122 ntmps122 ?_;refine gz6 ?_;refine dq (uCl zmG rfl zc2) ?_;refine gz2 ?_;refine uGr rfl (fun hc=>uCl zBw rfl (zrG (l:=zg3) hs (by decide) (by decide) (by decide))) ?_;refine gz4 ?_;refine uGr rfl (fun hc=>zaO (j:=0) (b:=s.headD 0) ty9 rfl rfl rfl (hd0 (by rintro rfl;simp [out] at hc))) ?_;refine uGr rfl (fun hc=>uCl zBx rfl zir) ?_;refine gz5 ?_;refine zw rfl ?_
 show HVal.bool _=_
 rw [zCF]
 simp [zg3,zjV]
theorem zhw [Tracks] {n lo hi:Int}:ConP prog 200 [.int .i64 n,.int .i64 lo,.int .i64 hi] (.int .i64 (if out n lo hi then 1 else 0)):=by
 refine uOb func200 ntmps200 ?_;refine gz8 ?_;refine dq (uCl zmG rfl zc2) ?_;refine gz2 ?_;refine uCo (fun h1=> ?_) fun h2=> ?_
 refine gz4 ?_;refine uRp ?_
 simp_all
 refine gz6 ?_;refine uRp ?_
 simp_all
theorem zc0 [Tracks] {n:Int}:ConP prog 116 [.int .i64 n] (.int .i64 (if zaa n then 0 else 1)):=by
 refine uOb func116 ntmps116 ?_;refine gz5 ?_;refine dq (uCl zBu rfl zhw) ?_;refine gz3 ?_;refine uRp ?_;rw [zxD]
end
end Go.Proofs.YtpgopgjleokciaaGreatDoor
namespace Go.HL
section

end
section
open Op (bytesLess)
theorem zkS (a b:Int):zaj a b= -zaj b a:=by
 unfold zaj;split<;>split<;>(try split)<;>omega
theorem ze5 (a b:Str):zY a b= -zY b a:=by
 rw [zgx,zgx]
 rcases zb6 a b with h|h|h
 have hne:a≠b:=fun e=>by subst e;rw [zag] at h;cases h
 simp [h,zbR h,hne.symm]
 subst h;simp [zag];have hne:a≠b:=fun e=>by subst e;rw [zag] at h;cases h
 simp [h,zbR h,hne]
theorem zu1 (a b:Int):orI [-a,-b]= -orI [a,b]:=by
 by_cases h1:a=0<;>by_cases h2:b=0<;>simp [orI,h1,h2]
end
section
section
variable {α:Type} (c:α->α->Int)
def zmT (x:α):List α->List α
 |[]=>[x]
 |y::t=>if c x y<0 then y::zmT x t else x::y::t
def zdE (x:α) (S:List α):List α:=(zmT c x S.reverse).reverse
def zao (l:List α):List α:=l.foldl (fun S x=>zdE c x S) []
theorem zz8 (x:α):zdE c x []=[x]:=rfl
theorem zsB (x y:α) (S:List α):zdE c x (S++[y])=if c x y<0 then zdE c x S++[y] else S++[y,x]:=by
 unfold zdE;rw [List.reverse_append];simp only [List.reverse_cons,List.reverse_nil,Bx,BF,zmT]
 split<;>simp
theorem zqP (l:List α) (x:α):zao c (l++[x])=zdE c x (zao c l):=by simp [zao,Bc]
theorem zow (x:α): ∀l,(zmT c x l).Perm (x::l)
 |[]=> .refl _
 |y::t=>by
   simp only [zmT];split
   ·exact ((zow x t).cons y).trans (.swap _ _ _)
   ·exact .refl _
theorem zyH (x:α) (S:List α):(zdE c x S).Perm (x::S):=by
 unfold zdE;exact (List.reverse_perm _).trans ((zow c x _).trans ((List.reverse_perm S).cons x))
theorem zqM: ∀(l S:List α),(l.foldl (fun S x=>zdE c x S) S).Perm (S++l)
 |[],S=>by simp
 |x::l,S=>by
   simp only [Bw];refine (zqM l _).trans ?_;refine ((zyH c x S).append_right l).trans ?_;exact (B7 (a:=x) (l₁:=S) (l₂:=l)).symm
theorem zbp (l:List α):(zao c l).Perm l:=by
 have:=zqM c l []
 simpa [zao] using this
theorem za9 (l:List α):(zao c l).length=l.length:=(zbp c l).length_eq
theorem zeu {l:List α} {x:α}:x∈zao c l↔x∈l:=(zbp c l).mem_iff
structure Cmp (s:α->Prop):Prop where
 flip: ∀x y,s x->s y->(c x y<0↔0<c y x)
 trans: ∀x y z,s x->s y->s z->c x y<=0->c y z<=0->c x z<=0
variable {c}
theorem zpv {s:α->Prop} (hc:Cmp c s) {x:α} (hx:s x): ∀{l:List α},(∀y∈l,s y)->l.Pairwise (fun a b=>c b a<=0)->(zmT c x l).Pairwise (fun a b=>c b a<=0)
 |[],_,_=>by simp [zmT]
 |y::t,hs,hp=>by
   have hy:=hs y (by simp);have ht: ∀z∈t,s z:=fun z hz=>hs z (Am _ hz)
   obtain ⟨h1,h2⟩:=List.pairwise_cons.1 hp;simp only [zmT]
   split
   rename_i hlt
   refine List.pairwise_cons.2 ⟨fun z hz=> ?_,zpv hc hx ht h2⟩
   rcases List.mem_cons.1 ((zow c x t).mem_iff.1 hz) with rfl|hz
   omega
   exact h1 z hz
   rename_i hge
   have hyx:c y x<=0:=by
    have:=(hc.flip x y hx hy)
    omega
   refine List.pairwise_cons.2 ⟨fun z hz=> ?_,hp⟩
   rcases List.mem_cons.1 hz with rfl|hz
   exact hyx;exact hc.trans z y x (ht z hz) hy hx (h1 z hz) hyx
theorem zvJ {s:α->Prop} (hc:Cmp c s) {x:α} (hx:s x) {l:List α} (hs: ∀y∈l,s y) (hp:l.Pairwise (fun a b=>c a b<=0)):(zdE c x l).Pairwise (fun a b=>c a b<=0):=by
 unfold zdE;rw [List.pairwise_reverse];exact zpv hc hx (fun y hy=>hs y (List.mem_reverse.1 hy)) (List.pairwise_reverse.2 hp)
theorem zgj {s:α->Prop} (hc:Cmp c s) {l:List α} (hs: ∀y∈l,s y):(zao c l).Pairwise (fun a b=>c a b<=0):=by
 have key: ∀(n:Nat),n<=l.length->(zao c (l.take n)).Pairwise (fun a b=>c a b<=0):=by
  intro n
  induction n with
  |zero=>intro _;simp [zao]
  |succ n ih=>
    intro hn
    have hx:=Aa (l:=l) (i:=n) (by omega);rw [zaf hx,zqP];exact zvJ hc (hs _ (Ab hx)) (fun y hy=>hs y (AL ((zbp c _).mem_iff.1 hy))) (ih (by omega))
 have:=key l.length (Af _)
 rwa [Ak] at this
end
end
section
abbrev pAt (b:Nat):HVal:= .raw (.pointer (some ⟨b,0,none⟩))
abbrev St (b:Nat) (l:List Int) (a:Nat):MObj:= .cells b [.slice 1 (l.map (.int .i64)),.int .i64 (a:Int)]
def below (x n:Int):Int:=if n<1 then 0 else if x.tmod n<0 then x.tmod n+n else x.tmod n
theorem znL (x n:Int): ∃y:Nat,below x n=(y:Int)/\(y:Int)<max n 1:=by
 have h:0<=below x n/\below x n<max n 1:=by
  unfold below
  split
  omega
  have h1:=BC x (show 0<n by omega);have h2: -n<x.tmod n:=by
   have:=Int.neg_lt_tmod_of_pos' x n (by omega);exact this
  split<;>omega
 exact ⟨(below x n).toNat,by omega,by omega⟩
where
 Int.neg_lt_tmod_of_pos' (x n:Int) (h:0<n): -n<x.tmod n:=by
  rcases Int.le_total 0 x with hx|hx
  have:=Cg n hx;omega;have e:x.tmod n= -((-x).tmod n):=by rw [Int.neg_tmod];simp
  have:=BC (-x) h
  omega
theorem getI {L:List Int} {y:Nat} (h:(y:Int)<max (L.length:Int) 1) (h0:0<L.length): ∃z,L[y]? =some z/\z∈L:=
 ⟨L[y]'(by omega),Aa _,BP _⟩
theorem getS {L:List Str} {y:Nat} (h:(y:Int)<max (L.length:Int) 1) (h0:0<L.length): ∃z,L[y]? =some z/\z∈L:=
 ⟨L[y]'(by omega),Aa _,BP _⟩
theorem zp9 (a b:Nat):((a:Int)).tmod (b:Int)=((a%b:Nat):Int):=by
 exact (Int.ofNat_tmod a b).symm
end
section

end
section
open Op (bytesLess)
theorem zvl (l:List Str):(zbh l).Pairwise (fun x y=>x<=y):=by
 have:=List.pairwise_mergeSort (le:=fun x y:Str=>decide (x<=y)) (fun a b c h1 h2=>by
  simp only [decide_eq_true_eq] at*;exact List.le_trans h1 h2) (fun a b=>by
  simp only [Bv,decide_eq_true_eq];exact List.le_total a b) l
 exact this.imp (fun h=>by simpa using h)
theorem zAW (s t:Str) (l:List Str):t∈zb8 s l↔t=s\/t∈l:=by
 unfold zb8
 split
 rename_i h
 simp only [B2] at h
 constructor
 exact .inr;rintro (rfl|h');exact h;exact h'
 simp [or_comm]
end
section
def Sh (s:Str):Prop:=s.length<=1000000
structure KLs where
 u:Value
 out:List Keep
 lv:Value
 left:List Str
 a:Nat
structure KLok (n a:Nat) (q:KLs):Prop where
 out:q.out.length<=n
 left:q.left.length<=20
 ls: ∀s∈q.left,Sh s
 os: ∀x∈q.out,Sh x.Team/\Sh x.Player
 a:q.a<=a+2*n
theorem KLok.add {n a:Nat} {u u' lv lv':Value} {out:List Keep} {left:List Str} {a1 a2 k:Nat} {t p:Str} {rd:Int} (h:KLok n a ⟨u,out,lv,left,a1⟩) (h1:a2<=a1+2) (ht:Sh t) (hp:left[k]? =some p):
 KLok (n+1) a ⟨u',out++[⟨t,p,rd⟩],lv',left.eraseIdx k,a2⟩:=
 ⟨by have:=h.out;simp at*;omega,by have:=h.left;have:=List.length_eraseIdx_le left k;dsimp only at*;omega,fun s hs=>h.ls s (List.mem_of_mem_eraseIdx hs),fun x hx=>by
  rcases List.mem_append.1 hx with hx|hx
  exact h.os x hx
  simp at hx;subst hx;exact ⟨ht,h.ls p (Ab hp)⟩,by have:=h.a;dsimp only at*;omega⟩
theorem zaM {α:Type} {l:List α} {j:Nat} {x y:α} (h:l[j]? =some y):(l.set j x)[j]? =some x:=by
 rw [Bb (zp h)]
theorem za3 {α β:Type} {f:α->β} {l:List α} {j:Nat} {x:α} (h:l[j]? =some x):(l.map f)[j]? =some (f x):=by
 rw [Ag,h];rfl
theorem zxC {α:Type} {l:List α} {j:Nat} {x y:α} (h:x∈l.set j y):x=y\/x∈l:=by
 rcases Ch h with h|h
 exact .inr h;exact .inl h
structure SLs where
 u:Value
 out:List Swap
 row:List Str
 a:Nat
structure SLok (n a:Nat) (q:SLs):Prop where
 out:q.out.length<=n
 row:q.row.length<=4
 rs: ∀s∈q.row,Sh s
 os: ∀x∈q.out,Sh x.Of/\Sh x.Team
 a:q.a<=a+2*n
theorem SLok.mono {n m a:Nat} {q:SLs} (h:SLok n a q) (hm:n<=m):SLok m a q:=
 ⟨by have:=h.out;omega,h.row,h.rs,h.os,by have:=h.a;omega⟩
theorem KLok.mono {n m a:Nat} {q:KLs} (h:KLok n a q) (hm:n<=m):KLok m a q:=
 ⟨by have:=h.out;omega,h.left,h.ls,h.os,by have:=h.a;omega⟩
theorem SLok.add {n a:Nat} {u u':Value} {out:List Swap} {row:List Str} {a1 a2:Nat} {t p:Str} {rd:Int} (h:SLok n a ⟨u,out,row,a1⟩) (h1:a2<=a1+2) (ht:Sh t) (hp:Sh p):
 SLok (n+1) a ⟨u',out++[⟨rd,t,p⟩],row,a2⟩:=
 ⟨by have:=h.out;simp at*;omega,h.row,h.rs,fun x hx=>by
  rcases List.mem_append.1 hx with hx|hx
  exact h.os x hx
  simp at hx;subst hx;exact ⟨ht,hp⟩,by have:=h.a;dsimp only at*;omega⟩
end
section
open Op (bytesLess)
structure Asset where
 Player:Str
 Position:Str
 Value:Int
structure Place where
 Position:Str
 Many:Int
abbrev zb2 (x:Asset):HVal:= .agg [.str x.Player,.str x.Position,.int .i64 x.Value]
abbrev zDz (x:Place):HVal:= .agg [.str x.Position,.int .i64 x.Many]
abbrev zjO (l:List Asset):HVal:= .slice 3 (l.map zb2)
abbrev zoY (l:List Place):HVal:= .slice 2 (l.map zDz)
def zj1:Asset:=⟨[],[],0⟩
def zu4:Place:=⟨[],0⟩
def assetFault (x:Asset):Int:=if !(key x.Player)|| !(key x.Position) then 5 else if out x.Value (-1000000) 1000000 then 1 else 0
def zfb (l:List Asset):Nat->List Asset->Int
 |_,[]=>0
 |k,x::t=>if assetFault x !=0 then assetFault x else if decide (0<k)&&leS x.Player (l.getD (k-1) zj1).Player then 7 else zfb l (k+1) t
def zdI (l:List Asset):Int:=if 300<l.length then 2 else zfb l 0 l
def zeD (l:List Place):Nat->List Place->Int
 |_,[]=>0
 |k,x::t=>if !(key x.Position) then 5 else if out x.Many 0 12 then 1 else if decide (0<k)&&leS x.Position (l.getD (k-1) zu4).Position then 7 else zeD l (k+1) t
def zdJ (l:List Place):Int:=if 10<l.length then 2 else zeD l 0 l
def byValue (a b:Asset):Int:=orI [zaj b.Value a.Value,zY a.Player b.Player]
def zhP (l:List Asset) (pos:Str):List Asset:=l.filter (fun x=>x.Position==pos)
def ofP (l:List Asset) (pos:Str):List Asset:=zao byValue (zhP l pos)
def zgb (o:List Asset) (zh7:Int):List Asset:=(o.take (min zh7 o.length).toNat).filter (fun y=>decide (0<y.Value))
def zaD (of:Str->List Asset) (p:List Place):List Asset:=p.flatMap fun x=>zgb (of x.Position) x.Many
def ze1 (l:List Asset):Int:=(l.map (·.Value)).sum
def zq2 (l:List Asset):List Str:=zbh (l.map (·.Player))
theorem zqh {l:List Asset} {k:Nat} {x:Asset} {pos:Str} (h:l[k]? =some x):zhP (l.take (k+1)) pos=zhP (l.take k) pos++if x.Position==pos then [x] else []:=by
 rw [zaf h];unfold zhP;rw [BD]
 by_cases hx:x.Position==pos<;>simp [hx]
theorem zpJ (l:List Asset) (pos:Str):(zhP l pos).length<=l.length:=AZ _ _
theorem zCQ (l:List Asset) (pos:Str):(ofP l pos).length<=l.length:=by unfold ofP;rw [za9];exact zpJ l pos
end
section
open Op (bytesLess)
theorem zAi {l:List Asset} {k:Nat}:(l.map (·.Player)).getD k []=(l.getD k zj1).Player:=by
 by_cases h:k<l.length
 simp [List.getD,Aa h]
 simp [List.getD,Ax (Nat.le_of_not_lt h),zj1]
theorem zng {x:Asset} (h:assetFault x=0):key x.Player=true/\key x.Position=true/\ -1000000<=x.Value/\x.Value<=1000000:=by
 unfold assetFault at h
 by_cases h1:(!(key x.Player)|| !(key x.Position))=true
 rw [if_pos h1] at h;omega;rw [if_neg h1] at h
 by_cases h2:out x.Value (-1000000) 1000000=true
 rw [if_pos h2] at h;omega;have:=zfk (by simpa using h2)
 simp at h1
 exact ⟨h1.1,h1.2,this.1,this.2⟩
theorem zpt (l:List Asset): ∀(t:List Asset) (k:Nat),zfb l k t=0->zbL (l.map (·.Player)) k (t.map (·.Player))=0/\∀x∈t,assetFault x=0
 |[],_,_=>⟨rfl,fun x h=>by cases h⟩
 |x::t,k,h=>by
   simp only [zfb] at h
   by_cases h1:assetFault x=0
   rw [if_neg (by simpa using h1)] at h
   by_cases h2:(decide (0<k)&&leS x.Player (l.getD (k-1) zj1).Player)=true
   rw [if_pos h2] at h;omega;rw [if_neg h2] at h;obtain ⟨h3,h4⟩:=zpt l t (k+1) h;refine ⟨?_,fun y hy=> ?_⟩
   simp only [Au,zbL,zAi];rw [if_neg (by simp [(zng h1).1]),if_neg h2];exact h3
   rcases List.mem_cons.1 hy with rfl|hy
   exact h1;exact h4 y hy;rw [if_pos (by simpa using h1)] at h;exact absurd h h1
theorem zrJ {l:List Asset} (h:zdI l=0):SortedS (l.map (·.Player))/\∀x∈l,assetFault x=0:=by
 unfold zdI at h
 split at h
 omega
 obtain ⟨h1,h2⟩:=zpt l l 0 h;exact ⟨zl8 (by simpa [zdQ] using h1),h2⟩
theorem zpA (l:List Place): ∀(t:List Place) (k:Nat),zeD l k t=0->∀x∈t,0<=x.Many/\x.Many<=12
 |[],_,_=>fun x h=>by cases h
 |x::t,k,h=>by
   simp only [zeD] at h
   by_cases h1:(!(key x.Position))=true
   rw [if_pos h1] at h;omega;rw [if_neg h1] at h
   by_cases h2:out x.Many 0 12=true
   rw [if_pos h2] at h;omega;rw [if_neg h2] at h
   by_cases h3:(decide (0<k)&&leS x.Position (l.getD (k-1) zu4).Position)=true
   rw [if_pos h3] at h;omega;rw [if_neg h3] at h
   intro y hy
   rcases List.mem_cons.1 hy with rfl|hy
   exact zfk (by simpa using h2);exact zpA l t (k+1) h y hy
theorem zrK {l:List Place} (h:zdJ l=0):(∀x∈l,0<=x.Many/\x.Many<=12)/\l.length<=10:=by
 unfold zdJ at h
 split at h
 omega
 exact ⟨zpA l l 0 h,by omega⟩
theorem zjN {a b:Str}:zY a b<=0↔bytesLess b a=false:=by
 rw [zgx]
 rcases zb6 a b with h|h|h
 simp [h,zbR h]
 subst h;simp [zag];have hne:a≠b:=fun e=>by subst e;rw [zag] at h;cases h
 simp [h,zbR h,hne]
theorem zbn {a b:Str}:zY a b=0↔a=b:=by
 rw [zgx]
 rcases zb6 a b with h|h|h
 have hne:a≠b:=fun e=>by subst e;rw [zag] at h;cases h
 simp [h,hne]
 subst h;simp [zag];have hne:a≠b:=fun e=>by subst e;rw [zag] at h;cases h
 simp [zbR h,hne]
theorem zjA {a b c:Str} (h1:zY a b<=0) (h2:zY b c<=0):zY a c<=0:=by
 rw [zjN] at*
 rcases zb6 a b with h|h|h
 rcases zb6 b c with h'|h'|h'
 exact zbR (zew h h');subst h';exact zbR h;rw [h'] at h2;cases h2;subst h;exact h2;rw [h] at h1;cases h1
theorem zef (a b:Int):orI [a,b]=if a≠0 then a else b:=by
 simp only [orI]
 by_cases ha:a=0<;>by_cases hb:b=0<;>simp [ha,hb]
theorem zv2 {a b:Int}:zaj a b<=0↔a<=b:=by unfold zaj;split<;>(try split)<;>omega
theorem zcV {a b:Int}:zaj a b=0↔a=b:=by unfold zaj;split<;>(try split)<;>omega
theorem ztv {l:List Str} (h:SortedS l):l.Nodup:=h.imp fun hab e=>by subst e;rw [zag] at hab;cases hab
end
section
variable {P:Program}
section
variable {P:Program} {e:Env} {dst:Option Tmp} {ty:TypeId} {pos:String} {af:Array Edge} {g:Option (Nat×Bool)} {M:List MObj} {K:HVal->List MObj->Prop}
theorem zad [Tracks] {α:Type} {f:α->HVal} {x:Operand} {t:TypeId} {d:TD} {size bytes:Nat} {zero:Value} {i b off cap n sz j o:Nat} {es:List α} {y:α} (hf:Fits P t d size bytes zero)
 (hx:zh e x=some (.raw (.pointer (some ⟨b,o,none⟩)))) (ho':o=off+j*sz) (hm:M[i]? =some (.arr (.slice (some ⟨b,off,none⟩) n cap) sz (es.map f))) (hj:es[j]? =some y)
 (hd:d.isAgg=true) (hs:size=(zd (f y)).length) (hv:f y= .agg (zd (f y))) (hk:K (f y) M):EOp P e M ⟨dst,.load t x,ty,pos,af,g⟩ K:=
 zhX (j:=j) (f:=0) (y:=f y) hf hx (by omega) hm (by rw [Ag,hj];rfl) (.inr ⟨hd,by omega,by rw [Co,hs,Ak];exact hv⟩) hk
theorem za5 [Tracks] {α:Type} {f:α->HVal} {x z:Operand} {t:TypeId} {d:TD} {size bytes:Nat} {zero:Value} {i b off cap n sz j o:Nat} {es:List α} {y y':α} (hf:Fits P t d size bytes zero)
 (hx:zh e x=some (.raw (.pointer (some ⟨b,o,none⟩)))) (ho':o=off+j*sz) (hz:zh e z=some (f y')) (hm:M[i]? =some (.arr (.slice (some ⟨b,off,none⟩) n cap) sz (es.map f))) (hj:es[j]? =some y)
 (hok:zd3 size (f y')=true) (hfl:zaq (zd (f y'))=true) (hle:(zd (f y')).length=(zd (f y)).length)
 (hk:K .junk (M.set i (.arr (.slice (some ⟨b,off,none⟩) n cap) sz ((es.set j y').map f)))):EOp P e M ⟨dst,.store t x z,ty,pos,af,g⟩ K:=by
 have h0:=(zd4 hok).1;refine zQ (j:=j) (f:=0) (y:=f y) (y':=f y') hf hx (by omega) hz hm (by rw [Ag,hj];rfl) hok hfl (by omega) ?_ ?_;rw [zvj hle];rw [B3] at hk;exact hk
end
theorem Sat.arr_take [Tracks] {I:Imm} {F:List MObj} {w:World} {b off n cap sz m:Nat} {es:List HVal} (hm:m<=es.length) (h:Sat P I (.arr (.slice (some ⟨b,off,none⟩) n cap) sz es::F) w):
 Sat P I (.arr (.slice (some ⟨b,off,none⟩) m cap) sz (es.take m)::F) w:=by
 obtain ⟨_,rc,el,fr,h2,h3,h4,h5,h6,h7⟩:=zj0 h;refine h.change (m':= .arr (.slice (some ⟨b,off,none⟩) m cap) sz (es.take m)) (fun _ _ _=>rfl) (fun c hc=> .inl hc) (by simp [MObj.blocks]) ?_ rfl rfl rfl
 have hl:(es.take m).length=m:=by simp;omega
 refine .inr ⟨b,off,cap,rc,el,fr,by rw [hl],h2,h3,fun e he=>h4 e (AL he),by omega,h6,fun i j e c v a1 a2 a3=> ?_⟩
 have hi:=zp a1;rw [AE (by omega)] at a1;exact h7 i j e c v a1 a2 a3
theorem Ghost.take [Tracks] {e:Env} {M:List MObj} {b off n cap sz m:Nat} {es:List HVal} (hm:m<=es.length):Ghost e (.arr (.slice (some ⟨b,off,none⟩) n cap) sz es::M) e (.arr (.slice (some ⟨b,off,none⟩) m cap) sz (es.take m)::M):=
 fun _ I F tmps w h1 h2=>⟨I,.refl I,h1,h2.arr_take hm⟩
def ziP (cap off sz lo:Nat):Nat:=if cap=lo then off else off+lo*sz
section
variable {P:Program} {e:Env} {dst:Option Tmp} {ty:TypeId} {pos:String} {af:Array Edge} {g:Option (Nat×Bool)} {M:List MObj} {K:HVal->List MObj->Prop}
theorem ze9 [Tracks] {x:Operand} {lo hi:Option Operand} {t el:TypeId} {size bytes sz b2:Nat} {zero z2:Value} {d:TD} {b off n cap l h:Nat}
 (hf:Fits P t (.slice el) size bytes zero) (hel:Fits P el d sz b2 z2) (hx:zh e x=some (.raw (.slice (some ⟨b,off,none⟩) n cap))) (hlo:zbI e lo 0 l) (hhi:zbI e hi n h) (h1:l<=h) (h2:h<=n) (hc:n<=cap):
 POp P e ⟨dst,.slice t x lo hi none,ty,pos,af,g⟩ (.raw (.slice (some ⟨b,ziP cap off sz l,none⟩) (h-l) (cap-l))):=
 zF fun I a w ho=>by
  have h3:=(ho.one (x:=x) (by simp [Op.operands]) hx).raw_inv;have hb:(Instr.sliceBounds true n cap (Option.map a.eval lo) (Option.map a.eval hi) none).run P w= .ok (l,h,cap) w:=
   zjH (P:=P) (e:=e) (lo:=lo) (hi:=hi) (l:=l) (h:=h) (len:=n) (cap:=cap) ho (by intro y hy;simp [Op.operands,hy]) (by intro y hy;simp [Op.operands,hy]) hlo hhi h1 h2 hc true w
  refine ⟨_,?_,.raw _ rfl⟩
  simp [execOp,Instr.sliceAt,run_underlying hf.slice,h3,Instr.slice,hb,hel.run_sizeOf,ziP]
  try (split<;>simp_all [zdS])
  try omega
theorem zeU [Tracks] {x:Operand} {t el:TypeId} {size bytes sz b2:Nat} {zero z2:Value} {d:TD} {i b off n cap m q o c2:Nat} {es:List HVal} (m':Nat)
 (hf:Fits P t (.slice el) size bytes zero) (hel:Fits P el d sz b2 z2) (hz:z2.cells.size=sz) (hz1:z2.cells.toList.all Value.oneCell'=true)
 (hx:zh e x=some (.raw (.slice (some ⟨b,o,none⟩) q c2))) (ho':q=0\/o=off+m*sz) (hm:M[i]? =some (.arr (.slice (some ⟨b,off,none⟩) n cap) sz es)) (hmq:m+q<=cap) (hmm:m'<=m) (hme:m'<=es.length)
 (hk:K .junk (M.set i (.arr (.slice (some ⟨b,off,none⟩) m' cap) sz (es.take m')))):EOp P e M ⟨dst,.call ⟨.builtin .clear,#[x],#[t]⟩,ty,pos,af,g⟩ K:=
 EOp.of_run fun I F a w ho hs=>by
  have h1:=(ho.one (x:=x) (by simp [Op.operands,Call.operands]) hx).raw_inv;have hp:=hs.pull hm;obtain ⟨_,rc,el',fr,h2,h3,h4,h5,h6,h7⟩:=zj0 hp;have hrun:(execOp a.eval ⟨dst,.call ⟨.builtin .clear,#[x],#[t]⟩,ty,pos,af,g⟩).run P w=((Builtin.clear_ #[t] ty #[a.eval x]).run P w).andThen fun v w=> .ok (.value v) w:=by
   simp [execOp,resolve,invoke,builtin]
  rcases A8 q with h0|h0
  refine ⟨.tuple #[],.junk,_,w,I,?_,.refl I,hk,.junk _,?_⟩
  rw [hrun,h1,h0]
  simp [Builtin.clear_,run_underlying hf.slice]
  exact zbN hm (hp.arr_take hme);have hso:o=off+m*sz:=by rcases ho' with h|h;omega;exact h
  have hmul:(m+q)*sz<=cap*sz:=AB _ hmq;rw [AQ] at hmul;have hlen:(Builtin.zeroCells z2.cells q).toList.length=q*sz:=by rw [AO,zmh,hz]
  have hone: ∀v∈(Builtin.zeroCells z2.cells q).toList,v.oneCell'=true:=fun v hv=>by
   simp only [Builtin.zeroCells,Array.toList_map,List.mem_map] at hv;obtain ⟨r,hr,rfl⟩:=hv;have hq':r<q*z2.cells.size:=by simpa using hr
   have hpos:0<z2.cells.size:=by
    rcases A8 z2.cells.size with h|h
    rw [h] at hq';simp at hq';exact h
   have hlt:r%z2.cells.size<z2.cells.size:=BW _ hpos;rw [getElem!_pos z2.cells _ hlt];exact List.all_eq_true.1 hz1 _ (by simp)
  obtain ⟨w',rc',g1,g2,g3,g4,g5,g6,g7,g8,g9⟩:=zeZ (P:=P) b el' fr (off+m*sz) (Builtin.zeroCells z2.cells q).toList 0 w rc h2 h3 hone (by rw [hlen];omega);refine ⟨.tuple #[],.junk,_,w',I,?_,.refl I,hk,.junk _,?_⟩
  rw [hrun,h1,hso];obtain ⟨r,rfl⟩: ∃r,q=r+1:=⟨q-1,by omega⟩
  simp [Builtin.clear_,run_underlying hf.slice,hel.run_zero,g1]
  refine zbN hm (hp.change (m':= .arr (.slice (some ⟨b,off,none⟩) m' cap) sz (es.take m')) (fun k hk hnk=>g5 k (by simpa [MObj.blocks] using hnk)) (fun k hk=> .inl hk) (by simp [MObj.blocks]) ?_ g7 g8 g9.1 (fun _=>CC g9.2.symm))
  have hl:(es.take m').length=m':=by simp;omega
  refine .inr ⟨b,off,cap,rc',el',fr,by rw [hl],g2,by rw [g3];exact h3,fun e he=>h4 e (AL he),by omega,by rw [g3];exact h6,fun p q' y c v a1 a2 a3=> ?_⟩
  have hi:=zp a1;rw [AE (by omega)] at a1;have hq:=zp a2;rw [h4 y (Ab a1)] at hq;have hpm:(p+1)*sz<=m*sz:=AB _ (by omega);rw [AQ] at hpm;rw [g4,if_neg (by omega)] at a3;exact h7 p q' y c v a1 a2 a3
theorem zvU [Tracks] {I:Imm} {a:Act} {o:Oper} (ho:Opds I e a o) {lo hi:Option Operand} (hlo: ∀x,lo=some x->x∈o.op.operands) (hhi: ∀x,hi=some x->x∈o.op.operands)
 {len cap l h:Nat} (h1:zbI e lo 0 l) (h2:zbI e hi len h) (h3:l<=h) (h4:h<=cap) (b:Bool) (w:World):
 (Instr.sliceBounds b len cap (lo.map a.eval) (hi.map a.eval) none).run P w= .ok (l,h,cap) w:=by
 unfold Instr.sliceBounds
 cases lo with
 |none=>
   simp only [zbI] at h1;subst h1
   cases hi with
   |none=>simp only [zbI] at h2;subst h2;simp
   |some y=>
     obtain ⟨k,i,h6,rfl⟩:=h2;have h7:=(ho.one (hhi y rfl) h6).int_inv
     simp [h7,zcz h4]
 |some x=>
   obtain ⟨k',i',h8,rfl⟩:=h1;have h9:=(ho.one (hlo x rfl) h8).int_inv
   cases hi with
   |none=>simp only [zbI] at h2;subst h2;simp [h9,zcz h3]
   |some y=>
     obtain ⟨k,i,h6,rfl⟩:=h2;have h7:=(ho.one (hhi y rfl) h6).int_inv
     simp [h7,h9,zcz h4,zcz h3]
theorem zxM [Tracks] {x:Operand} {lo hi:Option Operand} {t el:TypeId} {size bytes sz b2:Nat} {zero z2:Value} {d:TD} {b off n cap l h:Nat}
 (hf:Fits P t (.slice el) size bytes zero) (hel:Fits P el d sz b2 z2) (hx:zh e x=some (.raw (.slice (some ⟨b,off,none⟩) n cap))) (hlo:zbI e lo 0 l) (hhi:zbI e hi n h) (h1:l<=h) (h2:h<=cap):
 POp P e ⟨dst,.slice t x lo hi none,ty,pos,af,g⟩ (.raw (.slice (some ⟨b,ziP cap off sz l,none⟩) (h-l) (cap-l))):=
 zF fun I a w ho=>by
  have h3:=(ho.one (x:=x) (by simp [Op.operands]) hx).raw_inv;have hb:(Instr.sliceBounds true n cap (Option.map a.eval lo) (Option.map a.eval hi) none).run P w= .ok (l,h,cap) w:=
   zvU (P:=P) (e:=e) (lo:=lo) (hi:=hi) (l:=l) (h:=h) (len:=n) (cap:=cap) ho (by intro y hy;simp [Op.operands,hy]) (by intro y hy;simp [Op.operands,hy]) hlo hhi h1 h2 true w
  refine ⟨_,?_,.raw _ rfl⟩
  simp [execOp,Instr.sliceAt,run_underlying hf.slice,h3,Instr.slice,hb,hel.run_sizeOf,ziP]
  try (split<;>simp_all [zdS])
  try omega
theorem zgE [Tracks] {x:Operand} {hi:Option Operand} {t el:TypeId} {size bytes sz b2:Nat} {zero z2:Value} {d:TD} {b off n cap h:Nat}
 (hf:Fits P t (.slice el) size bytes zero) (hel:Fits P el d sz b2 z2) (hx:zh e x=some (.raw (.slice (some ⟨b,off,none⟩) n cap))) (hhi:zbI e hi n h) (h2:h<=cap):
 POp P e ⟨dst,.slice t x none hi none,ty,pos,af,g⟩ (.raw (.slice (some ⟨b,off,none⟩) h cap)):=by
 have:=zxM (P:=P) (dst:=dst) (ty:=ty) (pos:=pos) (af:=af) (g:=g) (lo:=none) (l:=0) hf hel hx rfl hhi (Ad _) h2;have e1:ziP cap off sz 0=off:=by unfold ziP;split<;>omega
 rwa [e1,Nat.sub_zero,Nat.sub_zero] at this
end
end
section
variable {P:Program}
open Go.ChangeShapes Go.WideShapes Go.RowKit
theorem znM [Tracks] {W W':World} {J:Imm} {M:List MObj} (hl:Le (zcC W) J) (hs:Sat P J M W'):Below W.heap.size W W':=by
 have hb: ∀k,k<W.heap.size->W'.heap[k]? =W.heap[k]?:=fun k hk=>by
  have h1:W.heap[k]? =some W.heap[k]:=by simp [hk]
  rw [h1];exact hs.imm _ _ (hl.heap _ _ h1)
 exact {
  os:=hs.os.trans hl.os
  tape:=hs.tape.trans hl.tape
  output:=hs.output.trans hl.output
  size:=by
   rcases A8 W.heap.size with h|h
   omega
   have h1:=hb (W.heap.size-1) (by omega);have h2:W.heap[W.heap.size-1]? =some (W.heap[W.heap.size-1]'(by omega)):=by simp
   rw [h2] at h1
   rcases AD (W.heap.size-1) W'.heap.size with h3|h3
   omega
   rw [As h3] at h1;cases h1
  block:=hb}
theorem zwA [Tracks] {W:World} (ht:TabI P (zcC W)):Sat P (zcC W) [] W:=⟨fun _ _ h=>h,fun _ h=>by simp at h,by simp [blocks],fun _ h=>by simp [blocks] at h,rfl,rfl,rfl,ht,fun _=>Af _⟩
theorem zut [Tracks] {P:Program} {f:FuncId} {l:List Int} (hc:ConP P f [.slice 1 (l.map (.int .i64))] (.bool true)) {W:World} (ht:TabI P (zcC W)) {v:Value} (hv:V (zcC W) (.slice 1 (l.map (.int .i64))) v):
 Calls P f #[v] W fun e W'=>e= .returned (.bool true)/\Below W.heap.size W W':=by
 refine (hc (zcC W) [] W [v] (VL.cons hv VL.nil) (zwA ht)).mono ?_;rintro e W' ⟨u,h,M',J,rfl,hle,⟨rfl,rfl⟩,hV,hs⟩;exact ⟨by rw [hV.bool_inv],znM hle hs⟩
theorem zEe [Tracks] {W:World} {a:Addr} {len cap:Nat} {zs:List Int} (hcell: ∀i,i<zs.length->W.cell? (a.add i)=some (.int .i64 (zs.getD i 0))) (hl:len<=zs.length) (hc:len<=cap):
 V (zcC W) (.slice 1 ((zs.take len).map (.int .i64))) (.slice (some a) len cap):=by
 rcases A8 len with h0|h0
 subst h0;exact .slice0 _ _ _;obtain ⟨b,off,rfl,hj⟩:=ints_at hcell (by omega);have hc0:=hj 0 (by omega);unfold World.cell? at hc0
 cases hh:W.heap[b]? with
 |none=>rw [hh] at hc0;simp at hc0
 |some o=>
   cases o with
   |cells rc el fr=>
     have hrc: ∀j,j<zs.length->rc[off+j]? =some (.int .i64 (zs.getD j 0)):=fun j hj'=>by
      have:=hj j hj';unfold World.cell? at this
      simpa [hh] using this
     have hlen:((zs.take len).map (HVal.int .i64)).length=len:=by simp;omega
     have hsz:off+zs.length<=rc.size:=by
      have:=hrc (zs.length-1) (by omega)
      rcases AD (off+(zs.length-1)) rc.size with h3|h3
      omega
      rw [As h3] at this;cases this
     have:=V.slice (I:=zcC W) (sz:=1) (es:=(zs.take len).map (.int .i64)) (b:=b) (off:=off) (cap:=cap) (rc:=rc) (el:=el) (fr:=fr) hh
      (fun e he=>by obtain ⟨n,_,rfl⟩:=List.mem_map.1 he;rfl) (by omega) (by omega) (fun i j e c v h1 h2 h3=>by
        have hi:=zp h1;rw [hlen] at hi;rw [Ag,AE hi] at h1;have e1:zs[i]? =some zs[i]:=Aa (by omega);rw [e1] at h1;simp only [AI,AA] at h1;subst h1
        cases j with
        |succ j=>simp [zd] at h2
        |zero=>
          simp only [zd,AW,AA] at h2;subst h2;have h4:=hrc i (by omega);rw [Nat.mul_one,BR,h4] at h3;simp only [AA] at h3;subst h3;have:zs.getD i 0=zs[i]:=by simp [List.getD,e1]
          rw [this];exact .int _ _)
     rw [hlen] at this;exact this
   |_=>rw [hh] at hc0;simp at hc0
end
section
open Go.Sort Go.Proofs Go.RowKit
variable {P:Program}
theorem zrU {w:World} {name:String} {d:DataW Unit}: ∀{laid:List (String×DataW Unit)} {ps:List MemPlace},DataW.LaidVars P w laid ps->∀(i:Nat),laid[i]? =some (name,d)->
 ∃g t cs fuel p,P.globalNamed name=some g/\(P.globals[g]?).map (·.type)=some t/\w.var? P name=some cs/\DataW.trod (fun _=>()) P w 0 (fun _=>true) false fuel t cs.toList=some (d,p)
 |[],_,_,i,h=>by simp at h
 |(n,x)::r,ps,h,0,hi=>by
   simp at hi
   obtain ⟨rfl,rfl⟩:=hi;obtain ⟨g,t,cs,fuel,p,q,h1,h2,h3,h4,_,_⟩:=h;exact ⟨g,t,cs,fuel,p,h1,h2,h3,h4⟩
 |(n,x)::r,ps,h,i+1,hi=>by
   obtain ⟨g,t,cs,fuel,p,q,_,_,_,_,h5,_⟩:=h;exact zrU h5 i (by simpa using hi)
theorem Sat.maxLen [Tracks] {I:Imm} {M:List MObj} {w:World} (hs:Sat P I M w) {g:Nat} (hg:P.globalNamed "internal/bytealg.MaxLen" =some g): ∃m,w.cell? ⟨g,0,none⟩=some (.int .i64 m):=by
 obtain ⟨c,t,fr,m,h1,h2⟩:=hs.tab.2.1 g hg;have h3:=hs.imm _ _ h1;exact ⟨m,by rw [zcj h3];exact h2⟩
theorem Sat.utf8 [Tracks] {I:Imm} {M:List MObj} {w:World} (hs:Sat P I M w) {g3 g4:Nat} (h3:P.globalNamed "unicode/utf8.first" =some g3) (h4:P.globalNamed "unicode/utf8.acceptRanges" =some g4):
 (∀c,c<256->w.cell? ⟨g3,c,none⟩=some (.int .u8 (Lib.firstT c)))/\(∀i,i<16->w.cell? ⟨g4,2*i,none⟩=some (.int .u8 (Lib.accLo i))/\w.cell? ⟨g4,2*i+1,none⟩=some (.int .u8 (Lib.accHi i))):=by
 obtain ⟨c3,t3,f3,c4,t4,f4,e3,e4,u1,u2⟩:=hs.tab.2.2 g3 g4 h3 h4;exact ⟨fun c hc=>by rw [zcj (hs.imm _ _ e3)];exact u1 c hc,fun i hi=>⟨by rw [zcj (hs.imm _ _ e4)];exact (u2 i hi).1,by rw [zcj (hs.imm _ _ e4)];exact (u2 i hi).2⟩⟩
theorem Sat.lt [Tracks] {I:Imm} {M:List MObj} {w:World} (hs:Sat P I M w):(∀b,(∃o,I.heap b=some o)->b<w.heap.size)/\∀b∈blocks M,b<w.heap.size:=by
 have key: ∀b o,w.heap[b]? =some o->b<w.heap.size:=fun b o h=>by
  rcases AD b w.heap.size with h'|h'
  exact h'
  simp [As h'] at h
 refine ⟨fun b ⟨o,h⟩=>key b o (hs.imm b o h),fun b hb=> ?_⟩
 simp only [blocks,Bu] at hb;obtain ⟨m,hm,hb⟩:=hb;obtain ⟨o,ho⟩:=(hs.obj m hm).lies hb;exact key b o ho
end
section
section
variable {P:Program} {e:Env} {dst:Option Tmp} {ty:TypeId} {pos:String} {af:Array Edge} {g:Option (Nat×Bool)} {M:List MObj} {K:HVal->List MObj->Prop}
theorem zuy [Tracks] {x y:Operand} {t el:TypeId} {size bytes b2:Nat} {zero z2:Value} {d:TD} {n:Nat}
 (hf:Fits P t (.slice el) size bytes zero) (hel:Fits P el d 1 b2 z2) (hz:z2.cells= #[z2]) (hby:Nat.ble b2 1000=true) (hc:zd (zaB z2)=[zaB z2])
 (hx:zh e x=some (.int .i64 (n:Int))) (hy:zh e y=some (.int .i64 (n:Int))) (hn:n<=1000000)
 (hk: ∀b,K (.raw (.slice (some ⟨b,0,none⟩) n n)) (.arr (.slice (some ⟨b,0,none⟩) n n) 1 (List.replicate n (zaB z2))::M)):EOp P e M ⟨dst,.makeSlice t x y,ty,pos,af,g⟩ K:=
 EOp.of_run fun I F a w ho hs=>by
  have h1:=(ho.one (x:=x) (by simp [Op.operands]) hx).int_inv;have h2:=(ho.one (x:=y) (by simp [Op.operands]) hy).int_inv;obtain ⟨i,hi,his,hib,hiz⟩:=hel.typeInfo;have hb:b2<=1000:=Ap hby;have hbn:b2*n<=1000*1000000:=Nat.mul_le_mul hb hn;have hrun:=run_make (P:=P) w t el i z2 hf.slice hi hiz .i64 .i64 (n:Int) (n:Int) (by omega) (by omega) (by rw [hib];omega) (by omega);refine ⟨.slice (some ⟨w.heap.size,0,none⟩) n n,_,_,push w (.cells (madeCells z2.cells (n*1)) el (0,0)),I,?_,.refl I,hk w.heap.size,.raw _ rfl,?_⟩
  simp only [execOp,h1,h2,Sem.run_bind,hrun,his,Result.andThen_ok,Sem.run_pure]
  rfl
  refine hs.new_own _ _ rfl (.inr ⟨w.heap.size,0,n,madeCells z2.cells (n*1),el,(0,0),by simp,by simp [push],Free.zero _,?_,⟨by simp,by omega⟩,by simp [size_madeCells],?_⟩)
  intro h hh
  rw [List.eq_of_mem_replicate hh,hc];rfl
  intro i j h c v a1 a2 a3
  have hh:=List.eq_of_mem_replicate (Ab a1);subst hh;rw [hc] at a2
  cases j with
  |succ j=>simp at a2
  |zero=>
    simp at a2;subst a2
    rw [hz] at a3
    simp [madeCells] at a3
    obtain ⟨k,hk1,hk2⟩:=a3;have:v=z2:=by simpa [Nat.mod_one] using hk2.symm
    rw [this];exact zfv I z2
end
end
section
section
variable {P:Program} {e:Env} {dst:Option Tmp} {ty:TypeId} {pos:String} {af:Array Edge} {g:Option (Nat×Bool)} {M:List MObj} {K:HVal->List MObj->Prop}
theorem zjY [Tracks] {I:Imm} {c d:HVal} {u v:Value} (h1:V I c u) (h2:V I d v):V I (.tup [c,d]) (.tuple #[u,v]):=
 .tup (by simp) (fun j c v h3 h4=>(VL.cons h1 (VL.cons h2 VL.nil)).2 j c v h3 (by simpa using h4))
theorem zvG [Tracks] {x y:Operand} {t kt et:TypeId} {size bytes s2 b2 s3 b3:Nat} {zero z2 z3:Value} {d:TD} {i b:Nat} {ls:List (List UInt8×HVal)} {s:List UInt8}
 (hf:Fits P t (.map kt et) size bytes zero) (hkt:Fits P kt .str s2 b2 z2) (het:Fits P et d s3 b3 z3) (hx:zh e x=some (.raw (.map (some b)))) (hy:zh e y=some (.str s)) (hm:M[i]? =some (.map b (sk ls)))
 (hk:K (.tup [match z6 s ls with|some p=>p.2|none=>zaB z3,.bool (z6 s ls).isSome]) M):EOp P e M ⟨dst,.lookup t x y true,ty,pos,af,g⟩ K:=
 EOp.of_run fun I F a w ho hs=>by
  have h1:=(ho.one (x:=x) (by simp [Op.operands]) hx).raw_inv;have h2:=(ho.one (x:=y) (by simp [Op.operands]) hy).str_inv;obtain ⟨es,clk,h3,h4,h5⟩:=hs.obj _ (An _ (Ab hm));obtain ⟨h6,h7⟩:=zh8 h4.1 h5;obtain ⟨n1,n2⟩:=zjc (I:=I) (s:=s) es.toList ls 0 h6 h7
  cases hq:z6 s ls with
  |none=>
    rw [hq] at hk;refine ⟨.tuple #[z3,.bool false],_,M,w,I,?_,.refl I,hk,zjY (zfv I z3) (.bool _),hs⟩
    simp only [execOp,h1,h2,Instr.lookup,Sem.run_bind,run_underlying hf.mapD,Result.andThen_ok,zaJ h3,Sem.run_pure,zcy hkt.strD,Instr.findKey,run_underlying hkt.strD,n1 hq,het.run_zero]
    simp
  |some p=>
    obtain ⟨j,h⟩:=p;rw [hq] at hk;obtain ⟨v,g1,g2⟩:=n2 j h hq;refine ⟨.tuple #[v,.bool true],_,M,w,I,?_,.refl I,hk,zjY g2 (.bool _),hs⟩
    simp only [execOp,h1,h2,Instr.lookup,Sem.run_bind,run_underlying hf.mapD,Result.andThen_ok,zaJ h3,Sem.run_pure,zcy hkt.strD,Instr.findKey,run_underlying hkt.strD,g1]
    simp
end
section
variable {P:Program}
end
end
section
section
variable {κ:Type} [DecidableEq κ]
def kk (ek:κ->HVal) (l:List (κ×HVal)):List (HVal×HVal):=l.map fun p=>(ek p.1,p.2)
def zbG (x:κ):List (κ×HVal)->Option Nat
 |[]=>none
 |p::r=>if x=p.1 then some 0 else (zbG x r).map (· +1)
def klk (x:κ):List (κ×HVal)->Option HVal
 |[]=>none
 |p::r=>if x=p.1 then some p.2 else klk x r
def zd0 (x:κ) (h:HVal):List (κ×HVal)->List (κ×HVal)
 |[]=>[(x,h)]
 |p::r=>if x=p.1 then (x,h)::r else p::zd0 x h r
theorem zev {x:κ}: ∀{l:List (κ×HVal)} {j:Nat},zbG x l=some j->∃h,l[j]? =some (x,h)/\klk x l=some h/\∀h',zd0 x h' l=l.set j (x,h')
 |[],j,h=>by simp [zbG] at h
 |p::r,j,h=>by
   simp only [zbG] at h
   by_cases e:x=p.1
   rw [if_pos e] at h
   simp at h;subst h
   exact ⟨p.2,by simp [e],by simp [klk,e],fun h'=>by simp [zd0,e]⟩;rw [if_neg e] at h
   cases hr:zbG x r with
   |none=>rw [hr] at h;simp at h
   |some j'=>
     rw [hr] at h;simp at h;subst h;obtain ⟨y,h1,h2,h3⟩:=zev hr;exact ⟨y,by simpa using h1,by simp [klk,e,h2],fun h'=>by simp [zd0,e,h3]⟩
theorem ze7 {x:κ}: ∀{l:List (κ×HVal)},zbG x l=none->klk x l=none/\∀h',zd0 x h' l=l++[(x,h')]
 |[],_=>⟨rfl,fun _=>rfl⟩
 |p::r,h=>by
   simp only [zbG] at h
   by_cases e:x=p.1
   rw [if_pos e] at h;simp at h;rw [if_neg e] at h;have hr:zbG x r=none:=by cases hq:zbG x r with|none=>rfl|some j=>rw [hq] at h;simp at h
   obtain ⟨h1,h2⟩:=ze7 hr;exact ⟨by simp [klk,e,h1],fun h'=>by simp [zd0,e,h2]⟩
def KNodup (l:List (κ×HVal)):Prop:=(l.map (·.1)).Nodup
theorem zsD {x y:κ} {h:HVal}: ∀{l:List (κ×HVal)},y∈(zd0 x h l).map (·.1)↔y=x\/y∈l.map (·.1)
 |[]=>by simp [zd0]
 |p::r=>by
   simp only [zd0]
   split
   rename_i e;subst e;simp
   simp only [Au,BT,zsD]
   constructor
   rintro (a|a|a);exact .inr (.inl a);exact .inl a;exact .inr (.inr a);rintro (a|a|a);exact .inr (.inl a);exact .inl a;exact .inr (.inr a)
theorem KNodup.put {x:κ} {h:HVal}: ∀{l:List (κ×HVal)},KNodup l->KNodup (zd0 x h l)
 |[],_=>by simp [KNodup,zd0]
 |p::r,hn=>by
   unfold KNodup at*;simp only [Au,CB] at hn;simp only [zd0]
   split
   rename_i e;subst e;simpa using hn
   rename_i e
   simp only [Au,CB];refine ⟨fun q=> ?_,KNodup.put (l:=r) hn.2⟩
   rcases zsD.1 q with q|q
   exact e q.symm;exact hn.1 q
structure KeyOk (P:Program) (kt:TypeId) (ek:κ->HVal):Prop where
 check: ∀(I:Imm) (x:κ) (v:Value) (b:Bool) (w:World),V I (ek x) v->(Instr.checkKey b 10000 kt v).run P w= .ok () w
 eq: ∀(I:Imm) (x y:κ) (u v:Value) (w:World),V I (ek x) u->V I (ek y) v->(Op.equal kt u v).run P w= .ok (decide (x=y)) w
 find: ∀(I:Imm) (x:κ) (v:Value) (es:List MapEntry) (w:World),V I (ek x) v->(∀m∈es,∃y,V I (ek y) m.key)->(Instr.findKey kt v es).run P w=(Instr.findAsking kt v es).run P w
 same: ∀(I:Imm) (x:κ) (u v:Value),V I (ek x) u->V I (ek x) v->Instr.sameBits 10000 u v=true
variable {P:Program} {kt:TypeId} {ek:κ->HVal}
theorem KeyOk.run_key (ok:KeyOk P kt ek) {I:Imm} {x:κ} {v:Value} (hv:V I (ek x) v) (w:World) (es:List MapEntry) (ls:List (κ×HVal)) (hl:es.length=ls.length)
 (hV: ∀(j:Nat) (p:κ×HVal) (m:MapEntry),ls[j]? =some p->es[j]? =some m->V I (ek p.1) m.key/\V I p.2 m.val):(Instr.findKey kt v es).run P w=(Instr.findAsking kt v es).run P w:=
 ok.find I x v es w hv fun m hm=>by
  obtain ⟨j,hj⟩:=Bm hm;have h1:=zp hj;exact ⟨_,(hV j _ m (Aa (by omega)) hj).1⟩
theorem ziF (ok:KeyOk P kt ek) {I:Imm} {x:κ} {v:Value} (hv:V I (ek x) v) (w:World): ∀(es:List MapEntry) (ls:List (κ×HVal)) (i:Nat),es.length=ls.length->
 (∀(j:Nat) (p:κ×HVal) (m:MapEntry),ls[j]? =some p->es[j]? =some m->V I (ek p.1) m.key/\V I p.2 m.val)->
 (zbG x ls=none->(Instr.findAsking kt v es i).run P w= .ok none w)/\∀j,zbG x ls=some j->∃m h,es[j]? =some m/\ls[j]? =some (x,h)/\V I h m.val/\(Instr.findAsking kt v es i).run P w= .ok (some (i+j,m.val)) w
 |[],[],i,_,_=>⟨fun _=>by simp [Instr.findAsking],fun j h=>by simp [zbG] at h⟩
 |[],_::_,i,hl,_=>by simp at hl
 |_::_,[],i,hl,_=>by simp at hl
 |m::es,p::ls,i,hl,hV=>by
   obtain ⟨h1,h2⟩:=hV 0 p m rfl rfl;obtain ⟨ih1,ih2⟩:=ziF ok hv w es ls (i+1) (by simpa using hl) fun j q n a b=>hV (j+1) q n (by simpa using a) (by simpa using b)
   simp only [Instr.findAsking,Sem.run_bind,ok.eq I x p.1 v m.key w hv h1,Result.andThen_ok,zbG]
   by_cases e:x=p.1
   rw [if_pos e];simp only [e,decide_true,if_true,Sem.run_pure];refine ⟨fun h=>by simp at h,fun j h=> ?_⟩
   simp at h;subst h
   exact ⟨m,p.2,rfl,by simp,h2,by simp⟩;rw [if_neg e];simp only [e,decide_false,AR,if_false];refine ⟨fun h=>ih1 (by cases hq:zbG x ls with|none=>rfl|some j=>rw [hq] at h;simp at h),fun j h=> ?_⟩
   cases hq:zbG x ls with
   |none=>rw [hq] at h;simp at h
   |some j'=>
     rw [hq] at h;simp at h;subst h;obtain ⟨n,y,g1,g2,g3,g4⟩:=ih2 j' hq;exact ⟨n,y,by simpa using g1,by simpa using g2,g3,by rw [g4];congr 3;omega⟩
theorem zox {A:Type} {eA:A->HVal} {I:Imm} {ls:List (A×HVal)} {es:Array MapEntry} (hl:es.size=(kk eA ls).length)
 (hv: ∀(i:Nat) (p:HVal×HVal) (m:MapEntry),(kk eA ls)[i]? =some p->es[i]? =some m->V I p.1 m.key/\V I p.2 m.val):
 es.toList.length=ls.length/\∀(j:Nat) (p:A×HVal) (m:MapEntry),ls[j]? =some p->es.toList[j]? =some m->V I (eA p.1) m.key/\V I p.2 m.val:=by
 refine ⟨by simpa [kk] using hl,fun j p m a b=> ?_⟩
 exact hv j (eA p.1,p.2) m (by simp [kk,a]) (by simpa using b)
variable [Tracks] {e:Env} {dst:Option Tmp} {ty:TypeId} {pos:String} {af:Array Edge} {g:Option (Nat×Bool)} {M:List MObj} {K:HVal->List MObj->Prop}
theorem zvH {x y:Operand} {t et:TypeId} {size bytes s3 b3:Nat} {zero z3:Value} {d:TD} {i b:Nat} {ls:List (κ×HVal)} {s:κ}
 (hf:Fits P t (.map kt et) size bytes zero) (ok:KeyOk P kt ek) (het:Fits P et d s3 b3 z3) (hx:zh e x=some (.raw (.map (some b)))) (hy:zh e y=some (ek s)) (hm:M[i]? =some (.map b (kk ek ls)))
 (hk:K ((klk s ls).getD (zaB z3)) M):EOp P e M ⟨dst,.lookup t x y false,ty,pos,af,g⟩ K:=
 EOp.of_run fun I F a w ho hs=>by
  have h1:=(ho.one (x:=x) (by simp [Op.operands]) hx).raw_inv;have h2:=ho.one (x:=y) (by simp [Op.operands]) hy;obtain ⟨es,clk,h3,h4,h5⟩:=hs.obj _ (An _ (Ab hm));obtain ⟨h6,h7⟩:=zox h4.1 h5;obtain ⟨n1,n2⟩:=ziF ok h2 w es.toList ls 0 h6 h7;have hfk:=ok.run_key h2 w es.toList ls h6 h7
  cases hq:zbG s ls with
  |none=>
    rw [(ze7 hq).1] at hk;refine ⟨z3,_,M,w,I,?_,.refl I,hk,zfv I z3,hs⟩
    simp only [execOp,h1,Instr.lookup,Sem.run_bind,run_underlying hf.mapD,Result.andThen_ok,zaJ h3,Sem.run_pure,ok.check I s _ _ w h2,hfk,n1 hq,het.run_zero]
    simp
  |some j=>
    obtain ⟨m,h,g1,g2,g3,g4⟩:=n2 j hq;obtain ⟨h',g5,g6,_⟩:=zev hq;rw [g5] at g2;cases g2;rw [g6] at hk;refine ⟨m.val,_,M,w,I,?_,.refl I,hk,g3,hs⟩
    simp only [execOp,h1,Instr.lookup,Sem.run_bind,run_underlying hf.mapD,Result.andThen_ok,zaJ h3,Sem.run_pure,ok.check I s _ _ w h2,hfk,g4]
    simp
theorem zux {x y:Operand} {t et:TypeId} {size bytes s3 b3:Nat} {zero z3:Value} {d:TD} {i b:Nat} {ls:List (κ×HVal)} {s:κ}
 (hf:Fits P t (.map kt et) size bytes zero) (ok:KeyOk P kt ek) (het:Fits P et d s3 b3 z3) (hx:zh e x=some (.raw (.map (some b)))) (hy:zh e y=some (ek s)) (hm:M[i]? =some (.map b (kk ek ls)))
 (hk:K (.tup [(klk s ls).getD (zaB z3),.bool (klk s ls).isSome]) M):EOp P e M ⟨dst,.lookup t x y true,ty,pos,af,g⟩ K:=
 EOp.of_run fun I F a w ho hs=>by
  have h1:=(ho.one (x:=x) (by simp [Op.operands]) hx).raw_inv;have h2:=ho.one (x:=y) (by simp [Op.operands]) hy;obtain ⟨es,clk,h3,h4,h5⟩:=hs.obj _ (An _ (Ab hm));obtain ⟨h6,h7⟩:=zox h4.1 h5;obtain ⟨n1,n2⟩:=ziF ok h2 w es.toList ls 0 h6 h7;have hfk:=ok.run_key h2 w es.toList ls h6 h7
  cases hq:zbG s ls with
  |none=>
    rw [(ze7 hq).1] at hk;refine ⟨.tuple #[z3,.bool false],_,M,w,I,?_,.refl I,hk,zjY (zfv I z3) (.bool _),hs⟩
    simp only [execOp,h1,Instr.lookup,Sem.run_bind,run_underlying hf.mapD,Result.andThen_ok,zaJ h3,Sem.run_pure,ok.check I s _ _ w h2,hfk,n1 hq,het.run_zero]
    simp
  |some j=>
    obtain ⟨m,h,g1,g2,g3,g4⟩:=n2 j hq;obtain ⟨h',g5,g6,_⟩:=zev hq;rw [g5] at g2;cases g2;rw [g6] at hk;refine ⟨.tuple #[m.val,.bool true],_,M,w,I,?_,.refl I,hk,zjY g3 (.bool _),hs⟩
    simp only [execOp,h1,Instr.lookup,Sem.run_bind,run_underlying hf.mapD,Result.andThen_ok,zaJ h3,Sem.run_pure,ok.check I s _ _ w h2,hfk,g4]
    simp
theorem zvI {x y z:Operand} {t et:TypeId} {size bytes:Nat} {zero:Value} {i b:Nat} {ls:List (κ×HVal)} {s:κ} {h:HVal}
 (hf:Fits P t (.map kt et) size bytes zero) (ok:KeyOk P kt ek) (hx:zh e x=some (.raw (.map (some b)))) (hy:zh e y=some (ek s)) (hz:zh e z=some h) (hm:M[i]? =some (.map b (kk ek ls)))
 (hk:K .junk (M.set i (.map b (kk ek (zd0 s h ls))))):EOp P e M ⟨dst,.mapUpdate t x y z,ty,pos,af,g⟩ K:=
 zgQ fun I F a w ho hs=>by
  have h1:=(ho.one (x:=x) (by simp [Op.operands]) hx).raw_inv;have h2:=ho.one (x:=y) (by simp [Op.operands]) hy;have h0:=ho.one (x:=z) (by simp [Op.operands]) hz;have hp:=hs.pull hm;obtain ⟨es,clk,h3,h4,h5⟩:=hp.obj _ Aj;obtain ⟨h6,h7⟩:=zox h4.1 h5;obtain ⟨n1,n2⟩:=ziF ok h2 w es.toList ls 0 h6 h7;have hfk:=ok.run_key h2 w es.toList ls h6 h7;have hlt:b<w.heap.size:=by
   rcases AD b w.heap.size with h'|h'
   exact h'
   simp [As h'] at h3
  have hsz:es.size=ls.length:=by simpa using h6
  have fin: ∀(es':Array MapEntry) (clk':Nat),es'.size=(kk ek (zd0 s h ls)).length/\BornOk es' clk'->
   (∀(i:Nat) (p:HVal×HVal) (m:MapEntry),(kk ek (zd0 s h ls))[i]? =some p->es'[i]? =some m->V I p.1 m.key/\V I p.2 m.val)->
   Sat P I (M.set i (.map b (kk ek (zd0 s h ls)))++F) {w with heap:=w.heap.setIfInBounds b (.map es' clk')}:=fun es' clk' e1 e2=>by
   refine zbN hm (hp.change (m':= .map b (kk ek (zd0 s h ls))) (fun k hk hnk=> ?_) (fun k hk=> .inl hk) (by simp [MObj.blocks]) ⟨es',clk',by simp [hlt],e1,e2⟩ rfl rfl rfl)
   have:k≠b:=by simpa [MObj.blocks] using hnk
   simp [AH (Ne.symm this)]
  cases hq:zbG s ls with
  |none=>
    have hput:=(ze7 hq).2 h;refine ⟨_,_,I,?_,.refl I,hk,fin (es.push ⟨a.eval y,a.eval z,clk⟩) (clk+1) ⟨by rw [hput];simp [kk,hsz],h4.2.push rfl⟩ fun j p m a1 a2=> ?_⟩
    simp only [execOp,h1,Instr.mapUpdate,Sem.run_bind,run_underlying hf.mapD,Result.andThen_ok,zaJ h3,ok.check I s _ _ w h2,hfk,n1 hq,Sem.run_pure,zdG h3];rw [hput] at a1;simp only [kk,Ay,Au,Ba] at a1
    by_cases hj:j<ls.length
    rw [Ao (by simpa using hj)] at a1;rw [AN,if_neg (by omega)] at a2;exact h5 j p m (by simpa [kk] using a1) a2;rw [Al (by simp;omega)] at a1;rw [AN] at a2
    by_cases hje:j=es.size
    rw [if_pos hje] at a2
    simp at a2
    subst a2;have:j-(ls.map fun p=>(ek p.1,p.2)).length=0:=by simp;omega
    rw [this] at a1
    simp at a1
    subst a1;exact ⟨h2,h0⟩;rw [if_neg hje,As (by omega)] at a2
    cases a2
  |some j0=>
    obtain ⟨m0,h',g1,g2,g3,g4⟩:=n2 j0 hq;obtain ⟨_,_,_,hput⟩:=zev hq;have hm0:es[j0]? =some m0:=by simpa using g1
    have hjl:=zp g2;have hkey:=(h7 j0 (s,h') m0 g2 g1).1;refine ⟨_,_,I,?_,.refl I,hk,fin (es.modify j0 fun e=>{e with key:=a.eval y,val:=a.eval z}) clk ⟨by rw [hput];simp [kk,hsz],h4.2.modify _ fun _=>rfl⟩ fun j p m a1 a2=> ?_⟩
    have hstay:(Instr.keyThatStays (((es[j0]?).map (·.key)).getD (a.eval y)) (a.eval y)).run P w= .ok (a.eval y) w:=by
     rw [hm0];simp only [AI,B8,Instr.keyThatStays];rw [if_pos (ok.same I s _ _ hkey h2)];rfl
    simp only [execOp,h1,Instr.mapUpdate,Sem.run_bind,run_underlying hf.mapD,Result.andThen_ok,zaJ h3,ok.check I s _ _ w h2,hfk,g4,Sem.run_pure,Br,hstay,zdG h3];rw [hput] at a1;simp only [kk] at a1;rw [AJ] at a2;rw [Ag,Bz] at a1
    by_cases hj:j0=j
    subst hj;rw [if_pos rfl,hm0] at a2;rw [if_pos rfl,if_pos hjl] at a1
    simp at a1 a2
    subst a1 a2;exact ⟨h2,h0⟩;rw [if_neg hj] at a1 a2;exact h5 j p m (by simp only [kk,Ag];exact a1) a2
end
end
section
def zoN:List HVal->Bool
 |[]=>true
 | .int _ _::r=>zoN r
 | .str _::r=>zoN r
 | .bool _::r=>zoN r
 |_=>false
theorem zvh: ∀{cs:List HVal} {j:Nat} {c:HVal},zoN cs=true->cs[j]? =some c->(∃k n,c= .int k n)\/(∃s,c= .str s)\/∃b,c= .bool b
 |[],j,c,_,h=>by simp at h
 |x::r,0,c,hs,h=>by
   simp at h;subst h
   cases x<;>simp [zoN] at hs
   exact .inr (.inr ⟨_,rfl⟩);exact .inl ⟨_,_,rfl⟩;exact .inr (.inl ⟨_,rfl⟩)
 |x::r,j+1,c,hs,h=>by
   simp at h
   cases x<;>simp [zoN] at hs<;>exact zvh hs h
theorem zzg {I:Imm} {cs:List HVal} {xs ys:List Value} (hs:zoN cs=true) (hx:VL I cs xs) (hy:VL I cs ys):xs=ys/\∀v∈xs,∀n,Instr.sameBits n v v=true:=by
 have key: ∀(j:Nat) (u v:Value),xs[j]? =some u->ys[j]? =some v->u=v/\∀n,Instr.sameBits n u u=true:=fun j u v h1 h2=>by
  have hj:j<cs.length:=by rw [<-hx.1];exact zp h1
  have hc:=Aa hj;have hu:=hx.2 j _ u hc h1;have hv:=hy.2 j _ v hc h2
  rcases zvh hs hc with ⟨k,n,e⟩|⟨s,e⟩|⟨b,e⟩
  rw [e] at hu hv
  haveI:Tracks:=⟨true⟩
  rw [hu.int_inv,hv.int_inv];exact ⟨rfl,fun m=>by cases m<;>simp [Instr.sameBits]⟩;rw [e] at hu hv
  haveI:Tracks:=⟨true⟩
  rw [hu.str_inv,hv.str_inv];exact ⟨rfl,fun m=>by cases m<;>simp [Instr.sameBits,ziW]⟩;rw [e] at hu hv
  haveI:Tracks:=⟨true⟩
  rw [hu.bool_inv,hv.bool_inv];exact ⟨rfl,fun m=>by cases m<;>simp [Instr.sameBits]⟩
 have hl:xs.length=ys.length:=by rw [hx.1,hy.1]
 refine ⟨Bo fun j=> ?_,fun v hv n=> ?_⟩
 rcases AD j xs.length with h|h
 rw [Aa h,Aa (by omega)]
 congr 1
 exact (key j _ _ (Aa h) (Aa (by omega))).1;rw [Ax h,Ax (by omega)];obtain ⟨j,hj⟩:=Bm hv;have hlt:=zp hj;exact (key j v _ hj (Aa (by omega))).2 n
section
variable {P:Program}
theorem zku {t:TypeId} {d:TD} {s by':Nat} {z:Value} (hf:Fits P t d s by' z) {a:HVal} (hk:zfm d a a=true) {I:Imm} {u:Value} (hu:V I a u) (em:Bool) (n:Nat) (w:World):(Instr.checkKey em (n+1) t u).run P w= .ok () w:=by
 haveI:Tracks:=⟨true⟩
 cases d<;>cases a<;>focus first|(simp [zfm] at hk;done)|skip
 rw [hu.bool_inv];simp [Instr.checkKey,run_underlying hf.boolD];rw [hu.int_inv];simp [Instr.checkKey,run_underlying hf.intD];rw [hu.str_inv];simp [Instr.checkKey,run_underlying hf.strD]
theorem zqG {I:Imm} {xs:Array Value} {cs:List HVal} (hx:VL I cs xs.toList) (em:Bool) (n:Nat) (w:World):
 ∀(fs:List Field) (k:Nat),zmU P (fs.map fun f=>(f.offset,f.type)) k (cs.drop k) (cs.drop k)->∀f∈fs,∃a,(part f.type xs f.offset).run P w= .ok a w/\(Instr.checkKey em (n+1) f.type a).run P w= .ok () w
 |[],k,_,f,hf=>by simp at hf
 |g::fs,k,hk,f,hf=>by
   haveI:Tracks:=⟨true⟩
   simp only [Au] at hk
   cases hc:cs.drop k with
   |nil=>rw [hc] at hk;exact hk.elim
   |cons a r=>
     rw [hc] at hk;obtain ⟨h1,⟨d,s,by',z,h2,h3⟩,h4⟩:=hk;simp only at h1 h2;have ha:cs[k]? =some a:=by have:=congrArg (fun l:List HVal=>l[0]?) hc;simpa using this
     have hr:cs.drop (k+1)=r:=by rw [<-Bl (i:=1),hc];rfl
     rcases List.mem_cons.1 hf with rfl|hf
     obtain ⟨u,hu,hu'⟩:=hx.get ha;exact ⟨u,zp5 h2 (zoM h3) (by rw [h1];simpa using hu) w,zku h2 h3 hu' em n w⟩;exact zqG hx em n w fs (k+1) (by rw [hr];exact h4) f hf
theorem zgk {κ:Type} [DecidableEq κ] {kt:TypeId} {fs:List (Nat×Nat)} {s by':Nat} {z:Value} {cs:κ->List HVal} (hf:Fits P kt (.struct fs) s by' z) (hq:EqOk P kt) (hk: ∀x y,zmU P fs 0 (cs x) (cs y))
 (he: ∀x y,zgf (cs x) (cs y)=decide (x=y)) (hs: ∀x,zoN (cs x)=true):KeyOk P kt (fun x=> .agg (cs x)):=by
 haveI:Tracks:=⟨true⟩
 obtain ⟨gs,h1,h2⟩:=hf.structD;have hn: ∀f∈gs.toList,f.name≠ "_" :=fun f hf=>by
  have:=hq.names;rw [show P.fieldsOf kt=gs by simp [Program.fieldsOf,h1]] at this;have:=List.all_eq_true.1 this f hf;simpa using this
 refine ⟨fun I x v b w hv=> ?_,fun I x y u v w hu hv=> ?_,fun I x v es w hv hes=>run_findKey_eq w (by rw [h1]) v es,fun I x u v hu hv=> ?_⟩
 obtain ⟨xs,rfl,hx⟩:=hv.agg_inv;have each:=zqG (P:=P) hx b 9998 w gs.toList 0 (by rw [h2];exact hk x x);rw [show (10000:Nat)=9999+1 from rfl,Instr.checkKey];simp only [Sem.run_bind,run_underlying h1,Result.andThen_ok];rw [<-Array.forIn_toList]
 clear h1 h2
 generalize gs.toList=L at each hn
 induction L with
 |nil=>simp
 |cons f L ih=>
   obtain ⟨a,p1,p2⟩:=each f (by simp);have hn1:=hn f (by simp);simp only [List.forIn_cons,Sem.run_bind,hn1,ne_eq,not_false_eq_true,if_true,Result.andThen_ok,p1,p2,Sem.run_pure];exact ih (fun y hy=>each y (by simp [hy])) (fun y hy=>hn y (by simp [hy]))
 obtain ⟨xs,rfl,hx⟩:=hu.agg_inv;obtain ⟨ys,rfl,hy⟩:=hv.agg_inv;rw [zhp hf hq hx hy (hk x y) w,he];obtain ⟨xs,rfl,hx⟩:=hu.agg_inv;obtain ⟨ys,rfl,hy⟩:=hv.agg_inv;obtain ⟨e1,e2⟩:=zzg (hs x) hx hy;have e3:xs=ys:=by have:=congrArg List.toArray e1;simpa using this
 subst e3
 show Instr.sameBits (9999+1) _ _=true
 simp only [Instr.sameBits,beq_self_eq_true,Bool.true_and,List.all_eq_true]
 intro p hp
 have h9: ∀(l:List Value) (p:Value×Value),p∈l.zip l->p.1∈l/\p.1=p.2:=fun l=>by
  induction l with
  |nil=>intro p hp;simp at hp
  |cons a l ih=>
    intro p hp
    simp only [List.zip_cons_cons,BT] at hp
    rcases hp with rfl|hp
    exact ⟨by simp,rfl⟩;exact ⟨by simp [(ih p hp).1],(ih p hp).2⟩
 obtain ⟨q1,q2⟩:=h9 _ p hp;obtain ⟨u,v⟩:=p;simp only at q1 q2;subst q2;exact e2 u q1 9999
end
/-! ranges-/
theorem zoC {α:Type} [DecidableEq α]: ∀{l m:List α},l.Nodup->(∀x∈l,x∈m)->l.length<=m.length
 |[],_,_,_=>Ad _
 |a::l,m,h,hs=>by
   have ha:=hs a Aj;obtain ⟨h1,h2⟩:=List.nodup_cons.1 h;have h3:=zoC (m:=m.erase a) h2 fun x hx=>(List.mem_erase_of_ne (fun e:x=a=>h1 (by rw [<-e];exact hx))).2 (hs x (Am _ hx))
   rw [List.length_erase_of_mem ha] at h3;have:=List.length_pos_of_mem ha
   simp;omega
section
variable {P:Program} {e:Env} {dst:Option Tmp} {ty:TypeId} {pos:String} {af:Array Edge} {g:Option (Nat×Bool)} {M:List MObj} {K:HVal->List MObj->Prop}
theorem zoh [Tracks] {x:Operand} {t kt et:TypeId} {size bytes:Nat} {zero:Value} {i b:Nat} {l:List (HVal×HVal)} (hf:Fits P t (.map kt et) size bytes zero) (hx:zh e x=some (.raw (.map (some b)))) (hm:M[i]? =some (.map b l))
 (hk: ∀r,K (.raw (.pointer (some ⟨r,0,none⟩))) (M.set i (.iter r b l []))):EOp P e M ⟨dst,.range t x,ty,pos,af,g⟩ K:=
 EOp.of_run fun I F a w ho hs=>by
  have h1:=(ho.one (x:=x) (by simp [Op.operands]) hx).raw_inv;have hp:=hs.pull hm;obtain ⟨es,clk,h3,h4,h5⟩:=hp.obj _ Aj;have hlt:b<w.heap.size:=by
   rcases AD b w.heap.size with h'|h'
   exact h'
   simp [As h'] at h3
  refine ⟨.pointer (some ⟨w.heap.size,0,none⟩),_,_,push w (.mapIter (some b) clk #[] clk),I,?_,.refl I,hk w.heap.size,.raw _ rfl,?_⟩
  simp only [execOp,h1,Instr.range,Sem.run_bind,run_underlying hf.mapD,Result.andThen_ok,zaJ h3,Sem.run_pure,run_newObj];refine zbN hm (hp.change (m':= .iter w.heap.size b l []) (fun k hk hnk=> ?_) (fun k hk=> ?_) ?_ ⟨es,clk,#[],?_,?_,h4,rfl,h5⟩ rfl rfl rfl)
  simp [push,AN];intro h;omega
  simp [MObj.blocks] at hk⊢;omega
  simp [MObj.blocks];omega
  simp only [push,AN];rw [if_neg (by omega)];exact h3
  simp [push]
theorem zzT [Tracks] {x:Operand} {i r b:Nat} {l:List (HVal×HVal)} {vis:List Nat} (hx:zh e x=some (.raw (.pointer (some ⟨r,0,none⟩)))) (hm:M[i]? =some (.iter r b l vis)) (hv:vis.Nodup) (hvl: ∀j∈vis,j<l.length)
 (h0:vis.length=l.length->K (.tup [.bool false]) M) (h1: ∀(j:Nat) (p:HVal×HVal),l[j]? =some p->j∉vis->K (.tup [.bool true,p.1,p.2]) (M.set i (.iter r b l (vis++[j])))):EOp P e M ⟨dst,.next x false,ty,pos,af,g⟩ K:=
 EOp.of_run fun I F a w ho hs=>by
  have h2:=(ho.one (x:=x) (by simp [Op.operands]) hx).raw_inv;have hp:=hs.pull hm;obtain ⟨es,clk,seen,a1,a2,a3,a4,a5⟩:=hp.obj _ Aj;have hgr: ∀w1:World,w1.heap=w.heap->(getObj r).run P w1= .ok (.mapIter (some b) clk seen clk) w1:=fun w1 hw=>by simp [getObj,Sem.run,hw,a2]
  have hgb: ∀w1:World,w1.heap=w.heap->(getObj b).run P w1= .ok (.map es clk) w1:=fun w1 hw=>by simp [getObj,Sem.run,hw,a1]
  have hin: ∀(j:Nat) (m:MapEntry),es[j]? =some m->(seen.contains m.born=true↔j∈vis):=fun j m hj=>by
   have e1:seen.contains m.born=seen.toList.contains m.born:=by simp
   rw [e1,a4,B2,List.mem_map]
   constructor
   rintro ⟨q,hq,e⟩;have hlt:=hvl q hq;have hq2:es[q]? =some es[q]:=Ar (by omega);rw [hq2] at e
   simp at e
   have:=a3.2.2 q j _ m hq2 hj e;rw [<-this];exact hq
   intro hq
   exact ⟨j,hq,by rw [hj];simp⟩
  have hbad:(!seen.isEmpty&& !es.isEmpty&&es.all (fun m=>decide (m.born>=clk)))=false:=by
   by_cases he:es.isEmpty=true
   simp [he]
   have hpos:0<es.size:=by
    rcases A8 es.size with h|h
    simp [Array.isEmpty,h] at he
    exact h
   have hb:=a3.2.1 0 _ (Ar hpos);have:es.all (fun m=>decide (m.born>=clk))=false:=by
    rw [Cs]
    intro h
    have:=Array.all_eq_true.1 h 0 hpos
    simp at this;omega
   rw [this];simp
  have hold:(es.filter fun m=> !seen.contains m.born).filter (fun m=>decide (m.born<clk))=es.filter fun m=> !seen.contains m.born:=by
   rw [Array.filter_eq_self]
   intro m hm'
   obtain ⟨j,hj⟩:=B1 (Array.mem_filter.1 hm').1
   simpa using a3.2.1 j m hj
  have hnew:(es.filter fun m=> !seen.contains m.born).filter (fun m=>decide (m.born>=clk))= #[]:=by
   rw [Array.filter_eq_empty_iff]
   intro m hm'
   obtain ⟨j,hj⟩:=B1 (Array.mem_filter.1 hm').1;have:=a3.2.1 j m hj
   simp;omega
  have hrun:(execOp a.eval ⟨dst,.next x false,ty,pos,af,g⟩).run P w=((Instr.next (.pointer (some ⟨r,0,none⟩)) false ty).run P w).andThen fun v w=> .ok (.value v) w:=by
   simp only [execOp,h2,Sem.run_bind]
   rfl
  generalize hL:(es.filter fun m=> !seen.contains m.born)=left at hold hnew
  by_cases hemp:left.isEmpty=true
  have hfull:vis.length=l.length:=by
   apply Nat.le_antisymm
   have:=zoC (m:=List.range l.length) hv fun j hj=>List.mem_range.2 (hvl j hj)
   simpa using this
   have:=zoC (l:=List.range l.length) (m:=vis) List.nodup_range fun j hj=>by
    have hj':=List.mem_range.1 hj;have hq:es[j]? =some es[j]:=Ar (by omega);rw [<-hin j _ hq]
    cases hc:seen.contains es[j].born with
    |true=>rfl
    |false=>
      have:es[j]∈left:=by rw [<-hL];exact Array.mem_filter.2 ⟨Array.getElem_mem _,by rw [hc];rfl⟩
      have he:left= #[]:=Array.isEmpty_iff.1 hemp;rw [he] at this;simp at this
   simpa using this
  refine ⟨.tuple #[.bool false],.tup [.bool false],M,w,I,?_,.refl I,h0 hfull,.tup (by simp) (fun j c v h h'=> ?_),hs⟩
  rw [hrun];have he:left= #[]:=Array.isEmpty_iff.1 hemp;simp only [Instr.next,Sem.run_bind,hgr w rfl,hgb w rfl,Result.andThen_ok,hbad,AR,if_false,Sem.run_pure,hL,hold,hnew,hemp,if_true,he]
  simp [Question.forced]
  match j,h,h' with
  |0,h,h'=>simp at h h';subst h h';exact .bool _
  have hemp':left.isEmpty=false:=by simpa using hemp
  have hpos:0<left.size:=by
   rcases A8 left.size with h|h
   exfalso;apply hemp;simp [Array.isEmpty,h]
   exact h
  obtain ⟨c,w1,c1,c2,c3⟩: ∃c w1,(choose (.mapNext left.size)).run P w= .ok c w1/\c<left.size/\(w1=w\/w1={w with drawn:=w.drawn+1}):=by
   by_cases hf:(Question.mapNext left.size).forced=true
   exact ⟨0,w,by simp [hf],hpos,.inl rfl⟩;refine ⟨_,{w with drawn:=w.drawn+1},by simp [hf];rfl,?_,.inr rfl⟩
   simp only [Question.cut];exact BW _ hpos
  have hw1:w1.heap=w.heap:=by rcases c3 with h|h<;>rw [h]
  have hmem:left[c]∈left:=Array.getElem_mem _;have hmf:left[c]∈es/\(!seen.contains left[c].born)=true:=by
   have h9: ∀m,m∈left->m∈es/\(!seen.contains m.born)=true:=fun m hm=>by rw [<-hL] at hm;exact Array.mem_filter.1 hm
   exact h9 _ hmem
  obtain ⟨j,hj⟩:=B1 hmf.1;have hnv:j∉vis:=fun q=>by
   have:=(hin j _ hj).2 q;rw [this] at hmf;simp at hmf
  have hjl:j<l.length:=by
   have:j<es.size:=by
    rcases AD j es.size with h'|h'
    exact h'
    simp [As h'] at hj
   omega
  have hlj:=Aa hjl;obtain ⟨k1,k2⟩:=a5 j _ _ hlj hj;refine ⟨.tuple #[.bool true,left[c].key,left[c].val],.tup [.bool true,l[j].1,l[j].2],_,{w1 with heap:=w1.heap.setIfInBounds r (.mapIter (some b) clk (seen.push left[c].born) clk)},I,?_,.refl I,h1 j _ hlj hnv,?_,?_⟩
  rw [hrun];have hcand:((#[]:Array (Option MapEntry))++(left++ #[]).map some).size=left.size:=by simp
  have hget:((#[]:Array (Option MapEntry))++(left++ #[]).map some)[c]? =some (some left[c]):=by simp [c2]
  simp only [Instr.next,Sem.run_bind,hgr w rfl,hgb w rfl,Result.andThen_ok,hbad,AR,if_false,Sem.run_pure,hL,hold,hnew,hemp',hcand,c1,hget]
  simp [setObj,Sem.run,hw1,a2]
  refine .tup (by simp) (fun q c v h h'=> ?_)
  match q,h,h' with
  |0,h,h'=>simp at h h';subst h h';exact .bool _
  |1,h,h'=>simp at h h';subst h h';exact k1
  |2,h,h'=>simp at h h';subst h h';exact k2
  have hrb:r≠b:=by
   have:=hp.nodup;simp only [blocks,AM,MObj.blocks] at this;have:=(List.nodup_append.1 this).1
   simp at this;exact this
  have hrl:r<w.heap.size:=by
   rcases AD r w.heap.size with h'|h'
   exact h'
   simp [As h'] at a2
  refine zbN hm (hp.change (m':= .iter r b l (vis++[j])) (fun k hk hnk=> ?_) (fun k hk=> .inl hk) ?_ ⟨es,clk,seen.push left[c].born,?_,?_,a3,?_,a5⟩ (by rcases c3 with h|h<;>rw [h]) (by rcases c3 with h|h<;>rw [h]) (by rcases c3 with h|h<;>rw [h]) (fun _=>by rcases c3 with h|h<;>rw [h];(exact Af _);exact BN _))
  have:k≠r:=fun q=>hnk (by rw [q];simp [MObj.blocks])
  simp only [hw1];rw [AH (Ne.symm this)]
  simp [MObj.blocks,hrb]
  simp only [hw1];rw [AH hrb];exact a1
  simp [hw1,hrl]
  simp [a4,hj]
theorem zlP [Tracks] {i r b:Nat} {l:List (HVal×HVal)} {vis:List Nat} (hm:M[i]? =some (.iter r b l vis)):Ghost e M e (M.set i (.map b l)):=fun _ I F tmps w h1 hs=>by
 have hp:=hs.pull hm;obtain ⟨es,clk,seen,a1,a2,a3,a4,a5⟩:=hp.obj _ Aj;exact ⟨I,.refl I,h1,zbN hm (hp.change (m':= .map b l) (fun _ _ _=>rfl) (fun k hk=> .inl (by simp [MObj.blocks] at hk⊢;exact .inr hk)) (by simp [MObj.blocks]) ⟨es,clk,a1,a3,a5⟩ rfl rfl rfl)⟩
end
end
section
section
variable {P:Program} {e:Env} {dst:Option Tmp} {ty:TypeId} {pos:String} {af:Array Edge} {g:Option (Nat×Bool)} {M:List MObj} {K:HVal->List MObj->Prop}
theorem zyy [Tracks] {x:Operand} {i r b j:Nat} {l:List (HVal×HVal)} {vis:List Nat} {p:HVal×HVal} (hx:zh e x=some (.raw (.pointer (some ⟨r,0,none⟩)))) (hm:M[i]? =some (.iter r b l (vis++[j]))) (hp':l[j]? =some p)
 (hk:K (.tup [p.1,p.2]) M):EOp P e M ⟨dst,.entry x,ty,pos,af,g⟩ K:=
 EOp.of_run fun I F a w ho hs=>by
  have h2:=(ho.one (x:=x) (by simp [Op.operands]) hx).raw_inv;have hp:=hs.pull hm;obtain ⟨es,clk,seen,a1,a2,a3,a4,a5⟩:=hp.obj _ Aj;have hjl:=zp hp';have hj:es[j]? =some es[j]:=Ar (by omega);obtain ⟨k1,k2⟩:=a5 j p _ hp' hj;have hback:seen.back? =some es[j].born:=by
   have:seen=(vis.map fun i=>((es[i]?).map (·.born)).getD 0).toArray.push es[j].born:=by
    apply Array.ext'
    rw [a4];simp [hj]
   rw [this];simp
  have hfind:es.find? (fun m=>m.born==es[j].born)=some es[j]:=by
   cases hf:es.find? (fun m=>m.born==es[j].born) with
   |none=>
     have:=Array.find?_eq_none.1 hf es[j] (Array.getElem_mem _)
     simp at this
   |some m=>
     have h1:=Array.find?_some hf;have h3:=Array.mem_of_find?_eq_some hf;obtain ⟨q,hq⟩:=B1 h3;have:=a3.2.2 q j m _ hq hj (by simpa using h1);subst this;rw [hj] at hq;exact hq.symm
  refine ⟨.tuple #[es[j].key,es[j].val],.tup [p.1,p.2],M,w,I,?_,.refl I,hk,zjY k1 k2,hs⟩
  have hgr:(getObj r).run P w= .ok (.mapIter (some b) clk seen clk) w:=by simp [getObj,Sem.run,a2]
  have hgb:(getObj b).run P w= .ok (.map es clk) w:=by simp [getObj,Sem.run,a1]
  simp only [execOp,h2,Instr.entry,Sem.run_bind,hgr,Result.andThen_ok,hback,hgb,bne_self_eq_false,AR,if_false,hfind,Sem.run_pure]
end
section
variable {κ:Type} [DecidableEq κ]
def zdv (s:κ) (z:HVal) (ls:List (κ×HVal)):List (κ×HVal):=match zbG s ls with|some _=>ls|none=>ls++[(s,z)]
theorem zkW {s:κ} {z:HVal}: ∀{ls:List (κ×HVal)},zbG s ls=none->zbG s (ls++[(s,z)])=some ls.length
 |[],_=>by simp [zbG]
 |p::r,h=>by
   simp only [zbG] at h
   by_cases e:s=p.1
   rw [if_pos e] at h;simp at h;rw [if_neg e] at h;have hr:zbG s r=none:=by cases hq:zbG s r with|none=>rfl|some j=>rw [hq] at h;simp at h
   simp only [AY,zbG,if_neg e,zkW hr];simp
theorem zsC (s:κ) (z h:HVal) (ls:List (κ×HVal)):zd0 s h (zdv s z ls)=zd0 s h ls:=by
 unfold zdv
 cases hq:zbG s ls with
 |some j=>rfl
 |none=>
   simp only
   rw [(zev (zkW (z:=z) hq)).choose_spec.2.2 h,(ze7 hq).2 h]
   simp
theorem zAa {s:κ} {z:HVal} (ls:List (κ×HVal)):(klk s (zdv s z ls)).getD z=(klk s ls).getD z:=by
 unfold zdv
 cases hq:zbG s ls with
 |some j=>rfl
 |none=>
   obtain ⟨h,h1,h2,_⟩:=zev (zkW (z:=z) hq)
   simp only
   rw [h2,(ze7 hq).1]
   simp at h1;simp [h1]
variable {P:Program} {kt:TypeId} {ek:κ->HVal} {e:Env} {dst:Option Tmp} {ty:TypeId} {pos:String} {af:Array Edge} {g:Option (Nat×Bool)} {M:List MObj} {K:HVal->List MObj->Prop}
theorem zof [Tracks] {x y:Operand} {t et:TypeId} {size bytes s3 b3:Nat} {zero z3:Value} {d:TD} {i b:Nat} {ls:List (κ×HVal)} {s:κ}
 (hf:Fits P t (.map kt et) size bytes zero) (ok:KeyOk P kt ek) (het:Fits P et d s3 b3 z3) (hx:zh e x=some (.raw (.map (some b)))) (hy:zh e y=some (ek s)) (hm:M[i]? =some (.map b (kk ek ls)))
 (hk: ∀(j st:Nat),zbG s (zdv s (zaB z3) ls)=some j->K (.tup [(klk s ls).getD (zaB z3),.int .i64 (st:Int)]) (M.set i (.mape b (kk ek (zdv s (zaB z3) ls)) j st))):EOp P e M ⟨dst,.mapEntry t x y,ty,pos,af,g⟩ K:=
 EOp.of_run fun I F a w ho hs=>by
  have h1:=(ho.one (x:=x) (by simp [Op.operands]) hx).raw_inv;have h2:=ho.one (x:=y) (by simp [Op.operands]) hy;have hp:=hs.pull hm;obtain ⟨es,clk,h3,h4,h5⟩:=hp.obj _ Aj;obtain ⟨h6,h7⟩:=zox h4.1 h5;obtain ⟨n1,n2⟩:=ziF ok h2 w es.toList ls 0 h6 h7;have hfk:=ok.run_key h2 w es.toList ls h6 h7;have hlt:b<w.heap.size:=by
   rcases AD b w.heap.size with h'|h'
   exact h'
   simp [As h'] at h3
  have hsz:es.size=ls.length:=by simpa using h6
  have fin: ∀(ls':List (κ×HVal)) (es':Array MapEntry) (clk' j st:Nat),es'.size=(kk ek ls').length/\BornOk es' clk'->
   (∀(i:Nat) (p:HVal×HVal) (m:MapEntry),(kk ek ls')[i]? =some p->es'[i]? =some m->V I p.1 m.key/\V I p.2 m.val)->(∃m,es'[j]? =some m/\m.born=st)->
   Sat P I (M.set i (.mape b (kk ek ls') j st)++F) {w with heap:=w.heap.setIfInBounds b (.map es' clk')}:=fun ls' es' clk' j st e1 e2 e3=>by
   refine zbN hm (hp.change (m':= .mape b (kk ek ls') j st) (fun k hk hnk=> ?_) (fun k hk=> .inl hk) (by simp [MObj.blocks]) ⟨es',clk',by simp [hlt],e1,e2,e3⟩ rfl rfl rfl)
   have:k≠b:=by simpa [MObj.blocks] using hnk
   simp [AH (Ne.symm this)]
  cases hq:zbG s ls with
  |none=>
    have hke:zdv s (zaB z3) ls=ls++[(s,zaB z3)]:=by simp [zdv,hq]
    have hki:=zkW (z:=zaB z3) hq;have hlk:=(ze7 hq).1;refine ⟨.tuple #[z3,.int .i64 clk],_,_,_,I,?_,.refl I,hk ls.length clk (by rw [hke];exact hki),by rw [hlk];exact zjY (zfv I z3) (.int _ _),
     fin _ (es.push ⟨a.eval y,z3,clk⟩) (clk+1) _ _ ⟨by rw [hke];simp [kk,hsz],h4.2.push rfl⟩ (fun j p m a1 a2=> ?_) ⟨⟨a.eval y,z3,clk⟩,by rw [<-hsz];simp,rfl⟩⟩
    simp only [execOp,h1,Instr.mapEntry,Sem.run_bind,run_underlying hf.mapD,Result.andThen_ok,zaJ h3,ok.check I s _ _ w h2,hfk,n1 hq,Sem.run_pure,zdG h3,het.run_zero,goInt];rw [hke] at a1;simp only [kk,Ay,Au,Ba] at a1
    by_cases hj:j<ls.length
    rw [Ao (by simpa using hj)] at a1;rw [AN,if_neg (by omega)] at a2;exact h5 j p m (by simpa [kk] using a1) a2;rw [Al (by simp;omega)] at a1;rw [AN] at a2
    by_cases hje:j=es.size
    rw [if_pos hje] at a2
    simp at a2
    subst a2;have:j-(ls.map fun p=>(ek p.1,p.2)).length=0:=by simp;omega
    rw [this] at a1
    simp at a1
    subst a1;exact ⟨h2,zfv I z3⟩;rw [if_neg hje,As (by omega)] at a2
    cases a2
  |some j0=>
    obtain ⟨m0,h',g1,g2,g3,g4⟩:=n2 j0 hq;obtain ⟨h'',g5,g6,_⟩:=zev hq;rw [g5] at g2;cases g2;have hke:zdv s (zaB z3) ls=ls:=by simp [zdv,hq]
    have hm0:es[j0]? =some m0:=by simpa using g1
    have hkey:V I (ek s) m0.key:=(h7 j0 _ m0 g5 g1).1;refine ⟨.tuple #[m0.val,.int .i64 m0.born],_,_,_,I,?_,.refl I,hk j0 m0.born (by rw [hke];exact hq),by rw [g6];exact zjY g3 (.int _ _),
     fin _ (es.modify j0 fun e=>{e with key:=a.eval y}) clk _ _ ⟨by rw [hke];simp [kk,hsz],h4.2.modify _ fun _=>rfl⟩ (fun j p m a1 a2=> ?_) ⟨{m0 with key:=a.eval y},by rw [AJ,if_pos rfl,hm0];rfl,rfl⟩⟩
    have hstay:(Instr.keyThatStays m0.key (a.eval y)).run P w= .ok (a.eval y) w:=by
     simp only [Instr.keyThatStays];rw [if_pos (ok.same I s _ _ hkey h2)];rfl
    simp only [execOp,h1,Instr.mapEntry,Sem.run_bind,run_underlying hf.mapD,Result.andThen_ok,zaJ h3,ok.check I s _ _ w h2,hfk,g4,Sem.run_pure,Br,hstay,zdG h3,goInt,hm0,AI,B8];rw [hke] at a1;rw [AJ] at a2
    by_cases hj:j0=j
    subst hj;rw [if_pos rfl,hm0] at a2
    simp at a2
    subst a2;have:=h5 j0 p m0 a1 hm0;simp only [kk,Ag,g5,AI,AA] at a1;subst a1;exact ⟨h2,this.2⟩;rw [if_neg hj] at a2;exact h5 j p m a1 a2
theorem zl0 [Tracks] {x y z:Operand} {t:TypeId} {i b j st:Nat} {ls:List (κ×HVal)} {s:κ} {h:HVal}
 (hx:zh e x=some (.raw (.map (some b)))) (hy:zh e y=some (.int .i64 (st:Int))) (hz:zh e z=some h) (hm:M[i]? =some (.mape b (kk ek ls) j st)) (hj:zbG s ls=some j)
 (hk:K .junk (M.set i (.map b (kk ek (zd0 s h ls))))):EOp P e M ⟨dst,.entryStore t x y z,ty,pos,af,g⟩ K:=
 zgQ fun I F a w ho hs=>by
  have h1:=(ho.one (x:=x) (by simp [Op.operands]) hx).raw_inv;have h2:=(ho.one (x:=y) (by simp [Op.operands]) hy).int_inv;have h0:=ho.one (x:=z) (by simp [Op.operands]) hz;have hp:=hs.pull hm;obtain ⟨es,clk,h3,h4,h5,m0,h6,h7⟩:=hp.obj _ Aj;have hlt:b<w.heap.size:=by
   rcases AD b w.heap.size with h'|h'
   exact h'
   simp [As h'] at h3
  obtain ⟨h',g1,_,g2⟩:=zev hj;have hjl:j<es.size:=by
   rcases AD j es.size with h'|h'
   exact h'
   simp [As h'] at h6
  have hfi:es.findIdx? (fun m=>(m.born:Int)==(st:Int))=some j:=by
   rw [Array.findIdx?_eq_some_iff_getElem];refine ⟨hjl,?_,fun q hq=> ?_⟩
   rw [Ar hjl] at h6;have:=Aw h6;rw [this];simp [h7]
   intro hc
   have hq2:=Ar (xs:=es) (i:=q) (by omega);have:=h4.2.2 q j _ m0 hq2 h6 (by have h8:((es[q].born:Nat):Int)=(st:Int):=(by simpa using hc);omega)
   omega
  refine ⟨_,{w with heap:=w.heap.setIfInBounds b (.map (es.modify j fun e=>{e with val:=a.eval z}) clk)},I,?_,.refl I,hk,?_⟩
  simp only [execOp,h1,h2,Instr.entryStore,Sem.run_bind,zaJ h3,Result.andThen_ok,asInt,asIntOf,Sem.run_pure,hfi,zdG h3];refine zbN hm (hp.change (m':= .map b (kk ek (zd0 s h ls))) (fun k hk hnk=> ?_) (fun k hk=> .inl hk) (by simp [MObj.blocks]) ⟨es.modify j fun e=>{e with val:=a.eval z},clk,by simp [hlt],⟨by rw [g2];simp [kk];simpa [kk] using h4.1,h4.2.modify _ fun _=>rfl⟩,fun q p m a1 a2=> ?_⟩ rfl rfl rfl)
  have:k≠b:=by simpa [MObj.blocks] using hnk
  simp [AH (Ne.symm this)]
  rw [g2] at a1;simp only [kk] at a1;rw [AJ] at a2;rw [Ag,Bz] at a1
  by_cases hjq:j=q
  subst hjq;have hl:=zp g1;rw [if_pos rfl,h6] at a2;rw [if_pos rfl,if_pos hl] at a1
  simp at a1 a2
  subst a1 a2;exact ⟨(h5 j (ek s,h') m0 (by simp [kk,g1]) h6).1,h0⟩;rw [if_neg hjq] at a1 a2;exact h5 q p m (by simp only [kk,Ag];exact a1) a2
end
end
section
section
variable {κ:Type} [DecidableEq κ] {α:Type}
def alk (x:κ):List (κ×α)->Option α
 |[]=>none
 |p::r=>if x=p.1 then some p.2 else alk x r
def zC (x:κ) (v:α):List (κ×α)->List (κ×α)
 |[]=>[(x,v)]
 |p::r=>if x=p.1 then (x,v)::r else p::zC x v r
abbrev em (f:α->HVal) (L:List (κ×α)):List (κ×HVal):=L.map fun p=>(p.1,f p.2)
theorem zoy (f:α->HVal) (x:κ): ∀L:List (κ×α),klk x (em f L)=(alk x L).map f
 |[]=>rfl
 |p::r=>by
   have ih:=zoy f x r;simp only [Au,klk,alk] at ih⊢
   by_cases h:x=p.1
   rw [if_pos h,if_pos h];rfl;rw [if_neg h,if_neg h];exact ih
theorem zo2 (f:α->HVal) (x:κ) (v:α): ∀L:List (κ×α),zd0 x (f v) (em f L)=em f (zC x v L)
 |[]=>rfl
 |p::r=>by
   have ih:=zo2 f x v r;simp only [Au,zd0,zC] at ih⊢
   by_cases h:x=p.1
   rw [if_pos h,if_pos h];rfl;rw [if_neg h,if_neg h,ih];rfl
theorem zdO (x y:κ) (v:α): ∀(l:List (κ×α)),alk y (zC x v l)=if y=x then some v else alk y l
 |[]=>by simp [zC,alk]
 |p::r=>by
   have ih:=zdO x y v r;simp only [zC]
   by_cases h:x=p.1
   subst h;rw [if_pos rfl];simp only [alk]
   by_cases hy:y=p.1
   rw [if_pos hy,if_pos hy];rw [if_neg hy,if_neg hy,if_neg hy];rw [if_neg h];simp only [alk]
   by_cases hy:y=p.1
   have: ¬y=x:=fun e=>h (e▸hy)
   rw [if_pos hy,if_neg this,if_pos hy];rw [if_neg hy,ih,if_neg hy]
theorem zez {x:κ}: ∀{l:List (κ×α)},alk x l=none↔x∉l.map (·.1)
 |[]=>by simp [alk]
 |p::r=>by
   have ih:=zez (x:=x) (l:=r);simp only [alk,Au,BT,not_or]
   by_cases h:x=p.1
   rw [if_pos h];simp [h];rw [if_neg h,ih];simp [h]
theorem zjZ {x:κ} {v:α}: ∀{l:List (κ×α)},alk x l=none->zC x v l=l++[(x,v)]
 |[],_=>rfl
 |p::r,h=>by
   simp only [alk] at h
   by_cases hx:x=p.1
   rw [if_pos hx] at h;cases h;rw [if_neg hx] at h;simp only [zC,if_neg hx,AY,zjZ h]
theorem znI {x y:κ} {v:α}: ∀{l:List (κ×α)},y∈(zC x v l).map (·.1)↔y=x\/y∈l.map (·.1)
 |[]=>by simp [zC]
 |p::r=>by
   have ih:=znI (x:=x) (y:=y) (v:=v) (l:=r);simp only [zC]
   by_cases h:x=p.1
   subst h;rw [if_pos rfl];simp;rw [if_neg h];simp only [Au,BT,ih]
   constructor
   rintro (h|h|h);exact .inr (.inl h);exact .inl h;exact .inr (.inr h);rintro (h|h|h);exact .inr (.inl h);exact .inl h;exact .inr (.inr h)
def ANodup (l:List (κ×α)):Prop:=(l.map (·.1)).Nodup
theorem ANodup.nil {A B:Type}:ANodup ([]:List (A×B)):=BO
theorem ANodup.put {x:κ} {v:α}: ∀{l:List (κ×α)},ANodup l->ANodup (zC x v l)
 |[],_=>by simp [ANodup,zC]
 |p::r,hn=>by
   have h1:=(List.nodup_cons.1 hn)
   by_cases h:x=p.1
   subst h;have e:zC p.1 v (p::r)=(p.1,v)::r:=by simp [zC]
   rw [e];exact List.nodup_cons.2 h1;have e:zC x v (p::r)=p::zC x v r:=by simp [zC,h]
   rw [e];refine List.nodup_cons.2 ⟨fun hm=> ?_,ANodup.put (l:=r) h1.2⟩
   rcases znI.1 hm with e|e
   exact h e.symm;exact h1.1 e
theorem zek {x:κ} {v:α}: ∀{l:List (κ×α)},ANodup l->((x,v)∈l↔alk x l=some v)
 |[],_=>by simp [alk]
 |p::r,hn=>by
   have h1:=(List.nodup_cons.1 hn);have ih:=zek (x:=x) (v:=v) (l:=r) h1.2;simp only [BT,alk]
   by_cases h:x=p.1
   subst h;rw [if_pos rfl]
   constructor
   rintro (h|h);rw [<-h];exact absurd (Bq (f:=(·.1)) h) h1.1
   intro h;left;simp at h;rw [<-h]
   rw [if_neg h,<-ih]
   constructor
   rintro (h'|h');exact absurd (by rw [<-h']) h;exact h';exact .inr
theorem zbO {x:κ} {v:α}: ∀{l:List (κ×α)},alk x l=some v->(x,v)∈l
 |[],h=>by simp [alk] at h
 |p::r,h=>by
   simp only [alk] at h
   by_cases hx:x=p.1
   rw [if_pos hx] at h;cases h;rw [hx];exact Aj;rw [if_neg hx] at h;exact Am _ (zbO h)
theorem zub (x:κ) (v:α): ∀(l:List (κ×α)),(zC x v l).length=if (alk x l).isSome then l.length else l.length+1
 |[]=>by simp [zC,alk]
 |p::r=>by
   have ih:=zub x v r
   by_cases h:x=p.1
   have e1:zC x v (p::r)=(x,v)::r:=by simp [zC,h]
   have e2:alk x (p::r)=some p.2:=by simp [alk,h]
   rw [e1,e2];simp;have e1:zC x v (p::r)=p::zC x v r:=by simp [zC,h]
   have e2:alk x (p::r)=alk x r:=by simp [alk,h]
   rw [e1,e2,Ai,ih];split<;>simp
theorem zlR (x:κ) (v:α) (l:List (κ×α)):(zC x v l).length<=l.length+1:=by rw [zub];split<;>omega
theorem zc5 {x:κ} {v:α} {p:κ×α}: ∀{l:List (κ×α)},p∈zC x v l->p=(x,v)\/p∈l
 |[],hp=>by simp [zC] at hp;exact .inl hp
 |q::r,hp=>by
   simp only [zC] at hp
   by_cases h:x=q.1
   rw [if_pos h] at hp
   rcases List.mem_cons.1 hp with e|e
   exact .inl e;exact .inr (Am _ e);rw [if_neg h] at hp
   rcases List.mem_cons.1 hp with e|e
   exact .inr (e▸Aj)
   rcases zc5 e with e|e
   exact .inl e;exact .inr (Am _ e)
theorem zm5 (f:α->HVal) (s:Str): ∀L:List (Str×α),(z6 s (em f L)).map (·.2)=(alk s L).map f
 |[]=>rfl
 |p::r=>by
   have ih:=zm5 f s r;obtain ⟨k,v⟩:=p;simp only [Au,z6,alk] at ih⊢
   by_cases h:s=k
   rw [if_pos h,if_pos h];rfl;rw [if_neg h,if_neg h,<-ih];cases z6 s (r.map fun p=>(p.1,f p.2))<;>rfl
theorem zwD (f:α->HVal) (s:Str) (v:α): ∀L:List (Str×α),sput s (f v) (em f L)=em f (zC s v L)
 |[]=>rfl
 |p::r=>by
   have ih:=zwD f s v r;obtain ⟨k,u⟩:=p;simp only [sput,Au,z6,zC] at ih⊢
   by_cases h:s=k
   subst h;rw [if_pos rfl,if_pos rfl];rfl;rw [if_neg h,if_neg h]
   cases hq:z6 s (r.map fun p=>(p.1,f p.2)) with
   |none=>rw [hq] at ih;simp only [Option.map_none,AY,Au,<-ih]
   |some q=>rw [hq] at ih;simp only [AI,Cl,Au,<-ih]
end
section
variable {κ:Type} [DecidableEq κ] {α:Type}
variable {P:Program} {e:Env} {dst:Option Tmp} {ty:TypeId} {pos:String} {af:Array Edge} {g:Option (Nat×Bool)} {M:List MObj} {K:HVal->List MObj->Prop}
theorem zon {f:α->HVal} {o:Option α} {z0:α}:f (o.getD z0)=(o.map f).getD (f z0):=by cases o<;>rfl
theorem zfB [Tracks] {x y:Operand} {t kt et:TypeId} {size bytes s2 b2 s3 b3:Nat} {zero z2 z3:Value} {d:TD} {i b:Nat} {f:α->HVal} {L:List (Str×α)} {s:Str} {z0:α}
 (hf:Fits P t (.map kt et) size bytes zero) (hkt:Fits P kt .str s2 b2 z2) (het:Fits P et d s3 b3 z3) (hx:zh e x=some (.raw (.map (some b)))) (hy:zh e y=some (.str s)) (hm:M[i]? =some (.map b (sk (em f L)))) (hz:zaB z3=f z0)
 (hk:K (f ((alk s L).getD z0)) M):EOp P e M ⟨dst,.lookup t x y false,ty,pos,af,g⟩ K:=by
 refine zmO hf hkt het hx hy hm ?_;rw [zon (f:=f),<-zm5,<-hz] at hk
 cases h:z6 s (em f L) with
 |none=>rw [h] at hk;exact hk
 |some p=>rw [h] at hk;exact hk
theorem zkl [Tracks] {x y:Operand} {t kt et:TypeId} {size bytes s2 b2 s3 b3:Nat} {zero z2 z3:Value} {d:TD} {i b:Nat} {f:α->HVal} {L:List (Str×α)} {s:Str} {z0:α}
 (hf:Fits P t (.map kt et) size bytes zero) (hkt:Fits P kt .str s2 b2 z2) (het:Fits P et d s3 b3 z3) (hx:zh e x=some (.raw (.map (some b)))) (hy:zh e y=some (.str s)) (hm:M[i]? =some (.map b (sk (em f L)))) (hz:zaB z3=f z0)
 (hk:K (.tup [f ((alk s L).getD z0),.bool (alk s L).isSome]) M):EOp P e M ⟨dst,.lookup t x y true,ty,pos,af,g⟩ K:=by
 refine zvG hf hkt het hx hy hm ?_;have h1:(alk s L).isSome=((alk s L).map f).isSome:=by cases alk s L<;>rfl
 rw [zon (f:=f),h1,<-zm5,<-hz] at hk
 cases h:z6 s (em f L) with
 |none=>rw [h] at hk;exact hk
 |some p=>rw [h] at hk;exact hk
theorem zdK [Tracks] {x y z:Operand} {t kt et:TypeId} {size bytes s2 b2:Nat} {zero z2:Value} {i b:Nat} {f:α->HVal} {L:List (Str×α)} {s:Str} {v:α}
 (hf:Fits P t (.map kt et) size bytes zero) (hkt:Fits P kt .str s2 b2 z2) (hx:zh e x=some (.raw (.map (some b)))) (hy:zh e y=some (.str s)) (hz:zh e z=some (f v)) (hm:M[i]? =some (.map b (sk (em f L))))
 (hk:K .junk (M.set i (.map b (sk (em f (zC s v L)))))):EOp P e M ⟨dst,.mapUpdate t x y z,ty,pos,af,g⟩ K:=by
 refine znn hf hkt hx hy hz hm ?_;rw [zwD];exact hk
variable {kt:TypeId} {ek:κ->HVal}
theorem zeV [Tracks] {x y:Operand} {t et:TypeId} {size bytes s3 b3:Nat} {zero z3:Value} {d:TD} {i b:Nat} {f:α->HVal} {L:List (κ×α)} {s:κ} {z0:α}
 (hf:Fits P t (.map kt et) size bytes zero) (ok:KeyOk P kt ek) (het:Fits P et d s3 b3 z3) (hx:zh e x=some (.raw (.map (some b)))) (hy:zh e y=some (ek s)) (hm:M[i]? =some (.map b (kk ek (em f L)))) (hz:zaB z3=f z0)
 (hk:K (f ((alk s L).getD z0)) M):EOp P e M ⟨dst,.lookup t x y false,ty,pos,af,g⟩ K:=by
 refine zvH hf ok het hx hy hm ?_;rw [zon (f:=f),<-hz] at hk;rw [zoy];exact hk
theorem ztp [Tracks] {x y:Operand} {t et:TypeId} {size bytes s3 b3:Nat} {zero z3:Value} {d:TD} {i b:Nat} {f:α->HVal} {L:List (κ×α)} {s:κ} {z0:α}
 (hf:Fits P t (.map kt et) size bytes zero) (ok:KeyOk P kt ek) (het:Fits P et d s3 b3 z3) (hx:zh e x=some (.raw (.map (some b)))) (hy:zh e y=some (ek s)) (hm:M[i]? =some (.map b (kk ek (em f L)))) (hz:zaB z3=f z0)
 (hk:K (.tup [f ((alk s L).getD z0),.bool (alk s L).isSome]) M):EOp P e M ⟨dst,.lookup t x y true,ty,pos,af,g⟩ K:=by
 refine zux hf ok het hx hy hm ?_;have h1:((alk s L).map f).isSome=(alk s L).isSome:=by cases alk s L<;>rfl
 rw [zon (f:=f),<-hz] at hk;rw [zoy,h1];exact hk
theorem zoe [Tracks] {x y:Operand} {t et:TypeId} {size bytes s3 b3:Nat} {zero z3:Value} {d:TD} {i b j st:Nat} {f:α->HVal} {L:List (κ×α)} {s:κ} {z0:α}
 (hf:Fits P t (.map kt et) size bytes zero) (ok:KeyOk P kt ek) (het:Fits P et d s3 b3 z3) (hx:zh e x=some (.raw (.map (some b)))) (hy:zh e y=some (ek s)) (hm:M[i]? =some (.mape b (kk ek (zdv s (f z0) (em f L))) j st)) (hz:zaB z3=f z0)
 (hk:K (f ((alk s L).getD z0)) M):EOp P e M ⟨dst,.lookup t x y false,ty,pos,af,g⟩ K:=by
 have h0:f ((alk s L).getD z0)=(klk s (zdv s (f z0) (em f L))).getD (zaB z3):=by rw [hz,zAa,zoy,zon (f:=f)]
 rw [h0] at hk
 generalize zdv s (f z0) (em f L)=ls at hm hk
 exact EOp.of_run fun I F a w ho hs=>by
  have h1:=(ho.one (x:=x) (by simp [Op.operands]) hx).raw_inv;have h2:=ho.one (x:=y) (by simp [Op.operands]) hy;obtain ⟨es,clk,h3,h4,h5,_⟩:=hs.obj _ (An _ (Ab hm));obtain ⟨h6,h7⟩:=zox h4.1 h5;obtain ⟨n1,n2⟩:=ziF ok h2 w es.toList ls 0 h6 h7;have hfk:=ok.run_key h2 w es.toList ls h6 h7
  cases hq:zbG s ls with
  |none=>
    rw [(ze7 hq).1] at hk;refine ⟨z3,_,M,w,I,?_,.refl I,hk,zfv I z3,hs⟩
    simp only [execOp,h1,Instr.lookup,Sem.run_bind,run_underlying hf.mapD,Result.andThen_ok,zaJ h3,Sem.run_pure,ok.check I s _ _ w h2,hfk,n1 hq,het.run_zero]
    simp
  |some j'=>
    obtain ⟨m,h,g1,g2,g3,g4⟩:=n2 j' hq;obtain ⟨h',g5,g6,_⟩:=zev hq;rw [g5] at g2;cases g2;rw [g6] at hk;refine ⟨m.val,_,M,w,I,?_,.refl I,hk,g3,hs⟩
    simp only [execOp,h1,Instr.lookup,Sem.run_bind,run_underlying hf.mapD,Result.andThen_ok,zaJ h3,Sem.run_pure,ok.check I s _ _ w h2,hfk,g4]
    simp
theorem zge [Tracks] {x y z:Operand} {t et:TypeId} {size bytes:Nat} {zero:Value} {i b:Nat} {f:α->HVal} {L:List (κ×α)} {s:κ} {v:α}
 (hf:Fits P t (.map kt et) size bytes zero) (ok:KeyOk P kt ek) (hx:zh e x=some (.raw (.map (some b)))) (hy:zh e y=some (ek s)) (hz:zh e z=some (f v)) (hm:M[i]? =some (.map b (kk ek (em f L))))
 (hk:K .junk (M.set i (.map b (kk ek (em f (zC s v L)))))):EOp P e M ⟨dst,.mapUpdate t x y z,ty,pos,af,g⟩ K:=by
 refine zvI hf ok hx hy hz hm ?_;rw [zo2];exact hk
theorem znl [Tracks] {x y:Operand} {t et:TypeId} {size bytes s3 b3:Nat} {zero z3:Value} {d:TD} {i b:Nat} {f:α->HVal} {L:List (κ×α)} {s:κ} {z0:α}
 (hf:Fits P t (.map kt et) size bytes zero) (ok:KeyOk P kt ek) (het:Fits P et d s3 b3 z3) (hx:zh e x=some (.raw (.map (some b)))) (hy:zh e y=some (ek s)) (hm:M[i]? =some (.map b (kk ek (em f L)))) (hz:zaB z3=f z0)
 (hk: ∀(j st:Nat),zbG s (zdv s (f z0) (em f L))=some j->K (.tup [f ((alk s L).getD z0),.int .i64 (st:Int)]) (M.set i (.mape b (kk ek (zdv s (f z0) (em f L))) j st))):EOp P e M ⟨dst,.mapEntry t x y,ty,pos,af,g⟩ K:=by
 refine zof hf ok het hx hy hm ?_;rw [hz];have h1:(klk s (em f L)).getD (f z0)=f ((alk s L).getD z0):=by rw [zoy];cases alk s L<;>rfl
 rw [h1];exact hk
theorem zkT [Tracks] {x y z:Operand} {t:TypeId} {i b j st:Nat} {f:α->HVal} {L:List (κ×α)} {s:κ} {z0 v:α}
 (hx:zh e x=some (.raw (.map (some b)))) (hy:zh e y=some (.int .i64 (st:Int))) (hz:zh e z=some (f v)) (hm:M[i]? =some (.mape b (kk ek (zdv s (f z0) (em f L))) j st)) (hj:zbG s (zdv s (f z0) (em f L))=some j)
 (hk:K .junk (M.set i (.map b (kk ek (em f (zC s v L)))))):EOp P e M ⟨dst,.entryStore t x y z,ty,pos,af,g⟩ K:=by
 refine zl0 hx hy hz hm hj ?_;rw [zsC,zo2];exact hk
theorem zer [Tracks] {x:Operand} {t kt' et:TypeId} {size bytes:Nat} {zero:Value} {i b:Nat} {l:List (HVal×HVal)} (hf:Fits P t (.map kt' et) size bytes zero) (hx:zh e x=some (.raw (.map (some b)))) (hm:M[i]? =some (.map b l))
 (hk:K (.int .i64 (l.length:Int)) M):EOp P e M ⟨dst,.call ⟨.builtin .len,#[x],#[t]⟩,ty,pos,af,g⟩ K:=
 EOp.of_run fun I F a w ho hs=>by
  have h1:=(ho.one (x:=x) (by simp [Op.operands,Call.operands]) hx).raw_inv;obtain ⟨es,clk,h3,h4,h5⟩:=hs.obj _ (An _ (Ab hm));exact ⟨.int .i64 (es.size:Int),_,M,w,I,by rw [zma (ats:= #[])];simp [h1,Builtin.len_,run_underlying hf.mapD,zaJ h3,goInt],.refl I,hk,by rw [h4.1];exact .int _ _,hs⟩
end
end
section
open Go.Sort Go.Proofs
structure Play where
 Source:Str
 No:Int
 At:Int
 Week:Int
 Match:Str
 Player:Str
 Stat:Str
 Count:Int
 Undo:Int
structure StatS where
 Name:Str
 Count:Int
structure LineS where
 Player:Str
 Week:Int
 Stats:List StatS
abbrev zau (x:Play):HVal:= .agg [.str x.Source,.int .i64 x.No,.int .i64 x.At,.int .i64 x.Week,.str x.Match,.str x.Player,.str x.Stat,.int .i64 x.Count,.int .i64 x.Undo]
abbrev zbE (l:List Play):HVal:= .slice 9 (l.map zau)
abbrev zbf (x:StatS):HVal:= .agg [.str x.Name,.int .i64 x.Count]
abbrev zyu (l:List StatS):HVal:= .slice 2 (l.map zbf)
abbrev zbQ (x:LineS):HVal:= .agg [.str x.Player,.int .i64 x.Week,zyu x.Stats]
abbrev zfs (l:List LineS):HVal:= .slice 3 (l.map zbQ)
abbrev Num:=Str×Int
abbrev Of2:=Str×Str
abbrev ziz (x:Num):HVal:= .agg [.str x.1,.int .i64 x.2]
abbrev eOf (x:Of2):HVal:= .agg [.str x.1,.str x.2]
def zmY:Play:=⟨[],0,0,0,[],[],[],0,0⟩
def zaQ (n:Int):Bool:= !(out n 1 60)
def playFault (p:Play):Int:=
 if !(key p.Source) then 5 else if out p.No 1 3000|| !(zaa p.At)|| !(zaQ p.Week) then 1
 else if !(key p.Match)|| !(key p.Player)|| !(key p.Stat) then 5
 else if out p.Count (-100000) 100000||out p.Undo 0 (p.No-1) then 1
 else if decide (0<p.Undo)&&decide (p.Count≠0) then 3 else 0
def byNo (a b:Play):Int:=orI [zY a.Source b.Source,zaj a.No b.No]
def zb7 (l:List Play):Nat->List Play->Int
 |_,[]=>0
 |k,p::r=>if playFault p≠0 then playFault p else if 0<k/\byNo p (l.getD (k-1) zmY)<=0 then 7 else zb7 l (k+1) r
structure ChkS where
 S:List Str
 W:List (Str×Int)
 c:Bool
def ziw (q:ChkS) (p:Play):ChkS:=
 ⟨zb8 p.Source q.S,zC p.Match p.Week q.W,q.c||((alk p.Match q.W).isSome&&((alk p.Match q.W).getD 0 !=p.Week))⟩
def zbx (l:List Play):ChkS:=l.foldl ziw ⟨[],[],false⟩
theorem zfg {l:List Play} {k:Nat} {x:Play} (h:l[k]? =some x):zbx (l.take (k+1))=ziw (zbx (l.take k)) x:=by
 rw [zaf h];simp [zbx,Bc]
def ze8 (q:ChkS):Int:=if 20<q.S.length\/400<q.W.length then 2 else if q.c then 13 else 0
def zbT (l:List Play):Int:=if 3000<l.length then 2 else if zb7 l 0 l≠0 then zb7 l 0 l else ze8 (zbx l)
theorem zmZ {l:List Play} {k:Nat} {x:Play} {r:List Play} (h1:playFault x=0) (h2:0<k->¬byNo x (l.getD (k-1) zmY)<=0):zb7 l k (x::r)=zb7 l (k+1) r:=by
 rw [zb7,if_neg (by simp [h1]),if_neg (fun h=>h2 h.1 h.2)]
theorem zkZ {l:List Play} {c:Int} (h1:l.length<=3000) (h:zb7 l 0 l=c) (hc:c≠0):zbT l=c:=by
 rw [zbT,if_neg (by omega),if_pos (by rw [h];exact hc),h]
theorem zfE {l:List Play} (h1:l.length<=3000) (h:zb7 l 0 l=0):zbT l=ze8 (zbx l):=by
 rw [zbT,if_neg (by omega),if_neg (by simp [h])]
theorem zsQ {l:List Play} (h:zbT l=0):l.length<=3000/\zb7 l 0 l=0:=by
 unfold zbT at h
 split at h
 omega
 split at h
 contradiction
 rename_i h1 h2;exact ⟨by omega,by simpa using h2⟩
theorem zeY {p:Play} (h:playFault p=0):key p.Source=true/\(1<=p.No/\p.No<=3000)/\zaa p.At=true/\zaQ p.Week=true/\(key p.Match=true/\key p.Player=true/\key p.Stat=true)/\(-100000<=p.Count/\p.Count<=100000)/\(0<=p.Undo/\p.Undo<=p.No-1):=by
 unfold playFault at h
 split at h
 omega
 split at h
 omega
 split at h
 omega
 split at h
 omega
 rename_i h1 h2 h3 h4
 simp only [Bv,BY,not_or,Bool.not_eq_false,Bool.not_eq_true] at h1 h2 h3 h4;exact ⟨h1,zfk h2.1.1,h2.1.2,h2.2,⟨h3.1.1,h3.1.2,h3.2⟩,zfk h4.1,zfk h4.2⟩
theorem zq7 {l:List Play}: ∀(r:List Play) (k:Nat),zb7 l k r=0->∀x∈r,playFault x=0
 |[],_,_,x,hx=>by cases hx
 |p::r,k,h,x,hx=>by
   rw [zb7] at h
   split at h
   contradiction
   split at h
   omega
   rename_i h1 _
   rcases List.mem_cons.1 hx with rfl|hx
   simpa using h1
   exact zq7 r (k+1) h x hx
theorem ziO {l:List Play} (h:zbT l=0): ∀x∈l,playFault x=0:=zq7 l 0 (zsQ h).2
/-! the source that counts-/
def zeA (trust:List Str) (at':Int) (B:List (Str×Int)) (p:Play):List (Str×Int):=
 if at'<p.At\/zdD p.Source trust 0<0 then B
 else if (alk p.Match B).isSome=false\/zdD p.Source trust 0<(alk p.Match B).getD 0 then zC p.Match (zdD p.Source trust 0) B else B
def zfL (l:List Play) (trust:List Str) (at':Int):List (Str×Int):=l.foldl (zeA trust at') []
theorem zmm {l:List Play} {trust:List Str} {at':Int} {k:Nat} {x:Play} (h:l[k]? =some x):zfL (l.take (k+1)) trust at'=zeA trust at' (zfL (l.take k) trust at') x:=by
 rw [zaf h];simp [zfL,Bc]
def zpa (l:List Play) (trust:List Str) (at':Int) (m:Str):Option Str:=(alk m (zfL l trust at')).map fun k=>trust.getD k.toNat []
/-! what is taken back-/
def zo4 (at':Int) (A:List (Num×Play)) (p:Play):List (Num×Play):=if p.At<=at' then zC (p.Source,p.No) p A else A
def zp3 (l:List Play) (at':Int):List (Num×Play):=l.foldl (zo4 at') []
theorem zsO {l:List Play} {at':Int} {k:Nat} {x:Play} (h:l[k]? =some x):zp3 (l.take (k+1)) at'=zo4 at' (zp3 (l.take k) at') x:=by
 rw [zaf h];simp [zp3,Bc]
def zvs (q p:Play):Bool:=decide (q.Undo=0)&&decide (q.Match=p.Match)&&decide (q.Player=p.Player)&&decide (q.Stat=p.Stat)
def zkm (A:List (Num×Play)) (at':Int) (G:List (Num×Bool)) (p:Play):List (Num×Bool):=
 if at'<p.At\/p.Undo=0 then G else if (alk (p.Source,p.Undo) A).isSome=true/\zvs ((alk (p.Source,p.Undo) A).getD zmY) p=true then zC (p.Source,p.Undo) true G else G
def zop (A:List (Num×Play)) (at':Int) (l:List Play):List (Num×Bool):=l.foldl (zkm A at') []
def zmR (l:List Play) (at':Int):List (Num×Bool):=zop (zp3 l at') at' l
theorem zlu {A:List (Num×Play)} {l:List Play} {at':Int} {k:Nat} {x:Play} (h:l[k]? =some x):zop A at' (l.take (k+1))=zkm A at' (zop A at' (l.take k)) x:=by
 rw [zaf h];simp [zop,Bc]
def zuJ (l:List Play) (at':Int) (x:Num):Bool:=(alk x (zmR l at')).getD false
/-! lines-/
def zov (l:List Play) (trust:List Str) (week at':Int) (p:Play):Bool:=
 !(decide (at'<p.At)||p.Week !=week||decide (0<p.Undo)||zuJ l at' (p.Source,p.No)||(zpa l trust at' p.Match).getD [] !=p.Source)
structure LnS where
 S:List Str
 c:List (Of2×Int)
def zBR (q:LnS) (p:Play):LnS:=⟨zb8 p.Player q.S,zC (p.Player,p.Stat) ((alk (p.Player,p.Stat) q.c).getD 0+p.Count) q.c⟩
def zh4 (l:List Play) (trust:List Str) (week at':Int) (q:LnS) (p:Play):LnS:=if zov l trust week at' p then zBR q p else q
def zcJ (l:List Play) (trust:List Str) (week at':Int) (m:List Play):LnS:=m.foldl (zh4 l trust week at') ⟨[],[]⟩
theorem zsF {l m:List Play} {trust:List Str} {week at':Int} {k:Nat} {x:Play} (h:m[k]? =some x):zcJ l trust week at' (m.take (k+1))=zh4 l trust week at' (zcJ l trust week at' (m.take k)) x:=by
 rw [zaf h];simp [zcJ,Bc]
def zbc (a b:StatS):Int:=zY a.Name b.Name
def zbl (c:List (Of2×Int)) (s:Str):List StatS:=(c.filter fun e=>e.1.1==s&&e.2 !=0).map fun e=>⟨e.1.2,e.2⟩
def zdR (c:List (Of2×Int)) (s:Str):List StatS:=zao zbc (zbl c s)
def zg5 (c:List (Of2×Int)) (S:List Str):Bool:=c.any (fun e=>out e.2 (-100000) 100000)||S.any (fun s=>decide (40<(zbl c s).length))
def zix (c:List (Of2×Int)) (S:List Str):Int:=if zg5 c S then 12 else 0
def zhF (c:List (Of2×Int)) (S:List Str) (week:Int):List LineS:=if zg5 c S then [] else (zbh S).map fun s=>⟨s,week,zdR c s⟩
def zh3 (l:List Play) (trust:List Str) (week at':Int):Int:=zix (zcJ l trust week at' l).c (zcJ l trust week at' l).S
def zd1 (l:List Play) (trust:List Str) (week at':Int):List LineS:=zhF (zcJ l trust week at' l).c (zcJ l trust week at' l).S week
/-! order of trust-/
def zeo (l:List Str):Nat->List Str->Int
 |_,[]=>0
 |k,s::r=>if !(key s) then 5 else if (l.take k).contains s then 6 else zeo l (k+1) r
def zcb (l:List Str):Int:=if 20<l.length then 2 else zeo l 0 l
theorem zwf {s:Str} (h:key s=true):s.length<=40:=by
 simp only [key,zjB,A2,decide_eq_true_eq] at h;exact h.1.1.1.2
theorem zuK {s:Str} (h:key s=true):s≠[]:=by
 simp only [key,zjB,A2,bne_iff_ne] at h;exact h.1.1.1.1
/-! a list that a sort leaves-/
theorem zfQ {α:Type} {c:α->α->Int} (hc:Cmp c fun _=>True) {l l':List α} (he: ∀x y,x∈l->y∈l->c x y=0->x=y) (hp:l'.Perm l) (hw:l'.Pairwise fun a b=> ¬c b a<0):l'=zao c l:=by
 have hs:=zgj hc (l:=l) (fun _ _=>trivial);have hw':l'.Pairwise fun a b=>c a b<=0:=hw.imp fun {a b} h=>by
  have:=hc.flip b a trivial trivial
  omega
 refine List.Perm.eq_of_pairwise (le:=fun a b=>c a b<=0) (fun a b ha hb h1 h2=> ?_) hw' hs (hp.trans (zbp c l).symm)
 have f1:=hc.flip a b trivial trivial;exact he a b (hp.mem_iff.1 ha) ((zbp c l).mem_iff.1 hb) (by omega)
theorem zdr:Cmp zbc fun _=>True where
 flip x y _ _:=by unfold zbc;rw [ze5 x.Name y.Name];omega
 trans x y z _ _ _ h1 h2:=zjA h1 h2
theorem zpb {α:Type} {c:α->α->Int} (hc:Cmp c fun _=>True):SWO (ltOf c):=by
 have h: ∀a b,ltOf c a b=decide (c a b<0):=fun a b=>rfl
 refine ⟨fun x=> ?_,fun x y z h1 h2=> ?_,fun x y z h1 h2=> ?_⟩
 rw [h];have:=hc.flip x x trivial trivial;simp;omega;rw [h] at*;simp only [decide_eq_true_eq] at*;have a1:=hc.trans x y z trivial trivial trivial (by omega) (by omega)
 rcases Int.lt_or_eq_of_le a1 with e|e
 exact e
 exfalso
 have f1:=hc.flip x z trivial trivial;have a2:=hc.trans z x y trivial trivial trivial (by have:=hc.flip z x trivial trivial;omega) (by omega);have f2:=hc.flip y z trivial trivial
 omega
 rw [h] at*;simp only [decide_eq_false_iff_not] at*;have f1:=hc.flip x y trivial trivial;have f2:=hc.flip y z trivial trivial;have f3:=hc.flip x z trivial trivial;have g1:=hc.flip y x trivial trivial;have g2:=hc.flip z y trivial trivial;have g3:=hc.flip z x trivial trivial;have:=hc.trans z y x trivial trivial trivial (by omega) (by omega)
 omega
end
section
theorem zp2 {α:Type} {l:List α} (h:l.Nodup) {i j:Nat} {a:α} (hi:l[i]? =some a) (hj:l[j]? =some a):i=j:=by
 have key: ∀(i j:Nat),i<j->l[i]? =some a->l[j]? =some a->False:=fun i j hij h1 h2=>by
  have hi:=zp h1;have hj:=zp h2;rw [Aa hi] at h1;rw [Aa hj] at h2;exact List.pairwise_iff_getElem.1 h i j hi hj hij (Aw (h1.trans h2.symm))
 rcases B0 i j with h'|h'|h'
 exact (key i j h' hi hj).elim;exact h';exact (key j i h' hj hi).elim
/-! what a range has come to-/
structure VisOk {β:Type} (L:List β) (vis:List Nat) (E:List β):Prop where
 nd:vis.Nodup
 lt: ∀j∈vis,j<L.length
 eq:E.map some=vis.map fun j=>L[j]?
theorem VisOk.nil {β:Type} (L:List β):VisOk L [] []:=⟨BO,(fun j h=>by cases h),rfl⟩
theorem VisOk.step {β:Type} {L E:List β} {vis:List Nat} (h:VisOk L vis E) {j:Nat} {q:β} (hj:L[j]? =some q) (hn:j∉vis):VisOk L (vis++[j]) (E++[q]) where
 nd:=List.nodup_append.2 ⟨h.nd,by simp,fun a ha b hb=>by simp at hb;subst hb;exact fun e=>hn (e▸ha)⟩
 lt k hk:=by
  rcases List.mem_append.1 hk with hk|hk
  exact h.lt k hk
  simp at hk;subst hk;exact zp hj
 eq:=by simp only [Ay,h.eq,Au,Ba,hj]
theorem VisOk.len {β:Type} {L E:List β} {vis:List Nat} (h:VisOk L vis E):E.length=vis.length:=by
 have:=congrArg List.length h.eq;simpa using this
theorem VisOk.le {β:Type} {L E:List β} {vis:List Nat} (h:VisOk L vis E):vis.length<=L.length:=by
 have:=zoC h.nd (m:=List.range L.length) fun j hj=>List.mem_range.2 (h.lt j hj)
 simpa using this
theorem VisOk.room {β:Type} {L E:List β} {vis:List Nat} (h:VisOk L vis E) {j:Nat} {q:β} (hj:L[j]? =some q) (hn:j∉vis):vis.length<L.length:=by
 have:=(h.step hj hn).le;rw [Av] at this;simp only [Ai,AC] at this
 omega
theorem VisOk.done {β:Type} {L E:List β} {vis:List Nat} (h:VisOk L vis E) (hl:vis.length=L.length):E.Perm L:=by
 have hp:vis.Perm (List.range L.length):=by
  refine (List.perm_ext_iff_of_nodup h.nd List.nodup_range).2 fun a=>⟨fun ha=>List.mem_range.2 (h.lt a ha),fun ha=> ?_⟩
  refine Classical.byContradiction fun hna=> ?_
  have h1:(a::vis).Nodup:=List.nodup_cons.2 ⟨hna,h.nd⟩;have h2:=zoC h1 (m:=List.range L.length) fun j hj=>by
   rcases List.mem_cons.1 hj with rfl|hj
   exact ha;exact List.mem_range.2 (h.lt j hj)
  simp at h2;omega
 have h1:=hp.map fun j=>L[j]?
 rw [<-h.eq] at h1;have h2:((List.range L.length).map fun j=>L[j]?)=L.map some:=by
  refine Bo fun i=> ?_
  rw [Ag,Ag]
  rcases AD i L.length with hi|hi
  rw [Bp hi,Aa hi];simp [hi];rw [Ax (by simpa using hi),Ax hi];rfl
 rw [h2] at h1;have h3:=h1.filterMap id;have key: ∀l:List β,(l.map some).filterMap id=l:=fun l=>by
  induction l with
  |nil=>rfl
  |cons x l ih=>simp [ih]
 rwa [key,key] at h3
def NextOk {β:Type} (L:List β) (vis:List Nat) (c:Bool) (vis':List Nat):Prop:=
 (c=false/\vis'=vis/\vis.length=L.length)\/(c=true/\∃j q,L[j]? =some q/\j∉vis/\vis'=vis++[j])
theorem NextOk.t {β:Type} {L:List β} {vis vis':List Nat} {c:Bool} (h:NextOk L vis c vis') (hc:c=true): ∃j q,L[j]? =some q/\j∉vis/\vis'=vis++[j]:=by
 rcases h with ⟨h,_⟩|⟨_,h⟩
 rw [hc] at h;cases h;exact h
theorem NextOk.f {β:Type} {L:List β} {vis vis':List Nat} {c:Bool} (h:NextOk L vis c vis') (hc:c=false):vis'=vis/\vis.length=L.length:=by
 rcases h with ⟨_,h⟩|⟨h,_⟩
 exact h;rw [hc] at h;cases h
section
variable {P:Program} {e:Env} {dst:Option Tmp} {ty:TypeId} {pos:String} {af:Array Edge} {g:Option (Nat×Bool)} {M:List MObj} {K:HVal->List MObj->Prop}
theorem zsV {α:Type}: ∀{M:List α} {i:Nat} {m:α},M[i]? =some m->M.set i m=M
 |[],i,m,h=>by simp at h
 |x::M,0,m,h=>by simp at h;simp [h]
 |x::M,i+1,m,h=>by simp at h;simp [zsV h]
theorem zog [Tracks] {β:Type} {L:List β} {enc:β->HVal×HVal} {x:Operand} {i r b:Nat} {l:List (HVal×HVal)} {vis:List Nat} (hx:zh e x=some (.raw (.pointer (some ⟨r,0,none⟩)))) (hm:M[i]? =some (.iter r b l vis)) (hL:l=L.map enc)
 (hv:vis.Nodup) (hvl: ∀j∈vis,j<L.length) (hk: ∀c R vis',NextOk L vis c vis'->K (.tup (.bool c::R)) (M.set i (.iter r b l vis'))):EOp P e M ⟨dst,.next x false,ty,pos,af,g⟩ K:=by
 have hl:l.length=L.length:=by rw [hL,Ah]
 refine zzT hx hm hv (fun j hj=>by rw [hl];exact hvl j hj) (fun hlen=> ?_) (fun j p hj hn=> ?_)
 have:=hk false [] vis (.inl ⟨rfl,rfl,by rw [hlen,hl]⟩);rw [zsV hm] at this;exact this;rw [hL,Ag] at hj
 cases hq:L[j]? with
 |none=>rw [hq] at hj;cases hj
 |some q=>exact hk true [p.1,p.2] (vis++[j]) (.inr ⟨rfl,j,q,hq,hn,rfl⟩)
theorem zmN [Tracks] {β:Type} {L:List β} {enc:β->HVal×HVal} {x:Operand} {i r b j:Nat} {l:List (HVal×HVal)} {vis:List Nat} {q:β} (hx:zh e x=some (.raw (.pointer (some ⟨r,0,none⟩)))) (hm:M[i]? =some (.iter r b l (vis++[j]))) (hL:l=L.map enc) (hq:L[j]? =some q)
 (hk:K (.tup [(enc q).1,(enc q).2]) M):EOp P e M ⟨dst,.entry x,ty,pos,af,g⟩ K:=
 zyy hx hm (p:=enc q) (by rw [hL,Ag,hq];rfl) hk
theorem zB2 {α:Type} (f:α->HVal) (L:List (Str×α)):sk (em f L)=L.map fun p=>(.str p.1,f p.2):=by simp [sk]
theorem ztI {κ α:Type} [DecidableEq κ] (ek:κ->HVal) (f:α->HVal) (L:List (κ×α)):kk ek (em f L)=L.map fun p=>(ek p.1,f p.2):=by simp [kk]
end
theorem zGu {α:Type} {a b c d:α} {X:List α}:(a::b::c::d::X).Perm (a::d::c::b::X):=
 List.Perm.cons a (((List.Perm.swap c b (d::X)).trans ((List.Perm.swap d b X).cons c)).trans (((List.Perm.swap d c (b::X)))))
/-! maps whose values are owned slices-/
section
variable {β:Type}
abbrev Grp (β:Type):=List (Str×(Value×List β))
abbrev fG {β:Type} (q:Value×List β):HVal:= .raw q.1
abbrev gZ (β:Type):Value×List β:=(.slice none 0 0,[])
def gV (s:Str) (G:Grp β):Value:=((alk s G).getD (gZ β)).1
def gL (s:Str) (G:Grp β):List β:=((alk s G).getD (gZ β)).2
def grp (sz:Nat) (e:β->HVal) (G:Grp β):List MObj:=G.map fun p=> .arr p.2.1 sz (p.2.2.map e)
theorem zv0 {κ α:Type} [DecidableEq κ] {s:κ} {v:α}: ∀{G:List (κ×α)},alk s G=some v->∃n,G[n]? =some (s,v)/\∀u,zC s u G=G.set n (s,u)
 |[],h=>by simp [alk] at h
 |p::r,h=>by
   simp only [alk] at h
   by_cases hs:s=p.1
   rw [if_pos hs] at h;simp only [AA] at h;subst h;exact ⟨0,by simp [hs],fun u=>by simp [zC,hs]⟩;rw [if_neg hs] at h;obtain ⟨n,h1,h2⟩:=zv0 h;exact ⟨n+1,by simpa using h1,fun u=>by simp [zC,hs,h2]⟩
theorem zmj {κ α:Type} [DecidableEq κ] {s:κ} {p:κ->Bool}: ∀{G:List (κ×α)},alk s (G.filter fun q=>p q.1)=if p s then alk s G else none
 |[]=>by simp [alk]
 |q::r=>by
   have ih:=zmj (s:=s) (p:=p) (G:=r);rw [AU]
   by_cases hq:p q.1=true
   rw [if_pos hq];simp only [alk]
   by_cases hs:s=q.1
   rw [if_pos hs,if_pos hs,hs,if_pos hq];rw [if_neg hs,if_neg hs,ih];rw [if_neg hq,ih];simp only [alk]
   by_cases hs:s=q.1
   rw [hs,if_neg hq,if_neg hq];rw [if_neg hs]
theorem zeW {κ α:Type} [DecidableEq κ] {s:κ} {G:List (κ×α)} (h:alk s G=none):(G.filter fun q=>decide (q.1≠s))=G:=by
 rw [Ca]
 intro q hq
 rw [zez] at h;simp only [decide_eq_true_eq];exact fun e=>h (e▸Bq hq)
theorem zgy {κ α:Type} [DecidableEq κ] {s:κ} {v:α}: ∀{G:List (κ×α)},ANodup G->alk s G=some v->G.Perm ((s,v)::G.filter fun q=>decide (q.1≠s))
 |[],_,h=>by simp [alk] at h
 |p::r,hn,h=>by
   have h1:=List.nodup_cons.1 hn;simp only [alk] at h
   by_cases hs:s=p.1
   ·rw [if_pos hs] at h;simp only [AA] at h;have h2:alk s r=none:=by rw [zez,hs];exact h1.1
    rw [AU,if_neg (by simp [hs]),zeW h2,hs,<-h]
   ·rw [if_neg hs] at h;rw [AU,if_pos (by simp;exact fun e=>hs e.symm)];exact (List.Perm.cons p (zgy h1.2 h)).trans (List.Perm.swap _ _ _)
end
section
variable {P:Program} {e:Env} {dst:Option Tmp} {ty:TypeId} {pos:String} {af:Array Edge} {g:Option (Nat×Bool)} {M:List MObj} {K:HVal->List MObj->Prop} {β:Type} {eb:β->HVal}
theorem zpD [Tracks] {I:Imm} {M:List MObj} {w:World} (sz:Nat) (hs:Sat P I M w):Sat P I (.arr (.slice none 0 0) sz []::M) w where
 imm:=hs.imm
 obj m hm:=by
  rcases List.mem_cons.1 hm with rfl|hm
  exact .inl ⟨rfl,rfl⟩;exact hs.obj m hm
 nodup:=by simp only [blocks,AM,MObj.blocks,Bx];exact hs.nodup
 apart b hb:=hs.apart b (by simpa only [blocks,AM,MObj.blocks,Bx] using hb)
 os:=hs.os
 output:=hs.output
 tape:=hs.tape
 tab:=hs.tab
 low:=hs.low
theorem EOp.pre [Tracks] {M':List MObj} {o:Oper} (hm: ∀I F w,Sat P I (M++F) w->Sat P I (M'++F) w) (h:EOp P e M' o K):EOp P e M o K:=fun I F a w ho hs=>h I F a w ho (hm I F w hs)
theorem znf [Tracks] {o:Oper} (h:EOp P e M o fun x N=> ∃N',N.Perm N'/\K x N'):EOp P e M o K:=fun I F a w ho hs=>
 zba (fun _ _ ⟨v,x,M',J,h1,h2,⟨N',h3,h4⟩,h5,h6⟩=>⟨v,x,N',J,h1,h2,h4,h5,h6.perm (h3.append_right F)⟩) (h I F a w ho hs)
theorem zrN [Tracks] {x y:Operand} {t el:TypeId} {size bytes sz b2:Nat} {zero z2:Value} {d:TD} {A:List MObj} {G:Grp β} {s:Str} {ys:List β}
 (hf:Fits P t (.slice el) size bytes zero) (hel:Fits P el d sz b2 z2) (hz:z2.cells.size=sz) (hby:Nat.ble b2 100000=true)
 (hx:zh e x=some (.raw (gV s G))) (hy:zh e y=some (.slice sz (ys.map eb))) (hfl: ∀y∈ys.map eb,zaq (zd y)=true) (hlen:(gL s G).length+ys.length<=1000000000)
 (hk: ∀v',K (.raw v') (A++grp sz eb (zC s (v',gL s G++ys) G))):EOp P e (A++grp sz eb G) ⟨dst,.call ⟨.builtin .append,#[x,y],#[t,t]⟩,ty,pos,af,g⟩ K:=by
 cases hq:alk s G with
 |none=>
   have h1:gV s G= .slice none 0 0:=by unfold gV;rw [hq];rfl
   have h2:gL s G=[]:=by unfold gL;rw [hq];rfl
   rw [h1] at hx;rw [h2,Bx] at hk;refine EOp.pre (M':= .arr (.slice none 0 0) sz []::(A++grp sz eb G)) (fun I F w hs=>zpD sz hs) (znf ?_)
   refine zI (i:=0) hf hel hz hby hx hy rfl hfl (by rw [h2] at hlen;simpa using hlen) fun v'=>⟨_,?_,hk v'⟩
   rw [zjZ hq];simp only [Cm,grp,Ay,Au,Ba,Bx];rw [<-AV];exact (List.perm_append_comm (l₁:=[MObj.arr v' sz (ys.map eb)]) (l₂:=A++G.map fun p=>MObj.arr p.2.1 sz (p.2.2.map eb)))
 |some q=>
   obtain ⟨v,l⟩:=q;have h1:gV s G=v:=by unfold gV;rw [hq];rfl
   have h2:gL s G=l:=by unfold gL;rw [hq];rfl
   obtain ⟨n,h3,h4⟩:=zv0 hq;rw [h1] at hx;rw [h2] at hk hlen;have h5:(A++grp sz eb G)[A.length+n]? =some (.arr v sz (l.map eb)):=by
    rw [Al (by omega),Cr]
    simp [grp,h3]
   refine zI (i:=A.length+n) hf hel hz hby hx hy h5 hfl (by simpa using hlen) fun v'=> ?_
   have h6:(A++grp sz eb G).set (A.length+n) (.arr v' sz (l.map eb++ys.map eb))=A++grp sz eb (zC s (v',l++ys) G):=by
    rw [B4 _ _ (by omega),Cr,h4]
    simp [grp,B3]
   rw [h6];exact hk v'
theorem zrt [Tracks] {A:List MObj} {G G':Grp β} {s:Str} {sz:Nat} (hn:ANodup G) (hG:alk s G=alk s G'):Ghost e (A++grp sz eb G) e (.arr (gV s G') sz ((gL s G').map eb)::(A++grp sz eb (G.filter fun q=>decide (q.1≠s)))):=by
 cases hq:alk s G with
 |none=>
   have h1:gV s G'= .slice none 0 0:=by unfold gV;rw [<-hG,hq];rfl
   have h2:gL s G'=[]:=by unfold gL;rw [<-hG,hq];rfl
   rw [h1,h2,zeW hq];exact zL sz
 |some q=>
   obtain ⟨v,l⟩:=q;have h1:gV s G'=v:=by unfold gV;rw [<-hG,hq];rfl
   have h2:gL s G'=l:=by unfold gL;rw [<-hG,hq];rfl
   rw [h1,h2];refine Ghost.perm ?_;have h3:=((zgy hn hq).map fun p=>MObj.arr p.2.1 sz (p.2.2.map eb)).append_left A;refine h3.trans ?_;simp only [Au,grp];exact B7
end
end
section
section
variable {κ α γ:Type} [DecidableEq κ]
theorem VisOk.fresh {L E:List (κ×α)} {vis:List Nat} (h:VisOk L vis E) (hn:ANodup L) {j:Nat} {q:κ×α} (hj:L[j]? =some q) (hv:j∉vis):alk q.1 E=none:=by
 rw [zez]
 intro hm
 obtain ⟨q',h1,h2⟩:=List.mem_map.1 hm;have h3:some q'∈E.map some:=Bq h1;rw [h.eq] at h3;obtain ⟨j',h4,h5⟩:=List.mem_map.1 h3;have e:j'=j:=zp2 hn (a:=q.1) (by rw [Ag,h5];simp [h2]) (by rw [Ag,hj];rfl);exact hv (e▸h4)
theorem ANodup.perm {A B:Type} {E L:List (A×B)} (hn:ANodup L) (hp:E.Perm L):ANodup E:=(hp.map (fun p:A×B=>p.1)).nodup_iff.2 hn
theorem zt8 {E L:List (κ×α)} (hp:E.Perm L) (hn:ANodup L) (m:κ):alk m E=alk m L:=by
 have hne:ANodup E:=hn.perm hp
 cases h:alk m L with
 |none=>
   rw [zez] at h⊢;exact fun hm=>h ((hp.map (·.1)).mem_iff.1 hm)
 |some v=>exact (zek hne).1 (hp.mem_iff.2 ((zek hn).2 h))
theorem zoU (g:α->γ) (m:κ): ∀(E:List (κ×α)),alk m (E.map fun q=>(q.1,g q.2))=(alk m E).map g
 |[]=>rfl
 |p::r=>by
   have ih:=zoU g m r;simp only [Au,alk]
   by_cases h:m=p.1
   rw [if_pos h,if_pos h];rfl;rw [if_neg h,if_neg h,ih]
theorem ANodup.map {A B C:Type} (g:B->C) {E:List (A×B)} (h:ANodup E):ANodup (E.map fun q=>(q.1,g q.2)):=by
 unfold ANodup at*;rw [AX];exact h
end
theorem zuI (s:Str): ∀(l:List Str) (k:Int),zdD s l k= -1\/(k<=zdD s l k/\zdD s l k<k+l.length)
 |[],k=> .inl rfl
 |x::r,k=>by
   simp only [zdD]
   by_cases h:s=x
   rw [if_pos h];right;simp;omega;rw [if_neg h]
   rcases zuI s r (k+1) with h'|h'
   exact .inl h'
   right;simp only [Ai];omega
theorem zrv {trust:List Str} {n:Int}: ∀(l:List Play) (B:List (Str×Int)),ANodup B->(∀q∈B,0<=q.2/\q.2<trust.length)->ANodup (l.foldl (zeA trust n) B)/\∀q∈l.foldl (zeA trust n) B,0<=q.2/\q.2<trust.length
 |[],B,h1,h2=>⟨h1,h2⟩
 |p::r,B,h1,h2=>by
   refine zrv r (zeA trust n B p) ?_ ?_;unfold zeA;split;exact h1
   split
   exact h1.put;exact h1;unfold zeA;split;exact h2
   rename_i hc
   split
   intro q hq
   rcases zc5 hq with rfl|hq
   rcases zuI p.Source trust 0 with h|h
   exfalso;exact hc (.inr (by rw [h];decide))
   dsimp only;omega
   exact h2 q hq;exact h2
theorem zmn (l:List Play) (trust:List Str) (n:Int):ANodup (zfL l trust n):=(zrv l [] ANodup.nil (fun q h=>by cases h)).1
theorem zwN {l:List Play} {trust:List Str} {n:Int} {q:Str×Int} (h:q∈zfL l trust n):0<=q.2/\q.2<trust.length:=(zrv l [] ANodup.nil (fun q h=>by cases h)).2 q h
abbrev zrm (trust:List Str) (E:List (Str×Int)):List (Str×Str):=E.map fun q=>(q.1,trust.getD q.2.toNat [])
theorem zzn {trust:List Str} {L E:List (Str×Int)} {vis:List Nat} (h:VisOk L vis E) (hn:ANodup L) {j:Nat} {q:Str×Int} (hj:L[j]? =some q) (hv:j∉vis):zC q.1 (trust.getD q.2.toNat []) (zrm trust E)=zrm trust (E++[q]):=by
 rw [zjZ]
 simp
 have:=zoU (fun k:Int=>trust.getD k.toNat []) q.1 E;rw [this,h.fresh hn hj hv];rfl
theorem zA1 {l:List Play} {trust:List Str} {n:Int} {E:List (Str×Int)} (hp:E.Perm (zfL l trust n)) (m:Str):alk m (zrm trust E)=zpa l trust n m:=by
 have:=zoU (fun k:Int=>trust.getD k.toNat []) m E;rw [this,zt8 hp (zmn _ _ _)];rfl
theorem zxZ {l:List Play} {trust:List Str} {n:Int} {E:List (Str×Int)} (hp:E.Perm (zfL l trust n)):ANodup (zrm trust E):=
 ANodup.map (fun k:Int=>trust.getD k.toNat []) ((zmn _ _ _).perm hp)
/-! groups of statistics-/
structure GOk (E:List (Of2×Int)) (G:Grp StatS):Prop where
 nd:ANodup G
 raw: ∀s,gL s G=zbl E s
theorem GOk.nil:GOk [] []:=⟨ANodup.nil,fun s=>rfl⟩
theorem znq (E:List (Of2×Int)) (q:Of2×Int) (s:Str):zbl (E++[q]) s=zbl E s++if q.1.1=s/\q.2≠0 then [⟨q.1.2,q.2⟩] else []:=by
 unfold zbl;rw [BD,Ay,AU]
 by_cases h:q.1.1=s/\q.2≠0
 rw [if_pos h,if_pos (by simpa using h)];rfl;rw [if_neg h,if_neg (by simpa using h)];rfl
theorem GOk.skip {E:List (Of2×Int)} {G:Grp StatS} (h:GOk E G) {q:Of2×Int} (hq:q.2=0):GOk (E++[q]) G:=
 ⟨h.nd,fun s=>by rw [znq,if_neg (by simp [hq]),Bf,h.raw]⟩
theorem zDB (s t:Str) (v:Value) (l:List StatS) (G:Grp StatS):gL t (zC s (v,l) G)=if t=s then l else gL t G:=by
 unfold gL;rw [zdO];split<;>rfl
theorem GOk.put {E:List (Of2×Int)} {G:Grp StatS} (h:GOk E G) {q:Of2×Int} (hq: ¬q.2=0) (v:Value):GOk (E++[q]) (zC q.1.1 (v,gL q.1.1 G++[⟨q.1.2,q.2⟩]) G):=by
 refine ⟨h.nd.put,fun s=> ?_⟩
 rw [zDB,znq]
 by_cases hs:s=q.1.1
 rw [if_pos hs,if_pos ⟨hs.symm,hq⟩,hs,h.raw];rw [if_neg hs,if_neg (fun e=>hs e.1.symm),Bf,h.raw]
theorem zlF (E:List (Of2×Int)) (s:Str):(zbl E s).length<=E.length:=by
 unfold zbl;rw [Ah];exact AZ _ _
theorem znp {E c:List (Of2×Int)} (h:E.Perm c) (s:Str):(zbl E s).Perm (zbl c s):=(h.filter _).map _
theorem zsS {c:List (Of2×Int)} (h:ANodup c) (s:Str) {x y:StatS} (hx:x∈zbl c s) (hy:y∈zbl c s) (e:x.Name=y.Name):x=y:=by
 unfold zbl at hx hy;obtain ⟨p,hp,rfl⟩:=List.mem_map.1 hx;obtain ⟨p',hp',rfl⟩:=List.mem_map.1 hy;have h1:=List.mem_filter.1 hp;have h2:=List.mem_filter.1 hp';have k1:p.1.1=s:=by have:=h1.2;simp only [A2,beq_iff_eq] at this;exact this.1
 have k2:p'.1.1=s:=by have:=h2.2;simp only [A2,beq_iff_eq] at this;exact this.1
 have k3:p.1=p'.1:=Prod.ext (k1.trans k2.symm) e;have a1:=(zek h (x:=p.1) (v:=p.2)).1 h1.1;have a2:=(zek h (x:=p'.1) (v:=p'.2)).1 h2.1;rw [<-k3,a1] at a2;have k4:p.2=p'.2:=Aw a2;have k5:p.1.2=p'.1.2:=e;rw [k4,k5]
theorem zvn {E c:List (Of2×Int)} (hE:E.Perm c) (hn:ANodup c) {G:Grp StatS} (hG:GOk E G) {s:Str} {l':List StatS} (hp:l'.Perm (gL s G)) (hw:l'.Pairwise fun a b=> ¬zbc b a<0):l'=zdR c s:=by
 unfold zdR;rw [hG.raw] at hp;exact zfQ zdr (fun x y hx hy e=>zsS hn s hx hy (zbn.1 e)) (hp.trans (znp hE s)) hw
theorem zuD {E c:List (Of2×Int)} (hE:E.Perm c) {G:Grp StatS} (hG:GOk E G) (s:Str):(gL s G).length=(zbl c s).length:=by
 rw [hG.raw];exact (znp hE s).length_eq
abbrev zif (G:Grp StatS) (N:List Str):Grp StatS:=G.filter fun q=> !(N.contains q.1)
theorem zAO (G:Grp StatS):zif G []=G:=by unfold zif;rw [Ca];simp
theorem zAN {G:Grp StatS} {N:List Str} {s:Str} (h:s∉N):alk s (zif G N)=alk s G:=by
 have:=zmj (s:=s) (p:=fun k=> !(N.contains k)) (G:=G);unfold zif;rw [this,if_pos (by simpa using h)]
theorem zza (G:Grp StatS) (N:List Str) (s:Str):(zif G N).filter (fun q=>decide (q.1≠s))=zif G (N++[s]):=by
 unfold zif;rw [List.filter_filter];refine List.filter_congr fun q _=> ?_
 by_cases h1:q.1∈N<;>by_cases h2:q.1=s<;>simp [h1,h2]
theorem zxP {G:Grp StatS} {N:List Str} (h:ANodup G):ANodup (zif G N):=by
 unfold ANodup at*;exact h.sublist ((Cb).map _)
theorem zxX {l:List Str} (hn:l.Nodup) {k:Nat} {s:Str} (h:l[k]? =some s):s∉l.take k:=by
 intro hm
 obtain ⟨j,hj⟩:=Bm hm;have hjk:j<k:=by have:=zp hj;simp at this;omega
 rw [AE hjk] at hj;have:=zp2 hn hj h
 omega
theorem zih (l:List Str):(zbh l).Perm l:=List.mergeSort_perm _ _
theorem zxm {c:List (Of2×Int)} {S:List Str} {q:Of2×Int} (hq:q∈c) (ho:out q.2 (-100000) 100000=true):zg5 c S=true:=by
 unfold zg5;rw [Bv];left;rw [Cu];exact ⟨q,hq,ho⟩
theorem zxn {c:List (Of2×Int)} {S:List Str} {s:Str} (hs:s∈S) (ho:40<(zbl c s).length):zg5 c S=true:=by
 unfold zg5;rw [Bv];right;rw [Cu];exact ⟨s,hs,by simpa using ho⟩
theorem zyA {c:List (Of2×Int)} {S:List Str} (h1: ∀q∈c,out q.2 (-100000) 100000=false) (h2: ∀s∈S,¬40<(zbl c s).length):zg5 c S=false:=by
 unfold zg5;rw [A9]
 constructor
 rw [BJ];intro q hq;rw [h1 q hq];simp;rw [BJ];intro s hs;simpa using h2 s hs
/-! lines-/
theorem zkq {s t:Str} {S:List Str}:t∈zb8 s S↔t=s\/t∈S:=by
 unfold zb8
 by_cases h:S.contains s=true
 rw [if_pos h];have:s∈S:=by simpa using h
 constructor
 exact .inr;rintro (rfl|h);exact this;exact h;rw [if_neg h];simp;exact Or.comm
theorem zjI {s:Str} {S:List Str} (h:S.Nodup):(zb8 s S).Nodup:=by
 unfold zb8
 by_cases hc:S.contains s=true
 rw [if_pos hc];exact h;rw [if_neg hc];exact List.nodup_append.2 ⟨h,by simp,fun a ha b hb=>by simp at hb;subst hb;intro e;subst e;simp at hc;exact hc ha⟩
theorem zwz (s:Str) (S:List Str):(zb8 s S).length<=S.length+1:=by
 unfold zb8;split
 omega
 simp
structure LnOk (q:LnS) (n:Nat):Prop where
 c:ANodup q.c
 S:q.S.Nodup
 k: ∀s∈q.S,s.length<=40
 cl:q.c.length<=n
 Sl:q.S.length<=n
 bd: ∀e∈q.c,-(100000*(n:Int))<=e.2/\e.2<=100000*(n:Int)
theorem LnOk.val {q:LnS} {n:Nat} (h:LnOk q n) (s:Of2): -(100000*(n:Int))<=(alk s q.c).getD 0/\(alk s q.c).getD 0<=100000*(n:Int):=by
 cases hq:alk s q.c with
 |none=>simp;omega
 |some v=>exact h.bd _ (zbO hq)
theorem LnOk.put {q:LnS} {n:Nat} (h:LnOk q n) {p:Play} (hp:playFault p=0):LnOk (zBR q p) (n+1):=by
 obtain ⟨_,_,_,_,⟨_,k2,_⟩,hb,_⟩:=zeY hp;have hv:=h.val (p.Player,p.Stat);refine ⟨h.c.put,zjI h.S,fun s hs=> ?_,Aq (zlR _ _ _) (by have:=h.cl;omega),Aq (zwz _ _) (by have:=h.Sl;omega),fun e he=> ?_⟩
 rcases zkq.1 hs with rfl|hs
 exact zwf k2;exact h.k s hs
 rcases zc5 he with rfl|he
 dsimp only;omega
 have:=h.bd e he;omega
theorem LnOk.up {q:LnS} {n:Nat} (h:LnOk q n):LnOk q (n+1):=
 ⟨h.c,h.S,h.k,by have:=h.cl;omega,by have:=h.Sl;omega,fun e he=>by have:=h.bd e he;omega⟩
theorem zwk {l:List Play} {trust:List Str} {week n:Int}: ∀(m:List Play) (q:LnS) (i:Nat),LnOk q i->(∀x∈m,playFault x=0)->LnOk (m.foldl (zh4 l trust week n) q) (i+m.length)
 |[],q,i,h,_=>h
 |x::m,q,i,h,hm=>by
   have h1:LnOk (zh4 l trust week n q x) (i+1):=by
    unfold zh4;split;exact h.put (hm x Aj);exact h.up
   have:=zwk (l:=l) (trust:=trust) (week:=week) (n:=n) m _ (i+1) h1 fun y hy=>hm y (Am _ hy)
   rw [Bw,Ai,show i+(m.length+1)=i+1+m.length by omega];exact this
theorem ztM {l m:List Play} {trust:List Str} {week n:Int} (hm: ∀x∈m,playFault x=0):LnOk (zcJ l trust week n m) m.length:=by
 have:=zwk (l:=l) (trust:=trust) (week:=week) (n:=n) m ⟨[],[]⟩ 0 ⟨ANodup.nil,BO,(fun s h=>by cases h),Af _,Af _,fun e h=>by cases h⟩ hm;rw [Br] at this;exact this
theorem zz6 {l:List Play} {O:List (Str×Str)} {trust:List Str} {week n:Int} {x:Play} (hO: ∀m,alk m O=zpa l trust n m)
 (h:(((n<x.At\/¬x.Week=week)\/0<x.Undo)\/(alk (x.Source,x.No) (zmR l n)).getD false=true)\/¬(alk x.Match O).getD []=x.Source):zov l trust week n x=false:=by
 rw [hO] at h;simp only [zov,zuJ,Bool.not_eq_false',Bv,decide_eq_true_eq,bne_iff_ne,ne_eq];exact h
theorem zz7 {l:List Play} {O:List (Str×Str)} {trust:List Str} {week n:Int} {x:Play} (hO: ∀m,alk m O=zpa l trust n m)
 (h:(((x.At<=n/\x.Week=week)/\x.Undo<=0)/\(alk (x.Source,x.No) (zmR l n)).getD false=false)/\(alk x.Match O).getD []=x.Source):zov l trust week n x=true:=by
 rw [hO] at h;obtain ⟨⟨⟨⟨h1,h2⟩,h3⟩,h4⟩,h5⟩:=h;simp only [zov,zuJ,h4,h5,h2,BY,A9,decide_eq_false_iff_not,bne_self_eq_false,and_true]
 omega
def ziT (l:List Play) (t:List Str) (week n:Int):Int:=if orI [zbT l,zcb t] !=0 then orI [zbT l,zcb t] else if !(zaQ week)|| !(zaa n) then 1 else zh3 l t week n
def ziU (l:List Play) (t:List Str) (week n:Int):List LineS:=if orI [zbT l,zcb t] !=0 then [] else if !(zaQ week)|| !(zaa n) then [] else zd1 l t week n
theorem okPT {l:List Play} {t:List Str} (h:orI [zbT l,zcb t]=0):zbT l=0/\zcb t=0:=by
 rw [zef] at h;split at h
 contradiction
 rename_i h1;exact ⟨by simpa using h1,h⟩
end
section
structure MendS where
 Player:Str
 Week:Int
 Stat:Str
 Count:Int
 At:Int
 Version:Int
 By:Str
abbrev zbY (x:MendS):HVal:= .agg [.str x.Player,.int .i64 x.Week,.str x.Stat,.int .i64 x.Count,.int .i64 x.At,.int .i64 x.Version,.str x.By]
abbrev zca (l:List MendS):HVal:= .slice 7 (l.map zbY)
abbrev Plc:=Str×Int
abbrev zgK (x:Plc):HVal:= .agg [.str x.1,.int .i64 x.2]
def zeN:MendS:=⟨[],0,[],0,0,0,[]⟩
def zd8:StatS:=⟨[],0⟩
def zjC:LineS:=⟨[],0,[]⟩
def zeJ (a b:MendS):Int:=orI [zY a.Player b.Player,zaj a.Week b.Week,zY a.Stat b.Stat,zaj a.Version b.Version]
def zdi (a b:LineS):Int:=orI [zY a.Player b.Player,zaj a.Week b.Week]
section
variable {α:Type}
def zaU (f:α->Int) (c:α->α->Int) (d:α) (l:List α):Nat->List α->Int
 |_,[]=>0
 |k,x::r=>if f x≠0 then f x else if 0<k/\c x (l.getD (k-1) d)<=0 then 7 else zaU f c d l (k+1) r
theorem zki {f:α->Int} {c:α->α->Int} {d:α} {l:List α} {k:Nat} {x:α} {r:List α} (h1:f x=0) (h2:0<k->¬c x (l.getD (k-1) d)<=0):zaU f c d l k (x::r)=zaU f c d l (k+1) r:=by
 rw [zaU,if_neg (by simp [h1]),if_neg (fun h=>h2 h.1 h.2)]
theorem zoa {f:α->Int} {c:α->α->Int} {d:α} {l:List α} {k:Nat} {x:α} {r:List α} (h1:f x≠0):zaU f c d l k (x::r)=f x:=by
 rw [zaU,if_pos h1]
theorem zob {f:α->Int} {c:α->α->Int} {d:α} {l:List α} {k:Nat} {x:α} {r:List α} (h1:f x=0) (h0:0<k) (h2:c x (l.getD (k-1) d)<=0):zaU f c d l k (x::r)=7:=by
 rw [zaU,if_neg (by simp [h1]),if_pos ⟨h0,h2⟩]
theorem zhE {f:α->Int} {c:α->α->Int} {d:α} {l:List α}: ∀(r:List α) (k:Nat),zaU f c d l k r=0->∀x∈r,f x=0
 |[],_,_,x,hx=>by cases hx
 |p::r,k,h,x,hx=>by
   rw [zaU] at h
   split at h
   contradiction
   split at h
   omega
   rename_i h1 _
   rcases List.mem_cons.1 hx with rfl|hx
   simpa using h1
   exact zhE r (k+1) h x hx
theorem zsl {f:α->Int} {c:α->α->Int} {d:α} (hc:Cmp c fun _=>True): ∀(r:List α) (l:List α) (k:Nat),l.drop k=r->k<=l.length->(l.take k).Pairwise (fun a b=>c a b<0)->zaU f c d l k r=0->l.Pairwise (fun a b=>c a b<0)
 |[],l,k,hd,hk,hp,_=>by
   have h1:l.length<=k:=by simpa using hd
   rw [A3 h1] at hp;exact hp
 |x::r,l,k,hd,hk,hp,h=>by
   rw [zaU] at h
   split at h
   contradiction
   split at h
   omega
   rename_i h2
   have hx:l[k]? =some x:=by have:=congrArg (fun q:List α=>q[0]?) hd;simpa using this
   have hlt:=zp hx;refine zsl hc r l (k+1) (by rw [<-Bl (i:=1),hd];rfl) hlt ?_ h
   rw [zaf hx];refine List.pairwise_append.2 ⟨hp,List.pairwise_singleton _ _,fun a ha b hb=> ?_⟩
   obtain rfl:=List.mem_singleton.1 hb;obtain ⟨i,hi⟩:=Bm ha;have hik:i<k:=by have:=zp hi;rw [Az] at this;omega
   have hy:l[k-1]? =some (l.getD (k-1) d):=getD_some (by omega);have h3:c (l.getD (k-1) d) b<0:=by
    rw [hc.flip _ _ trivial trivial];have: ¬c b (l.getD (k-1) d)<=0:=fun e=>h2 ⟨by omega,e⟩
    omega
   rcases AD i (k-1) with hlt'|hge
   have hyk:(l.take k)[k-1]? =some (l.getD (k-1) d):=by rw [AE (by omega)];exact hy
   have h4:c a (l.getD (k-1) d)<0:=by
    have hi2:=zp hi;have hk2:=zp hyk;have:=List.pairwise_iff_getElem.1 hp i (k-1) hi2 hk2 hlt';rw [Aa hi2] at hi;rw [Aa hk2] at hyk;rw [Aw hi,Aw hyk] at this;exact this
   have h5:=hc.trans a (l.getD (k-1) d) b trivial trivial trivial (by omega) (by omega);have f1:=hc.flip a (l.getD (k-1) d) trivial trivial;have f2:=hc.flip (l.getD (k-1) d) b trivial trivial;have f3:=hc.flip a b trivial trivial;have f4:=hc.flip b a trivial trivial
   rcases Int.lt_or_eq_of_le h5 with e|e
   exact e
   exfalso
   have:=hc.trans b a (l.getD (k-1) d) trivial trivial trivial (by omega) (by omega)
   omega
   have e:i=k-1:=by omega
   rw [e,AE (by omega),hy] at hi;rw [<-Aw hi];exact h3
theorem zjz {f:α->Int} {c:α->α->Int} {d:α} (hc:Cmp c fun _=>True) {l:List α} (h:zaU f c d l 0 l=0):l.Pairwise (fun a b=>c a b<0):=
 zsl hc l l 0 rfl (Ad _) (by simp) h
theorem zqD {f:α->Int} {c:α->α->Int} {d:α} (hc:Cmp c fun _=>True) {l:List α} (hf: ∀x∈l,f x=0) (hp:l.Pairwise (fun a b=>c a b<0)): ∀(r:List α) (k:Nat),l.drop k=r->zaU f c d l k r=0
 |[],_,_=>rfl
 |x::r,k,hd=>by
   have hx:l[k]? =some x:=by have:=congrArg (fun q:List α=>q[0]?) hd;simpa using this
   have hlt:=zp hx;rw [zki (hf x (Ab hx)) (fun h0 h=> ?_)];exact zqD hc hf hp r (k+1) (by rw [<-Bl (i:=1),hd];rfl);have hy:l[k-1]? =some (l.getD (k-1) d):=getD_some (by omega);have hk1:k-1<l.length:=by omega
   have:=List.pairwise_iff_getElem.1 hp (k-1) k hk1 hlt (by omega);rw [Aa hlt] at hx;rw [Aa hk1] at hy;rw [Aw hx,Aw hy] at this;have f1:=hc.flip (l.getD (k-1) d) x trivial trivial
   omega
theorem zdN {c d:α->α->Int} (hc:Cmp c fun _=>True) (hd:Cmp d fun _=>True):Cmp (fun a b=>if c a b≠0 then c a b else d a b) fun _=>True where
 flip x y _ _:=by
  have f1:=hc.flip x y trivial trivial;have f2:=hc.flip y x trivial trivial;have f3:=hd.flip x y trivial trivial
  by_cases h:c x y=0
  have h':c y x=0:=by omega
  rw [if_neg (by simp [h]),if_neg (by simp [h'])];exact f3;have h':c y x≠0:=by omega
  rw [if_pos h,if_pos h'];exact f1
 trans x y z _ _ _ h1 h2:=by
  have fxy:=hc.flip x y trivial trivial;have fyx:=hc.flip y x trivial trivial;have fyz:=hc.flip y z trivial trivial;have fzy:=hc.flip z y trivial trivial;have fxz:=hc.flip x z trivial trivial;have fzx:=hc.flip z x trivial trivial;have a1:c x y<=0:=by split at h1<;>omega
  have a2:c y z<=0:=by split at h2<;>omega
  have a3:=hc.trans x y z trivial trivial trivial a1 a2
  by_cases h:c x z=0
  have b1:=hc.trans z x y trivial trivial trivial (by omega) a1;have b2:=hc.trans y z x trivial trivial trivial a2 (by omega);have e1:c x y=0:=by omega
  have e2:c y z=0:=by omega
  rw [if_neg (by simp [e1])] at h1;rw [if_neg (by simp [e2])] at h2;rw [if_neg (by simp [h])];exact hd.trans x y z trivial trivial trivial h1 h2;rw [if_pos h];exact a3
theorem zgw (f:α->Str):Cmp (fun a b=>zY (f a) (f b)) fun _=>True where
 flip x y _ _:=by rw [ze5 (f x) (f y)];omega
 trans x y z _ _ _ h1 h2:=zjA h1 h2
theorem zfy (f:α->Int):Cmp (fun a b=>zaj (f a) (f b)) fun _=>True where
 flip x y _ _:=by rw [zkS (f x) (f y)];omega
 trans x y z _ _ _ h1 h2:=by rw [zv2] at*;omega
theorem zCU (a:Int):orI [a]=a:=by
 by_cases h:a=0<;>simp [orI,h]
theorem zfj (a b:Int) (r:List Int):orI (a::b::r)=if a≠0 then a else orI (b::r):=by rw [orI]
end
theorem zhv:Cmp zeJ fun _=>True:=by
 have h:=zdN (zgw MendS.Player) (zdN (zfy MendS.Week) (zdN (zgw MendS.Stat) (zfy MendS.Version)));have e:zeJ=fun a b=>if zY a.Player b.Player≠0 then zY a.Player b.Player else if zaj a.Week b.Week≠0 then zaj a.Week b.Week else if zY a.Stat b.Stat≠0 then zY a.Stat b.Stat else zaj a.Version b.Version:=by
  funext a b;unfold zeJ;rw [zfj,zfj,zef]
 rw [e];exact h
theorem zj3:Cmp zdi fun _=>True:=by
 have h:=zdN (zgw LineS.Player) (zfy LineS.Week);have e:zdi=fun a b=>if zY a.Player b.Player≠0 then zY a.Player b.Player else zaj a.Week b.Week:=by
  funext a b;unfold zdi;rw [zef]
 rw [e];exact h
theorem zwp {a b:Int} (h:(if a≠0 then a else b)=0):a=0/\b=0:=by
 split at h
 contradiction
 rename_i h1;exact ⟨by simpa using h1,h⟩
theorem znN {a b:LineS}:zdi a b=0↔a.Player=b.Player/\a.Week=b.Week:=by
 unfold zdi;rw [zef]
 constructor
 intro h
 obtain ⟨h1,h2⟩:=zwp h;exact ⟨zbn.1 h1,zcV.1 h2⟩;rintro ⟨h1,h2⟩;rw [if_neg (by simp [zbn.2 h1]),zcV.2 h2]
theorem zuN (a b:Str):(Op.bytesLess a b||a==b)=decide (zY a b<=0):=by
 rw [AF,decide_eq_true_iff,zjN]
 rcases zb6 a b with h|h|h
 simp [h,zbR h]
 subst h;simp [zag];have hne:a≠b:=fun e=>by subst e;rw [zag] at h;cases h
 simp [h,zbR h,hne]
/-! what is wrong-/
def zaG (x:MendS):Int:=
 if !(key x.Player)|| !(key x.Stat)|| !(key x.By) then 5
 else if !(zaQ x.Week)||out x.Count (-100000) 100000|| !(zaa x.At)||out x.Version 1 1000 then 1 else 0
def zbu (m:List MendS):Int:=if 500<m.length then 2 else zaU zaG zeJ zeN m 0 m
def zam (s:StatS):Int:=if !(key s.Name) then 5 else if out s.Count (-100000) 100000||decide (s.Count=0) then 1 else 0
def za7 (l:List StatS):Int:=if 40<l.length then 2 else zaU zam zbc zd8 l 0 l
def z8 (x:LineS):Int:=if !(key x.Player) then 5 else if !(zaQ x.Week) then 1 else za7 x.Stats
def zaz (l:List LineS):Int:=if 30000<l.length then 2 else zaU z8 zdi zjC l 0 l
theorem zuV {x:MendS} (h:zaG x=0):key x.Player=true/\key x.Stat=true/\zaQ x.Week=true/\(-100000<=x.Count/\x.Count<=100000)/\zaa x.At=true:=by
 unfold zaG at h
 split at h
 omega
 split at h
 omega
 rename_i h1 h2
 simp only [Bv,BY,not_or,Bool.not_eq_false,Bool.not_eq_true] at h1 h2;exact ⟨h1.1.1,h1.1.2,h2.1.1.1,zfk h2.1.1.2,h2.1.2⟩
theorem zsL {m:List MendS} (h:zbu m=0):m.length<=500/\(∀x∈m,zaG x=0)/\m.Pairwise (fun a b=>zeJ a b<0):=by
 unfold zbu at h
 split at h
 omega
 exact ⟨by omega,zhE m 0 h,zjz zhv h⟩
theorem ze0 {s:StatS}:zam s=0↔key s.Name=true/\(-100000<=s.Count/\s.Count<=100000)/\s.Count≠0:=by
 unfold zam
 constructor
 intro h
 split at h
 omega
 split at h
 omega
 rename_i h1 h2
 simp only [Bv,not_or,Bool.not_eq_true,decide_eq_true_eq] at h2;exact ⟨by simpa using h1,zfk h2.1,h2.2⟩;rintro ⟨h1,h2,h3⟩;have h4:out s.Count (-100000) 100000=false:=by simp [out];omega
 rw [h1,h4];simp [h3]
theorem zs4 {l:List StatS} (h:za7 l=0):l.length<=40/\(∀x∈l,zam x=0)/\l.Pairwise (fun a b=>zbc a b<0):=by
 unfold za7 at h
 split at h
 omega
 exact ⟨by omega,zhE l 0 h,zjz zdr h⟩
theorem zs3 {l:List StatS} (h1:l.length<=40) (h2: ∀x∈l,zam x=0) (h3:l.Pairwise (fun a b=>zbc a b<0)):za7 l=0:=by
 unfold za7;rw [if_neg (by omega)];exact zqD zdr h2 h3 l 0 rfl
theorem zeX {x:LineS}:z8 x=0↔key x.Player=true/\zaQ x.Week=true/\za7 x.Stats=0:=by
 unfold z8
 constructor
 intro h
 split at h
 omega
 split at h
 omega
 rename_i h1 h2
 exact ⟨by simpa using h1,by simpa using h2,h⟩;rintro ⟨h1,h2,h3⟩;rw [h1,h2];simp [h3]
theorem zgD {l:List LineS} (h:zaz l=0):l.length<=30000/\(∀x∈l,z8 x=0)/\l.Pairwise (fun a b=>zdi a b<0):=by
 unfold zaz at h
 split at h
 omega
 exact ⟨by omega,zhE l 0 h,zjz zj3 h⟩
theorem zqS {l:List LineS} (h1:l.length<=30000) (h2: ∀x∈l,z8 x=0) (h3:l.Pairwise (fun a b=>zdi a b<0)):zaz l=0:=by
 unfold zaz;rw [if_neg (by omega)];exact zqD zj3 h2 h3 l 0 rfl
/-! as a walk tells it-/
theorem zkY {m r:List MendS} {k:Nat} {x:MendS} {c:Int} (hl: ¬500<m.length) (hg:zaU zaG zeJ zeN m 0 m=zaU zaG zeJ zeN m k (x::r)) (hc:c≠0) (hf:zaG x=c):c=zbu m:=by
 rw [zbu,if_neg hl,hg,zoa (by rw [hf];exact hc),hf]
theorem zsM {m r:List MendS} {k:Nat} {x:MendS} (hl: ¬500<m.length) (hg:zaU zaG zeJ zeN m 0 m=zaU zaG zeJ zeN m k (x::r)) (hf:zaG x=0) (h0:0<k) (h:zeJ x (m.getD (k-1) zeN)<=0):7=zbu m:=by
 rw [zbu,if_neg hl,hg,zob hf h0 h]
theorem zdM {l r:List StatS} {k:Nat} {x:StatS} {c:Int} (hl: ¬40<l.length) (hg:zaU zam zbc zd8 l 0 l=zaU zam zbc zd8 l k (x::r)) (hc:c≠0) (hf:zam x=c):c=za7 l:=by
 rw [za7,if_neg hl,hg,zoa (by rw [hf];exact hc),hf]
theorem zjh {l r:List StatS} {k:Nat} {x:StatS} (hl: ¬40<l.length) (hg:zaU zam zbc zd8 l 0 l=zaU zam zbc zd8 l k (x::r)) (hf:zam x=0) (h0:0<k) (h:(Op.bytesLess x.Name (l.getD (k-1) zd8).Name||x.Name==(l.getD (k-1) zd8).Name)=true):7=za7 l:=by
 rw [zuN,decide_eq_true_iff] at h;rw [za7,if_neg hl,hg,zob hf h0 h]
theorem zxU {l r:List StatS} {k:Nat} {x:StatS} (hf:zam x=0) (h:0<k->(Op.bytesLess x.Name (l.getD (k-1) zd8).Name||x.Name==(l.getD (k-1) zd8).Name)=false):zaU zam zbc zd8 l k (x::r)=zaU zam zbc zd8 l (k+1) r:=
 zki hf fun h0 hle=>by
  have:=h h0;rw [zuN,decide_eq_false_iff_not] at this;exact this hle
theorem zbo {l r:List LineS} {k:Nat} {x:LineS} {c:Int} (hl: ¬30000<l.length) (hg:zaU z8 zdi zjC l 0 l=zaU z8 zdi zjC l k (x::r)) (hc:c≠0) (hf:z8 x=c):c=zaz l:=by
 rw [zaz,if_neg hl,hg,zoa (by rw [hf];exact hc),hf]
theorem zhI {l r:List LineS} {k:Nat} {x:LineS} (hl: ¬30000<l.length) (hg:zaU z8 zdi zjC l 0 l=zaU z8 zdi zjC l k (x::r)) (hf:z8 x=0) (h0:0<k) (h:zdi x (l.getD (k-1) zjC)<=0):7=zaz l:=by
 rw [zaz,if_neg hl,hg,zob hf h0 h]
end
section
open Op
structure PlayerS where
 Key:Str
 Name:Str
 Positions:List Str
structure StintS where
 Player:Str
 Club:Str
 Week:Int
structure HealthS where
 Player:Str
 From:Int
 To:Int
 Kind:Int
structure FixS where
 Week:Int
 At:Int
 Home:Str
 Away:Str
structure RuleS where
 Key:Str
 Stat:Str
 Position:Str
 Kind:Int
 Many:Int
 Num:Int
 Den:Int
structure SlotS where
 Key:Str
 Positions:List Str
structure BoundS where
 Most:Int
 Hurt:Int
 Adds:Int
 Hold:Int
structure MoveS where
 At:Int
 Kind:Int
 Team:Str
 Player:Str
structure GameS where
 Week:Int
 Home:Str
 Away:Str
 Played:Bool
 FNum:Int
 FDen:Int
 ONum:Int
 ODen:Int
structure ChoiceS where
 Team:Str
 Week:Int
 At:Int
 Players:List Str
 Captain:Str
structure LeagueS where
 Players:List PlayerS
 Stints:List StintS
 Fixtures:List FixS
 Rules:List RuleS
 Slots:List SlotS
 Bounds:BoundS
 Teams:List Str
 Games:List GameS
 Breaks:List Int
 Trust:List Str
 Start:Int
def HasAB (T:List Str):Prop:=T.contains [116,97]=true/\T.contains [116,98]=true
theorem HasAB.app {T:List Str} (h:HasAB T) (U:List Str):HasAB (T++U):=by
 unfold HasAB at*;simp only [B5,decide_eq_true_eq,List.mem_append] at*;exact ⟨.inl h.1,.inl h.2⟩
abbrev zeT (x:PlayerS):HVal:= .agg [.str x.Key,.str x.Name,eSs x.Positions]
abbrev zbj (l:List PlayerS):HVal:= .slice 3 (l.map zeT)
abbrev zdk (x:StintS):HVal:= .agg [.str x.Player,.str x.Club,.int .i64 x.Week]
abbrev zfA (l:List StintS):HVal:= .slice 3 (l.map zdk)
abbrev zcw (x:HealthS):HVal:= .agg [.str x.Player,.int .i64 x.From,.int .i64 x.To,.int .i64 x.Kind]
abbrev zcc (l:List HealthS):HVal:= .slice 4 (l.map zcw)
abbrev za2 (x:FixS):HVal:= .agg [.int .i64 x.Week,.int .i64 x.At,.str x.Home,.str x.Away]
abbrev zmM (l:List FixS):HVal:= .slice 4 (l.map za2)
abbrev zoZ (x:RuleS):HVal:= .agg [.str x.Key,.str x.Stat,.str x.Position,.int .i64 x.Kind,.int .i64 x.Many,.int .i64 x.Num,.int .i64 x.Den]
abbrev zgd (l:List RuleS):HVal:= .slice 7 (l.map zoZ)
abbrev zbA (x:SlotS):HVal:= .agg [.str x.Key,eSs x.Positions]
abbrev zbt (l:List SlotS):HVal:= .slice 2 (l.map zbA)
abbrev zgc (x:BoundS):HVal:= .agg [.int .i64 x.Most,.int .i64 x.Hurt,.int .i64 x.Adds,.int .i64 x.Hold]
abbrev zdq (x:MoveS):HVal:= .agg [.int .i64 x.At,.int .i64 x.Kind,.str x.Team,.str x.Player]
abbrev zck (l:List MoveS):HVal:= .slice 4 (l.map zdq)
abbrev zaW (x:GameS):HVal:= .agg [.int .i64 x.Week,.str x.Home,.str x.Away,.bool x.Played,.int .i64 x.FNum,.int .i64 x.FDen,.int .i64 x.ONum,.int .i64 x.ODen]
abbrev zlZ (l:List GameS):HVal:= .slice 8 (l.map zaW)
abbrev zR (x:ChoiceS):HVal:= .agg [.str x.Team,.int .i64 x.Week,.int .i64 x.At,eSs x.Players,.str x.Captain]
abbrev zkk (l:List ChoiceS):HVal:= .slice 5 (l.map zR)
abbrev zCc (g:LeagueS):List HVal:=[zbj g.Players,zfA g.Stints,zmM g.Fixtures,zgd g.Rules,zbt g.Slots,.int .i64 g.Bounds.Most,.int .i64 g.Bounds.Hurt,.int .i64 g.Bounds.Adds,.int .i64 g.Bounds.Hold,eSs g.Teams,zlZ g.Games,eIs g.Breaks,eSs g.Trust,.int .i64 g.Start]
abbrev zfz (g:LeagueS):HVal:= .agg (zCc g)
def zen:PlayerS:=⟨[],[],[]⟩
def zfu:StintS:=⟨[],[],0⟩
def zgB:HealthS:=⟨[],0,0,0⟩
def zls:FixS:=⟨0,0,[],[]⟩
def zk0:RuleS:=⟨[],[],[],0,0,0,0⟩
def zbZ:SlotS:=⟨[],[]⟩
def zjD:MoveS:=⟨0,0,[],[]⟩
def zes:GameS:=⟨0,[],[],false,0,0,0,0⟩
def zdP:ChoiceS:=⟨[],0,0,[],[]⟩
/-! lists looked through element by element,each with the one ahead-/
section
variable {α:Type}
def zaV (g:Nat->α->α->Int) (d:α) (l:List α):Nat->List α->Int
 |_,[]=>0
 |k,x::r=>if g k x (l.getD (k-1) d)≠0 then g k x (l.getD (k-1) d) else zaV g d l (k+1) r
def zd2 (n:Nat) (g:Nat->α->α->Int) (d:α) (l:List α):Int:=if n<l.length then 2 else zaV g d l 0 l
variable {g:Nat->α->α->Int} {d:α} {l r:List α} {k n:Nat} {x:α} {e:Int}
theorem zaT (h:g k x (l.getD (k-1) d)=0):zaV g d l k (x::r)=zaV g d l (k+1) r:=by rw [zaV,if_neg (fun q=>q h)]
theorem zbK (h:n<l.length):2=zd2 n g d l:=by rw [zd2,if_pos h]
theorem zbz (hn: ¬n<l.length) (hg:zaV g d l 0 l=zaV g d l l.length []):0=zd2 n g d l:=by rw [zd2,if_neg hn,hg];rfl
theorem zy (hn: ¬n<l.length) (hg:zaV g d l 0 l=zaV g d l k (x::r)) (he:g k x (l.getD (k-1) d)=e) (h0:e≠0):e=zd2 n g d l:=by
 rw [zd2,if_neg hn,hg,zaV,if_pos (by rw [he];exact h0),he]
theorem zul: ∀{r:List α} {k:Nat},l.drop k=r->zaV g d l k r=0->∀(i:Nat) (x:α),k<=i->l[i]? =some x->g i x (l.getD (i-1) d)=0
 |[],k,hd,_,i,x,hi,hx=>by
   have h1:l.length<=k:=by simpa using hd
   have:=zp hx
   omega
 |y::r,k,hd,h,i,x,hi,hx=>by
   rw [zaV] at h
   split at h
   contradiction
   rename_i h0
   rcases Nat.eq_or_lt_of_le hi with e|e
   subst e;have:l[k]? =some y:=by have:=congrArg (fun q:List α=>q[0]?) hd;simpa using this
   rw [this] at hx;cases hx
   simpa using h0
   exact zul (by rw [<-Bl (i:=1),hd];rfl) h i x e hx
theorem zfD (h:zd2 n g d l=0):l.length<=n/\∀(i:Nat) (x:α),l[i]? =some x->g i x (l.getD (i-1) d)=0:=by
 unfold zd2 at h
 split at h
 contradiction
 exact ⟨by omega,fun i x hx=>zul (k:=0) rfl h i x (Ad _) hx⟩
end
/-! what is wrong-/
abbrev leB (a b:Str):Bool:=bytesLess a b||a==b
def zdm (l:List Str):Int:=if l.length=0 then 8 else if 10<l.length then 2 else zdQ l
def zcR (k:Nat) (x p:PlayerS):Int:=if key x.Key=false then 5 else if 0<k/\leB x.Key p.Key=true then 7 else zdm x.Positions
def zcN (l:List PlayerS):Int:=zd2 500 zcR zen l
def zgA (l:List PlayerS) (s:Str):Bool:=(l.map (·.Key)).contains s
def zdZ (L:List PlayerS) (k:Nat) (x p:StintS):Int:=
 if zgA L x.Player=false then 8 else if x.Club≠[]/\key x.Club=false then 5 else if zaQ x.Week=false then 1
 else if 0<k/\orI [zY x.Player p.Player,zaj x.Week p.Week]<=0 then 7 else 0
def zjl (L:List PlayerS) (l:List StintS):Int:=zd2 1000 (zdZ L) zfu l
def zkw (L:List PlayerS) (l:List StintS):Int:=if zcN L≠0 then zcN L else zjl L l
def zb5 (L:List PlayerS) (k:Nat) (x p:HealthS):Int:=
 if zgA L x.Player=false then 8 else if out x.To 2 61=true\/out x.From 1 (x.To-1)=true then 1 else if out x.Kind 1 2=true then 4
 else if 0<k/\orI [zY x.Player p.Player,zaj x.From p.From]<=0 then 7 else if 0<k/\x.Player=p.Player/\x.From<p.To then 13 else 0
def zor (L:List PlayerS) (l:List HealthS):Int:=zd2 1000 (zb5 L) zgB l
def zoq (L:List PlayerS) (l:List HealthS):Int:=if zcN L≠0 then zcN L else zor L l
def zgg (k:Nat) (x p:FixS):Int:=
 if zaQ x.Week=false\/zaa x.At=false then 1 else if key x.Home=false\/key x.Away=false then 5 else if x.Home=x.Away then 6
 else if 0<k/\orI [zaj x.Week p.Week,zaj x.At p.At,zY x.Home p.Home]<=0 then 7 else 0
def zjj (l:List FixS):Int:=zd2 1000 zgg zls l
def zmX (n d:Int):Bool:=Nat.gcd n.natAbs d.natAbs==1
def zbB (n d most:Int):Int:=if d<1\/zmX n d=false then 3 else if (100:Int).tmod d≠0\/out n (-most*d) (most*d)=true then 1 else 0
def zqU (k:Int):Bool:=k==2||k==3
def zd7 (k:Nat) (x p:RuleS):Int:=
 if (key x.Key=false\/key x.Stat=false)\/x.Position≠[]/\key x.Position=false then 5 else if 0<k/\leB x.Key p.Key=true then 7
 else if out x.Kind 1 4=true then 4 else if zqU x.Kind=true/\out x.Many 1 100000=true\/zqU x.Kind=false/\x.Many≠0 then 1
 else zbB x.Num x.Den 10000
def zgM (l:List RuleS):Int:=zd2 100 zd7 zk0 l
def zcO (l:List SlotS):Nat->List SlotS->Int
 |_,[]=>0
 |k,x::r=>if key x.Key=false then 5 else if ((l.take k).any fun y=>y.Key==x.Key)=true then 6 else if zdm x.Positions≠0 then zdm x.Positions else zcO l (k+1) r
def zdn (l:List SlotS):Int:=if l.length=0 then 8 else if 12<l.length then 2 else zcO l 0 l
def zdU (b:BoundS):Int:=if ((out b.Most 1 20=true\/out b.Hurt 0 20=true)\/out b.Adds 0 2000=true)\/out b.Hold 0 1209600000=true then 1 else 0
def zgZ (a b:MoveS):Int:=orI [zaj a.At b.At,zY a.Team b.Team,zY a.Player b.Player,zaj a.Kind b.Kind]
def zeK (k:Nat) (x p:MoveS):Int:=
 if zaa x.At=false then 1 else if out x.Kind 1 4=true then 4 else if key x.Team=false\/key x.Player=false then 5
 else if 0<k/\zgZ x p<=0 then 7 else 0
def zfi (l:List MoveS):Int:=zd2 2000 zeK zjD l
def zdo (l:List Str):Int:=if 20<l.length then 2 else if l.length<2 then 8 else zdQ l
def zgs (a b:GameS):Int:=orI [zaj a.Week b.Week,zY a.Home b.Home,zY a.Away b.Away]
def zhZ (x:GameS):Int:=
 if x.Played=false then (if ¬(x.FNum=0/\x.FDen=0)\/¬(x.ONum=0/\x.ODen=0) then 3 else 0)
 else if zbB x.FNum x.FDen 1000000=3\/zbB x.ONum x.ODen 1000000=3 then 3 else orI [zbB x.FNum x.FDen 1000000,zbB x.ONum x.ODen 1000000]
def zcp (T:List Str) (k:Nat) (x p:GameS):Int:=
 if zaQ x.Week=false then 1 else if T.contains x.Home=false\/T.contains x.Away=false then 8 else if x.Home=x.Away then 6
 else if zhZ x≠0 then zhZ x else if 0<k/\zgs x p<=0 then 7 else 0
def zi7 (x y:GameS):Bool:=y.Week==x.Week&&(y.Home==x.Home||y.Home==x.Away||y.Away==x.Home||y.Away==x.Away)
def zdY (l:List GameS):Nat->List GameS->Bool
 |_,[]=>false
 |k,x::r=>(l.take k).any (zi7 x)||zdY l (k+1) r
def zed (T:List Str) (l:List GameS):Int:=if zd2 1000 (zcp T) zes l≠0 then zd2 1000 (zcp T) zes l else if zdY l 0 l=true then 13 else 0
def zfJ (T:List Str) (l:List GameS):Int:=if zdo T≠0 then zdo T else zed T l
def zep (l:List Int):Nat->List Int->Int
 |_,[]=>0
 |k,n::r=>if out n 1 5=true then 4 else if (l.take k).contains n=true then 6 else zep l (k+1) r
def zit (l:List Int):Int:=if 5<l.length then 2 else zep l 0 l
end
section
section
variable {α:Type}
def Srt (c:α->α->Int) (l:List α):Prop:=l.Pairwise fun a b=>c a b<=0
theorem Cmp.self {c:α->α->Int} (hc:Cmp c fun _=>True) (x:α):c x x<=0:=by
 have:=hc.flip x x trivial trivial;omega
theorem Srt.get {c:α->α->Int} (hc:Cmp c fun _=>True) {l:List α} (h:Srt c l) {i j:Nat} {x y:α} (hij:i<=j) (hx:l[i]? =some x) (hy:l[j]? =some y):c x y<=0:=by
 rcases AD i j with hlt|hge
 have h1:=zp hx;have h2:=zp hy;have:=List.pairwise_iff_getElem.1 h i j h1 h2 hlt;rw [Aa h1] at hx;rw [Aa h2] at hy;rw [Aw hx,Aw hy] at this;exact this;have e:i=j:=by omega
 rw [e,hy] at hx;rw [Aw hx];exact hc.self _
theorem Srt.take {c:α->α->Int} {l:List α} (h:Srt c l) (k:Nat):Srt c (l.take k):=Cw (List.take_sublist k l) h
theorem Srt.drop {c:α->α->Int} {l:List α} (h:Srt c l) (k:Nat):Srt c (l.drop k):=Cw (List.drop_sublist k l) h
theorem Srt.nil {c:α->α->Int}:Srt c []:=List.Pairwise.nil
end
end
end Go.HL
section
namespace Go.HL
section
variable {P:Program} {ops:Array Oper} {n:Nat} {S:List MObj->Prop} {ld:List Nat} {K:Env->List MObj->Prop} {e:Env} {M:List MObj} {listed:Array Bool} {fuel:Nat} {d:Nat} {op:Op} {ty:TypeId} {pos:String} {af:Array Edge} {h:HVal}
theorem zpI [Tracks] (i:Nat) {j:Nat} {want c:Bool} (hi:ops[i]? =some ⟨some d,op,ty,pos,af,some (j,want)⟩) (hd:Nat.blt d n=true) (hf:Region.free .any ops listed i=true) (hr:(Region.ready .any ops listed).contains i=true) (hl:i∈ld) (hS:S M)
 (hg:zet ops e j want=some c) (hp:c=true->∃e2,OpenTo e e2/\∀M,S M->EOp P e2 M ⟨some d,op,ty,pos,af,some (j,want)⟩ fun x M'=>x=h/\M'=M)
 (k:HAny P ops n S ld K fuel (listed.setIfInBounds i true) (upd e d (.opt c h)) M):HAny P ops n S ld K (fuel+1) listed e M:=
 HAny.first (T:=S) hi (fun t ht=>by simp at ht;subst ht;exact zgR hd) (.inr ⟨rfl,hl⟩) fuel listed e M (Region.free_spec hi hf) (by simpa using hr)
  ⟨c,hg,fun hc M hM=>by
   obtain ⟨e2,h1,h2⟩:=hp hc
   intro I F a w ho hs
   exact zba (fun _ _ ⟨v,x,M',J,h3,h4,⟨e1,e3⟩,h5,h6⟩=>⟨v,.opt c h,M,J,h3,h4,⟨rfl,rfl⟩,.opt (fun _=>e1▸h5) (fun hf=>by rw [hc] at hf;cases hf),e3▸h6⟩) (h2 M hM I F a w (ho.open h1) hs),
   fun hc=>⟨h,by rw [hc]⟩⟩ hS k
end
theorem zGQ {x:Nat} (h:x<16):IntKind.wrap .u8 (x:Int)=(x:Int):=by
 have:(List.range 16).all (fun x=>IntKind.wrap .u8 (x:Int)==(x:Int))=true:=by decide
 simpa using List.all_eq_true.1 this x (List.mem_range.2 h)
theorem zDn {x:Nat} (h:x<16):IntKind.wrap .u64 (x:Int)=(x:Int):=by
 have:(List.range 16).all (fun x=>IntKind.wrap .u64 (x:Int)==(x:Int))=true:=by decide
 simpa using List.all_eq_true.1 this x (List.mem_range.2 h)
theorem zP {k:IntKind} {a b:Int} (h:a=b):some (HVal.int k a)=some (.int k b):=by rw [h]
section
variable {α:Type} {c:α->α->Int}
theorem zlx (l:List α):zao c (l.take 1)++l.drop 1=l:=by
 cases l with
 |nil=>rfl
 |cons x r=>simp [zao,zdE,zmT]
theorem zgz {A R:List α} {x:α}:(A++x::R)[A.length]? =some x:=by simp
theorem zh0 {A R:List α} {x:α} (h:0<A.length):(A++x::R)[A.length-1]? =some ((A[A.length-1]?).getD x):=by
 rw [Ao (by omega),Aa (by omega)]
 simp [Aa (show A.length-1<A.length by omega)]
theorem zo9 {A:List α} (h:0<A.length): ∃B y,A=B++[y]:=by
 have hne:A≠[]:=fun e=>by subst e;simp at h
 exact ⟨_,_,(BA hne).symm⟩
theorem zjd {A:List α} {y d:α}:((A++[y])[(A++[y]).length-1]?).getD d=y:=by simp
theorem zp8 {A R:List α} {x y:α}:(((A++[y])++x::R).set (A++[y]).length y).set ((A++[y]).length-1) x=A++x::y::R:=by
 have e1:((A++[y])++x::R).set (A++[y]).length y=(A++[y])++y::R:=by rw [B4 _ _ (Af _)];simp
 rw [e1,AV];have e2:(A++[y]).length-1=A.length:=by simp
 rw [e2,B4 _ _ (Af _)]
 simp
theorem zpY {l A B:List α} {x:α} {k:Nat} (hx:l[k]? =some x) (hB:zdE c x (zao c (l.take k))=zdE c x A++B) (h:0<A.length->¬c x ((A[A.length-1]?).getD x)<0):A++x::(B++l.drop (k+1))=zao c (l.take (k+1))++l.drop (k+1):=by
 rw [zaf hx,zqP,hB]
 rcases A8 A.length with h0|h0
 obtain rfl:=List.length_eq_zero_iff.1 h0
 simp [zz8]
 obtain ⟨A',y,rfl⟩:=zo9 h0;have:=h h0;rw [zjd] at this;rw [zsB,if_neg this];simp
theorem zpZ {A B:List α} {x y:α} {S:List α} (hB:zdE c x S=zdE c x (A++[y])++B) (h:c x y<0):zdE c x S=zdE c x A++(y::B):=by
 rw [hB,zsB,if_pos h];simp
end
end Go.HL
namespace Go.HL
section
variable {α:Type} {p:α->Bool}
structure DelInv (p:α->Bool) (l:List α) (j:Nat) (D:List α):Prop where
 len:D.length=l.length
 jle:j<=l.length
 lt:((l.take j).filter (fun x=> !p x)).length<j
 kept:D.take ((l.take j).filter (fun x=> !p x)).length=(l.take j).filter (fun x=> !p x)
 rest:D.drop j=l.drop j
theorem zlr {l:List α} {j:Nat} {x:α} (hx:l[j]? =some x):(l.take (j+1)).filter (fun x=> !p x)=(l.take j).filter (fun x=> !p x)++if p x then [] else [x]:=by
 rw [zaf hx,BD]
 by_cases h:p x<;>simp [h]
theorem DelInv.get {l D:List α} {j:Nat} {x:α} (h:DelInv p l j D) (hx:l[j]? =some x):D[j]? =some x:=by
 have h1:=congrArg (fun t=>t[0]?) h.rest;simp only [AK,BR] at h1;rw [h1];exact hx
theorem DelInv.drop1 {l D:List α} {j:Nat} (h:DelInv p l j D):D.drop (j+1)=l.drop (j+1):=by
 have:=congrArg (List.drop 1) h.rest
 simpa [Bl] using this
theorem DelInv.skip {l D:List α} {j:Nat} {x:α} (h:DelInv p l j D) (hx:l[j]? =some x) (hp:p x=true):DelInv p l (j+1) D/\((l.take (j+1)).filter (fun x=> !p x)).length=((l.take j).filter (fun x=> !p x)).length:=by
 have e:=zlr (p:=p) hx;rw [if_pos hp,Bf] at e;refine ⟨⟨h.len,by have:=zp hx;omega,by rw [e];have:=h.lt;omega,by rw [e];exact h.kept,h.drop1⟩,by rw [e]⟩
theorem DelInv.keep {l D:List α} {j:Nat} {x:α} (h:DelInv p l j D) (hx:l[j]? =some x) (hp:p x=false):
 DelInv p l (j+1) (D.set ((l.take j).filter (fun x=> !p x)).length x)/\((l.take (j+1)).filter (fun x=> !p x)).length=((l.take j).filter (fun x=> !p x)).length+1:=by
 have e:=zlr (p:=p) hx;rw [if_neg (by simp [hp])] at e;have hlt:=h.lt;have hj:=zp hx;have hl:=h.len;have el:((l.take (j+1)).filter (fun x=> !p x)).length=((l.take j).filter (fun x=> !p x)).length+1:=by rw [e];simp
 refine ⟨⟨by simp [hl],by omega,by omega,?_,?_⟩,el⟩
 rw [el,e];have hk:=h.kept
 generalize ((l.take j).filter (fun x=> !p x))=F at*
 rw [zaf (Bb (by omega)),List.take_set_of_le (Af _),hk];rw [List.drop_set_of_lt (by omega)];exact h.drop1
theorem zgC (p:α->Bool): ∀(l:List α) (k:Int),0<=k->zW p l k≠ -1->∃i:Nat,zW p l k=k+i/\i<l.length/\(∃x,l[i]? =some x/\p x=true)/\∀y∈l.take i,p y=false
 |[],k,_,h=>by simp [zW] at h
 |x::r,k,h0,h=>by
   by_cases hx:p x=true
   exact ⟨0,by simp [zW,hx],by simp,⟨x,rfl,hx⟩,by simp⟩;have e:zW p (x::r) k=zW p r (k+1):=by simp [zW,hx]
   rw [e] at h⊢;obtain ⟨i,h1,h2,⟨y,h3,h4⟩,h5⟩:=zgC p r (k+1) (by omega) h;refine ⟨i+1,by rw [h1];simp;omega,by simp;omega,⟨y,by simpa using h3,h4⟩,fun z hz=> ?_⟩
   simp only [Cd,BT] at hz
   rcases hz with rfl|hz
   simpa using hx
   exact h5 z hz
theorem zhH (p:α->Bool): ∀(l:List α) (k:Int),0<=k->zW p l k= -1->l.filter (fun x=> !p x)=l
 |[],_,_,_=>rfl
 |x::r,k,h0,h=>by
   by_cases hx:p x=true
   simp [zW,hx] at h;omega
   have e:zW p (x::r) k=zW p r (k+1):=by simp [zW,hx]
   rw [e] at h;rw [AU,if_pos (by simp [hx]),zhH p r (k+1) (by omega) h]
theorem DelInv.start {l:List α} {i:Nat} {x:α} (hi:i<l.length) (hx:l[i]? =some x) (hp:p x=true) (hb: ∀y∈l.take i,p y=false):DelInv p l (i+1) l/\((l.take (i+1)).filter (fun x=> !p x)).length=i:=by
 have e:=zlr (p:=p) hx;rw [if_pos hp,Bf,(Ca (l:=l.take i) (p:=fun x=> !p x)).2 (fun y hy=>by simp [hb y hy])] at e;have hl:(l.take i).length=i:=by simp;omega
 refine ⟨⟨rfl,by omega,by rw [e];omega,by rw [e,hl],rfl⟩,by rw [e,hl]⟩
theorem DelInv.done {l D:List α} (h:DelInv p l l.length D):D.take (l.filter (fun x=> !p x)).length=l.filter (fun x=> !p x):=by
 have:=h.kept
 rwa [Ak] at this
end
theorem ziG {cap off sz m n:Nat} (h1:m<=n) (h2:n<=cap):n-m=0\/ziP cap off sz m=off+m*sz:=by
 unfold ziP
 by_cases h:cap=m
 exact .inl (by omega);exact .inr (by rw [if_neg h])
end Go.HL
namespace Go.HL
end Go.HL
end
namespace Go.HL
section
section
variable {α:Type} {c:α->α->Int}
def Blk (c:α->α->Int) (bs:Nat) (l:List α):Prop:= ∀q,Srt c ((l.drop (bs*q)).take bs)
theorem Blk.all {bs:Nat} {l:List α} (h:Blk c bs l) (hl:l.length<=bs):Srt c l:=by
 have:=h 0;rw [Nat.mul_zero,Co,A3 hl] at this;exact this
theorem Blk.nil {bs:Nat}:Blk c bs []:=fun q=>by simp [Srt.nil]
theorem Blk.add {bs k:Nat} {Z W:List α} (h:Blk c bs Z) (hZ:Z.length=bs*k) (hW:Srt c W) (hl:W.length<=bs):Blk c bs (Z++W):=by
 intro q
 rcases B0 q k with hq|hq|hq
 have h1:bs*q+bs<=Z.length:=by rw [hZ,<-Nat.mul_succ];exact Nat.mul_le_mul_left bs hq
 rw [List.drop_append_of_le_length (by omega),A5 (by rw [Bt];omega)];exact h q;rw [hq,<-hZ,List.drop_left,A3 hl];exact hW;have h1:Z.length+bs<=bs*q:=by rw [hZ,<-Nat.mul_succ];exact Nat.mul_le_mul_left bs hq
 rw [List.drop_of_length_le (by rw [Av];omega)]
 simp [Srt.nil]
theorem Blk.at {bs q a:Nat} {l:List α} (h:Blk c bs l) (ha:a=bs*q):Srt c ((l.drop a).take bs):=by rw [ha];exact h q
theorem zAb {A D:List α} {x:α} (h:0<D.length):((A++D)[(A++D).length-1]?).getD x=(D[D.length-1]?).getD x:=by
 rw [Al (by rw [Av];omega)]
 congr 2;rw [Av];omega
theorem zoz {A D:List α} {x:α} (h:0<D.length):((A++D)[A.length+D.length-1]?).getD x=(D[D.length-1]?).getD x:=by
 have:=zAb (A:=A) (x:=x) h;rw [Av] at this;exact this
theorem zuL {A D:List α} {x y:α}:((A++(D++[y]))[A.length+(D++[y]).length-1]?).getD x=y:=by
 rw [zoz (by simp)];exact zjd
theorem zmV {A D R:List α} {x y:α}:((A++(D++[y]))++x::R)[(A++(D++[y])).length-1]? =some y:=by
 have e:(A++(D++[y]))++x::R=(A++D)++y::x::R:=by simp
 have hl:(A++(D++[y])).length-1=(A++D).length:=by simp [<-A6]
 rw [e,hl];simp
theorem zwe {A D B E C R:List α} {x:α} (h:D++x::(B++E)=R):(A++D)++x::(B++E++C)=A++R++C:=by rw [<-h];simp
theorem zkV (hc:Cmp c fun _=>True) (l:List α):Srt c (zao c l):=zgj hc (fun _ _=>trivial)
theorem win {l:List α} {a m:Nat}:l.drop a=(l.drop a).take m++l.drop (a+m):=by rw [<-Bl,Bi]
theorem zs5 {l:List α} {a m:Nat}:l.take (a+m)=l.take a++(l.drop a).take m:=List.take_add
end
end
section
section
variable {α:Type} [DecidableEq α]
def zan (p:Option α):List α->List α
 |[]=>[]
 |x::r=>if p=some x then zan (some x) r else x::zan (some x) r
theorem zoA: ∀(l:List α) (p:Option α) (s:α),s∈zan p l->s∈l
 |[],_,s,h=>by simp [zan] at h
 |x::r,p,s,h=>by
   simp only [zan] at h
   split at h
   exact Am _ (zoA r _ s h)
   rcases List.mem_cons.1 h with h|h
   subst h;simp;exact Am _ (zoA r _ s h)
theorem zrq (x:α): ∀(A:List α) (p:Option α),zan p (A++[x])=zan p A++if (A.getLast?.or p)=some x then [] else [x]
 |[],p=>by
   by_cases h:p=some x<;>simp [zan,h]
 |y::A,p=>by
   have ih:=zrq x A (some y);have e:((y::A).getLast?.or p)=(A.getLast?.or (some y)):=by
    cases A with
    |nil=>simp
    |cons z A=>simp [List.getLast?_cons_cons,List.getLast?_cons]
   simp only [AY,zan];rw [e,ih]
   split<;>simp
theorem zjM {l:List α} {k:Nat} {x y:α} (hx:l[k]? =some x) (hy:l[k-1]? =some y) (h0:0<k):zan none (l.take (k+1))=zan none (l.take k)++if x=y then [] else [x]:=by
 have hk:=zp hx;rw [zaf hx,zrq];have e:((l.take k).getLast?.or none)=some y:=by
  rw [List.getLast?_eq_getElem?,Az,Ci (by omega),AE (by omega),hy];rfl
 rw [e]
 by_cases h:x=y
 rw [if_pos h,if_pos (by rw [h])];rw [if_neg h,if_neg (by simpa using fun q:y=x=>h q.symm)]
theorem zs7 {l:List α} (h:l.length<2):zan none l=l:=by
 match l,h with
 |[],_=>rfl
 |[x],_=>rfl
structure CmpA (l:List α) (j:Nat) (D:List α):Prop where
 len:D.length=l.length
 lo:D.take (zan none (l.take j)).length=zan none (l.take j)
 lt:(zan none (l.take j)).length<j
 hi: ∀i,j<=i+1->D[i]? =l[i]?
theorem CmpA.start {l:List α} {k:Nat} {x y:α} (hx:l[k]? =some x) (hy:l[k-1]? =some y) (h0:0<k) (e:x=y) (h:zan none (l.take k)=l.take k):CmpA l (k+1) l/\(zan none (l.take (k+1))).length=k:=by
 have hk:=zp hx;have h1:zan none (l.take (k+1))=l.take k:=by rw [zjM hx hy h0,if_pos e,h];simp
 have h2:(l.take k).length=k:=by rw [Az];omega
 exact ⟨⟨rfl,by rw [h1,h2],by rw [h1,h2];omega,fun _ _=>rfl⟩,by rw [h1,h2]⟩
theorem CmpA.same {l D:List α} {j:Nat} (h:CmpA l j D) {x y:α} (hx:l[j]? =some x) (hy:l[j-1]? =some y) (e:x=y):CmpA l (j+1) D/\(zan none (l.take (j+1))).length=(zan none (l.take j)).length:=by
 have h0:=h.lt;have h1:zan none (l.take (j+1))=zan none (l.take j):=by rw [zjM hx hy (by omega),if_pos e];simp
 exact ⟨⟨h.len,by rw [h1];exact h.lo,by rw [h1];omega,fun i hi=>h.hi i (by omega)⟩,by rw [h1]⟩
theorem CmpA.more {l D:List α} {j:Nat} (h:CmpA l j D) {x y:α} (hx:l[j]? =some x) (hy:l[j-1]? =some y) (e:x≠y):CmpA l (j+1) (D.set (zan none (l.take j)).length x)/\(zan none (l.take (j+1))).length=(zan none (l.take j)).length+1:=by
 have h0:=h.lt;have hl:=h.len;have hj:=zp hx;have h1:zan none (l.take (j+1))=zan none (l.take j)++[x]:=by rw [zjM hx hy (by omega),if_neg e]
 have h2:(zan none (l.take (j+1))).length=(zan none (l.take j)).length+1:=by rw [h1];simp
 refine ⟨⟨by simpa using hl,?_,by omega,fun i hi=> ?_⟩,h2⟩
 rw [h2,h1];have h3:(D.set (zan none (l.take j)).length x)[(zan none (l.take j)).length]? =some x:=by
  rw [Bb (by omega)]
 rw [zaf h3,List.take_set_of_le (Af _),h.lo];rw [A0 (by omega)];exact h.hi i (by omega)
theorem zs6: ∀(l:List α) (p:Option α),(zan p l).length<=l.length
 |[],p=>by simp [zan]
 |x::r,p=>by
   have:=zs6 r (some x);simp only [zan]
   split
   simp only [Ai];omega;simp only [Ai];omega
theorem zs0 {cap off sz m:Nat} (h:m<cap):ziP cap off sz m=off+m*sz:=by
 unfold ziP;rw [if_neg (by omega)]
/-! two lists without repeats,each strictly sorted-/
variable {c:α->α->Int}
end
end
end Go.HL
section
namespace Go.HL
theorem zvp (a b:List Asset):ze1 (a++b)=ze1 a+ze1 b:=by simp [ze1]
theorem zsb: ∀{L:List Asset},(∀x∈L,-1000000<=x.Value/\x.Value<=1000000)-> -1000000*(L.length:Int)<=ze1 L/\ze1 L<=1000000*(L.length:Int)
 |[],_=>by simp [ze1]
 |x::L,h=>by
   have ih:=zsb (L:=L) fun y hy=>h y (Am _ hy)
   have hx:=h x (by simp);have e:ze1 (x::L)=x.Value+ze1 L:=by simp [ze1]
   rw [e,Ai];omega
theorem zqW {l:List Asset} {pos:Str} {m:Int} {y:Asset} (h:y∈zgb (ofP l pos) m):y∈l:=by
 unfold zgb at h;have h1:=AL (List.mem_filter.1 h).1;unfold ofP zhP at h1;exact (List.mem_filter.1 ((zeu byValue).1 h1)).1
theorem zxf (o:List Asset) (m:Int):(zgb o m).length<=o.length:=by
 unfold zgb;refine Aq (AZ _ _) ?_
 simp;omega
theorem zno (f:Str->List Asset) {p:List Place} {i:Nat} {x:Place} (h:p[i]? =some x):zaD f (p.take (i+1))=zaD f (p.take i)++zgb (f x.Position) x.Many:=by
 rw [zaf h];simp [zaD]
theorem zok {f:Str->List Asset} {n:Nat} (hf: ∀s,(f s).length<=n): ∀p:List Place,(zaD f p).length<=n*p.length
 |[]=>by simp [zaD]
 |x::p=>by
   have ih:=zok hf p;have h1:=zxf (f x.Position) x.Many;have h2:=hf x.Position;have e:zaD f (x::p)=zgb (f x.Position) x.Many++zaD f p:=by simp [zaD]
   rw [e,Av,Ai,Nat.mul_succ];omega
theorem zuU {f:Str->List Asset} {l:List Asset} (hf: ∀s m y,y∈zgb (f s) m->y∈l) {p:List Place} {y:Asset} (h:y∈zaD f p):y∈l:=by
 unfold zaD at h;obtain ⟨x,_,hx⟩:=List.mem_flatMap.1 h;exact hf _ _ y hx
theorem zuA {f:Str->List Asset} {l:List Asset} {p:List Place} {i:Nat} (hf: ∀s m y,y∈zgb (f s) m->y∈l) (hn: ∀s,(f s).length<=12) (hp:p.length<=10) (hv: ∀x∈l,-1000000<=x.Value/\x.Value<=1000000):
 (zaD f (p.take i)).length<=120/\ -120000000<=ze1 (zaD f (p.take i))/\ze1 (zaD f (p.take i))<=120000000:=by
 have h1:=zok hn (p.take i);have h2:(p.take i).length<=10:=by simp;omega
 have h3:=zsb (L:=zaD f (p.take i)) fun y hy=>hv y (zuU hf hy)
 have h4:(zaD f (p.take i)).length<=120:=by omega
 omega
theorem zD4 {C l:List Asset} {k:Nat} (hC: ∀y∈C,y∈l) (hn:C.length<=12) (hv: ∀x∈l,-1000000<=x.Value/\x.Value<=1000000):
 ((C.take k).filter (fun y=>decide (0<y.Value))).length<=12/\ -12000000<=ze1 ((C.take k).filter (fun y=>decide (0<y.Value)))/\ze1 ((C.take k).filter (fun y=>decide (0<y.Value)))<=12000000:=by
 have h1:=AZ (fun y:Asset=>decide (0<y.Value)) (C.take k);have h2:(C.take k).length<=12:=by simp;omega
 have h3:=zsb (L:=(C.take k).filter (fun y=>decide (0<y.Value))) fun y hy=>hv y (hC y (AL (List.mem_filter.1 hy).1))
 omega
theorem zm2 {C:List Asset} {k:Nat} {y:Asset} (h:C[k]? =some y):(C.take (k+1)).filter (fun y=>decide (0<y.Value))=(C.take k).filter (fun y=>decide (0<y.Value))++if 0<y.Value then [y] else []:=by
 rw [zaf h,BD]
 by_cases hy:0<y.Value<;>simp [hy]
theorem zsn {o:List Asset} {m:Int} {N:Nat} (hN:(if (o.length:Int)<m then (o.length:Int) else m)=(N:Int)):zgb o m=((o.take N).drop 0).filter (fun y=>decide (0<y.Value)):=by
 unfold zgb;have:(min m (o.length:Int)).toNat=N:=by split at hN<;>omega
 rw [this,Co]
def zlE (l:List Asset) (p:List Place):Int:=orI [zdI l,zdJ p]
theorem zCR {l:List Asset} {p:List Place} (h:zlE l p=0):zdI l=0/\zdJ p=0:=zAu h
def zvo (l:List Asset) (p:List Place):Int:=ze1 (zaD (ofP l) p)
def zzS (l:List Asset) (F:Nat->Int) (q:Option (Nat×Int)) (k:Nat) (x:Asset):Option (Nat×Int):=
 match q with
 |none=>some (k,F k)
 |some (b,n)=>if n<F k\/(F k=n/\x.Value<=(l.getD b zj1).Value) then some (k,F k) else some (b,n)
def zCl (l:List Asset) (F:Nat->Int) (n:Nat):Option (Nat×Int):=(List.range n).foldl (fun q k=>zzS l F q k (l.getD k zj1)) none
def zGh (l:List Asset) (p:List Place) (k:Nat):Int:=zvo (l.eraseIdx k) p
def dropped (l:List Asset) (p:List Place):Option (Nat×Int):=zCl l (zGh l p) l.length
end Go.HL
namespace Go.HL
end Go.HL
namespace Go.HL
end Go.HL
end
namespace Go.HL
section
structure GL (α:Type) where
 u:Value
 out:List α
 a:Nat
structure GLok {α:Type} (P:α->Prop) (n m:Nat) (q:GL α):Prop where
 len:q.out.length<=n
 all: ∀x∈q.out,P x
 a:q.a<=m
section
variable {α:Type} {P:α->Prop}
theorem GLok.add {n m m':Nat} {u u':Value} {out:List α} {a1 a2:Nat} {x:α} (h:GLok P n m ⟨u,out,a1⟩) (hx:P x) (ha:a2<=m'):GLok P (n+1) m' ⟨u',out++[x],a2⟩:=
 ⟨by have:=h.len;simp at*;omega,fun y hy=>by
  rcases List.mem_append.1 hy with hy|hy
  exact h.all y hy
  simp at hy;subst hy;exact hx,ha⟩
theorem GLok.same {n m m':Nat} {u:Value} {out:List α} {a1 a2:Nat} (h:GLok P n m ⟨u,out,a1⟩) (ha:a2<=m'):GLok P (n+1) m' ⟨u,out,a2⟩:=
 ⟨by have:=h.len;dsimp only at*;omega,h.all,ha⟩
theorem zfx {l:List α} {j:Nat} {y:α} (h: ∀x∈l,P x) (hy:P y): ∀x∈l.set j y,P x:=fun x hx=>by
 rcases zxC hx with rfl|hx
 exact hy;exact h x hx
end
theorem zq4:Sh []:=by simp [Sh]
def ziV:Asset:=⟨[97],[103,107],5⟩
def zl4:Place:=⟨[103,107],1⟩
theorem zD0:zlE [ziV] [zl4]=0:=by kernel_rfl
theorem zu0:zaD (ofP [ziV]) [zl4]=[ziV]:=by kernel_rfl
theorem zCT:zvo [ziV] [zl4]=5:=by unfold zvo;rw [zu0];rfl
theorem zyY:zq2 (zaD (ofP [ziV]) [zl4])=[[97]]:=by rw [zu0];simp [zq2,zbh,ziV]
end
section
structure PairS where
 Name:Str
 Val:Str
end
section

end
section
open Op (bytesLess)
end
section

end
section

end
section

end
section

end
section

end
section

end
section
section
variable {α:Type} [DecidableEq α]
end
theorem zuq [Tracks] {P:Program} {f:FuncId} {hargs:List HVal} {v:Value} {sz:Nat} {es:List HVal} {Q:HVal->List MObj->Prop} (h0:v= .slice none 0 0->es=[]->Con P f hargs [.arr v sz es] Q)
 (h1: ∀b off cap,v= .slice (some ⟨b,off,none⟩) es.length cap->Con P f hargs [.arr v sz es] Q):Con P f hargs [.arr v sz es] Q:=fun I F w args ha hs=>by
 rcases hs.obj (.arr v sz es) (by simp) with ⟨g1,g2⟩|⟨b,off,cap,rc,el,fr,g1,_⟩
 exact h0 g1 g2 I F w args ha hs;exact h1 b off cap g1 I F w args ha hs
end
section
def ztR:Room:=⟨[[97],[98]],2,2,[[112],[113],[114],[115]],1000,0⟩
theorem zAQ:zdc ztR []=0:=by kernel_rfl
theorem zvT:zk3 ztR []=[[97],[98],[98],[97]]:=by kernel_rfl
end
section
def zo1:Str:=[103,111,97,108]
def zo5:Play:=⟨[115],1,0,1,[109],[112],zo1,2,0⟩
def zxu:LineS:=⟨[112],1,[⟨zo1,2⟩]⟩
theorem zvf:zcJ [zo5] [[115]] 1 5 [zo5]=⟨[[112]],[(([112],zo1),2)]⟩:=by kernel_rfl
theorem zvg:orI [zbT [zo5],zcb [[115]]]=0:=by kernel_rfl
theorem zrc:zg5 [(([112],zo1),2)] [[112]]=false:=by kernel_rfl
theorem zvR:zdR [(([112],zo1),2)] [112]=[⟨zo1,2⟩]:=by kernel_rfl
theorem zC8:ziT [zo5] [[115]] 1 5=0:=by
 rw [ziT,zvg,if_neg (by decide),if_neg (by decide),zh3,zvf,zix,zrc];rfl
theorem zC9:ziU [zo5] [[115]] 1 5=[zxu]:=by
 rw [ziU,zvg,if_neg (by decide),if_neg (by decide),zd1,zvf,zhF,zrc,if_neg (by decide)]
 simp [zbh,zvR,zxu]
end
section

end
section
theorem Cmp.lt_trans {α:Type} {c:α->α->Int} {s:α->Prop} (h:Cmp c s) {x y z:α} (hx:s x) (hy:s y) (hz:s z) (h1:c x y<0) (h2:c y z<0):c x z<0:=by
 rcases Int.lt_or_le (c x z) 0 with q|q
 exact q
 exfalso
 have a1:=h.flip y z hy hz;have a2:=h.flip z x hz hx;have hzx:c z x<=0:=by
  rcases Int.lt_or_le 0 (c z x) with r|r
  have:=h.flip x z hx hz;omega;exact r
 have:=h.trans z x y hz hx hy hzx (by omega)
 omega
theorem zsj (x y:Play):byNo x y= -byNo y x:=by
 unfold byNo;rw [zkS,ze5 x.Source,zu1]
theorem ztl {a b c:Str} (h1:zY a b<=0) (h2:zY b c<=0) (h:zY a c=0):zY a b=0/\zY b c=0:=by
 have e:=zbn.1 h;subst e;rw [ze5 b a] at*
 omega
end
section
def SLt (a b:Str):Prop:=a<=b/\a≠b
theorem zvm {l:List Str} (h:l.Nodup):(zbh l).Pairwise SLt:=by
 have hn:(zbh l).Nodup:=(List.mergeSort_perm _ _).nodup_iff.2 h;have hs:=zvl l;rw [List.pairwise_iff_getElem] at*
 intro i j hi hj hij
 exact ⟨hs i j hi hj hij,List.pairwise_iff_getElem.1 hn i j hi hj hij⟩
def zde {κ:Type} (c:List ((Str×κ)×Int)) (s:Str):List (κ×Int):=(c.filter fun e=>e.1.1==s).map fun e=>(e.1.2,e.2)
theorem zsA {κ:Type} [DecidableEq κ] (s:Str) (st:κ) (v:Int) (s':Str): ∀c:List ((Str×κ)×Int),zde (zC (s,st) v c) s'=if s'=s then zC st v (zde c s) else zde c s'
 |[]=>by
   by_cases e:s'=s
   subst e;simp [zde,zC];have: ¬s=s':=fun q=>e q.symm
   simp [zde,zC,e,this]
 |p::r=>by
   have ih:=zsA s st v s' r;obtain ⟨⟨a,b⟩,w⟩:=p;simp only [zC,Prod.mk.injEq]
   by_cases h1:s=a
   subst h1
   by_cases h2:st=b
   subst h2;rw [if_pos ⟨rfl,rfl⟩]
   by_cases e:s'=s
   subst e;simp [zde,zC];have: ¬s=s':=fun q=>e q.symm
   simp [zde,e,this]
   rw [if_neg (fun q=>h2 q.2)]
   by_cases e:s'=s
   subst e;rw [if_pos rfl] at ih⊢;simp only [zde,AU,beq_self_eq_true,if_true,Au,zC,if_neg h2] at ih⊢;rw [ih];have: ¬s=s':=fun q=>e q.symm
   rw [if_neg e] at ih⊢;simp only [zde,AU,beq_iff_eq,if_neg this] at ih⊢;exact ih;rw [if_neg (fun q=>h1 q.1)]
   by_cases e:s'=s
   subst e;have: ¬a=s':=fun q=>h1 q.symm
   rw [if_pos rfl] at ih⊢;simp only [zde,AU,beq_iff_eq,if_neg this] at ih⊢;exact ih;rw [if_neg e] at ih⊢
   by_cases h3:a=s'
   simp only [zde,AU,beq_iff_eq,if_pos h3,Au] at ih⊢;rw [ih];simp only [zde,AU,beq_iff_eq,if_neg h3] at ih⊢;exact ih
theorem zsz {κ:Type} [DecidableEq κ] (s:Str) (st:κ): ∀c:List ((Str×κ)×Int),alk st (zde c s)=alk (s,st) c
 |[]=>rfl
 |⟨⟨a,b⟩,w⟩::r=>by
   have ih:=zsz s st r
   by_cases h:a=s
   subst h;simp only [zde,AU,beq_self_eq_true,if_true,Au,alk,Prod.mk.injEq,true_and] at ih⊢;rw [ih];have: ¬s=a:=fun q=>h q.symm
   simp only [zde,AU,beq_iff_eq,if_neg h,alk,Prod.mk.injEq,this,false_and,if_false] at ih⊢;exact ih
def zrl (E:List (Str×Int)):List StatS:=zao zbc ((E.filter fun e=>e.2 !=0).map fun e=>⟨e.1,e.2⟩)
end
section
theorem zr1 {l:List Str} {s:Str} (hs:SortedS l) (h:l.contains s=true):l[zbU l s]? =some s/\∀(j:Nat) (z:Str),j<zbU l s->l[j]? =some z->z≠s:=by
 obtain ⟨k,hk,e⟩:=AT (by simpa using h);have hk':l[k]? =some s:=by rw [Aa hk,e]
 have hp:zbU l s=k:=zl6 (by omega) (fun j x hj hx=>hs.get hj hx hk') (fun j x hj hx=>by
  rcases Nat.lt_or_eq_of_le hj with q|q
  exact zbR (hs.get q hk' hx);subst q;rw [hk'] at hx;cases hx;exact zag _)
 rw [hp];refine ⟨hk',fun j z hj hz e2=> ?_⟩
 have:=hs.get hj hz hk';rw [e2,zag] at this;cases this
/-! as a walk tells it-/
section
variable {α:Type} {f:α->Int} {c:α->α->Int} {d:α} {l r:List α} {k:Nat} {x:α} {e:Int}
end
theorem zhG {a b:Str}:zY a b<0↔Op.bytesLess a b=true:=by
 have h1:=ze5 a b
 constructor
 intro h
 rcases zb6 a b with q|q|q
 exact q;rw [zbn.2 q] at h;omega;have:=zjN.2 (zbR q);omega
 intro h
 have h2: ¬zY a b=0:=fun e=>by rw [zbn.1 e,zag] at h;cases h
 have h3:=zjN.2 (zbR h)
 omega
end
section
open Op
theorem zme {l:List Str} (h: ∀(j:Nat) (x y:Str),l[j]? =some x->l[j+1]? =some y->bytesLess x y=true):SortedS l:=by
 have key: ∀(d i:Nat) (a b:Str),l[i]? =some a->l[i+d+1]? =some b->bytesLess a b=true:=by
  intro d
  induction d with
  |zero=>intro i a b ha hb;exact h i a b ha hb
  |succ d ih=>
    intro i a b ha hb
    have hl:=zp hb;obtain ⟨c,hc⟩: ∃c,l[i+d+1]? =some c:=⟨_,Aa (by omega)⟩
    exact zew (ih i a c ha hc) (h (i+d+1) c b hc (by rw [<-hb];congr 1))
 refine List.pairwise_iff_getElem.2 fun i j hi hj hij=> ?_
 exact key (j-i-1) i _ _ (Aa hi) (by rw [show i+(j-i-1)+1=j by omega];exact Aa hj)
end
section
/-! sets of numbers as bits-/
abbrev zDZ:Int:= -1000
inductive WayB (al:Nat->Nat->Bool) (can:List (List Nat)) (fr:Nat) (g:List Nat):List Nat->Int->Prop
 |nil:WayB al can fr g [] 0
 |snoc {q:List Nat} {c:Int} {k:Nat} (h:WayB al can fr g q c) (hk:k∈(fr+q.length)::can.getD (fr+q.length) []) (ha:al (fr+q.length) k=true) (hn:k∉g++q):
    WayB al can fr g (q++[k]) (c+if k=fr+q.length then 0 else 1)
theorem WayB.bd {al:Nat->Nat->Bool} {can:List (List Nat)} {fr:Nat} {g q:List Nat} {c:Int} (h:WayB al can fr g q c):0<=c/\c<=q.length:=by
 induction h with
 |nil=>simp
 |snoc h hk ha hn ih=>rw [Av,Cx];split<;>omega
structure CanOk (can:List (List Nat)):Prop where
 lt: ∀i,∀k∈can.getD i [],k<can.length
 ne: ∀i,i∉can.getD i []
 len:can.length<=14
section
variable {al:Nat->Nat->Bool} {can:List (List Nat)} {fr:Nat} {g:List Nat}
theorem WayB.lt {q:List Nat} {c:Int} (hc:CanOk can) (h:WayB al can fr g q c) (hl:fr+q.length<=can.length): ∀k∈q,k<can.length:=by
 induction h with
 |nil=>simp
 |snoc h hk ha hn ih=>
   rw [Av,Cx] at hl
   intro k hm
   rcases List.mem_append.1 hm with hm|hm
   exact ih (by omega) k hm;rw [List.mem_singleton.1 hm]
   rcases List.mem_cons.1 hk with e|e
   omega
   exact hc.lt _ _ e
theorem WayB.nodup {q:List Nat} {c:Int} (hg:g.Nodup) (h:WayB al can fr g q c):(g++q).Nodup:=by
 induction h with
 |nil=>simpa using hg
 |snoc h hk ha hn ih=>
   rw [<-AV];refine List.nodup_append.2 ⟨ih,by simp,fun a ha b hb=> ?_⟩
   rw [List.mem_singleton.1 hb];exact fun e=>hn (e▸ha)
end
end
section
/-! ways by their heads-/
section
variable {al:Nat->Nat->Bool} {can:List (List Nat)}
end
end
section
def zGs (S:List Bool) (i:Nat):Int:=if S.getD i false=true then 0 else 1
def cS (S:List Bool):Nat->Nat->Int
 |_,0=>0
 |fr,m+1=>zGs S fr+cS S (fr+1) m
section
variable {can:List (List Nat)} {S:List Bool}
end
end
section
def BdB (m:Int) (l:List Int):Prop:= ∀t,l.getD t 0=zDZ\/(0<=l.getD t 0/\l.getD t 0<=m)
theorem BdB.mono {m m':Int} {l:List Int} (h:BdB m l) (hm:m<=m'):BdB m' l:=fun t=>by
 rcases h t with e|e
 exact .inl e;exact .inr ⟨e.1,by omega⟩
end
section
open Op
end
section
open Go
section
variable {P:Program} {e:Env} {dst:Option Tmp} {ty:TypeId} {pos:String} {af:Array Edge} {g:Option (Nat×Bool)} {M:List MObj} {K:HVal->List MObj->Prop}
theorem zqb {n:Nat} (h:n<9223372036854775808):IntKind.i64.wrap (n:Int)=(n:Int):=zkx (by omega) (by omega)
theorem zAK [Tracks] {x y:Operand} {t t':TypeId} {s k:Nat} {k':IntKind} (hx:zh e x=some (.int .i64 (s:Int))) (hy:zh e y=some (.int k' (k:Int))) (hk:k<=62):
 POp P e ⟨dst,.binOp .shr t x y t',ty,pos,af,g⟩ (.int .i64 ((s/2^k:Nat):Int)):=by
 have:=zo7 (P:=P) (dst:=dst) (ty:=ty) (pos:=pos) (af:=af) (g:=g) (t:=t) (t':=t') hx hy (by omega);have e1:min (k:Int).toNat IntKind.i64.bits=k:=by show min k 64=k;omega
 rw [e1] at this;have e2:(s:Int).fdiv (2^k)=((s/2^k:Nat):Int):=by
  rw [Int.fdiv_eq_ediv_of_nonneg _ (by exact_mod_cast Ad (2^k)),Int.natCast_ediv];simp
 rwa [e2] at this
theorem zyZ [Tracks] {x y:Operand} {t t':TypeId} {s:Nat} (hx:zh e x=some (.int .i64 (s:Int))) (hy:zh e y=some (.int .i64 1)):
 POp P e ⟨dst,.binOp .and t x y t',ty,pos,af,g⟩ (.int .i64 ((s%2:Nat):Int)):=
 zF fun I a w ho=>⟨.int .i64 ((s%2:Nat):Int),by
  have g1:=(ho.one (x:=x) (by simp [Op.operands]) hx).int_inv;have g2:=(ho.one (x:=y) (by simp [Op.operands]) hy).int_inv;have g3:(BitVec.ofInt IntKind.i64.bits (s:Int)&&&BitVec.ofInt IntKind.i64.bits 1).toNat=s%2:=by
   show (BitVec.ofInt 64 (s:Int)&&&BitVec.ofInt 64 1).toNat=s%2
   rw [BitVec.toNat_and];have h1:(BitVec.ofInt 64 (1:Int)).toNat=1:=by decide
   have h2:(BitVec.ofInt 64 (s:Int)).toNat=s%2^64:=by
    rw [BitVec.toNat_ofInt];exact BZ (s%2^64)
   rw [h1,h2,Nat.and_one_is_mod];omega
  have g4:=zqb (n:=s%2) (by omega);simp only [execOp,g1,g2,eqGuard,binOp,Op.intBits,g3,g4]
  rfl,.int _ _⟩
theorem zva [Tracks] {x y:Operand} {t t':TypeId} {k:Nat} {k':IntKind} (hx:zh e x=some (.int .i64 1)) (hy:zh e y=some (.int k' (k:Int))) (hk:k<=62):
 POp P e ⟨dst,.binOp .shl t x y t',ty,pos,af,g⟩ (.int .i64 ((2^k:Nat):Int)):=
 zF fun I a w ho=>⟨.int .i64 ((2^k:Nat):Int),by
  have h1:=(ho.one (x:=x) (by simp [Op.operands]) hx).int_inv;have h2:=(ho.one (x:=y) (by simp [Op.operands]) hy).int_inv;have h3: ¬(k:Int)<0:=by omega
  have e1:min (k:Int).toNat IntKind.i64.bits=k:=by show min k 64=k;omega
  have e2:IntKind.i64.wrap (1*2^k)=((2^k:Nat):Int):=by
   have:(1:Int)*2^k=((2^k:Nat):Int):=by rw [Int.one_mul];simp
   rw [this];exact zqb (Nat.lt_of_le_of_lt (BM (by omega) hk) (by decide))
  simp only [execOp,h1,h2,eqGuard,binOp,Op.shift,h3,if_false,e1,e2]
  rfl,.int _ _⟩
def zcX {α:Type} (x:Str):List (Str×α)->List (Str×α)
 |[]=>[]
 |p::r=>if x=p.1 then r else p::zcX x r
theorem zsX {s:Str}: ∀{l:List (Str×HVal)},(∀j h,z6 s l=some (j,h)->zcX s l=l.eraseIdx j)/\(z6 s l=none->zcX s l=l)
 |[]=>⟨fun j h hh=>by simp [z6] at hh,fun _=>rfl⟩
 |(k,x)::r=>by
   obtain ⟨h1,h2⟩:=zsX (s:=s) (l:=r)
   by_cases hk:s=k
   refine ⟨fun j h hh=> ?_,fun hh=> ?_⟩
   simp [z6,hk] at hh;rw [<-hh.1];simp [zcX,hk]
   simp [z6,hk] at hh
   refine ⟨fun j h hh=> ?_,fun hh=> ?_⟩
   simp only [z6,if_neg hk] at hh
   cases hr:z6 s r with
   |none=>rw [hr] at hh;simp at hh
   |some p=>
     rw [hr] at hh
     simp at hh
     rw [<-hh.1,zcX,if_neg hk,h1 p.1 p.2 hr];rfl
   simp only [z6,if_neg hk] at hh
   cases hr:z6 s r with
   |none=>rw [zcX,if_neg hk,h2 hr]
   |some p=>rw [hr] at hh;simp at hh
theorem zvX {α:Type} {f:α->HVal} {s:Str}: ∀L:List (Str×α),zcX s (em f L)=em f (zcX s L)
 |[]=>rfl
 |p::r=>by
   have ih:=zvX (f:=f) (s:=s) r;simp only [Au,zcX] at ih⊢
   by_cases h:s=p.1
   rw [if_pos h,if_pos h];rw [if_neg h,if_neg h,ih];rfl
theorem BornOk.erase {es:Array MapEntry} {clk:Nat} (h:BornOk es clk) {k:Nat} (hk:k<es.size):BornOk (es.eraseIdx k hk) clk:=by
 have key: ∀i m,(es.eraseIdx k hk)[i]? =some m->es[if i<k then i else i+1]? =some m:=fun i m hm=>by
  rw [Array.getElem?_eraseIdx] at hm;split at hm<;>rename_i hi<;>simp [hi,hm]
 refine ⟨fun i m hm=>h.1 _ m (key i m hm),fun i j m n hm hn he=> ?_⟩
 have:=h.2 _ _ m n (key i m hm) (key j n hn) he
 split at this<;>split at this<;>omega
theorem zrf {at':Array TypeId} {xs:Array Operand} {ρ:Operand->Value} (w:World):
 (execOp ρ ⟨dst,.call ⟨.builtin .delete,xs,at'⟩,ty,pos,af,g⟩).run P w=((Builtin.delete_ at' ty (xs.map ρ)).run P w).andThen (fun v w=> .ok (.value v) w):=by
 simp [execOp,resolve,invoke,builtin]
theorem zxk [Tracks] {α:Type} {x y:Operand} {t kt et:TypeId} {size bytes s2 b2:Nat} {zero z2:Value} {i b:Nat} {f:α->HVal} {L:List (Str×α)} {s:Str}
 (hf:Fits P t (.map kt et) size bytes zero) (hkt:Fits P kt .str s2 b2 z2) (hx:zh e x=some (.raw (.map (some b)))) (hy:zh e y=some (.str s)) (hm:M[i]? =some (.map b (sk (em f L))))
 (hk:K (.tup []) (M.set i (.map b (sk (em f (zcX s L)))))):EOp P e M ⟨dst,.call ⟨.builtin .delete,#[x,y],#[t,kt]⟩,ty,pos,af,g⟩ K:=
 EOp.of_run fun I F a w ho hs=>by
  have h1:=(ho.one (x:=x) (by simp [Op.operands,Call.operands]) hx).raw_inv;have h2:=(ho.one (x:=y) (by simp [Op.operands,Call.operands]) hy).str_inv;have hp:=hs.pull hm;obtain ⟨es,clk,h3,h4,h5⟩:=hp.obj _ Aj;obtain ⟨h6,h7⟩:=zh8 h4.1 h5;obtain ⟨n1,n2⟩:=zjc (I:=I) (s:=s) es.toList (em f L) 0 h6 h7;obtain ⟨d1,d2⟩:=zsX (s:=s) (l:=em f L);rw [zvX] at d1 d2;have hlt:b<w.heap.size:=(Array.getElem?_eq_some_iff.1 h3).1;have fin: ∀(es':Array MapEntry),es'.size=(sk (em f (zcX s L))).length/\BornOk es' clk->
   (∀(i:Nat) (p:HVal×HVal) (m:MapEntry),(sk (em f (zcX s L)))[i]? =some p->es'[i]? =some m->V I p.1 m.key/\V I p.2 m.val)->
   Sat P I (M.set i (.map b (sk (em f (zcX s L))))++F) {w with heap:=w.heap.setIfInBounds b (.map es' clk)}:=fun es' e1 e2=>by
   refine zbN hm (hp.change (m':= .map b (sk (em f (zcX s L)))) (fun k hk hnk=> ?_) (fun k hk=> .inl hk) (by simp [MObj.blocks]) ⟨es',clk,by simp [hlt],e1,e2⟩ rfl rfl rfl)
   have:k≠b:=by simpa [MObj.blocks] using hnk
   simp [AH (Ne.symm this)]
  cases hq:z6 s (em f L) with
  |none=>
    rw [d2 hq] at fin;refine ⟨.tuple #[],.tup [],_,{w with heap:=w.heap.setIfInBounds b (.map es clk)},I,?_,.refl I,hk,.tup rfl (fun j c v h _=>by simp at h),?_⟩
    rw [zrf];simp only [B6,Au,Ba,h1,h2,Builtin.delete_,Bh,AW,AP,Sem.run_bind,run_underlying hf.mapD,Result.andThen_ok,zaJ h3,zcy hkt.strD,Instr.findKey,run_underlying hkt.strD,n1 hq,Sem.run_pure,zdG h3];rw [d2 hq];exact fin es h4 h5
  |some q=>
    obtain ⟨j0,h'⟩:=q;obtain ⟨v,g1,g2⟩:=n2 j0 h' hq;have hj0:=zp7 hq;have hjl:=zp hj0;have hsz:es.size=(em f L).length:=by simpa [sk] using h4.1
    have hjs:j0<es.size:=by omega
    have hes:es.eraseIdxIfInBounds j0=es.eraseIdx j0 hjs:=by unfold Array.eraseIdxIfInBounds;rw [dif_pos hjs]
    have hd:sk (em f (zcX s L))=(sk (em f L)).eraseIdx j0:=by
     rw [d1 j0 h' hq];have e1: ∀(l:List (Str×HVal)) (j:Nat),sk (l.eraseIdx j)=(sk l).eraseIdx j:=fun l=>by
      induction l with
      |nil=>intro j;rfl
      |cons p r ih=>
        intro j
        cases j with
        |zero=>rfl
        |succ j=>simp only [Cq,sk,Au] at ih⊢;rw [ih]
     exact e1 _ _
    refine ⟨.tuple #[],.tup [],_,{w with heap:=w.heap.setIfInBounds b (.map (es.eraseIdx j0 hjs) clk)},I,?_,.refl I,hk,.tup rfl (fun j c v h _=>by simp at h),fin (es.eraseIdx j0 hjs) ⟨?_,h4.2.erase hjs⟩ fun p q m a1 a2=> ?_⟩
    rw [zrf];simp only [B6,Au,Ba,h1,h2,Builtin.delete_,Bh,AW,AP,Sem.run_bind,run_underlying hf.mapD,Result.andThen_ok,zaJ h3,zcy hkt.strD,Instr.findKey,run_underlying hkt.strD,g1,Sem.run_pure,Br,hes,zdG h3];rw [hd,Array.size_eraseIdx,List.length_eraseIdx];have:(sk (em f L)).length=es.size:=h4.1.symm;rw [this,if_pos hjs];rw [hd,List.getElem?_eraseIdx] at a1;rw [Array.getElem?_eraseIdx] at a2
    split at a1
    rename_i hp1;rw [if_pos hp1] at a2;exact h5 _ _ _ a1 a2
    rename_i hp1;rw [if_neg hp1] at a2;exact h5 _ _ _ a1 a2
end
end
section
open Go
section
variable {P:Program} {e:Env} {dst:Option Tmp} {ty:TypeId} {pos:String} {af:Array Edge} {g:Option (Nat×Bool)} {M:List MObj} {K:HVal->List MObj->Prop}
end
/-! a row that fills up-/
end
section
open Go
section
variable {P:Program} {e:Env} {dst:Option Tmp} {ty:TypeId} {pos:String} {af:Array Edge} {g:Option (Nat×Bool)}
end
end
section
open Op
def zfH:List Int->List Int->Int
 |[],[]=>0
 |[],_::_=> -1
 |_::_,[]=>1
 |x::a,y::b=>if zaj x y≠0 then zaj x y else zfH a b
end
section
open Op
theorem zCG {s:Str} (h:key s=true):leB s []=false:=by
 have hn:s≠[]:=by
  rintro rfl;have:key ([]:Str)=false:=by decide
  rw [this] at h;cases h
 cases s with
 |nil=>exact absurd rfl hn
 |cons a t=>rfl
theorem ord2 {a b:Str} {m n:Int}:orI [zY a b,zaj m n]<=0↔bytesLess a b=true\/a=b/\m<=n:=by
 rw [zef]
 split
 rename_i h
 have h0:a≠b:=fun e=>h (zbn.2 e)
 rw [<-zhG]
 constructor
 intro q;left;omega
 rintro (q|q)
 omega
 exact absurd q.1 h0
 rename_i h
 have h0:a=b:=zbn.1 (by simpa using h);subst h0;rw [zv2]
 constructor
 intro q;exact .inr ⟨rfl,q⟩
 rintro (q|q);rw [zag] at q;cases q;exact q.2
def zm7 (n:Int):Int:=if n<0 then-1 else if 0<n then 1 else 0
theorem zAY {a b:Int}:zm7 (a-b)=zaj a b:=by
 unfold zm7 zaj
 (repeat' split)<;>first|rfl|omega
theorem zzN {a b c d:Int}:zfH [a,b] [c,d]=orI [zaj a c,zaj b d]:=by
 rw [zef,zfH,zfH,zfH]
 split
 rfl
 split
 rfl
 rename_i h;have:zaj b d=0:=by simpa using h
 rw [this]
theorem zCo {x p:FixS}:orI [zaj x.Week p.Week,zaj x.At p.At,zY x.Home p.Home]<=0↔0<zfH [p.Week,p.At] [x.Week,x.At]\/zfH [p.Week,p.At] [x.Week,x.At]=0/\bytesLess p.Home x.Home=false:=by
 rw [zzN,zef,<-zjN];unfold orI
 by_cases h1:x.Week=p.Week
 by_cases h2:x.At=p.At
 have e1:zaj x.Week p.Week=0:=zcV.2 h1;have e2:zaj x.At p.At=0:=zcV.2 h2;have e3:zaj p.Week x.Week=0:=zcV.2 h1.symm;have e4:zaj p.At x.At=0:=zcV.2 h2.symm;simp only [e1,e2,e3,e4];rw [zef]
 constructor
 intro h
 refine .inr ⟨rfl,?_⟩
 simpa [orI] using h
 rintro (h|⟨_,h⟩);exact absurd h (by decide)
 simpa [orI] using h
 have e1:zaj x.Week p.Week=0:=zcV.2 h1;have e3:zaj p.Week x.Week=0:=zcV.2 h1.symm;have e2:zaj x.At p.At≠0:=fun e=>h2 (zcV.1 e)
 have e4:=zkS x.At p.At;simp only [e1,e3];rw [zef,if_pos e2]
 simp
 omega
 have e1:zaj x.Week p.Week≠0:=fun e=>h1 (zcV.1 e)
 have e3:=zkS x.Week p.Week;have e4:zaj p.Week x.Week≠0:=by omega
 rw [if_pos e1,if_pos e4]
 omega
end
end Go.HL
