/- Part 2 of the proof: a program logic, contracts of functions and plain facts; no conditions. -/
import Derived.Test.YtnlfcjoofdjpiaaGreatDoorPart1
import Derived.Ground.Names2Prog
import Derived.KernelRfl
import Derived.Lib.Bytealg
import Derived.Lib.SlicesCompact
import Derived.Shelf.Slices.CompactS
import Derived.Shelf.Slices.Delete
import Derived.Shelf.Sort.Plain
import Derived.Shelf.Strconv.Itoa3
import Derived.Sort.EncStr
import Derived.Sort.Grow
import Derived.Test.YtnlfcjoofdjpiaaGreatDoorProg
section
namespace Go.Proofs.YtnlfcjoofdjpiaaGreatDoor
open Go.HL
set_option maxRecDepth 100000
theorem ty1 : Fits Tryz.prog 1 .func 1 8 (.nilFunc) := ⟨by kernel_rfl, by kernel_rfl⟩
theorem ty2 : Fits Tryz.prog 2 (.int .i64) 1 8 (.int .i64 0) := ⟨by kernel_rfl, by kernel_rfl⟩
theorem ty3 : Fits Tryz.prog 3 (.int .i64) 1 8 (.int .i64 0) := ⟨by kernel_rfl, by kernel_rfl⟩
theorem ty4 : Fits Tryz.prog 4 .bool 1 1 (.bool false) := ⟨by kernel_rfl, by kernel_rfl⟩
theorem ty5 : Fits Tryz.prog 5 (.int .u8) 1 1 (.int .u8 0) := ⟨by kernel_rfl, by kernel_rfl⟩
theorem ty6 : Fits Tryz.prog 6 (.int .u8) 1 1 (.int .u8 0) := ⟨by kernel_rfl, by kernel_rfl⟩
theorem ty7 : Fits Tryz.prog 7 (.struct [(0, 2), (1, 3), (2, 4), (3, 6)]) 4 24 (.agg #[.int .i64 0, .int .i64 0, .bool false, .int .u8 0]) := ⟨by kernel_rfl, by kernel_rfl⟩
theorem ty8 : Fits Tryz.prog 8 (.struct [(0, 2), (1, 3), (2, 4), (3, 6)]) 4 24 (.agg #[.int .i64 0, .int .i64 0, .bool false, .int .u8 0]) := ⟨by kernel_rfl, by kernel_rfl⟩
theorem ty9 : Fits Tryz.prog 9 .str 1 16 (.string ⟨#[]⟩) := ⟨by kernel_rfl, by kernel_rfl⟩
theorem ty10 : Fits Tryz.prog 10 .str 1 16 (.string ⟨#[]⟩) := ⟨by kernel_rfl, by kernel_rfl⟩
theorem ty11 : Fits Tryz.prog 11 .str 1 16 (.string ⟨#[]⟩) := ⟨by kernel_rfl, by kernel_rfl⟩
theorem ty12 : Fits Tryz.prog 12 (.int .u64) 1 8 (.int .u64 0) := ⟨by kernel_rfl, by kernel_rfl⟩
theorem ty13 : Fits Tryz.prog 13 (.struct [(0, 9), (1, 12)]) 2 24 (.agg #[.string ⟨#[]⟩, .int .u64 0]) := ⟨by kernel_rfl, by kernel_rfl⟩
theorem ty14 : Fits Tryz.prog 14 (.struct [(0, 9), (1, 12)]) 2 24 (.agg #[.string ⟨#[]⟩, .int .u64 0]) := ⟨by kernel_rfl, by kernel_rfl⟩
theorem ty15 : Fits Tryz.prog 15 (.ptr 172) 1 8 (.pointer none) := ⟨by kernel_rfl, by kernel_rfl⟩
theorem ty16 : Fits Tryz.prog 16 (.ptr 175) 1 8 (.pointer none) := ⟨by kernel_rfl, by kernel_rfl⟩
theorem ty17 : Fits Tryz.prog 17 (.ptr 184) 1 8 (.pointer none) := ⟨by kernel_rfl, by kernel_rfl⟩
theorem ty18 : Fits Tryz.prog 18 (.struct [(0, 17)]) 1 8 (.agg #[.pointer none]) := ⟨by kernel_rfl, by kernel_rfl⟩
theorem ty19 : Fits Tryz.prog 19 (.struct [(0, 17)]) 1 8 (.agg #[.pointer none]) := ⟨by kernel_rfl, by kernel_rfl⟩
theorem ty20 : Fits Tryz.prog 20 .iface 1 16 (.nilIface) := ⟨by kernel_rfl, by kernel_rfl⟩
theorem ty21 : Fits Tryz.prog 21 (.int .i32) 1 4 (.int .i32 0) := ⟨by kernel_rfl, by kernel_rfl⟩
theorem ty22 : Fits Tryz.prog 22 (.slice 3) 1 24 (.slice none 0 0) := ⟨by kernel_rfl, by kernel_rfl⟩
theorem ty23 : Fits Tryz.prog 23 (.ptr 25) 1 8 (.pointer none) := ⟨by kernel_rfl, by kernel_rfl⟩
theorem ty24 : Fits Tryz.prog 24 (.struct [(0, 22), (1, 3)]) 2 32 (.agg #[.slice none 0 0, .int .i64 0]) := ⟨by kernel_rfl, by kernel_rfl⟩
theorem ty25 : Fits Tryz.prog 25 (.struct [(0, 22), (1, 3)]) 2 32 (.agg #[.slice none 0 0, .int .i64 0]) := ⟨by kernel_rfl, by kernel_rfl⟩
theorem ty26 : Fits Tryz.prog 26 (.slice 57) 1 24 (.slice none 0 0) := ⟨by kernel_rfl, by kernel_rfl⟩
theorem ty27 : Fits Tryz.prog 27 .func 1 8 (.nilFunc) := ⟨by kernel_rfl, by kernel_rfl⟩
theorem ty28 : Fits Tryz.prog 28 (.slice 63) 1 24 (.slice none 0 0) := ⟨by kernel_rfl, by kernel_rfl⟩
theorem ty29 : Fits Tryz.prog 29 .func 1 8 (.nilFunc) := ⟨by kernel_rfl, by kernel_rfl⟩
theorem ty30 : Fits Tryz.prog 30 .func 1 8 (.nilFunc) := ⟨by kernel_rfl, by kernel_rfl⟩
theorem ty31 : Fits Tryz.prog 31 (.int .i64) 1 8 (.int .i64 0) := ⟨by kernel_rfl, by kernel_rfl⟩
theorem ty32 : Fits Tryz.prog 32 .func 1 8 (.nilFunc) := ⟨by kernel_rfl, by kernel_rfl⟩
theorem ty33 : Fits Tryz.prog 33 .func 1 8 (.nilFunc) := ⟨by kernel_rfl, by kernel_rfl⟩
theorem ty34 : Fits Tryz.prog 34 (.slice 45) 1 24 (.slice none 0 0) := ⟨by kernel_rfl, by kernel_rfl⟩
theorem ty36 : Fits Tryz.prog 36 .func 1 8 (.nilFunc) := ⟨by kernel_rfl, by kernel_rfl⟩
theorem ty37 : Fits Tryz.prog 37 (.slice 50) 1 24 (.slice none 0 0) := ⟨by kernel_rfl, by kernel_rfl⟩
theorem ty39 : Fits Tryz.prog 39 .func 1 8 (.nilFunc) := ⟨by kernel_rfl, by kernel_rfl⟩
theorem ty40 : Fits Tryz.prog 40 .func 1 8 (.nilFunc) := ⟨by kernel_rfl, by kernel_rfl⟩
theorem ty41 : Fits Tryz.prog 41 .func 1 8 (.nilFunc) := ⟨by kernel_rfl, by kernel_rfl⟩
theorem ty42 : Fits Tryz.prog 42 .func 1 8 (.nilFunc) := ⟨by kernel_rfl, by kernel_rfl⟩
theorem ty43 : Fits Tryz.prog 43 .func 1 8 (.nilFunc) := ⟨by kernel_rfl, by kernel_rfl⟩
theorem ty44 : Fits Tryz.prog 44 (.struct [(0, 9), (1, 9)]) 2 32 (.agg #[.string ⟨#[]⟩, .string ⟨#[]⟩]) := ⟨by kernel_rfl, by kernel_rfl⟩
theorem ty45 : Fits Tryz.prog 45 (.struct [(0, 9), (1, 9)]) 2 32 (.agg #[.string ⟨#[]⟩, .string ⟨#[]⟩]) := ⟨by kernel_rfl, by kernel_rfl⟩
theorem ty46 : Fits Tryz.prog 46 .func 1 8 (.nilFunc) := ⟨by kernel_rfl, by kernel_rfl⟩
theorem ty47 : Fits Tryz.prog 47 .func 1 8 (.nilFunc) := ⟨by kernel_rfl, by kernel_rfl⟩
theorem ty48 : Fits Tryz.prog 48 .func 1 8 (.nilFunc) := ⟨by kernel_rfl, by kernel_rfl⟩
theorem ty49 : Fits Tryz.prog 49 (.struct [(0, 9), (1, 3), (2, 3)]) 3 32 (.agg #[.string ⟨#[]⟩, .int .i64 0, .int .i64 0]) := ⟨by kernel_rfl, by kernel_rfl⟩
theorem ty50 : Fits Tryz.prog 50 (.struct [(0, 9), (1, 3), (2, 3)]) 3 32 (.agg #[.string ⟨#[]⟩, .int .i64 0, .int .i64 0]) := ⟨by kernel_rfl, by kernel_rfl⟩
theorem ty51 : Fits Tryz.prog 51 .func 1 8 (.nilFunc) := ⟨by kernel_rfl, by kernel_rfl⟩
theorem ty52 : Fits Tryz.prog 52 .func 1 8 (.nilFunc) := ⟨by kernel_rfl, by kernel_rfl⟩
theorem ty53 : Fits Tryz.prog 53 .func 1 8 (.nilFunc) := ⟨by kernel_rfl, by kernel_rfl⟩
theorem ty54 : Fits Tryz.prog 54 .func 1 8 (.nilFunc) := ⟨by kernel_rfl, by kernel_rfl⟩
theorem ty55 : Fits Tryz.prog 55 .func 1 8 (.nilFunc) := ⟨by kernel_rfl, by kernel_rfl⟩
theorem ty56 : Fits Tryz.prog 56 (.struct [(0, 9), (1, 9), (2, 3)]) 3 40 (.agg #[.string ⟨#[]⟩, .string ⟨#[]⟩, .int .i64 0]) := ⟨by kernel_rfl, by kernel_rfl⟩
theorem ty57 : Fits Tryz.prog 57 (.struct [(0, 9), (1, 9), (2, 3)]) 3 40 (.agg #[.string ⟨#[]⟩, .string ⟨#[]⟩, .int .i64 0]) := ⟨by kernel_rfl, by kernel_rfl⟩
theorem ty58 : Fits Tryz.prog 58 .func 1 8 (.nilFunc) := ⟨by kernel_rfl, by kernel_rfl⟩
theorem ty59 : Fits Tryz.prog 59 (.ptr 57) 1 8 (.pointer none) := ⟨by kernel_rfl, by kernel_rfl⟩
theorem ty60 : Fits Tryz.prog 60 .func 1 8 (.nilFunc) := ⟨by kernel_rfl, by kernel_rfl⟩
theorem ty61 : Fits Tryz.prog 61 (.slice 9) 1 24 (.slice none 0 0) := ⟨by kernel_rfl, by kernel_rfl⟩
theorem ty62 : Fits Tryz.prog 62 (.struct [(0, 9), (1, 3)]) 2 24 (.agg #[.string ⟨#[]⟩, .int .i64 0]) := ⟨by kernel_rfl, by kernel_rfl⟩
theorem ty63 : Fits Tryz.prog 63 (.struct [(0, 9), (1, 3)]) 2 24 (.agg #[.string ⟨#[]⟩, .int .i64 0]) := ⟨by kernel_rfl, by kernel_rfl⟩
theorem ty64 : Fits Tryz.prog 64 (.ptr 63) 1 8 (.pointer none) := ⟨by kernel_rfl, by kernel_rfl⟩
theorem ty65 : Fits Tryz.prog 65 .func 1 8 (.nilFunc) := ⟨by kernel_rfl, by kernel_rfl⟩
theorem ty66 : Fits Tryz.prog 66 .func 1 8 (.nilFunc) := ⟨by kernel_rfl, by kernel_rfl⟩
theorem ty67 : Fits Tryz.prog 67 .func 1 8 (.nilFunc) := ⟨by kernel_rfl, by kernel_rfl⟩
theorem ty68 : Fits Tryz.prog 68 .func 1 8 (.nilFunc) := ⟨by kernel_rfl, by kernel_rfl⟩
theorem ty69 : Fits Tryz.prog 69 .func 1 8 (.nilFunc) := ⟨by kernel_rfl, by kernel_rfl⟩
theorem ty70 : Fits Tryz.prog 70 .func 1 8 (.nilFunc) := ⟨by kernel_rfl, by kernel_rfl⟩
theorem ty71 : Fits Tryz.prog 71 (.slice 31) 1 24 (.slice none 0 0) := ⟨by kernel_rfl, by kernel_rfl⟩
theorem ty72 : Fits Tryz.prog 72 .func 1 8 (.nilFunc) := ⟨by kernel_rfl, by kernel_rfl⟩
theorem ty73 : Fits Tryz.prog 73 .func 1 8 (.nilFunc) := ⟨by kernel_rfl, by kernel_rfl⟩
theorem ty74 : Fits Tryz.prog 74 .func 1 8 (.nilFunc) := ⟨by kernel_rfl, by kernel_rfl⟩
theorem ty76 : Fits Tryz.prog 76 .func 1 8 (.nilFunc) := ⟨by kernel_rfl, by kernel_rfl⟩
theorem ty77 : Fits Tryz.prog 77 .func 1 8 (.nilFunc) := ⟨by kernel_rfl, by kernel_rfl⟩
theorem ty78 : Fits Tryz.prog 78 .func 1 8 (.nilFunc) := ⟨by kernel_rfl, by kernel_rfl⟩
theorem ty79 : Fits Tryz.prog 79 .func 1 8 (.nilFunc) := ⟨by kernel_rfl, by kernel_rfl⟩
theorem ty80 : Fits Tryz.prog 80 .func 1 8 (.nilFunc) := ⟨by kernel_rfl, by kernel_rfl⟩
theorem ty81 : Fits Tryz.prog 81 .func 1 8 (.nilFunc) := ⟨by kernel_rfl, by kernel_rfl⟩
theorem ty82 : Fits Tryz.prog 82 .func 1 8 (.nilFunc) := ⟨by kernel_rfl, by kernel_rfl⟩
theorem ty83 : Fits Tryz.prog 83 .func 1 8 (.nilFunc) := ⟨by kernel_rfl, by kernel_rfl⟩
theorem ty84 : Fits Tryz.prog 84 .func 1 8 (.nilFunc) := ⟨by kernel_rfl, by kernel_rfl⟩
theorem ty85 : Fits Tryz.prog 85 .func 1 8 (.nilFunc) := ⟨by kernel_rfl, by kernel_rfl⟩
theorem ty87 : Fits Tryz.prog 87 .func 1 8 (.nilFunc) := ⟨by kernel_rfl, by kernel_rfl⟩
theorem ty88 : Fits Tryz.prog 88 .func 1 8 (.nilFunc) := ⟨by kernel_rfl, by kernel_rfl⟩
theorem ty89 : Fits Tryz.prog 89 .func 1 8 (.nilFunc) := ⟨by kernel_rfl, by kernel_rfl⟩
theorem ty90 : Fits Tryz.prog 90 .func 1 8 (.nilFunc) := ⟨by kernel_rfl, by kernel_rfl⟩
theorem ty91 : Fits Tryz.prog 91 (.arr 256 4) 256 256 (.agg #[.bool false, .bool false, .bool false, .bool false, .bool false, .bool false, .bool false, .bool false, .bool false, .bool false, .bool false, .bool false, .bool false, .bool false, .bool false, .bool false, .bool false, .bool false, .bool false, .bool false, .bool false, .bool false, .bool false, .bool false, .bool false, .bool false, .bool false, .bool false, .bool false, .bool false, .bool false, .bool false, .bool false, .bool false, .bool false, .bool false, .bool false, .bool false, .bool false, .bool false, .bool false, .bool false, .bool false, .bool false, .bool false, .bool false, .bool false, .bool false, .bool false, .bool false, .bool false, .bool false, .bool false, .bool false, .bool false, .bool false, .bool false, .bool false, .bool false, .bool false, .bool false, .bool false, .bool false, .bool false, .bool false, .bool false, .bool false, .bool false, .bool false, .bool false, .bool false, .bool false, .bool false, .bool false, .bool false, .bool false, .bool false, .bool false, .bool false, .bool false, .bool false, .bool false, .bool false, .bool false, .bool false, .bool false, .bool false, .bool false, .bool false, .bool false, .bool false, .bool false, .bool false, .bool false, .bool false, .bool false, .bool false, .bool false, .bool false, .bool false, .bool false, .bool false, .bool false, .bool false, .bool false, .bool false, .bool false, .bool false, .bool false, .bool false, .bool false, .bool false, .bool false, .bool false, .bool false, .bool false, .bool false, .bool false, .bool false, .bool false, .bool false, .bool false, .bool false, .bool false, .bool false, .bool false, .bool false, .bool false, .bool false, .bool false, .bool false, .bool false, .bool false, .bool false, .bool false, .bool false, .bool false, .bool false, .bool false, .bool false, .bool false, .bool false, .bool false, .bool false, .bool false, .bool false, .bool false, .bool false, .bool false, .bool false, .bool false, .bool false, .bool false, .bool false, .bool false, .bool false, .bool false, .bool false, .bool false, .bool false, .bool false, .bool false, .bool false, .bool false, .bool false, .bool false, .bool false, .bool false, .bool false, .bool false, .bool false, .bool false, .bool false, .bool false, .bool false, .bool false, .bool false, .bool false, .bool false, .bool false, .bool false, .bool false, .bool false, .bool false, .bool false, .bool false, .bool false, .bool false, .bool false, .bool false, .bool false, .bool false, .bool false, .bool false, .bool false, .bool false, .bool false, .bool false, .bool false, .bool false, .bool false, .bool false, .bool false, .bool false, .bool false, .bool false, .bool false, .bool false, .bool false, .bool false, .bool false, .bool false, .bool false, .bool false, .bool false, .bool false, .bool false, .bool false, .bool false, .bool false, .bool false, .bool false, .bool false, .bool false, .bool false, .bool false, .bool false, .bool false, .bool false, .bool false, .bool false, .bool false, .bool false, .bool false, .bool false, .bool false, .bool false, .bool false, .bool false, .bool false, .bool false, .bool false, .bool false, .bool false, .bool false, .bool false, .bool false, .bool false, .bool false, .bool false, .bool false, .bool false, .bool false, .bool false, .bool false, .bool false]) := ⟨by kernel_rfl, by kernel_rfl⟩
theorem ty92 : Fits Tryz.prog 92 (.arr 256 4) 256 256 (.agg #[.bool false, .bool false, .bool false, .bool false, .bool false, .bool false, .bool false, .bool false, .bool false, .bool false, .bool false, .bool false, .bool false, .bool false, .bool false, .bool false, .bool false, .bool false, .bool false, .bool false, .bool false, .bool false, .bool false, .bool false, .bool false, .bool false, .bool false, .bool false, .bool false, .bool false, .bool false, .bool false, .bool false, .bool false, .bool false, .bool false, .bool false, .bool false, .bool false, .bool false, .bool false, .bool false, .bool false, .bool false, .bool false, .bool false, .bool false, .bool false, .bool false, .bool false, .bool false, .bool false, .bool false, .bool false, .bool false, .bool false, .bool false, .bool false, .bool false, .bool false, .bool false, .bool false, .bool false, .bool false, .bool false, .bool false, .bool false, .bool false, .bool false, .bool false, .bool false, .bool false, .bool false, .bool false, .bool false, .bool false, .bool false, .bool false, .bool false, .bool false, .bool false, .bool false, .bool false, .bool false, .bool false, .bool false, .bool false, .bool false, .bool false, .bool false, .bool false, .bool false, .bool false, .bool false, .bool false, .bool false, .bool false, .bool false, .bool false, .bool false, .bool false, .bool false, .bool false, .bool false, .bool false, .bool false, .bool false, .bool false, .bool false, .bool false, .bool false, .bool false, .bool false, .bool false, .bool false, .bool false, .bool false, .bool false, .bool false, .bool false, .bool false, .bool false, .bool false, .bool false, .bool false, .bool false, .bool false, .bool false, .bool false, .bool false, .bool false, .bool false, .bool false, .bool false, .bool false, .bool false, .bool false, .bool false, .bool false, .bool false, .bool false, .bool false, .bool false, .bool false, .bool false, .bool false, .bool false, .bool false, .bool false, .bool false, .bool false, .bool false, .bool false, .bool false, .bool false, .bool false, .bool false, .bool false, .bool false, .bool false, .bool false, .bool false, .bool false, .bool false, .bool false, .bool false, .bool false, .bool false, .bool false, .bool false, .bool false, .bool false, .bool false, .bool false, .bool false, .bool false, .bool false, .bool false, .bool false, .bool false, .bool false, .bool false, .bool false, .bool false, .bool false, .bool false, .bool false, .bool false, .bool false, .bool false, .bool false, .bool false, .bool false, .bool false, .bool false, .bool false, .bool false, .bool false, .bool false, .bool false, .bool false, .bool false, .bool false, .bool false, .bool false, .bool false, .bool false, .bool false, .bool false, .bool false, .bool false, .bool false, .bool false, .bool false, .bool false, .bool false, .bool false, .bool false, .bool false, .bool false, .bool false, .bool false, .bool false, .bool false, .bool false, .bool false, .bool false, .bool false, .bool false, .bool false, .bool false, .bool false, .bool false, .bool false, .bool false, .bool false, .bool false, .bool false, .bool false, .bool false, .bool false, .bool false, .bool false, .bool false, .bool false, .bool false, .bool false, .bool false, .bool false, .bool false, .bool false, .bool false, .bool false, .bool false, .bool false, .bool false]) := ⟨by kernel_rfl, by kernel_rfl⟩
theorem ty94 : Fits Tryz.prog 94 .func 1 8 (.nilFunc) := ⟨by kernel_rfl, by kernel_rfl⟩
theorem ty95 : Fits Tryz.prog 95 .func 1 8 (.nilFunc) := ⟨by kernel_rfl, by kernel_rfl⟩
theorem ty96 : Fits Tryz.prog 96 (.ptr 92) 1 8 (.pointer none) := ⟨by kernel_rfl, by kernel_rfl⟩
theorem ty97 : Fits Tryz.prog 97 .func 1 8 (.nilFunc) := ⟨by kernel_rfl, by kernel_rfl⟩
theorem ty98 : Fits Tryz.prog 98 .func 1 8 (.nilFunc) := ⟨by kernel_rfl, by kernel_rfl⟩
theorem ty99 : Fits Tryz.prog 99 .func 1 8 (.nilFunc) := ⟨by kernel_rfl, by kernel_rfl⟩
theorem ty100 : Fits Tryz.prog 100 .func 1 8 (.nilFunc) := ⟨by kernel_rfl, by kernel_rfl⟩
theorem ty101 : Fits Tryz.prog 101 (.int .u64) 1 8 (.int .u64 0) := ⟨by kernel_rfl, by kernel_rfl⟩
theorem ty102 : Fits Tryz.prog 102 .func 1 8 (.nilFunc) := ⟨by kernel_rfl, by kernel_rfl⟩
theorem ty103 : Fits Tryz.prog 103 .func 1 8 (.nilFunc) := ⟨by kernel_rfl, by kernel_rfl⟩
theorem ty104 : Fits Tryz.prog 104 .func 1 8 (.nilFunc) := ⟨by kernel_rfl, by kernel_rfl⟩
theorem ty105 : Fits Tryz.prog 105 .func 1 8 (.nilFunc) := ⟨by kernel_rfl, by kernel_rfl⟩
theorem ty106 : Fits Tryz.prog 106 .func 1 8 (.nilFunc) := ⟨by kernel_rfl, by kernel_rfl⟩
theorem ty107 : Fits Tryz.prog 107 .func 1 8 (.nilFunc) := ⟨by kernel_rfl, by kernel_rfl⟩
theorem ty108 : Fits Tryz.prog 108 .func 1 8 (.nilFunc) := ⟨by kernel_rfl, by kernel_rfl⟩
theorem ty109 : Fits Tryz.prog 109 (.arr 24 5) 24 24 (.agg #[.int .u8 0, .int .u8 0, .int .u8 0, .int .u8 0, .int .u8 0, .int .u8 0, .int .u8 0, .int .u8 0, .int .u8 0, .int .u8 0, .int .u8 0, .int .u8 0, .int .u8 0, .int .u8 0, .int .u8 0, .int .u8 0, .int .u8 0, .int .u8 0, .int .u8 0, .int .u8 0, .int .u8 0, .int .u8 0, .int .u8 0, .int .u8 0]) := ⟨by kernel_rfl, by kernel_rfl⟩
theorem ty110 : Fits Tryz.prog 110 (.int .u64) 1 8 (.int .u64 0) := ⟨by kernel_rfl, by kernel_rfl⟩
theorem ty111 : Fits Tryz.prog 111 .func 1 8 (.nilFunc) := ⟨by kernel_rfl, by kernel_rfl⟩
theorem ty112 : Fits Tryz.prog 112 .func 1 8 (.nilFunc) := ⟨by kernel_rfl, by kernel_rfl⟩
theorem ty113 : Fits Tryz.prog 113 (.slice 5) 1 24 (.slice none 0 0) := ⟨by kernel_rfl, by kernel_rfl⟩
theorem ty115 : Fits Tryz.prog 115 .func 1 8 (.nilFunc) := ⟨by kernel_rfl, by kernel_rfl⟩
theorem ty116 : Fits Tryz.prog 116 .func 1 8 (.nilFunc) := ⟨by kernel_rfl, by kernel_rfl⟩
theorem ty118 : Fits Tryz.prog 118 .func 1 8 (.nilFunc) := ⟨by kernel_rfl, by kernel_rfl⟩
theorem ty119 : Fits Tryz.prog 119 .func 1 8 (.nilFunc) := ⟨by kernel_rfl, by kernel_rfl⟩
theorem ty120 : Fits Tryz.prog 120 .func 1 8 (.nilFunc) := ⟨by kernel_rfl, by kernel_rfl⟩
theorem ty121 : Fits Tryz.prog 121 (.int .i64) 1 8 (.int .i64 0) := ⟨by kernel_rfl, by kernel_rfl⟩
theorem ty123 : Fits Tryz.prog 123 .func 1 8 (.nilFunc) := ⟨by kernel_rfl, by kernel_rfl⟩
theorem ty124 : Fits Tryz.prog 124 .func 1 8 (.nilFunc) := ⟨by kernel_rfl, by kernel_rfl⟩
theorem ty125 : Fits Tryz.prog 125 .func 1 8 (.nilFunc) := ⟨by kernel_rfl, by kernel_rfl⟩
theorem ty127 : Fits Tryz.prog 127 .func 1 8 (.nilFunc) := ⟨by kernel_rfl, by kernel_rfl⟩
theorem ty128 : Fits Tryz.prog 128 .func 1 8 (.nilFunc) := ⟨by kernel_rfl, by kernel_rfl⟩
theorem ty129 : Fits Tryz.prog 129 (.int .u32) 1 4 (.int .u32 0) := ⟨by kernel_rfl, by kernel_rfl⟩
theorem ty130 : Fits Tryz.prog 130 .func 1 8 (.nilFunc) := ⟨by kernel_rfl, by kernel_rfl⟩
theorem ty131 : Fits Tryz.prog 131 .func 1 8 (.nilFunc) := ⟨by kernel_rfl, by kernel_rfl⟩
theorem ty132 : Fits Tryz.prog 132 .func 1 8 (.nilFunc) := ⟨by kernel_rfl, by kernel_rfl⟩
theorem ty133 : Fits Tryz.prog 133 .func 1 8 (.nilFunc) := ⟨by kernel_rfl, by kernel_rfl⟩
theorem ty134 : Fits Tryz.prog 134 (.arr 20 110) 20 160 (.agg #[.int .u64 0, .int .u64 0, .int .u64 0, .int .u64 0, .int .u64 0, .int .u64 0, .int .u64 0, .int .u64 0, .int .u64 0, .int .u64 0, .int .u64 0, .int .u64 0, .int .u64 0, .int .u64 0, .int .u64 0, .int .u64 0, .int .u64 0, .int .u64 0, .int .u64 0, .int .u64 0]) := ⟨by kernel_rfl, by kernel_rfl⟩
theorem ty135 : Fits Tryz.prog 135 (.arr 65 5) 65 65 (.agg #[.int .u8 0, .int .u8 0, .int .u8 0, .int .u8 0, .int .u8 0, .int .u8 0, .int .u8 0, .int .u8 0, .int .u8 0, .int .u8 0, .int .u8 0, .int .u8 0, .int .u8 0, .int .u8 0, .int .u8 0, .int .u8 0, .int .u8 0, .int .u8 0, .int .u8 0, .int .u8 0, .int .u8 0, .int .u8 0, .int .u8 0, .int .u8 0, .int .u8 0, .int .u8 0, .int .u8 0, .int .u8 0, .int .u8 0, .int .u8 0, .int .u8 0, .int .u8 0, .int .u8 0, .int .u8 0, .int .u8 0, .int .u8 0, .int .u8 0, .int .u8 0, .int .u8 0, .int .u8 0, .int .u8 0, .int .u8 0, .int .u8 0, .int .u8 0, .int .u8 0, .int .u8 0, .int .u8 0, .int .u8 0, .int .u8 0, .int .u8 0, .int .u8 0, .int .u8 0, .int .u8 0, .int .u8 0, .int .u8 0, .int .u8 0, .int .u8 0, .int .u8 0, .int .u8 0, .int .u8 0, .int .u8 0, .int .u8 0, .int .u8 0, .int .u8 0, .int .u8 0]) := ⟨by kernel_rfl, by kernel_rfl⟩
theorem ty136 : Fits Tryz.prog 136 .func 1 8 (.nilFunc) := ⟨by kernel_rfl, by kernel_rfl⟩
theorem ty137 : Fits Tryz.prog 137 .func 1 8 (.nilFunc) := ⟨by kernel_rfl, by kernel_rfl⟩
theorem ty138 : Fits Tryz.prog 138 .func 1 8 (.nilFunc) := ⟨by kernel_rfl, by kernel_rfl⟩
theorem ty139 : Fits Tryz.prog 139 .func 1 8 (.nilFunc) := ⟨by kernel_rfl, by kernel_rfl⟩
theorem ty140 : Fits Tryz.prog 140 .func 1 8 (.nilFunc) := ⟨by kernel_rfl, by kernel_rfl⟩
theorem ty141 : Fits Tryz.prog 141 .func 1 8 (.nilFunc) := ⟨by kernel_rfl, by kernel_rfl⟩
theorem ty142 : Fits Tryz.prog 142 (.int .u64) 1 8 (.int .u64 0) := ⟨by kernel_rfl, by kernel_rfl⟩
theorem ty143 : Fits Tryz.prog 143 .func 1 8 (.nilFunc) := ⟨by kernel_rfl, by kernel_rfl⟩
theorem ty144 : Fits Tryz.prog 144 .func 1 8 (.nilFunc) := ⟨by kernel_rfl, by kernel_rfl⟩
theorem ty145 : Fits Tryz.prog 145 .func 1 8 (.nilFunc) := ⟨by kernel_rfl, by kernel_rfl⟩
theorem ty146 : Fits Tryz.prog 146 (.ptr 3) 1 8 (.pointer none) := ⟨by kernel_rfl, by kernel_rfl⟩
theorem ty147 : Fits Tryz.prog 147 .func 1 8 (.nilFunc) := ⟨by kernel_rfl, by kernel_rfl⟩
theorem ty148 : Fits Tryz.prog 148 .func 1 8 (.nilFunc) := ⟨by kernel_rfl, by kernel_rfl⟩
theorem ty149 : Fits Tryz.prog 149 .func 1 8 (.nilFunc) := ⟨by kernel_rfl, by kernel_rfl⟩
theorem ty150 : Fits Tryz.prog 150 .func 1 8 (.nilFunc) := ⟨by kernel_rfl, by kernel_rfl⟩
theorem ty151 : Fits Tryz.prog 151 .func 1 8 (.nilFunc) := ⟨by kernel_rfl, by kernel_rfl⟩
theorem ty152 : Fits Tryz.prog 152 .func 1 8 (.nilFunc) := ⟨by kernel_rfl, by kernel_rfl⟩
theorem ty153 : Fits Tryz.prog 153 .func 1 8 (.nilFunc) := ⟨by kernel_rfl, by kernel_rfl⟩
theorem ty154 : Fits Tryz.prog 154 (.arr 256 5) 256 256 (.agg #[.int .u8 0, .int .u8 0, .int .u8 0, .int .u8 0, .int .u8 0, .int .u8 0, .int .u8 0, .int .u8 0, .int .u8 0, .int .u8 0, .int .u8 0, .int .u8 0, .int .u8 0, .int .u8 0, .int .u8 0, .int .u8 0, .int .u8 0, .int .u8 0, .int .u8 0, .int .u8 0, .int .u8 0, .int .u8 0, .int .u8 0, .int .u8 0, .int .u8 0, .int .u8 0, .int .u8 0, .int .u8 0, .int .u8 0, .int .u8 0, .int .u8 0, .int .u8 0, .int .u8 0, .int .u8 0, .int .u8 0, .int .u8 0, .int .u8 0, .int .u8 0, .int .u8 0, .int .u8 0, .int .u8 0, .int .u8 0, .int .u8 0, .int .u8 0, .int .u8 0, .int .u8 0, .int .u8 0, .int .u8 0, .int .u8 0, .int .u8 0, .int .u8 0, .int .u8 0, .int .u8 0, .int .u8 0, .int .u8 0, .int .u8 0, .int .u8 0, .int .u8 0, .int .u8 0, .int .u8 0, .int .u8 0, .int .u8 0, .int .u8 0, .int .u8 0, .int .u8 0, .int .u8 0, .int .u8 0, .int .u8 0, .int .u8 0, .int .u8 0, .int .u8 0, .int .u8 0, .int .u8 0, .int .u8 0, .int .u8 0, .int .u8 0, .int .u8 0, .int .u8 0, .int .u8 0, .int .u8 0, .int .u8 0, .int .u8 0, .int .u8 0, .int .u8 0, .int .u8 0, .int .u8 0, .int .u8 0, .int .u8 0, .int .u8 0, .int .u8 0, .int .u8 0, .int .u8 0, .int .u8 0, .int .u8 0, .int .u8 0, .int .u8 0, .int .u8 0, .int .u8 0, .int .u8 0, .int .u8 0, .int .u8 0, .int .u8 0, .int .u8 0, .int .u8 0, .int .u8 0, .int .u8 0, .int .u8 0, .int .u8 0, .int .u8 0, .int .u8 0, .int .u8 0, .int .u8 0, .int .u8 0, .int .u8 0, .int .u8 0, .int .u8 0, .int .u8 0, .int .u8 0, .int .u8 0, .int .u8 0, .int .u8 0, .int .u8 0, .int .u8 0, .int .u8 0, .int .u8 0, .int .u8 0, .int .u8 0, .int .u8 0, .int .u8 0, .int .u8 0, .int .u8 0, .int .u8 0, .int .u8 0, .int .u8 0, .int .u8 0, .int .u8 0, .int .u8 0, .int .u8 0, .int .u8 0, .int .u8 0, .int .u8 0, .int .u8 0, .int .u8 0, .int .u8 0, .int .u8 0, .int .u8 0, .int .u8 0, .int .u8 0, .int .u8 0, .int .u8 0, .int .u8 0, .int .u8 0, .int .u8 0, .int .u8 0, .int .u8 0, .int .u8 0, .int .u8 0, .int .u8 0, .int .u8 0, .int .u8 0, .int .u8 0, .int .u8 0, .int .u8 0, .int .u8 0, .int .u8 0, .int .u8 0, .int .u8 0, .int .u8 0, .int .u8 0, .int .u8 0, .int .u8 0, .int .u8 0, .int .u8 0, .int .u8 0, .int .u8 0, .int .u8 0, .int .u8 0, .int .u8 0, .int .u8 0, .int .u8 0, .int .u8 0, .int .u8 0, .int .u8 0, .int .u8 0, .int .u8 0, .int .u8 0, .int .u8 0, .int .u8 0, .int .u8 0, .int .u8 0, .int .u8 0, .int .u8 0, .int .u8 0, .int .u8 0, .int .u8 0, .int .u8 0, .int .u8 0, .int .u8 0, .int .u8 0, .int .u8 0, .int .u8 0, .int .u8 0, .int .u8 0, .int .u8 0, .int .u8 0, .int .u8 0, .int .u8 0, .int .u8 0, .int .u8 0, .int .u8 0, .int .u8 0, .int .u8 0, .int .u8 0, .int .u8 0, .int .u8 0, .int .u8 0, .int .u8 0, .int .u8 0, .int .u8 0, .int .u8 0, .int .u8 0, .int .u8 0, .int .u8 0, .int .u8 0, .int .u8 0, .int .u8 0, .int .u8 0, .int .u8 0, .int .u8 0, .int .u8 0, .int .u8 0, .int .u8 0, .int .u8 0, .int .u8 0, .int .u8 0, .int .u8 0, .int .u8 0, .int .u8 0, .int .u8 0, .int .u8 0, .int .u8 0, .int .u8 0, .int .u8 0, .int .u8 0, .int .u8 0, .int .u8 0, .int .u8 0, .int .u8 0, .int .u8 0, .int .u8 0, .int .u8 0, .int .u8 0, .int .u8 0, .int .u8 0, .int .u8 0, .int .u8 0]) := ⟨by kernel_rfl, by kernel_rfl⟩
theorem ty155 : Fits Tryz.prog 155 (.struct [(0, 5), (1, 5)]) 2 2 (.agg #[.int .u8 0, .int .u8 0]) := ⟨by kernel_rfl, by kernel_rfl⟩
theorem ty156 : Fits Tryz.prog 156 (.struct [(0, 5), (1, 5)]) 2 2 (.agg #[.int .u8 0, .int .u8 0]) := ⟨by kernel_rfl, by kernel_rfl⟩
theorem ty157 : Fits Tryz.prog 157 (.arr 16 156) 32 32 (.agg #[.int .u8 0, .int .u8 0, .int .u8 0, .int .u8 0, .int .u8 0, .int .u8 0, .int .u8 0, .int .u8 0, .int .u8 0, .int .u8 0, .int .u8 0, .int .u8 0, .int .u8 0, .int .u8 0, .int .u8 0, .int .u8 0, .int .u8 0, .int .u8 0, .int .u8 0, .int .u8 0, .int .u8 0, .int .u8 0, .int .u8 0, .int .u8 0, .int .u8 0, .int .u8 0, .int .u8 0, .int .u8 0, .int .u8 0, .int .u8 0, .int .u8 0, .int .u8 0]) := ⟨by kernel_rfl, by kernel_rfl⟩
theorem ty158 : Fits Tryz.prog 158 .func 1 8 (.nilFunc) := ⟨by kernel_rfl, by kernel_rfl⟩
theorem ty159 : Fits Tryz.prog 159 .func 1 8 (.nilFunc) := ⟨by kernel_rfl, by kernel_rfl⟩
theorem ty160 : Fits Tryz.prog 160 .func 1 8 (.nilFunc) := ⟨by kernel_rfl, by kernel_rfl⟩
theorem ty161 : Fits Tryz.prog 161 (.ptr 142) 1 8 (.pointer none) := ⟨by kernel_rfl, by kernel_rfl⟩
theorem ty163 : Fits Tryz.prog 163 .func 1 8 (.nilFunc) := ⟨by kernel_rfl, by kernel_rfl⟩
theorem ty164 : Fits Tryz.prog 164 .func 1 8 (.nilFunc) := ⟨by kernel_rfl, by kernel_rfl⟩
theorem ty165 : Fits Tryz.prog 165 .func 1 8 (.nilFunc) := ⟨by kernel_rfl, by kernel_rfl⟩
theorem ty166 : Fits Tryz.prog 166 (.arr 32 5) 32 32 (.agg #[.int .u8 0, .int .u8 0, .int .u8 0, .int .u8 0, .int .u8 0, .int .u8 0, .int .u8 0, .int .u8 0, .int .u8 0, .int .u8 0, .int .u8 0, .int .u8 0, .int .u8 0, .int .u8 0, .int .u8 0, .int .u8 0, .int .u8 0, .int .u8 0, .int .u8 0, .int .u8 0, .int .u8 0, .int .u8 0, .int .u8 0, .int .u8 0, .int .u8 0, .int .u8 0, .int .u8 0, .int .u8 0, .int .u8 0, .int .u8 0, .int .u8 0, .int .u8 0]) := ⟨by kernel_rfl, by kernel_rfl⟩
theorem ty167 : Fits Tryz.prog 167 (.arr 64 5) 64 64 (.agg #[.int .u8 0, .int .u8 0, .int .u8 0, .int .u8 0, .int .u8 0, .int .u8 0, .int .u8 0, .int .u8 0, .int .u8 0, .int .u8 0, .int .u8 0, .int .u8 0, .int .u8 0, .int .u8 0, .int .u8 0, .int .u8 0, .int .u8 0, .int .u8 0, .int .u8 0, .int .u8 0, .int .u8 0, .int .u8 0, .int .u8 0, .int .u8 0, .int .u8 0, .int .u8 0, .int .u8 0, .int .u8 0, .int .u8 0, .int .u8 0, .int .u8 0, .int .u8 0, .int .u8 0, .int .u8 0, .int .u8 0, .int .u8 0, .int .u8 0, .int .u8 0, .int .u8 0, .int .u8 0, .int .u8 0, .int .u8 0, .int .u8 0, .int .u8 0, .int .u8 0, .int .u8 0, .int .u8 0, .int .u8 0, .int .u8 0, .int .u8 0, .int .u8 0, .int .u8 0, .int .u8 0, .int .u8 0, .int .u8 0, .int .u8 0, .int .u8 0, .int .u8 0, .int .u8 0, .int .u8 0, .int .u8 0, .int .u8 0, .int .u8 0, .int .u8 0]) := ⟨by kernel_rfl, by kernel_rfl⟩
theorem ty168 : Fits Tryz.prog 168 .func 1 8 (.nilFunc) := ⟨by kernel_rfl, by kernel_rfl⟩
theorem ty169 : Fits Tryz.prog 169 .func 1 8 (.nilFunc) := ⟨by kernel_rfl, by kernel_rfl⟩
theorem ty170 : Fits Tryz.prog 170 .func 1 8 (.nilFunc) := ⟨by kernel_rfl, by kernel_rfl⟩
theorem ty171 : Fits Tryz.prog 171 (.struct [(0, 17), (1, 17), (2, 17), (3, 9)]) 4 40 (.agg #[.pointer none, .pointer none, .pointer none, .string ⟨#[]⟩]) := ⟨by kernel_rfl, by kernel_rfl⟩
theorem ty172 : Fits Tryz.prog 172 (.struct [(0, 17), (1, 17), (2, 17), (3, 9)]) 4 40 (.agg #[.pointer none, .pointer none, .pointer none, .string ⟨#[]⟩]) := ⟨by kernel_rfl, by kernel_rfl⟩
theorem ty173 : Fits Tryz.prog 173 (.arr 0 16) 0 0 (.agg #[]) := ⟨by kernel_rfl, by kernel_rfl⟩
theorem ty174 : Fits Tryz.prog 174 (.struct [(0, 173)]) 0 0 (.agg #[]) := ⟨by kernel_rfl, by kernel_rfl⟩
theorem ty175 : Fits Tryz.prog 175 (.struct [(0, 173)]) 0 0 (.agg #[]) := ⟨by kernel_rfl, by kernel_rfl⟩
theorem ty176 : Fits Tryz.prog 176 .func 1 8 (.nilFunc) := ⟨by kernel_rfl, by kernel_rfl⟩
theorem ty177 : Fits Tryz.prog 177 (.int .u8) 1 1 (.int .u8 0) := ⟨by kernel_rfl, by kernel_rfl⟩
theorem ty178 : Fits Tryz.prog 178 (.int .u8) 1 1 (.int .u8 0) := ⟨by kernel_rfl, by kernel_rfl⟩
theorem ty179 : Fits Tryz.prog 179 .func 1 8 (.nilFunc) := ⟨by kernel_rfl, by kernel_rfl⟩
theorem ty180 : Fits Tryz.prog 180 (.ptr 5) 1 8 (.pointer none) := ⟨by kernel_rfl, by kernel_rfl⟩
theorem ty181 : Fits Tryz.prog 181 (.int .i32) 1 4 (.int .i32 0) := ⟨by kernel_rfl, by kernel_rfl⟩
theorem ty182 : Fits Tryz.prog 182 (.int .i32) 1 4 (.int .i32 0) := ⟨by kernel_rfl, by kernel_rfl⟩
theorem ty183 : Fits Tryz.prog 183 (.struct [(0, 12), (1, 12), (2, 129), (3, 177), (4, 5), (5, 5), (6, 178), (7, 179), (8, 180), (9, 181), (10, 182)]) 11 48 (.agg #[.int .u64 0, .int .u64 0, .int .u32 0, .int .u8 0, .int .u8 0, .int .u8 0, .int .u8 0, .nilFunc, .pointer none, .int .i32 0, .int .i32 0]) := ⟨by kernel_rfl, by kernel_rfl⟩
theorem ty184 : Fits Tryz.prog 184 (.struct [(0, 12), (1, 12), (2, 129), (3, 177), (4, 5), (5, 5), (6, 178), (7, 179), (8, 180), (9, 181), (10, 182)]) 11 48 (.agg #[.int .u64 0, .int .u64 0, .int .u32 0, .int .u8 0, .int .u8 0, .int .u8 0, .int .u8 0, .nilFunc, .pointer none, .int .i32 0, .int .i32 0]) := ⟨by kernel_rfl, by kernel_rfl⟩
theorem ty185 : Fits Tryz.prog 185 .other 1 8 (.pointer none) := ⟨by kernel_rfl, by kernel_rfl⟩
theorem pl7 : Places Tryz.prog [(0, 2), (1, 3), (2, 4), (3, 6)] [(0, 1), (1, 1), (2, 1), (3, 1)] := ⟨rfl, ⟨_, _, _, ty2⟩, ⟨rfl, ⟨_, _, _, ty3⟩, ⟨rfl, ⟨_, _, _, ty4⟩, ⟨rfl, ⟨_, _, _, ty6⟩, trivial⟩⟩⟩⟩
theorem pl8 : Places Tryz.prog [(0, 2), (1, 3), (2, 4), (3, 6)] [(0, 1), (1, 1), (2, 1), (3, 1)] := ⟨rfl, ⟨_, _, _, ty2⟩, ⟨rfl, ⟨_, _, _, ty3⟩, ⟨rfl, ⟨_, _, _, ty4⟩, ⟨rfl, ⟨_, _, _, ty6⟩, trivial⟩⟩⟩⟩
theorem pl13 : Places Tryz.prog [(0, 9), (1, 12)] [(0, 1), (1, 1)] := ⟨rfl, ⟨_, _, _, ty9⟩, ⟨rfl, ⟨_, _, _, ty12⟩, trivial⟩⟩
theorem pl14 : Places Tryz.prog [(0, 9), (1, 12)] [(0, 1), (1, 1)] := ⟨rfl, ⟨_, _, _, ty9⟩, ⟨rfl, ⟨_, _, _, ty12⟩, trivial⟩⟩
theorem pl18 : Places Tryz.prog [(0, 17)] [(0, 1)] := ⟨rfl, ⟨_, _, _, ty17⟩, trivial⟩
theorem pl19 : Places Tryz.prog [(0, 17)] [(0, 1)] := ⟨rfl, ⟨_, _, _, ty17⟩, trivial⟩
theorem pl24 : Places Tryz.prog [(0, 22), (1, 3)] [(0, 1), (1, 1)] := ⟨rfl, ⟨_, _, _, ty22⟩, ⟨rfl, ⟨_, _, _, ty3⟩, trivial⟩⟩
theorem pl25 : Places Tryz.prog [(0, 22), (1, 3)] [(0, 1), (1, 1)] := ⟨rfl, ⟨_, _, _, ty22⟩, ⟨rfl, ⟨_, _, _, ty3⟩, trivial⟩⟩
theorem pl44 : Places Tryz.prog [(0, 9), (1, 9)] [(0, 1), (1, 1)] := ⟨rfl, ⟨_, _, _, ty9⟩, ⟨rfl, ⟨_, _, _, ty9⟩, trivial⟩⟩
theorem pl45 : Places Tryz.prog [(0, 9), (1, 9)] [(0, 1), (1, 1)] := ⟨rfl, ⟨_, _, _, ty9⟩, ⟨rfl, ⟨_, _, _, ty9⟩, trivial⟩⟩
theorem pl49 : Places Tryz.prog [(0, 9), (1, 3), (2, 3)] [(0, 1), (1, 1), (2, 1)] := ⟨rfl, ⟨_, _, _, ty9⟩, ⟨rfl, ⟨_, _, _, ty3⟩, ⟨rfl, ⟨_, _, _, ty3⟩, trivial⟩⟩⟩
theorem pl50 : Places Tryz.prog [(0, 9), (1, 3), (2, 3)] [(0, 1), (1, 1), (2, 1)] := ⟨rfl, ⟨_, _, _, ty9⟩, ⟨rfl, ⟨_, _, _, ty3⟩, ⟨rfl, ⟨_, _, _, ty3⟩, trivial⟩⟩⟩
theorem pl56 : Places Tryz.prog [(0, 9), (1, 9), (2, 3)] [(0, 1), (1, 1), (2, 1)] := ⟨rfl, ⟨_, _, _, ty9⟩, ⟨rfl, ⟨_, _, _, ty9⟩, ⟨rfl, ⟨_, _, _, ty3⟩, trivial⟩⟩⟩
theorem pl57 : Places Tryz.prog [(0, 9), (1, 9), (2, 3)] [(0, 1), (1, 1), (2, 1)] := ⟨rfl, ⟨_, _, _, ty9⟩, ⟨rfl, ⟨_, _, _, ty9⟩, ⟨rfl, ⟨_, _, _, ty3⟩, trivial⟩⟩⟩
theorem pl62 : Places Tryz.prog [(0, 9), (1, 3)] [(0, 1), (1, 1)] := ⟨rfl, ⟨_, _, _, ty9⟩, ⟨rfl, ⟨_, _, _, ty3⟩, trivial⟩⟩
theorem pl63 : Places Tryz.prog [(0, 9), (1, 3)] [(0, 1), (1, 1)] := ⟨rfl, ⟨_, _, _, ty9⟩, ⟨rfl, ⟨_, _, _, ty3⟩, trivial⟩⟩
theorem pl155 : Places Tryz.prog [(0, 5), (1, 5)] [(0, 1), (1, 1)] := ⟨rfl, ⟨_, _, _, ty5⟩, ⟨rfl, ⟨_, _, _, ty5⟩, trivial⟩⟩
theorem pl156 : Places Tryz.prog [(0, 5), (1, 5)] [(0, 1), (1, 1)] := ⟨rfl, ⟨_, _, _, ty5⟩, ⟨rfl, ⟨_, _, _, ty5⟩, trivial⟩⟩
theorem pl171 : Places Tryz.prog [(0, 17), (1, 17), (2, 17), (3, 9)] [(0, 1), (1, 1), (2, 1), (3, 1)] := ⟨rfl, ⟨_, _, _, ty17⟩, ⟨rfl, ⟨_, _, _, ty17⟩, ⟨rfl, ⟨_, _, _, ty17⟩, ⟨rfl, ⟨_, _, _, ty9⟩, trivial⟩⟩⟩⟩
theorem pl172 : Places Tryz.prog [(0, 17), (1, 17), (2, 17), (3, 9)] [(0, 1), (1, 1), (2, 1), (3, 1)] := ⟨rfl, ⟨_, _, _, ty17⟩, ⟨rfl, ⟨_, _, _, ty17⟩, ⟨rfl, ⟨_, _, _, ty17⟩, ⟨rfl, ⟨_, _, _, ty9⟩, trivial⟩⟩⟩⟩
theorem pl174 : Places Tryz.prog [(0, 173)] [(0, 0)] := ⟨rfl, ⟨_, _, _, ty173⟩, trivial⟩
theorem pl175 : Places Tryz.prog [(0, 173)] [(0, 0)] := ⟨rfl, ⟨_, _, _, ty173⟩, trivial⟩
theorem pl183 : Places Tryz.prog [(0, 12), (1, 12), (2, 129), (3, 177), (4, 5), (5, 5), (6, 178), (7, 179), (8, 180), (9, 181), (10, 182)] [(0, 1), (1, 1), (2, 1), (3, 1), (4, 1), (5, 1), (6, 1), (7, 1), (8, 1), (9, 1), (10, 1)] := ⟨rfl, ⟨_, _, _, ty12⟩, ⟨rfl, ⟨_, _, _, ty12⟩, ⟨rfl, ⟨_, _, _, ty129⟩, ⟨rfl, ⟨_, _, _, ty177⟩, ⟨rfl, ⟨_, _, _, ty5⟩, ⟨rfl, ⟨_, _, _, ty5⟩, ⟨rfl, ⟨_, _, _, ty178⟩, ⟨rfl, ⟨_, _, _, ty179⟩, ⟨rfl, ⟨_, _, _, ty180⟩, ⟨rfl, ⟨_, _, _, ty181⟩, ⟨rfl, ⟨_, _, _, ty182⟩, trivial⟩⟩⟩⟩⟩⟩⟩⟩⟩⟩⟩
theorem pl184 : Places Tryz.prog [(0, 12), (1, 12), (2, 129), (3, 177), (4, 5), (5, 5), (6, 178), (7, 179), (8, 180), (9, 181), (10, 182)] [(0, 1), (1, 1), (2, 1), (3, 1), (4, 1), (5, 1), (6, 1), (7, 1), (8, 1), (9, 1), (10, 1)] := ⟨rfl, ⟨_, _, _, ty12⟩, ⟨rfl, ⟨_, _, _, ty12⟩, ⟨rfl, ⟨_, _, _, ty129⟩, ⟨rfl, ⟨_, _, _, ty177⟩, ⟨rfl, ⟨_, _, _, ty5⟩, ⟨rfl, ⟨_, _, _, ty5⟩, ⟨rfl, ⟨_, _, _, ty178⟩, ⟨rfl, ⟨_, _, _, ty179⟩, ⟨rfl, ⟨_, _, _, ty180⟩, ⟨rfl, ⟨_, _, _, ty181⟩, ⟨rfl, ⟨_, _, _, ty182⟩, trivial⟩⟩⟩⟩⟩⟩⟩⟩⟩⟩⟩
theorem eq45 : EqOk Tryz.prog 45 := ⟨by kernel_rfl, by kernel_rfl, by kernel_rfl⟩
theorem eq50 : EqOk Tryz.prog 50 := ⟨by kernel_rfl, by kernel_rfl, by kernel_rfl⟩
theorem ca2 : Callable Tryz.prog 2 := ⟨_, Tryz.func2, by kernel_rfl, by kernel_rfl⟩
theorem ca3 : Callable Tryz.prog 3 := ⟨_, Tryz.func3, by kernel_rfl, by kernel_rfl⟩
theorem ca4 : Callable Tryz.prog 4 := ⟨_, Tryz.func4, by kernel_rfl, by kernel_rfl⟩
theorem ca5 : Callable Tryz.prog 5 := ⟨_, Tryz.func5, by kernel_rfl, by kernel_rfl⟩
theorem ca6 : Callable Tryz.prog 6 := ⟨_, Tryz.func6, by kernel_rfl, by kernel_rfl⟩
theorem ca7 : Callable Tryz.prog 7 := ⟨_, Tryz.func7, by kernel_rfl, by kernel_rfl⟩
theorem ca8 : Callable Tryz.prog 8 := ⟨_, Tryz.func8, by kernel_rfl, by kernel_rfl⟩
theorem ca9 : Callable Tryz.prog 9 := ⟨_, Tryz.func9, by kernel_rfl, by kernel_rfl⟩
theorem ca10 : Callable Tryz.prog 10 := ⟨_, Tryz.func10, by kernel_rfl, by kernel_rfl⟩
theorem ca11 : Callable Tryz.prog 11 := ⟨_, Tryz.func11, by kernel_rfl, by kernel_rfl⟩
theorem ca12 : Callable Tryz.prog 12 := ⟨_, Tryz.func12, by kernel_rfl, by kernel_rfl⟩
theorem ca13 : Callable Tryz.prog 13 := ⟨_, Tryz.func13, by kernel_rfl, by kernel_rfl⟩
theorem ca14 : Callable Tryz.prog 14 := ⟨_, Tryz.func14, by kernel_rfl, by kernel_rfl⟩
theorem ca15 : Callable Tryz.prog 15 := ⟨_, Tryz.func15, by kernel_rfl, by kernel_rfl⟩
theorem ca16 : Callable Tryz.prog 16 := ⟨_, Tryz.func16, by kernel_rfl, by kernel_rfl⟩
theorem ca17 : Callable Tryz.prog 17 := ⟨_, Tryz.func17, by kernel_rfl, by kernel_rfl⟩
theorem ca18 : Callable Tryz.prog 18 := ⟨_, Tryz.func18, by kernel_rfl, by kernel_rfl⟩
theorem ca19 : Callable Tryz.prog 19 := ⟨_, Tryz.func19, by kernel_rfl, by kernel_rfl⟩
theorem ca20 : Callable Tryz.prog 20 := ⟨_, Tryz.func20, by kernel_rfl, by kernel_rfl⟩
theorem ca21 : Callable Tryz.prog 21 := ⟨_, Tryz.func21, by kernel_rfl, by kernel_rfl⟩
theorem ca22 : Callable Tryz.prog 22 := ⟨_, Tryz.func22, by kernel_rfl, by kernel_rfl⟩
theorem ca23 : Callable Tryz.prog 23 := ⟨_, Tryz.func23, by kernel_rfl, by kernel_rfl⟩
theorem ca24 : Callable Tryz.prog 24 := ⟨_, Tryz.func24, by kernel_rfl, by kernel_rfl⟩
theorem ca25 : Callable Tryz.prog 25 := ⟨_, Tryz.func25, by kernel_rfl, by kernel_rfl⟩
theorem ca26 : Callable Tryz.prog 26 := ⟨_, Tryz.func26, by kernel_rfl, by kernel_rfl⟩
theorem ca27 : Callable Tryz.prog 27 := ⟨_, Tryz.func27, by kernel_rfl, by kernel_rfl⟩
theorem ca28 : Callable Tryz.prog 28 := ⟨_, Tryz.func28, by kernel_rfl, by kernel_rfl⟩
theorem ca29 : Callable Tryz.prog 29 := ⟨_, Tryz.func29, by kernel_rfl, by kernel_rfl⟩
theorem ca30 : Callable Tryz.prog 30 := ⟨_, Tryz.func30, by kernel_rfl, by kernel_rfl⟩
theorem ca31 : Callable Tryz.prog 31 := ⟨_, Tryz.func31, by kernel_rfl, by kernel_rfl⟩
theorem ca32 : Callable Tryz.prog 32 := ⟨_, Tryz.func32, by kernel_rfl, by kernel_rfl⟩
theorem ca33 : Callable Tryz.prog 33 := ⟨_, Tryz.func33, by kernel_rfl, by kernel_rfl⟩
theorem ca34 : Callable Tryz.prog 34 := ⟨_, Tryz.func34, by kernel_rfl, by kernel_rfl⟩
theorem ca35 : Callable Tryz.prog 35 := ⟨_, Tryz.func35, by kernel_rfl, by kernel_rfl⟩
theorem ca36 : Callable Tryz.prog 36 := ⟨_, Tryz.func36, by kernel_rfl, by kernel_rfl⟩
theorem ca37 : Callable Tryz.prog 37 := ⟨_, Tryz.func37, by kernel_rfl, by kernel_rfl⟩
theorem ca38 : Callable Tryz.prog 38 := ⟨_, Tryz.func38, by kernel_rfl, by kernel_rfl⟩
theorem ca39 : Callable Tryz.prog 39 := ⟨_, Tryz.func39, by kernel_rfl, by kernel_rfl⟩
theorem ca40 : Callable Tryz.prog 40 := ⟨_, Tryz.func40, by kernel_rfl, by kernel_rfl⟩
theorem ca41 : Callable Tryz.prog 41 := ⟨_, Tryz.func41, by kernel_rfl, by kernel_rfl⟩
theorem ca42 : Callable Tryz.prog 42 := ⟨_, Tryz.func42, by kernel_rfl, by kernel_rfl⟩
theorem ca43 : Callable Tryz.prog 43 := ⟨_, Tryz.func43, by kernel_rfl, by kernel_rfl⟩
theorem ca44 : Callable Tryz.prog 44 := ⟨_, Tryz.func44, by kernel_rfl, by kernel_rfl⟩
theorem ca45 : Callable Tryz.prog 45 := ⟨_, Tryz.func45, by kernel_rfl, by kernel_rfl⟩
theorem ca46 : Callable Tryz.prog 46 := ⟨_, Tryz.func46, by kernel_rfl, by kernel_rfl⟩
theorem ca47 : Callable Tryz.prog 47 := ⟨_, Tryz.func47, by kernel_rfl, by kernel_rfl⟩
theorem ca48 : Callable Tryz.prog 48 := ⟨_, Tryz.func48, by kernel_rfl, by kernel_rfl⟩
theorem ca49 : Callable Tryz.prog 49 := ⟨_, Tryz.func49, by kernel_rfl, by kernel_rfl⟩
theorem ca50 : Callable Tryz.prog 50 := ⟨_, Tryz.func50, by kernel_rfl, by kernel_rfl⟩
theorem ca51 : Callable Tryz.prog 51 := ⟨_, Tryz.func51, by kernel_rfl, by kernel_rfl⟩
theorem ca52 : Callable Tryz.prog 52 := ⟨_, Tryz.func52, by kernel_rfl, by kernel_rfl⟩
theorem ca53 : Callable Tryz.prog 53 := ⟨_, Tryz.func53, by kernel_rfl, by kernel_rfl⟩
theorem ca54 : Callable Tryz.prog 54 := ⟨_, Tryz.func54, by kernel_rfl, by kernel_rfl⟩
theorem ca55 : Callable Tryz.prog 55 := ⟨_, Tryz.func55, by kernel_rfl, by kernel_rfl⟩
theorem ca56 : Callable Tryz.prog 56 := ⟨_, Tryz.func56, by kernel_rfl, by kernel_rfl⟩
theorem ca57 : Callable Tryz.prog 57 := ⟨_, Tryz.func57, by kernel_rfl, by kernel_rfl⟩
theorem ca58 : Callable Tryz.prog 58 := ⟨_, Tryz.func58, by kernel_rfl, by kernel_rfl⟩
theorem ca59 : Callable Tryz.prog 59 := ⟨_, Tryz.func59, by kernel_rfl, by kernel_rfl⟩
theorem ca60 : Callable Tryz.prog 60 := ⟨_, Tryz.func60, by kernel_rfl, by kernel_rfl⟩
theorem ca61 : Callable Tryz.prog 61 := ⟨_, Tryz.func61, by kernel_rfl, by kernel_rfl⟩
theorem ca62 : Callable Tryz.prog 62 := ⟨_, Tryz.func62, by kernel_rfl, by kernel_rfl⟩
theorem ca63 : Callable Tryz.prog 63 := ⟨_, Tryz.func63, by kernel_rfl, by kernel_rfl⟩
theorem ca64 : Callable Tryz.prog 64 := ⟨_, Tryz.func64, by kernel_rfl, by kernel_rfl⟩
theorem ca65 : Callable Tryz.prog 65 := ⟨_, Tryz.func65, by kernel_rfl, by kernel_rfl⟩
theorem ca66 : Callable Tryz.prog 66 := ⟨_, Tryz.func66, by kernel_rfl, by kernel_rfl⟩
theorem ca67 : Callable Tryz.prog 67 := ⟨_, Tryz.func67, by kernel_rfl, by kernel_rfl⟩
theorem ca68 : Callable Tryz.prog 68 := ⟨_, Tryz.func68, by kernel_rfl, by kernel_rfl⟩
theorem ca69 : Callable Tryz.prog 69 := ⟨_, Tryz.func69, by kernel_rfl, by kernel_rfl⟩
theorem ca70 : Callable Tryz.prog 70 := ⟨_, Tryz.func70, by kernel_rfl, by kernel_rfl⟩
theorem ca71 : Callable Tryz.prog 71 := ⟨_, Tryz.func71, by kernel_rfl, by kernel_rfl⟩
theorem ca72 : Callable Tryz.prog 72 := ⟨_, Tryz.func72, by kernel_rfl, by kernel_rfl⟩
theorem ca73 : Callable Tryz.prog 73 := ⟨_, Tryz.func73, by kernel_rfl, by kernel_rfl⟩
theorem ca74 : Callable Tryz.prog 74 := ⟨_, Tryz.func74, by kernel_rfl, by kernel_rfl⟩
theorem ca75 : Callable Tryz.prog 75 := ⟨_, Tryz.func75, by kernel_rfl, by kernel_rfl⟩
theorem ca76 : Callable Tryz.prog 76 := ⟨_, Tryz.func76, by kernel_rfl, by kernel_rfl⟩
theorem ca77 : Callable Tryz.prog 77 := ⟨_, Tryz.func77, by kernel_rfl, by kernel_rfl⟩
theorem ca78 : Callable Tryz.prog 78 := ⟨_, Tryz.func78, by kernel_rfl, by kernel_rfl⟩
theorem ca79 : Callable Tryz.prog 79 := ⟨_, Tryz.func79, by kernel_rfl, by kernel_rfl⟩
theorem ca80 : Callable Tryz.prog 80 := ⟨_, Tryz.func80, by kernel_rfl, by kernel_rfl⟩
theorem ca81 : Callable Tryz.prog 81 := ⟨_, Tryz.func81, by kernel_rfl, by kernel_rfl⟩
theorem ca82 : Callable Tryz.prog 82 := ⟨_, Tryz.func82, by kernel_rfl, by kernel_rfl⟩
theorem ca83 : Callable Tryz.prog 83 := ⟨_, Tryz.func83, by kernel_rfl, by kernel_rfl⟩
theorem ca84 : Callable Tryz.prog 84 := ⟨_, Tryz.func84, by kernel_rfl, by kernel_rfl⟩
theorem ca85 : Callable Tryz.prog 85 := ⟨_, Tryz.func85, by kernel_rfl, by kernel_rfl⟩
theorem ca86 : Callable Tryz.prog 86 := ⟨_, Tryz.func86, by kernel_rfl, by kernel_rfl⟩
theorem ca87 : Callable Tryz.prog 87 := ⟨_, Tryz.func87, by kernel_rfl, by kernel_rfl⟩
theorem ca88 : Callable Tryz.prog 88 := ⟨_, Tryz.func88, by kernel_rfl, by kernel_rfl⟩
theorem ca89 : Callable Tryz.prog 89 := ⟨_, Tryz.func89, by kernel_rfl, by kernel_rfl⟩
theorem ca90 : Callable Tryz.prog 90 := ⟨_, Tryz.func90, by kernel_rfl, by kernel_rfl⟩
theorem ca91 : Callable Tryz.prog 91 := ⟨_, Tryz.func91, by kernel_rfl, by kernel_rfl⟩
theorem ca92 : Callable Tryz.prog 92 := ⟨_, Tryz.func92, by kernel_rfl, by kernel_rfl⟩
theorem ca93 : Callable Tryz.prog 93 := ⟨_, Tryz.func93, by kernel_rfl, by kernel_rfl⟩
theorem ca94 : Callable Tryz.prog 94 := ⟨_, Tryz.func94, by kernel_rfl, by kernel_rfl⟩
theorem ca95 : Callable Tryz.prog 95 := ⟨_, Tryz.func95, by kernel_rfl, by kernel_rfl⟩
theorem ca97 : Callable Tryz.prog 97 := ⟨_, Tryz.func97, by kernel_rfl, by kernel_rfl⟩
theorem ca98 : Callable Tryz.prog 98 := ⟨_, Tryz.func98, by kernel_rfl, by kernel_rfl⟩
theorem ca99 : Callable Tryz.prog 99 := ⟨_, Tryz.func99, by kernel_rfl, by kernel_rfl⟩
theorem ca100 : Callable Tryz.prog 100 := ⟨_, Tryz.func100, by kernel_rfl, by kernel_rfl⟩
theorem ca101 : Callable Tryz.prog 101 := ⟨_, Tryz.func101, by kernel_rfl, by kernel_rfl⟩
theorem ca102 : Callable Tryz.prog 102 := ⟨_, Tryz.func102, by kernel_rfl, by kernel_rfl⟩
theorem ca103 : Callable Tryz.prog 103 := ⟨_, Tryz.func103, by kernel_rfl, by kernel_rfl⟩
theorem ca104 : Callable Tryz.prog 104 := ⟨_, Tryz.func104, by kernel_rfl, by kernel_rfl⟩
theorem ca105 : Callable Tryz.prog 105 := ⟨_, Tryz.func105, by kernel_rfl, by kernel_rfl⟩
theorem ca106 : Callable Tryz.prog 106 := ⟨_, Tryz.func106, by kernel_rfl, by kernel_rfl⟩
theorem ca108 : Callable Tryz.prog 108 := ⟨_, Tryz.func108, by kernel_rfl, by kernel_rfl⟩
theorem ca109 : Callable Tryz.prog 109 := ⟨_, Tryz.func109, by kernel_rfl, by kernel_rfl⟩
theorem ca110 : Callable Tryz.prog 110 := ⟨_, Tryz.func110, by kernel_rfl, by kernel_rfl⟩
theorem ca111 : Callable Tryz.prog 111 := ⟨_, Tryz.func111, by kernel_rfl, by kernel_rfl⟩
theorem ca112 : Callable Tryz.prog 112 := ⟨_, Tryz.func112, by kernel_rfl, by kernel_rfl⟩
theorem ca113 : Callable Tryz.prog 113 := ⟨_, Tryz.func113, by kernel_rfl, by kernel_rfl⟩
theorem ca114 : Callable Tryz.prog 114 := ⟨_, Tryz.func114, by kernel_rfl, by kernel_rfl⟩
theorem ca115 : Callable Tryz.prog 115 := ⟨_, Tryz.func115, by kernel_rfl, by kernel_rfl⟩
theorem ca116 : Callable Tryz.prog 116 := ⟨_, Tryz.func116, by kernel_rfl, by kernel_rfl⟩
theorem ca117 : Callable Tryz.prog 117 := ⟨_, Tryz.func117, by kernel_rfl, by kernel_rfl⟩
theorem ca118 : Callable Tryz.prog 118 := ⟨_, Tryz.func118, by kernel_rfl, by kernel_rfl⟩
theorem ca119 : Callable Tryz.prog 119 := ⟨_, Tryz.func119, by kernel_rfl, by kernel_rfl⟩
theorem ca120 : Callable Tryz.prog 120 := ⟨_, Tryz.func120, by kernel_rfl, by kernel_rfl⟩
theorem ca121 : Callable Tryz.prog 121 := ⟨_, Tryz.func121, by kernel_rfl, by kernel_rfl⟩
theorem ca122 : Callable Tryz.prog 122 := ⟨_, Tryz.func122, by kernel_rfl, by kernel_rfl⟩
theorem ca123 : Callable Tryz.prog 123 := ⟨_, Tryz.func123, by kernel_rfl, by kernel_rfl⟩
theorem ca124 : Callable Tryz.prog 124 := ⟨_, Tryz.func124, by kernel_rfl, by kernel_rfl⟩
theorem ca125 : Callable Tryz.prog 125 := ⟨_, Tryz.func125, by kernel_rfl, by kernel_rfl⟩
theorem ca126 : Callable Tryz.prog 126 := ⟨_, Tryz.func126, by kernel_rfl, by kernel_rfl⟩
theorem ca127 : Callable Tryz.prog 127 := ⟨_, Tryz.func127, by kernel_rfl, by kernel_rfl⟩
theorem ca128 : Callable Tryz.prog 128 := ⟨_, Tryz.func128, by kernel_rfl, by kernel_rfl⟩
theorem ca129 : Callable Tryz.prog 129 := ⟨_, Tryz.func129, by kernel_rfl, by kernel_rfl⟩
theorem ca130 : Callable Tryz.prog 130 := ⟨_, Tryz.func130, by kernel_rfl, by kernel_rfl⟩
theorem ca131 : Callable Tryz.prog 131 := ⟨_, Tryz.func131, by kernel_rfl, by kernel_rfl⟩
theorem ca132 : Callable Tryz.prog 132 := ⟨_, Tryz.func132, by kernel_rfl, by kernel_rfl⟩
theorem ca133 : Callable Tryz.prog 133 := ⟨_, Tryz.func133, by kernel_rfl, by kernel_rfl⟩
theorem ca134 : Callable Tryz.prog 134 := ⟨_, Tryz.func134, by kernel_rfl, by kernel_rfl⟩
theorem ca135 : Callable Tryz.prog 135 := ⟨_, Tryz.func135, by kernel_rfl, by kernel_rfl⟩
theorem ca136 : Callable Tryz.prog 136 := ⟨_, Tryz.func136, by kernel_rfl, by kernel_rfl⟩
theorem ca137 : Callable Tryz.prog 137 := ⟨_, Tryz.func137, by kernel_rfl, by kernel_rfl⟩
theorem ca138 : Callable Tryz.prog 138 := ⟨_, Tryz.func138, by kernel_rfl, by kernel_rfl⟩
theorem ca139 : Callable Tryz.prog 139 := ⟨_, Tryz.func139, by kernel_rfl, by kernel_rfl⟩
theorem ca140 : Callable Tryz.prog 140 := ⟨_, Tryz.func140, by kernel_rfl, by kernel_rfl⟩
theorem ca141 : Callable Tryz.prog 141 := ⟨_, Tryz.func141, by kernel_rfl, by kernel_rfl⟩
theorem ca142 : Callable Tryz.prog 142 := ⟨_, Tryz.func142, by kernel_rfl, by kernel_rfl⟩
theorem ca143 : Callable Tryz.prog 143 := ⟨_, Tryz.func143, by kernel_rfl, by kernel_rfl⟩
theorem ca144 : Callable Tryz.prog 144 := ⟨_, Tryz.func144, by kernel_rfl, by kernel_rfl⟩
theorem ca145 : Callable Tryz.prog 145 := ⟨_, Tryz.func145, by kernel_rfl, by kernel_rfl⟩
theorem ca146 : Callable Tryz.prog 146 := ⟨_, Tryz.func146, by kernel_rfl, by kernel_rfl⟩
theorem ca147 : Callable Tryz.prog 147 := ⟨_, Tryz.func147, by kernel_rfl, by kernel_rfl⟩
theorem ca148 : Callable Tryz.prog 148 := ⟨_, Tryz.func148, by kernel_rfl, by kernel_rfl⟩
theorem ca150 : Callable Tryz.prog 150 := ⟨_, Tryz.func150, by kernel_rfl, by kernel_rfl⟩
theorem ca151 : Callable Tryz.prog 151 := ⟨_, Tryz.func151, by kernel_rfl, by kernel_rfl⟩
theorem ca152 : Callable Tryz.prog 152 := ⟨_, Tryz.func152, by kernel_rfl, by kernel_rfl⟩
theorem ca153 : Callable Tryz.prog 153 := ⟨_, Tryz.func153, by kernel_rfl, by kernel_rfl⟩
theorem ca154 : Callable Tryz.prog 154 := ⟨_, Tryz.func154, by kernel_rfl, by kernel_rfl⟩
theorem ca155 : Callable Tryz.prog 155 := ⟨_, Tryz.func155, by kernel_rfl, by kernel_rfl⟩
theorem ca156 : Callable Tryz.prog 156 := ⟨_, Tryz.func156, by kernel_rfl, by kernel_rfl⟩
theorem ca157 : Callable Tryz.prog 157 := ⟨_, Tryz.func157, by kernel_rfl, by kernel_rfl⟩
theorem ca158 : Callable Tryz.prog 158 := ⟨_, Tryz.func158, by kernel_rfl, by kernel_rfl⟩
theorem ca159 : Callable Tryz.prog 159 := ⟨_, Tryz.func159, by kernel_rfl, by kernel_rfl⟩
theorem ca160 : Callable Tryz.prog 160 := ⟨_, Tryz.func160, by kernel_rfl, by kernel_rfl⟩
theorem ca161 : Callable Tryz.prog 161 := ⟨_, Tryz.func161, by kernel_rfl, by kernel_rfl⟩
theorem ca186 : Callable Tryz.prog 186 := ⟨_, Tryz.func186, by kernel_rfl, by kernel_rfl⟩
theorem mixed : Tryz.prog.follows .mixedOrders = true := by kernel_rfl
end Go.Proofs.YtnlfcjoofdjpiaaGreatDoor
end
section
namespace Go.HL
abbrev Str := List UInt8
theorem drop_cons {α : Type} {l : List α} {k : Nat} {x : α} (h : l[k]? = some x) : l.drop k = x :: l.drop (k + 1) := by
  have hlt := lt_of_get h
  rw [List.getElem?_eq_getElem hlt] at h
  rw [List.drop_eq_getElem_cons hlt]
  simp at h
  rw [h]
theorem take_snoc' {α : Type} {l : List α} {k : Nat} {x : α} (h : l[k]? = some x) : l.take (k + 1) = l.take k ++ [x] := by
  have hlt := lt_of_get h
  rw [List.getElem?_eq_getElem hlt] at h
  rw [List.take_succ_eq_append_getElem hlt]
  simp at h
  rw [h]
theorem drop_all {α : Type} {l : List α} {k : Nat} (h : l.length ≤ k) : l.drop k = [] := List.drop_eq_nil_of_le h

theorem hd0 {s : Str} (h : s ≠ []) : s[0]? = some (s.headD 0) := by
  cases s with
  | nil => exact absurd rfl h
  | cons a r => rfl
abbrev eSs (l : List Str) : HVal := .slice 1 (l.map .str)
abbrev eIs (l : List Int) : HVal := .slice 1 (l.map (.int .i64))

def out (n lo hi : Int) : Bool := decide (n < lo) || decide (hi < n)
theorem out_f {n lo hi : Int} (h : out n lo hi = false) : lo ≤ n ∧ n ≤ hi := by simp [out] at h; omega
theorem mul_bd {a b A B : Int} (h1 : 0 ≤ a) (h2 : a ≤ A) (h3 : 0 ≤ b) (h4 : b ≤ B) : 0 ≤ a * b ∧ a * b ≤ A * B :=
  ⟨Int.mul_nonneg h1 h3, Int.mul_le_mul h2 h4 h3 (by omega)⟩
def moment (n : Int) : Bool := !(out n 0 345686399999)
def keyCh (c : UInt8) : Bool := (decide (97 ≤ c.toNat) && decide (c.toNat ≤ 122)) || (decide (48 ≤ c.toNat) && decide (c.toNat ≤ 57)) || c.toNat == 45 || c.toNat == 95
def keyHd (s : Str) : Bool := s != [] && decide (s.length ≤ 40) && decide (97 ≤ (s.headD 0).toNat) && decide ((s.headD 0).toNat ≤ 122)
theorem keyHd_t {s : Str} (h : ((¬s = [] ∧ (s.length : Int) ≤ 40) ∧ 97 ≤ (((List.head? s).getD 0).toNat : Int)) ∧ (((List.head? s).getD 0).toNat : Int) ≤ 122) : keyHd s = true := by
  obtain ⟨⟨⟨h1, h2⟩, h3⟩, h4⟩ := h
  simp [keyHd]; exact ⟨⟨⟨h1, by omega⟩, by omega⟩, by omega⟩
theorem keyHd_f {s : Str} (h : ((s = [] ∨ 40 < (s.length : Int)) ∨ (((List.head? s).getD 0).toNat : Int) < 97) ∨ 122 < (((List.head? s).getD 0).toNat : Int)) : keyHd s = false := by
  rw [Bool.eq_false_iff]; simp [keyHd]
  intro h1 h2 h3
  rcases h with ((h | h) | h) | h
  · exact absurd h h1
  all_goals omega
theorem keyCh_t {x : UInt8} (h : (x.toNat : Int) < 97 ∨ 122 < (x.toNat : Int) → (x.toNat : Int) < 48 ∨ 57 < (x.toNat : Int) → ¬(x.toNat : Int) = 45 → (x.toNat : Int) = 95) : keyCh x = true := by
  simp [keyCh]; omega
theorem keyCh_f {x : UInt8} (h : ((((x.toNat : Int) < 97 ∨ 122 < (x.toNat : Int)) ∧ ((x.toNat : Int) < 48 ∨ 57 < (x.toNat : Int))) ∧ ¬(x.toNat : Int) = 45) ∧ ¬(x.toNat : Int) = 95) : keyCh x = false := by
  rw [Bool.eq_false_iff]; simp [keyCh]; omega
def key (s : Str) : Bool := keyHd s && s.all keyCh
/-- slices.Index of strings -/
def idxOf (s : Str) : List Str → Int → Int
  | [], _ => -1
  | x :: r, k => if s = x then k else idxOf s r (k + 1)
theorem idxOf_nonneg (s : Str) : ∀ (l : List Str) (k : Int), 0 ≤ k → decide (0 ≤ idxOf s l k) = l.contains s
  | [], k, h => by simp [idxOf]
  | x :: r, k, h => by
    have ih := idxOf_nonneg s r (k + 1) (by omega)
    by_cases hx : s = x
    · simp [idxOf, hx, h]
    · have e1 : idxOf s (x :: r) k = idxOf s r (k + 1) := by simp [idxOf, hx]
      rw [e1, ih]; simp [hx]
/-- base.Rising: what is wrong with keys from the k-th on; p: the one before. -/
def rising : Option Str → List Str → Int
  | _, [] => 0
  | p, s :: r => if !key s then 5 else if (match p with | some q => Op.bytesLess s q || s == q | none => false) then 7 else rising (some s) r
end Go.HL
end
section
namespace Go.Proofs.YtnlfcjoofdjpiaaGreatDoor
open Go.HL
set_option maxRecDepth 100000
set_option linter.unusedVariables false
set_option linter.unusedSimpArgs false
/-- benchwarmer/base.Out -/
theorem c_base_Out {n lo hi : Int}  : ConP Tryz.prog 32 [.int .i64 n, .int .i64 lo, .int .i64 hi] (.bool (out n lo hi)) := by
  refine Con.of_body Tryz.func32 rfl Tryz.ntmps32 rfl rfl ?_
  refine hw_reg ?_
  refine dp rfl (pop_assign rfl) ?_
  refine dn ?_
  refine hw_reg ?_
  refine dp rfl (pop_move rfl) ?_
  refine dp rfl (pop_move rfl) ?_
  refine dp rfl (pop_lss rfl rfl) ?_
  refine dp rfl (pop_move rfl) ?_
  refine dg rfl rfl (fun hc => ⟨_, OpenTo.refl _, pop_move rfl⟩) ?_
  refine dg rfl rfl (fun hc => ⟨_, OpenTo.refl _, pop_move rfl⟩) ?_
  refine dg rfl rfl (fun hc => ⟨_, OpenTo.upd (t := 12) rfl (by first | exact hc | simp_all) (OpenTo.upd (t := 11) rfl (by first | exact hc | simp_all) (OpenTo.refl _)), pop_gtr rfl rfl⟩) ?_
  refine dp rfl (pop_picko rfl (.inl rfl) (.inr ⟨_, rfl, fun h => by simp_all⟩)) ?_
  refine dp rfl (pop_assign rfl) ?_
  refine dn ?_
  refine hw_ret ?_
  refine ret_p rfl ?_
  simp [out]

/-- benchwarmer/base.Key -/
theorem c_base_Key {s : Str}  : ConP Tryz.prog 31 [.str s] (.bool (key s)) := by
  refine Con.of_body Tryz.func31 rfl Tryz.ntmps31 rfl rfl ?_
  refine hw_reg ?_
  refine dp rfl (pop_assign rfl) ?_
  refine dn ?_
  refine hw_seq ?_
  refine hw_reg ?_
  refine dp rfl (pop_move rfl) ?_
  refine dp rfl (pop_eqls rfl rfl) ?_
  refine dp rfl (pop_move rfl) ?_
  refine dg rfl rfl (fun hc => ⟨_, OpenTo.refl _, pop_move rfl⟩) ?_
  refine dg rfl rfl (fun hc => ⟨_, OpenTo.upd (t := 8) rfl (by first | exact hc | simp_all) (OpenTo.refl _), pop_lens ty9 rfl⟩) ?_
  refine dg rfl rfl (fun hc => ⟨_, OpenTo.upd (t := 9) rfl (by first | exact hc | simp_all) (OpenTo.refl _), pop_gtr rfl rfl⟩) ?_
  refine dp rfl (pop_picko rfl (.inl rfl) (.inr ⟨_, rfl, fun h => by simp_all⟩)) ?_
  refine dp rfl (pop_move rfl) ?_
  refine dg rfl rfl (fun hc => ⟨_, OpenTo.refl _, pop_move rfl⟩) ?_
  refine dg rfl rfl (fun hc => ⟨_, OpenTo.upd (t := 13) rfl (by first | exact hc | simp_all) (OpenTo.refl _), pop_indexs (j := 0) (b := s.headD 0) ty9 rfl rfl rfl (hd0 (by simp_all))⟩) ?_
  refine dg rfl rfl (fun hc => ⟨_, OpenTo.upd (t := 14) rfl (by first | exact hc | simp_all) (OpenTo.refl _), pop_lss rfl rfl⟩) ?_
  refine dp rfl (pop_picko rfl (.inl rfl) (.inr ⟨_, rfl, fun h => by simp_all⟩)) ?_
  refine dp rfl (pop_move rfl) ?_
  refine dg rfl rfl (fun hc => ⟨_, OpenTo.refl _, pop_move rfl⟩) ?_
  refine dg rfl rfl (fun hc => ⟨_, OpenTo.upd (t := 18) rfl (by first | exact hc | simp_all) (OpenTo.refl _), pop_indexs (j := 0) (b := s.headD 0) ty9 rfl rfl rfl (hd0 (by simp_all))⟩) ?_
  refine dg rfl rfl (fun hc => ⟨_, OpenTo.upd (t := 19) rfl (by first | exact hc | simp_all) (OpenTo.refl _), pop_gtr rfl rfl⟩) ?_
  refine dp rfl (pop_picko rfl (.inl rfl) (.inr ⟨_, rfl, fun h => by simp_all⟩)) ?_
  refine dn ?_
  refine hw_cond rfl (fun h1 => ?_) (fun h2 => ?_)
  · try simp at h1
    refine hw_reg ?_
    refine dp rfl (pop_assign rfl) ?_
    refine dn ?_
    refine hw_ret ?_
    refine ret_p rfl ?_
    first | (rw [key, keyHd_f h1]; rfl) | (rw [hg, List.all_cons, keyCh_f h5]; rfl) | (rw [hg]; rfl)
  · try simp at h2
    refine hw_skip ?_
    refine seqQ_n ?_
    refine hw_seq ?_
    refine hw_reg ?_
    refine dp rfl (pop_move rfl) ?_
    refine dp rfl (pop_lens ty9 rfl) ?_
    refine dp rfl (pop_move rfl) ?_
    refine dn ?_
    refine hw_block ?_
    refine hw_loopw [2, 3, 4, 24, 25, 26, 27, 28, 29, 30, 31, 32, 33, 34, 35, 36, 37, 38, 39, 40, 41, 42, 43, 44, 45, 46, 47, 48, 49, 50, 51, 52, 53] (fun (k : Nat) => [(24, .int .i64 k)]) (fun (k : Nat) => []) (fun (k : Nat) => k ≤ s.length ∧ key s = (s.drop k).all keyCh) (fun (k : Nat) => s.length - k) (0) ?_ ?_ ?_ ?_
    · exact ⟨Nat.zero_le _, by rw [key, keyHd_t h2]; rfl⟩
    · exact ⟨rfl, trivial⟩
    · exact List.Perm.refl _
    · intro k hinv
      obtain ⟨hk, hg⟩ := hinv
      refine hw_reg ?_
      refine dp rfl (pop_lss rfl rfl) ?_
      refine dn ?_
      refine hw_seq ?_
      refine hw_cond rfl (fun h3 => ?_) (fun h4 => ?_)
      · try simp at h3
        obtain ⟨x, hx⟩ : ∃ x, s[k]? = some x := ⟨_, List.getElem?_eq_getElem h3⟩
        have hd := drop_cons hx
        rw [hd] at hg
        refine hw_skip ?_
        refine seqQ_n ?_
        refine hw_seq ?_
        refine hw_block ?_
        refine hw_reg ?_
        refine dp rfl (pop_move rfl) ?_
        refine dp rfl (pop_assign rfl) ?_
        refine dn ?_
        refine hw_reg ?_
        refine dp rfl (pop_move rfl) ?_
        refine dp rfl (pop_move rfl) ?_
        refine dp rfl (pop_indexs ty9 rfl rfl rfl (by first | assumption | simp_all)) ?_
        refine dp rfl (pop_assign rfl) ?_
        refine dn ?_
        refine hw_reg ?_
        refine dp rfl (pop_move rfl) ?_
        refine dp rfl (pop_geq rfl rfl) ?_
        refine dp rfl (pop_move rfl) ?_
        refine dg rfl rfl (fun hc => ⟨_, OpenTo.refl _, pop_move rfl⟩) ?_
        refine dg rfl rfl (fun hc => ⟨_, OpenTo.upd (t := 33) rfl (by first | exact hc | simp_all) (OpenTo.refl _), pop_leq rfl rfl⟩) ?_
        refine dp rfl (pop_picko rfl (.inr ⟨_, rfl, fun h => by simp_all⟩) (.inl rfl)) ?_
        refine dp rfl (pop_move rfl) ?_
        refine dg rfl rfl (fun hc => ⟨_, OpenTo.refl _, pop_move rfl⟩) ?_
        refine dg rfl rfl (fun hc => ⟨_, OpenTo.upd (t := 37) rfl (by first | exact hc | simp_all) (OpenTo.refl _), pop_geq rfl rfl⟩) ?_
        refine dg rfl rfl (fun hc => ⟨_, OpenTo.upd (t := 38) rfl (by first | exact hc | simp_all) (OpenTo.refl _), pop_move rfl⟩) ?_
        refine dg rfl rfl (fun hc => ⟨_, OpenTo.refl _, pop_move rfl⟩) ?_
        refine dg rfl rfl (fun hc => ⟨_, OpenTo.upd (t := 40) rfl (by first | exact hc | simp_all) (OpenTo.refl _), pop_leq rfl rfl⟩) ?_
        refine dg rfl rfl (fun hc => ⟨_, OpenTo.upd (t := 39) rfl (by first | exact hc | simp_all) (OpenTo.refl _), pop_picko rfl (.inr ⟨_, rfl, fun h => by simp_all⟩) (.inl rfl)⟩) ?_
        refine dp rfl (pop_picko rfl (.inl rfl) (.inr ⟨_, rfl, fun h => by simp_all⟩)) ?_
        refine dp rfl (pop_move rfl) ?_
        refine dg rfl rfl (fun hc => ⟨_, OpenTo.refl _, pop_move rfl⟩) ?_
        refine dg rfl rfl (fun hc => ⟨_, OpenTo.upd (t := 45) rfl (by first | exact hc | simp_all) (OpenTo.refl _), pop_eql rfl rfl⟩) ?_
        refine dp rfl (pop_picko rfl (.inl rfl) (.inr ⟨_, rfl, fun h => by simp_all⟩)) ?_
        refine dp rfl (pop_move rfl) ?_
        refine dg rfl rfl (fun hc => ⟨_, OpenTo.refl _, pop_move rfl⟩) ?_
        refine dg rfl rfl (fun hc => ⟨_, OpenTo.upd (t := 49) rfl (by first | exact hc | simp_all) (OpenTo.refl _), pop_eql rfl rfl⟩) ?_
        refine dp rfl (pop_picko rfl (.inl rfl) (.inr ⟨_, rfl, fun h => by simp_all⟩)) ?_
        refine dp rfl (pop_not rfl) ?_
        refine dn ?_
        refine hw_cond rfl (fun h5 => ?_) (fun h6 => ?_)
        · try simp at h5
          refine hw_reg ?_
          refine dp rfl (pop_assign rfl) ?_
          refine dn ?_
          refine hw_ret ?_
          refine ret_p rfl ?_
          first | (rw [key, keyHd_f h1]; rfl) | (rw [hg, List.all_cons, keyCh_f h5]; rfl) | (rw [hg]; rfl)
        · try simp at h6
          refine hw_skip ?_
          refine blockQ_n ?_
          refine seqQ_n ?_
          refine hw_reg1 ?_
          refine dp rfl (pop_add64 rfl rfl (by omega) (by omega)) ?_
          refine dp rfl (pop_move rfl) ?_
          refine dn ?_
          refine ⟨k + 1, ?_, ?_, ⟨rfl, trivial⟩, (by repeat (first | exact keeps_refl | refine keeps_upd rfl ?_ | refine keeps_loop rfl rfl ?_)), List.Perm.refl _⟩
          · refine ⟨by omega, ?_⟩
            rw [hg, List.all_cons, keyCh_t h6]; rfl
          · dsimp only; omega
      · try simp at h4
        rw [drop_all (by omega)] at hg
        refine hw_exit ?_
        refine seqQ_x ?_
        refine loopQ_x ?_
        refine blockQ_eq ?_
        refine seqQ_n ?_
        refine hw_reg ?_
        refine dp rfl (pop_assign rfl) ?_
        refine dn ?_
        refine hw_ret ?_
        refine ret_p rfl ?_
        first | (rw [key, keyHd_f h1]; rfl) | (rw [hg, List.all_cons, keyCh_f h5]; rfl) | (rw [hg]; rfl)
end Go.Proofs.YtnlfcjoofdjpiaaGreatDoor
end
section
namespace Go.HL
theorem getD_some {α : Type} {l : List α} {k : Nat} {d : α} (h : k < l.length) : l[k]? = some (l.getD k d) := by
  simp [List.getElem?_eq_getElem h, List.getD]
def leS (s p : Str) : Bool := Op.bytesLess s p || s == p
structure Room where
  Teams : List Str
  Rounds : Int
  Way : Int
  Players : List Str
  Clock : Int
  Start : Int
structure Keep where
  Team : Str
  Player : Str
  Round : Int
structure Swap where
  Round : Int
  Of : Str
  Team : Str
structure Pick where
  No : Int
  Team : Str
  Player : Str
  At : Int
  Auto : Bool
structure Turn where
  round : Int
  of : Str
  team : Str
abbrev eRoom (r : Room) : HVal := .agg [eSs r.Teams, .int .i64 r.Rounds, .int .i64 r.Way, eSs r.Players, .int .i64 r.Clock, .int .i64 r.Start]
abbrev eKeep (x : Keep) : HVal := .agg [.str x.Team, .str x.Player, .int .i64 x.Round]
abbrev eSwap (x : Swap) : HVal := .agg [.int .i64 x.Round, .str x.Of, .str x.Team]
abbrev ePick (x : Pick) : HVal := .agg [.int .i64 x.No, .str x.Team, .str x.Player, .int .i64 x.At, .bool x.Auto]
abbrev eTurn (x : Turn) : HVal := .agg [.int .i64 x.round, .str x.of, .str x.team]
abbrev eKeeps (l : List Keep) : HVal := .slice 3 (l.map eKeep)
abbrev eSwaps (l : List Swap) : HVal := .slice 3 (l.map eSwap)
abbrev ePicks (l : List Pick) : HVal := .slice 5 (l.map ePick)
abbrev eTurns (l : List Turn) : HVal := .slice 3 (l.map eTurn)
def swap0 : Swap := ⟨0, [], []⟩
def keep0 : Keep := ⟨[], [], 0⟩

def risingGo (l : List Str) : Nat → List Str → Int
  | _, [] => 0
  | k, s :: r => if !key s then 5 else if decide (0 < k) && leS s (l.getD (k - 1) []) then 7 else risingGo l (k + 1) r
def rising1 (l : List Str) : Int := risingGo l 0 l
def teamsGo (l : List Str) : Nat → List Str → Int
  | _, [] => 0
  | k, s :: r => if !key s then 5 else if (l.take k).contains s then 6 else teamsGo l (k + 1) r
def teamsFault (l : List Str) : Int := if l.length = 0 then 8 else if 20 < l.length then 2 else teamsGo l 0 l
def playersFault (l : List Str) : Int := if 500 < l.length then 2 else rising1 l
def checkRoom (r : Room) : Int :=
  if teamsFault r.Teams != 0 then teamsFault r.Teams
  else if out r.Rounds 1 30 then 1 else if out r.Way 1 3 then 4
  else if playersFault r.Players != 0 then playersFault r.Players
  else if out r.Clock 1000 86400000 || !(moment r.Start) then 1
  else if (r.Players.length : Int) < r.Teams.length * r.Rounds then 12 else 0
def backwards (way round : Int) : Bool :=
  if way = 2 then round.tmod 2 == 0 else if way = 3 then round == 2 || (decide (2 < round) && round.tmod 2 == 1) else false
def owner (round : Int) (of : Str) : List Swap → Str
  | [] => of
  | s :: r => if s.Round = round ∧ s.Of = of then s.Team else owner round of r
end Go.HL
end
section
namespace Go.HL
open Op (bytesLess)
def cmpI (a b : Int) : Int := if a < b then -1 else if b < a then 1 else 0
def orI : List Int → Int
  | [] => 0
  | x :: r => if x ≠ 0 then x else orI r
abbrev cmpS (a b : Str) : Int := Lib.compareBytes a b

theorem less_irrefl : ∀ a : Str, bytesLess a a = false
  | [] => rfl
  | x :: r => by simp [bytesLess, less_irrefl r]
theorem less_trans : ∀ {a b c : Str}, bytesLess a b = true → bytesLess b c = true → bytesLess a c = true
  | _, [], _, h, _ => by simp [bytesLess] at h
  | _, _ :: _, [], _, h => by simp [bytesLess] at h
  | [], _ :: _, _ :: _, _, _ => by simp [bytesLess]
  | x :: a, y :: b, z :: c, h1, h2 => by
    simp only [bytesLess, Bool.or_eq_true, decide_eq_true_eq, Bool.and_eq_true, beq_iff_eq] at h1 h2 ⊢
    rcases h1 with h1 | ⟨rfl, h1⟩
    · rcases h2 with h2 | ⟨rfl, h2⟩
      · exact .inl (UInt8.lt_trans h1 h2)
      · exact .inl h1
    · rcases h2 with h2 | ⟨rfl, h2⟩
      · exact .inl h2
      · exact .inr ⟨rfl, less_trans h1 h2⟩
theorem less_total : ∀ a b : Str, bytesLess a b = true ∨ a = b ∨ bytesLess b a = true
  | [], [] => .inr (.inl rfl)
  | [], _ :: _ => .inl (by simp [bytesLess])
  | _ :: _, [] => .inr (.inr (by simp [bytesLess]))
  | x :: a, y :: b => by
    rcases UInt8.lt_or_lt_of_ne' x y with h | h | h
    · exact .inl (by simp [bytesLess, h])
    · subst h
      rcases less_total a b with h | h | h
      · exact .inl (by simp [bytesLess, h])
      · exact .inr (.inl (by rw [h]))
      · exact .inr (.inr (by simp [bytesLess, h]))
    · exact .inr (.inr (by simp [bytesLess, h]))
where
  UInt8.lt_or_lt_of_ne' (x y : UInt8) : x < y ∨ x = y ∨ y < x := by
    rcases Nat.lt_trichotomy x.toNat y.toNat with h | h | h
    · exact .inl (UInt8.lt_iff_toNat_lt.2 h)
    · exact .inr (.inl (UInt8.toNat_inj.1 h))
    · exact .inr (.inr (UInt8.lt_iff_toNat_lt.2 h))
theorem less_asymm {a b : Str} (h : bytesLess a b = true) : bytesLess b a = false := by
  cases h2 : bytesLess b a with
  | false => rfl
  | true => have := less_trans h h2; rw [less_irrefl] at this; cases this
theorem leS_iff {a b : Str} : leS a b = !(bytesLess b a) := by
  unfold leS
  rcases less_total a b with h | h | h
  · simp [h, less_asymm h]
  · subst h; simp [less_irrefl]
  · have hne : a ≠ b := fun e => by subst e; rw [less_irrefl] at h; cases h
    simp [h, less_asymm h, hne]
theorem cmpS_eq : ∀ a b : Str, cmpS a b = if bytesLess a b then -1 else if a = b then 0 else 1
  | [], [] => rfl
  | [], _ :: _ => rfl
  | _ :: _, [] => rfl
  | x :: a, y :: b => by
    have ih := cmpS_eq a b
    simp only [cmpS, Lib.compareBytes] at ih ⊢
    by_cases h1 : x < y
    · simp [bytesLess, h1]
    · by_cases h2 : y < x
      · have hne : ¬ x = y := fun e => by subst e; exact absurd h2 h1
        simp [bytesLess, h1, h2, hne]
      · have he : x = y := by
          rcases Nat.lt_trichotomy x.toNat y.toNat with h | h | h
          · exact absurd (UInt8.lt_iff_toNat_lt.2 h) h1
          · exact UInt8.toNat_inj.1 h
          · exact absurd (UInt8.lt_iff_toNat_lt.2 h) h2
        subst he
        simp [bytesLess, h1, ih]

theorem mid_eq {i j : Nat} (h : i + j ≤ 2000000) : HVal.int .i64 (IntKind.wrap .i64 ((IntKind.wrap .u64 ((i : Int) + (j : Int))).fdiv (2 ^ min (Int.toNat 1) (IntKind.bits .u64)))) = .int .i64 (((i + j) / 2 : Nat) : Int) := by
  have h1 : IntKind.wrap .u64 ((i : Int) + (j : Int)) = ((i + j : Nat) : Int) := by simp [IntKind.wrap, IntKind.bits, IntKind.signed]; omega
  have h2 : min (Int.toNat 1) (IntKind.bits .u64) = 1 := by decide
  rw [h1, h2]
  have h3 : (((i + j : Nat) : Int).fdiv (2 ^ 1)) = (((i + j) / 2 : Nat) : Int) := by
    rw [Int.fdiv_eq_ediv_of_nonneg _ (by decide)]; rfl
  rw [h3, wrap64 (by omega) (by omega)]

def SortedS (l : List Str) : Prop := List.Pairwise (fun a b => bytesLess a b = true) l
theorem SortedS.get {l : List Str} (h : SortedS l) {i j : Nat} {a b : Str} (hij : i < j) (ha : l[i]? = some a) (hb : l[j]? = some b) : bytesLess a b = true := by
  have h1 := lt_of_get ha
  have h2 := lt_of_get hb
  have := List.pairwise_iff_getElem.1 h i j h1 h2 hij
  rw [List.getElem?_eq_getElem h1] at ha
  rw [List.getElem?_eq_getElem h2] at hb
  simp at ha hb
  rw [← ha, ← hb]; exact this
theorem bs_up {l : List Str} (hs : SortedS l) {s x : Str} {m : Nat} (hx : l[m]? = some x) (h : Op.bytesLess x s = true) : ∀ (k : Nat) (y : Str), k < m + 1 → l[k]? = some y → Op.bytesLess y s = true := fun k y hk hy => by
  by_cases e : k = m
  · subst e; rw [hx] at hy; cases hy; exact h
  · exact less_trans (hs.get (by omega : k < m) hy hx) h
theorem bs_dn {l : List Str} (hs : SortedS l) {s x : Str} {m : Nat} (hx : l[m]? = some x) (h : Op.bytesLess x s = false) : ∀ (k : Nat) (y : Str), m ≤ k → l[k]? = some y → Op.bytesLess y s = false := fun k y hk hy => by
  by_cases e : k = m
  · subst e; rw [hx] at hy; cases hy; exact h
  · cases hq : Op.bytesLess y s with
    | false => rfl
    | true => have := less_trans (hs.get (by omega : m < k) hx hy) hq; rw [h] at this; cases this
theorem bs_found {l : List Str} {s : Str} {i : Nat} (b : Bool) : (bif decide ((i : Int) < (l.length : Int)) then bif l.getD i [] == s then true else bif false then b else false else false) = (l[i]? == some s) := by
  by_cases h : i < l.length
  · have h' : (i : Int) < (l.length : Int) := by omega
    simp only [h', decide_true, cond_true, cond_false, getD_some (d := []) h]
    cases hb : l.getD i [] == s with
    | true => simp at hb; simp [hb]
    | false => simp at hb; simp [hb]
  · have h' : ¬ (i : Int) < (l.length : Int) := by omega
    simp [h', List.getElem?_eq_none (by omega : l.length ≤ i)]
/-- where s stands, or would stand -/
def posS (l : List Str) (s : Str) : Nat := l.countP fun x => bytesLess x s
theorem posS_eq {l : List Str} {s : Str} {i : Nat} (hi : i ≤ l.length) (h1 : ∀ (k : Nat) (x : Str), k < i → l[k]? = some x → bytesLess x s = true) (h2 : ∀ (k : Nat) (x : Str), i ≤ k → l[k]? = some x → bytesLess x s = false) :
    posS l s = i := by
  unfold posS
  have e : l = l.take i ++ l.drop i := (List.take_append_drop i l).symm
  rw [e, List.countP_append]
  have a1 : (l.take i).countP (fun x => bytesLess x s) = (l.take i).length := by
    rw [List.countP_eq_length]
    intro x hx
    obtain ⟨k, hk, rfl⟩ := List.getElem_of_mem hx
    simp only [List.length_take] at hk
    refine h1 k _ (by omega) ?_
    rw [List.getElem_take]
    exact List.getElem?_eq_getElem (by omega)
  have a2 : (l.drop i).countP (fun x => bytesLess x s) = 0 := by
    rw [List.countP_eq_zero]
    intro x hx
    obtain ⟨k, hk, rfl⟩ := List.getElem_of_mem hx
    simp at hk
    have := h2 (i + k) (l[i + k]) (by omega) (List.getElem?_eq_getElem (by omega))
    rw [List.getElem_drop]
    simp [this]
  rw [a1, a2]
  simp; omega
theorem found_eq {l : List Str} {s : Str} (hs : SortedS l) {i : Nat} (hi : i ≤ l.length) (h1 : ∀ (k : Nat) (x : Str), k < i → l[k]? = some x → bytesLess x s = true) (h2 : ∀ (k : Nat) (x : Str), i ≤ k → l[k]? = some x → bytesLess x s = false) :
    (l[i]? == some s) = l.contains s := by
  rw [Bool.eq_iff_iff]
  simp
  constructor
  · intro h; exact List.mem_of_getElem? h
  · intro h
    obtain ⟨k, hk, rfl⟩ := List.getElem_of_mem h
    have hk' := List.getElem?_eq_getElem hk
    rcases Nat.lt_trichotomy k i with h3 | h3 | h3
    · have := h1 k _ h3 hk'; rw [less_irrefl] at this; cases this
    · subst h3; exact hk'
    · have hii : i < l.length := by omega
      have hlt := hs.get h3 (List.getElem?_eq_getElem hii) hk'
      have := h2 i _ (Nat.le_refl _) (List.getElem?_eq_getElem hii)
      rw [hlt] at this; cases this
/-- slices.IndexFunc -/
def idxF {α : Type} (p : α → Bool) : List α → Int → Int
  | [], _ => -1
  | x :: r, k => if p x then k else idxF p r (k + 1)
theorem idxF_nonneg {α : Type} (p : α → Bool) : ∀ (l : List α) (k : Int), 0 ≤ k → decide (0 ≤ idxF p l k) = l.any p
  | [], k, h => by simp [idxF]
  | x :: r, k, h => by
    have ih := idxF_nonneg p r (k + 1) (by omega)
    by_cases hx : p x = true
    · simp [idxF, hx, h]
    · have e1 : idxF p (x :: r) k = idxF p r (k + 1) := by simp [idxF, hx]
      rw [e1, ih]; simp [hx]
def eqPick (a b : Pick) : Bool := eqHL (hcells (ePick a)) (hcells (ePick b))
def eqPicks : List Pick → List Pick → Bool
  | [], [] => true
  | a :: r, b :: r' => eqPick a b && eqPicks r r'
  | _, _ => false
theorem eqPicks_len : ∀ {l m : List Pick}, l.length ≠ m.length → eqPicks l m = false
  | [], [], h => absurd rfl h
  | [], _ :: _, _ => rfl
  | _ :: _, [], _ => rfl
  | a :: r, b :: r', h => by simp [eqPicks, eqPicks_len (l := r) (m := r') (by simpa using h)]
end Go.HL
end
section
namespace Go.Proofs.YtnlfcjoofdjpiaaGreatDoor
open Go.HL
set_option maxRecDepth 100000
set_option linter.unusedVariables false
set_option linter.unusedSimpArgs false
/-- cmp.isNaN[int] -/
theorem c_cmp_isNaN_int {n : Int}  : ConP Tryz.prog 60 [.int .i64 n] (.bool false) := by
  refine Con.of_body Tryz.func60 rfl Tryz.ntmps60 rfl rfl ?_
  refine hw_reg ?_
  refine dp rfl (pop_assign rfl) ?_
  refine dn ?_
  refine hw_reg ?_
  refine dp rfl (pop_move rfl) ?_
  refine dp rfl (pop_move rfl) ?_
  refine dp rfl (pop_neq rfl rfl) ?_
  refine dp rfl (pop_assign rfl) ?_
  refine dn ?_
  refine hw_ret ?_
  refine ret_p rfl ?_
  simp

/-- cmp.isNaN[string] -/
theorem c_cmp_isNaN_string {s : Str}  : ConP Tryz.prog 157 [.str s] (.bool false) := by
  refine Con.of_body Tryz.func157 rfl Tryz.ntmps157 rfl rfl ?_
  refine hw_reg ?_
  refine dp rfl (pop_assign rfl) ?_
  refine dn ?_
  refine hw_reg ?_
  refine dp rfl (pop_move rfl) ?_
  refine dp rfl (pop_move rfl) ?_
  refine dp rfl (pop_neqs rfl rfl) ?_
  refine dp rfl (pop_assign rfl) ?_
  refine dn ?_
  refine hw_ret ?_
  refine ret_p rfl ?_
  simp

/-- cmp.Compare[int] -/
theorem c_cmp_Compare_int {a b : Int}  : ConP Tryz.prog 41 [.int .i64 a, .int .i64 b] (.int .i64 (cmpI a b)) := by
  refine Con.of_body Tryz.func41 rfl Tryz.ntmps41 rfl rfl ?_
  refine hw_reg ?_
  refine dp rfl (pop_assign rfl) ?_
  refine dn ?_
  refine hw_reg ?_
  refine dp rfl (pop_move rfl) ?_
  refine dp rfl (pop_call ca60 rfl (WeakL.refl _) c_cmp_isNaN_int) ?_
  refine dp rfl (pop_assign rfl) ?_
  refine dn ?_
  refine hw_reg ?_
  refine dp rfl (pop_move rfl) ?_
  refine dp rfl (pop_call ca60 rfl (WeakL.refl _) c_cmp_isNaN_int) ?_
  refine dp rfl (pop_assign rfl) ?_
  refine dn ?_
  refine hw_seq ?_
  refine hw_reg ?_
  refine dp rfl (pop_move rfl) ?_
  refine dn ?_
  refine hw_cond_f rfl ?_
  refine hw_skip ?_
  refine seqQ_n ?_
  refine hw_seq ?_
  refine hw_reg ?_
  refine dp rfl (pop_move rfl) ?_
  refine dn ?_
  refine hw_cond_f rfl ?_
  refine hw_skip ?_
  refine seqQ_n ?_
  refine hw_seq ?_
  refine hw_reg ?_
  refine dp rfl (pop_move rfl) ?_
  refine dp rfl (pop_move rfl) ?_
  refine dp rfl (pop_lss rfl rfl) ?_
  refine dn ?_
  refine hw_cond rfl (fun h1 => ?_) (fun h2 => ?_)
  · try simp at h1
    refine hw_reg ?_
    refine dp rfl (pop_assign rfl) ?_
    refine dn ?_
    refine hw_ret ?_
    refine ret_p rfl ?_
    show HVal.int .i64 _ = _
    unfold cmpI; (repeat' split) <;> first | rfl | omega
  · try simp at h2
    refine hw_skip ?_
    refine seqQ_n ?_
    refine hw_seq ?_
    refine hw_reg ?_
    refine dp rfl (pop_move rfl) ?_
    refine dp rfl (pop_move rfl) ?_
    refine dp rfl (pop_gtr rfl rfl) ?_
    refine dn ?_
    refine hw_cond rfl (fun h3 => ?_) (fun h4 => ?_)
    · try simp at h3
      refine hw_reg ?_
      refine dp rfl (pop_assign rfl) ?_
      refine dn ?_
      refine hw_ret ?_
      refine ret_p rfl ?_
      show HVal.int .i64 _ = _
      unfold cmpI; (repeat' split) <;> first | rfl | omega
    · try simp at h4
      refine hw_skip ?_
      refine seqQ_n ?_
      refine hw_reg ?_
      refine dp rfl (pop_assign rfl) ?_
      refine dn ?_
      refine hw_ret ?_
      refine ret_p rfl ?_
      show HVal.int .i64 _ = _
      unfold cmpI; (repeat' split) <;> first | rfl | omega

/-- cmp.Or[int] -/
theorem c_cmp_Or_int {l : List Int} (hl : l.length ≤ 1000000) : ConP Tryz.prog 55 [eIs l] (.int .i64 (orI l)) := by
  refine Con.of_body Tryz.func55 rfl Tryz.ntmps55 rfl rfl ?_
  refine hw_reg ?_
  refine dp rfl (pop_assign rfl) ?_
  refine dn ?_
  refine hw_reg ?_
  refine dp rfl (pop_assign rfl) ?_
  refine dn ?_
  refine hw_seq ?_
  refine hw_reg ?_
  refine dp rfl (pop_move rfl) ?_
  refine dp rfl (pop_lenm ty22 rfl) ?_
  refine dp rfl (pop_move rfl) ?_
  refine dn ?_
  refine hw_block ?_
  refine hw_loopw [2, 5, 8, 9, 10, 11, 12, 13, 14, 15, 16] (fun (k : Nat) => [(8, .int .i64 k)]) (fun (k : Nat) => []) (fun (k : Nat) => k ≤ l.length ∧ (orI l = orI (l.drop k))) (fun (k : Nat) => l.length - k) (0) ?_ ?_ ?_ ?_
  · exact ⟨Nat.zero_le _, by simp_all⟩
  · exact ⟨rfl, trivial⟩
  · exact List.Perm.refl _
  · intro k hinv
    obtain ⟨hk, hg⟩ := hinv
    refine hw_reg ?_
    refine dp rfl (pop_lss rfl rfl) ?_
    refine dn ?_
    refine hw_seq ?_
    refine hw_cond rfl (fun h1 => ?_) (fun h2 => ?_)
    · try simp at h1
      obtain ⟨x, hx⟩ : ∃ x, l[k]? = some x := ⟨_, List.getElem?_eq_getElem h1⟩
      have hdx := drop_cons hx
      rw [hdx] at hg
      refine hw_skip ?_
      refine seqQ_n ?_
      refine hw_seq ?_
      refine hw_block ?_
      refine hw_reg ?_
      refine dp rfl (pop_idx ty22 ty3 rfl rfl rfl (by first | assumption | simp_all)) ?_
      refine dp rfl (pop_load ty3 rfl rfl rfl) ?_
      refine dp rfl (pop_assign rfl) ?_
      refine dn ?_
      refine hw_reg ?_
      refine dp rfl (pop_move rfl) ?_
      refine dp rfl (pop_move rfl) ?_
      refine dp rfl (pop_neq rfl rfl) ?_
      refine dn ?_
      refine hw_cond rfl (fun h3 => ?_) (fun h4 => ?_)
      · try simp at h3
        refine hw_reg ?_
        refine dp rfl (pop_move rfl) ?_
        refine dp rfl (pop_assign rfl) ?_
        refine dn ?_
        refine hw_ret ?_
        refine ret_p rfl ?_
        show HVal.int .i64 _ = _
        rw [hg]; simp_all [orI]
      · try simp at h4
        refine hw_skip ?_
        refine blockQ_n ?_
        refine seqQ_n ?_
        refine hw_reg1 ?_
        refine dp rfl (pop_add64 rfl rfl (by omega) (by omega)) ?_
        refine dp rfl (pop_move rfl) ?_
        refine dn ?_
        refine ⟨k + 1, ?_, ?_, ⟨rfl, trivial⟩, (by repeat (first | exact keeps_refl | refine keeps_upd rfl ?_ | refine keeps_loop rfl rfl ?_)), List.Perm.refl _⟩
        · refine ⟨by omega, ?_⟩
          rw [hg]; simp_all [orI]
        · dsimp only; omega
    · try simp at h2
      have hnk : l.length ≤ k := by omega
      obtain rfl : k = l.length := by omega
      rw [drop_all (Nat.le_refl _)] at hg
      refine hw_exit ?_
      refine seqQ_x ?_
      refine loopQ_x ?_
      refine blockQ_eq ?_
      refine seqQ_n ?_
      refine hw_reg ?_
      refine dp rfl (pop_move rfl) ?_
      refine dp rfl (pop_assign rfl) ?_
      refine dn ?_
      refine hw_ret ?_
      refine ret_p rfl ?_
      show HVal.int .i64 _ = _
      rw [hg]; simp_all [orI]

/-- cmp.Or[benchwarmer/api.Errno] -/
theorem c_cmp_Or_api_Errno {l : List Int} (hl : l.length ≤ 1000000) : ConP Tryz.prog 14 [eIs l] (.int .i64 (orI l)) := by
  refine Con.of_body Tryz.func14 rfl Tryz.ntmps14 rfl rfl ?_
  refine hw_reg ?_
  refine dp rfl (pop_assign rfl) ?_
  refine dn ?_
  refine hw_reg ?_
  refine dp rfl (pop_assign rfl) ?_
  refine dn ?_
  refine hw_seq ?_
  refine hw_reg ?_
  refine dp rfl (pop_move rfl) ?_
  refine dp rfl (pop_lenm ty71 rfl) ?_
  refine dp rfl (pop_move rfl) ?_
  refine dn ?_
  refine hw_block ?_
  refine hw_loopw [2, 5, 8, 9, 10, 11, 12, 13, 14, 15, 16] (fun (k : Nat) => [(8, .int .i64 k)]) (fun (k : Nat) => []) (fun (k : Nat) => k ≤ l.length ∧ (orI l = orI (l.drop k))) (fun (k : Nat) => l.length - k) (0) ?_ ?_ ?_ ?_
  · exact ⟨Nat.zero_le _, by simp_all⟩
  · exact ⟨rfl, trivial⟩
  · exact List.Perm.refl _
  · intro k hinv
    obtain ⟨hk, hg⟩ := hinv
    refine hw_reg ?_
    refine dp rfl (pop_lss rfl rfl) ?_
    refine dn ?_
    refine hw_seq ?_
    refine hw_cond rfl (fun h1 => ?_) (fun h2 => ?_)
    · try simp at h1
      obtain ⟨x, hx⟩ : ∃ x, l[k]? = some x := ⟨_, List.getElem?_eq_getElem h1⟩
      have hdx := drop_cons hx
      rw [hdx] at hg
      refine hw_skip ?_
      refine seqQ_n ?_
      refine hw_seq ?_
      refine hw_block ?_
      refine hw_reg ?_
      refine dp rfl (pop_idx ty71 ty31 rfl rfl rfl (by first | assumption | simp_all)) ?_
      refine dp rfl (pop_load ty31 rfl rfl rfl) ?_
      refine dp rfl (pop_assign rfl) ?_
      refine dn ?_
      refine hw_reg ?_
      refine dp rfl (pop_move rfl) ?_
      refine dp rfl (pop_move rfl) ?_
      refine dp rfl (pop_neq rfl rfl) ?_
      refine dn ?_
      refine hw_cond rfl (fun h3 => ?_) (fun h4 => ?_)
      · try simp at h3
        refine hw_reg ?_
        refine dp rfl (pop_move rfl) ?_
        refine dp rfl (pop_assign rfl) ?_
        refine dn ?_
        refine hw_ret ?_
        refine ret_p rfl ?_
        show HVal.int .i64 _ = _
        rw [hg]; simp_all [orI]
      · try simp at h4
        refine hw_skip ?_
        refine blockQ_n ?_
        refine seqQ_n ?_
        refine hw_reg1 ?_
        refine dp rfl (pop_add64 rfl rfl (by omega) (by omega)) ?_
        refine dp rfl (pop_move rfl) ?_
        refine dn ?_
        refine ⟨k + 1, ?_, ?_, ⟨rfl, trivial⟩, (by repeat (first | exact keeps_refl | refine keeps_upd rfl ?_ | refine keeps_loop rfl rfl ?_)), List.Perm.refl _⟩
        · refine ⟨by omega, ?_⟩
          rw [hg]; simp_all [orI]
        · dsimp only; omega
    · try simp at h2
      have hnk : l.length ≤ k := by omega
      obtain rfl : k = l.length := by omega
      rw [drop_all (Nat.le_refl _)] at hg
      refine hw_exit ?_
      refine seqQ_x ?_
      refine loopQ_x ?_
      refine blockQ_eq ?_
      refine seqQ_n ?_
      refine hw_reg ?_
      refine dp rfl (pop_move rfl) ?_
      refine dp rfl (pop_assign rfl) ?_
      refine dn ?_
      refine hw_ret ?_
      refine ret_p rfl ?_
      show HVal.int .i64 _ = _
      rw [hg]; simp_all [orI]

/-- benchwarmer/base.First -/
theorem c_base_First {l : List Int} (hl : l.length ≤ 1000000) : ConP Tryz.prog 51 [eIs l] (.int .i64 (orI l)) := by
  refine Con.of_body Tryz.func51 rfl Tryz.ntmps51 rfl rfl ?_
  refine hw_reg ?_
  refine dp rfl (pop_assign rfl) ?_
  refine dn ?_
  refine hw_seq ?_
  refine hw_reg ?_
  refine dp rfl (pop_move rfl) ?_
  refine dp rfl (pop_lenm ty71 rfl) ?_
  refine dp rfl (pop_move rfl) ?_
  refine dn ?_
  refine hw_block ?_
  refine hw_loopw [2, 4, 7, 8, 9, 10, 11, 12, 13, 14] (fun (k : Nat) => [(7, .int .i64 k)]) (fun (k : Nat) => []) (fun (k : Nat) => k ≤ l.length ∧ (orI l = orI (l.drop k))) (fun (k : Nat) => l.length - k) (0) ?_ ?_ ?_ ?_
  · exact ⟨Nat.zero_le _, by simp_all⟩
  · exact ⟨rfl, trivial⟩
  · exact List.Perm.refl _
  · intro k hinv
    obtain ⟨hk, hg⟩ := hinv
    refine hw_reg ?_
    refine dp rfl (pop_lss rfl rfl) ?_
    refine dn ?_
    refine hw_seq ?_
    refine hw_cond rfl (fun h1 => ?_) (fun h2 => ?_)
    · try simp at h1
      obtain ⟨x, hx⟩ : ∃ x, l[k]? = some x := ⟨_, List.getElem?_eq_getElem h1⟩
      have hdx := drop_cons hx
      rw [hdx] at hg
      refine hw_skip ?_
      refine seqQ_n ?_
      refine hw_seq ?_
      refine hw_block ?_
      refine hw_reg ?_
      refine dp rfl (pop_idx ty71 ty31 rfl rfl rfl (by first | assumption | simp_all)) ?_
      refine dp rfl (pop_load ty31 rfl rfl rfl) ?_
      refine dp rfl (pop_assign rfl) ?_
      refine dn ?_
      refine hw_reg ?_
      refine dp rfl (pop_move rfl) ?_
      refine dp rfl (pop_neq rfl rfl) ?_
      refine dn ?_
      refine hw_cond rfl (fun h3 => ?_) (fun h4 => ?_)
      · try simp at h3
        refine hw_reg ?_
        refine dp rfl (pop_move rfl) ?_
        refine dp rfl (pop_assign rfl) ?_
        refine dn ?_
        refine hw_ret ?_
        refine ret_p rfl ?_
        show HVal.int .i64 _ = _
        rw [hg]; simp_all [orI]
      · try simp at h4
        refine hw_skip ?_
        refine blockQ_n ?_
        refine seqQ_n ?_
        refine hw_reg1 ?_
        refine dp rfl (pop_add64 rfl rfl (by omega) (by omega)) ?_
        refine dp rfl (pop_move rfl) ?_
        refine dn ?_
        refine ⟨k + 1, ?_, ?_, ⟨rfl, trivial⟩, (by repeat (first | exact keeps_refl | refine keeps_upd rfl ?_ | refine keeps_loop rfl rfl ?_)), List.Perm.refl _⟩
        · refine ⟨by omega, ?_⟩
          rw [hg]; simp_all [orI]
        · dsimp only; omega
    · try simp at h2
      have hnk : l.length ≤ k := by omega
      obtain rfl : k = l.length := by omega
      rw [drop_all (Nat.le_refl _)] at hg
      refine hw_exit ?_
      refine seqQ_x ?_
      refine loopQ_x ?_
      refine blockQ_eq ?_
      refine seqQ_n ?_
      refine hw_reg ?_
      refine dp rfl (pop_assign rfl) ?_
      refine dn ?_
      refine hw_ret ?_
      refine ret_p rfl ?_
      show HVal.int .i64 _ = _
      rw [hg]; simp_all [orI]

/-- internal/bytealg.CompareString -/
theorem c_internal_bytealg_CompareString {a b : Str}  : ConP Tryz.prog 77 [.str a, .str b] (.int .i64 (cmpS a b)) := by
  refine Con.of_body Tryz.func77 rfl Tryz.ntmps77 rfl rfl ?_
  refine hw_reg ?_
  refine dp rfl (pop_assign rfl) ?_
  refine dn ?_
  refine hw_reg ?_
  refine dp rfl (pop_move rfl) ?_
  refine dp rfl (pop_move rfl) ?_
  refine dp rfl (pop_cmpstr Tryz.func107 (by kernel_rfl) (by kernel_rfl) (by kernel_rfl) (by kernel_rfl) rfl rfl rfl) ?_
  refine dp rfl (pop_assign rfl) ?_
  refine dn ?_
  refine hw_ret ?_
  refine ret_p rfl ?_
  rfl

/-- strings.Compare -/
theorem c_strings_Compare {a b : Str}  : ConP Tryz.prog 56 [.str a, .str b] (.int .i64 (cmpS a b)) := by
  refine Con.of_body Tryz.func56 rfl Tryz.ntmps56 rfl rfl ?_
  refine hw_reg ?_
  refine dp rfl (pop_assign rfl) ?_
  refine dn ?_
  refine hw_reg ?_
  refine dp rfl (pop_move rfl) ?_
  refine dp rfl (pop_move rfl) ?_
  refine dp rfl (pop_call ca77 rfl (WeakL.refl _) c_internal_bytealg_CompareString) ?_
  refine dp rfl (pop_assign rfl) ?_
  refine dn ?_
  refine hw_ret ?_
  refine ret_p rfl ?_
  rfl

/-- cmp.Less[string] -/
theorem c_cmp_Less_string {a b : Str}  : ConP Tryz.prog 140 [.str a, .str b] (.bool (Op.bytesLess a b)) := by
  refine Con.of_body Tryz.func140 rfl Tryz.ntmps140 rfl rfl ?_
  refine hw_reg ?_
  refine dp rfl (pop_assign rfl) ?_
  refine dn ?_
  refine hw_reg ?_
  refine dp rfl (pop_move rfl) ?_
  refine dp rfl (pop_call ca157 rfl (WeakL.refl _) c_cmp_isNaN_string) ?_
  refine dp rfl (pop_move rfl) ?_
  refine dg rfl rfl (fun hc => ⟨_, OpenTo.refl _, pop_move rfl⟩) ?_
  refine dg rfl rfl (fun hc => ⟨_, OpenTo.upd (t := 8) rfl (by first | exact hc | simp_all) (OpenTo.refl _), pop_call ca157 rfl (WeakL.refl _) c_cmp_isNaN_string⟩) ?_
  refine dg rfl rfl (fun hc => ⟨_, OpenTo.upd (t := 9) rfl (by first | exact hc | simp_all) (OpenTo.refl _), pop_not rfl⟩) ?_
  refine dp rfl (pop_picko rfl (.inr ⟨_, rfl, fun h => by simp_all⟩) (.inl rfl)) ?_
  refine dp rfl (pop_move rfl) ?_
  refine dg rfl rfl (fun hc => ⟨_, OpenTo.refl _, pop_move rfl⟩) ?_
  refine dg rfl rfl (fun hc => ⟨_, OpenTo.refl _, pop_move rfl⟩) ?_
  refine dg rfl rfl (fun hc => ⟨_, OpenTo.upd (t := 14) rfl (by first | exact hc | simp_all) (OpenTo.upd (t := 13) rfl (by first | exact hc | simp_all) (OpenTo.refl _)), pop_lsss rfl rfl⟩) ?_
  refine dp rfl (pop_picko rfl (.inl rfl) (.inr ⟨_, rfl, fun h => by simp_all⟩)) ?_
  refine dp rfl (pop_assign rfl) ?_
  refine dn ?_
  refine hw_ret ?_
  refine ret_p rfl ?_
  rfl

/-- slices.Equal[[]string,string] -/
theorem c_slices_Equal_string_string {l m : List Str} (hl : l.length ≤ 1000000) : ConP Tryz.prog 43 [eSs l, eSs m] (.bool (l == m)) := by
  refine Con.of_body Tryz.func43 rfl Tryz.ntmps43 rfl rfl ?_
  refine hw_reg ?_
  refine dp rfl (pop_assign rfl) ?_
  refine dn ?_
  refine hw_seq ?_
  refine hw_reg ?_
  refine dp rfl (pop_move rfl) ?_
  refine dp rfl (pop_lenm ty61 rfl) ?_
  refine dp rfl (pop_move rfl) ?_
  refine dp rfl (pop_lenm ty61 rfl) ?_
  refine dp rfl (pop_neq rfl rfl) ?_
  refine dn ?_
  refine hw_cond rfl (fun h1 => ?_) (fun h2 => ?_)
  · try simp at h1
    refine hw_reg ?_
    refine dp rfl (pop_assign rfl) ?_
    refine dn ?_
    refine hw_ret ?_
    refine ret_p rfl ?_
    show HVal.bool _ = _
    first | (congr 1; symm; rw [beq_eq_false_iff_ne]; intro h; subst h; omega) | (rw [hg.2]; simp_all; done) | (rw [hg.2, drop_all (Nat.le_of_eq hg.1.symm)]; rfl)
  · try simp at h2
    refine hw_skip ?_
    refine seqQ_n ?_
    refine hw_seq ?_
    refine hw_reg ?_
    refine dp rfl (pop_move rfl) ?_
    refine dp rfl (pop_lenm ty61 rfl) ?_
    refine dp rfl (pop_move rfl) ?_
    refine dn ?_
    refine hw_block ?_
    refine hw_loopw [4, 5, 13, 14, 15, 16, 17, 18, 19, 20, 21, 22, 23, 24, 25] (fun (k : Nat) => [(13, .int .i64 k)]) (fun (k : Nat) => []) (fun (k : Nat) => k ≤ l.length ∧ (l.length = m.length ∧ (l == m) = (l.drop k == m.drop k))) (fun (k : Nat) => l.length - k) (0) ?_ ?_ ?_ ?_
    · refine ⟨Nat.zero_le _, ?_, rfl⟩
      omega
    · exact ⟨rfl, trivial⟩
    · exact List.Perm.refl _
    · intro k hinv
      obtain ⟨hk, hg⟩ := hinv
      refine hw_reg ?_
      refine dp rfl (pop_lss rfl rfl) ?_
      refine dn ?_
      refine hw_seq ?_
      refine hw_cond rfl (fun h3 => ?_) (fun h4 => ?_)
      · try simp at h3
        obtain ⟨x, hx⟩ : ∃ x, l[k]? = some x := ⟨_, List.getElem?_eq_getElem h3⟩
        have hdx := drop_cons hx
        obtain ⟨y, hy⟩ : ∃ y, m[k]? = some y := ⟨_, List.getElem?_eq_getElem (by omega)⟩
        rw [hdx, drop_cons hy] at hg
        refine hw_skip ?_
        refine seqQ_n ?_
        refine hw_seq ?_
        refine hw_block ?_
        refine hw_reg ?_
        refine dp rfl (pop_move rfl) ?_
        refine dp rfl (pop_assign rfl) ?_
        refine dn ?_
        refine hw_draw (fun _ => True) [] mixed ?_
        refine ahp 0 rfl rfl (by kernel_rfl) (by kernel_rfl) (pop_move rfl) ?_
        refine ahp 1 rfl rfl (by kernel_rfl) (by kernel_rfl) (pop_move rfl) ?_
        refine ahp 2 rfl rfl (by kernel_rfl) (by kernel_rfl) (pop_idx ty61 ty9 rfl rfl rfl (by first | assumption | simp_all)) ?_
        refine ahp 3 rfl rfl (by kernel_rfl) (by kernel_rfl) (pop_load ty9 rfl rfl rfl) ?_
        refine ahp 4 rfl rfl (by kernel_rfl) (by kernel_rfl) (pop_move rfl) ?_
        refine ahp 5 rfl rfl (by kernel_rfl) (by kernel_rfl) (pop_move rfl) ?_
        refine ahp 6 rfl rfl (by kernel_rfl) (by kernel_rfl) (pop_idx ty61 ty9 rfl rfl rfl (by first | assumption | simp_all)) ?_
        refine ahp 7 rfl rfl (by kernel_rfl) (by kernel_rfl) (pop_load ty9 rfl rfl rfl) ?_
        refine ahp 8 rfl rfl (by kernel_rfl) (by kernel_rfl) (pop_neqs rfl rfl) ?_
        refine ahz (by kernel_rfl) ?_
        refine hw_cond rfl (fun h5 => ?_) (fun h6 => ?_)
        · try simp at h5
          refine hw_reg ?_
          refine dp rfl (pop_assign rfl) ?_
          refine dn ?_
          refine hw_ret ?_
          refine ret_p rfl ?_
          show HVal.bool _ = _
          first | (congr 1; symm; rw [beq_eq_false_iff_ne]; intro h; subst h; omega) | (rw [hg.2]; simp_all; done) | (rw [hg.2, drop_all (Nat.le_of_eq hg.1.symm)]; rfl)
        · try simp at h6
          refine hw_skip ?_
          refine blockQ_n ?_
          refine seqQ_n ?_
          refine hw_reg1 ?_
          refine dp rfl (pop_add64 rfl rfl (by omega) (by omega)) ?_
          refine dp rfl (pop_move rfl) ?_
          refine dn ?_
          refine ⟨k + 1, ?_, ?_, ⟨rfl, trivial⟩, (by repeat (first | exact keeps_refl | refine keeps_upd rfl ?_ | refine keeps_loop rfl rfl ?_)), List.Perm.refl _⟩
          · refine ⟨by omega, hg.1, ?_⟩
            rw [hg.2]; simp_all
          · dsimp only; omega
      · try simp at h4
        have hnk : l.length ≤ k := by omega
        obtain rfl : k = l.length := by omega
        rw [drop_all (Nat.le_refl _)] at hg
        refine hw_exit ?_
        refine seqQ_x ?_
        refine loopQ_x ?_
        refine blockQ_eq ?_
        refine seqQ_n ?_
        refine hw_reg ?_
        refine dp rfl (pop_assign rfl) ?_
        refine dn ?_
        refine hw_ret ?_
        refine ret_p rfl ?_
        show HVal.bool _ = _
        first | (congr 1; symm; rw [beq_eq_false_iff_ne]; intro h; subst h; omega) | (rw [hg.2]; simp_all; done) | (rw [hg.2, drop_all (Nat.le_of_eq hg.1.symm)]; rfl)
end Go.Proofs.YtnlfcjoofdjpiaaGreatDoor
end
section
namespace Go.HL
def swapsGo (r : Room) (l : List Swap) : Nat → List Swap → Int
  | _, [] => 0
  | k, x :: t => if out x.Round 1 r.Rounds then 1 else if !(r.Teams.contains x.Of) || !(r.Teams.contains x.Team) then 8
    else if decide (0 < k) && decide (orI [cmpI x.Round (l.getD (k - 1) swap0).Round, cmpS x.Of (l.getD (k - 1) swap0).Of] ≤ 0) then 7 else swapsGo r l (k + 1) t
def checkSwaps (r : Room) (l : List Swap) : Int := if checkRoom r != 0 then checkRoom r else if 600 < l.length then 2 else swapsGo r l 0 l
def keepsGo (r : Room) (l : List Keep) : Nat → List Str → Bool → List Keep → Int
  | _, _, tw, [] => if tw then 6 else 0
  | k, kept, tw, x :: t => if !(r.Teams.contains x.Team) || !(r.Players.contains x.Player) then 8 else if out x.Round 1 r.Rounds then 1
    else if decide (0 < k) && decide (orI [cmpS x.Team (l.getD (k - 1) keep0).Team, cmpI x.Round (l.getD (k - 1) keep0).Round] ≤ 0) then 7
    else keepsGo r l (k + 1) (sadd x.Player kept) (tw || kept.contains x.Player) t
def checkKeeps (r : Room) (l : List Keep) : Int := if checkRoom r != 0 then checkRoom r else if 600 < l.length then 2 else keepsGo r l 0 [] false l
def clash (x : Keep) (y : Swap) : Bool := y.Round == x.Round && y.Of == x.Team
def clashGo (s : List Swap) : List Keep → Int
  | [] => 0
  | x :: r => if s.any (clash x) then 13 else clashGo s r
def openFault (r : Room) (k : List Keep) (s : List Swap) : Int :=
  if orI [checkKeeps r k, checkSwaps r s] != 0 then orI [checkKeeps r k, checkSwaps r s] else clashGo s k
def roundTurns (r : Room) (sw : List Swap) (round : Int) : List Turn :=
  (if backwards r.Way round then r.Teams.reverse else r.Teams).map fun t => ⟨round, t, owner round t sw⟩
def turnsFrom (r : Room) (sw : List Swap) : Nat → List Turn
  | 0 => []
  | n + 1 => turnsFrom r sw n ++ roundTurns r sw (n + 1)
def turns (r : Room) (sw : List Swap) : List Turn := turnsFrom r sw r.Rounds.toNat
theorem turnsFrom_len (r : Room) (sw : List Swap) : ∀ n, (turnsFrom r sw n).length = n * r.Teams.length
  | 0 => by simp [turnsFrom]
  | n + 1 => by
    have : (roundTurns r sw ((n : Int) + 1)).length = r.Teams.length := by unfold roundTurns; split <;> simp
    simp only [turnsFrom, List.length_append, turnsFrom_len r sw n, this, Nat.succ_mul]
def keepIn (r : Room) (t : Turn) (p : Pick) : List Keep → Pick
  | [] => p
  | x :: k => keepIn r t (if x.Team = t.of ∧ x.Round = t.round then { p with Player := x.Player, At := r.Start } else p) k
def openFrom (r : Room) (k : List Keep) : Nat → List Turn → List Pick
  | _, [] => []
  | i, t :: l => keepIn r t ⟨i, t.team, [], 0, false⟩ k :: openFrom r k (i + 1) l
def open1 (r : Room) (k : List Keep) (s : List Swap) : List Pick := openFrom r k 0 (turns r s)
theorem openFrom_len (r : Room) (k : List Keep) : ∀ (i : Nat) (l : List Turn), (openFrom r k i l).length = l.length
  | _, [] => rfl
  | i, t :: l => by simp [openFrom, openFrom_len r k (i + 1) l]

/-! what a right room is -/
theorem risingGo_sorted {l : List Str} : ∀ (k : Nat), k ≤ l.length → risingGo l k (l.drop k) = 0 → ∀ (i j : Nat) (a b : Str), k ≤ j → i + 1 = j → l[i]? = some a → l[j]? = some b → Op.bytesLess a b = true := by
  intro k hk
  generalize hm : l.length - k = m
  induction m generalizing k with
  | zero =>
    intro _ i j a b h1 h2 ha hb
    have := lt_of_get hb; omega
  | succ m ih =>
    intro h i j a b h1 h2 ha hb
    have hlt : k < l.length := by omega
    have hx := List.getElem?_eq_getElem hlt
    rw [drop_cons hx, risingGo] at h
    by_cases hkey : key l[k] = true
    · simp only [hkey, Bool.not_true, Bool.false_eq_true, if_false] at h
      by_cases hle : (decide (0 < k) && leS l[k] (l.getD (k - 1) [])) = true
      · rw [if_pos hle] at h; omega
      · rw [if_neg hle] at h
        by_cases hj : k + 1 ≤ j
        · exact ih (k + 1) (by omega) (by omega) h i j a b hj h2 ha hb
        · obtain rfl : j = k := by omega
          have h0 : 0 < j := by omega
          simp only [h0, decide_true, Bool.true_and] at hle
          have e1 : l.getD (j - 1) [] = a := by
            have : j - 1 = i := by omega
            rw [this]; simp [List.getD, ha]
          have e2 : l[j] = b := by rw [hx] at hb; simpa using hb
          rw [e1, e2, leS_iff] at hle
          simpa using hle
    · simp [hkey] at h
theorem rising1_sorted {l : List Str} (h : rising1 l = 0) : SortedS l := by
  have hadj := risingGo_sorted (l := l) 0 (Nat.zero_le _) (by simpa [rising1] using h)
  have key : ∀ (d i : Nat) (a b : Str), l[i]? = some a → l[i + d + 1]? = some b → Op.bytesLess a b = true := by
    intro d
    induction d with
    | zero => intro i a b ha hb; exact hadj i (i + 1) a b (by omega) rfl ha hb
    | succ d ih =>
      intro i a b ha hb
      have hlt := lt_of_get hb
      have hc := List.getElem?_eq_getElem (l := l) (i := i + d + 1) (by omega)
      have h1 := ih i a _ ha hc
      have h2 := hadj (i + d + 1) (i + (d + 1) + 1) _ b (by omega) (by omega) hc hb
      exact less_trans h1 h2
  refine List.pairwise_iff_getElem.2 fun i j hi hj hij => ?_
  refine key (j - i - 1) i _ _ (List.getElem?_eq_getElem hi) ?_
  have : i + (j - i - 1) + 1 = j := by omega
  rw [this]; exact List.getElem?_eq_getElem hj
theorem checkRoom_ok {r : Room} (h : checkRoom r = 0) : SortedS r.Players ∧ r.Teams.length ≤ 20 ∧ 0 < r.Teams.length ∧ 1 ≤ r.Rounds ∧ r.Rounds ≤ 30 ∧ r.Players.length ≤ 500 := by
  unfold checkRoom at h
  by_cases h1 : teamsFault r.Teams = 0
  · rw [if_neg (by simp [h1])] at h
    by_cases h2 : out r.Rounds 1 30 = true
    · rw [if_pos h2] at h; omega
    · rw [if_neg h2] at h
      by_cases h3 : out r.Way 1 3 = true
      · rw [if_pos h3] at h; omega
      · rw [if_neg h3] at h
        by_cases h4 : playersFault r.Players = 0
        · have h2' := out_f (by simpa using h2)
          unfold teamsFault at h1
          unfold playersFault at h4
          split at h4
          · omega
          · split at h1
            · omega
            · split at h1
              · omega
              · exact ⟨rising1_sorted h4, by omega, by omega, h2'.1, h2'.2, by omega⟩
        · rw [if_pos (by simpa using h4)] at h; exact absurd h h4
  · rw [if_pos (by simpa using h1)] at h; exact absurd h h1
end Go.HL
end
section
namespace Go.HL
/-- after i swaps -/
def Rev (l c : List Str) (i : Nat) : Prop := c.length = l.length ∧ ∀ k, k < l.length → c[k]? = if k < i ∨ l.length - i ≤ k then l[l.length - 1 - k]? else l[k]?
theorem rev_start (l : List Str) : Rev l l 0 := ⟨rfl, fun k hk => by rw [if_neg (by omega)]⟩
theorem rev_step {l c : List Str} {i : Nat} {a b : Str} (h : Rev l c i) (hi : i < l.length - 1 - i) (ha : c[i]? = some a) (hb : c[l.length - 1 - i]? = some b) : Rev l ((c.set i b).set (l.length - 1 - i) a) (i + 1) := by
  obtain ⟨h1, h2⟩ := h
  refine ⟨by simp [h1], fun k hk => ?_⟩
  have ea := h2 i (by omega)
  have eb := h2 (l.length - 1 - i) (by omega)
  rw [if_neg (by omega), ha] at ea
  rw [if_neg (by omega), hb] at eb
  by_cases e1 : k = l.length - 1 - i
  · subst e1
    rw [if_pos (by omega)]
    have : l.length - 1 - (l.length - 1 - i) = i := by omega
    rw [this, ← ea, List.getElem?_set_self (by simp; omega)]
  · rw [List.getElem?_set_ne (by omega)]
    by_cases e2 : k = i
    · subst e2
      rw [if_pos (by omega), ← eb, List.getElem?_set_self (by omega)]
    · rw [List.getElem?_set_ne (by omega), h2 k hk]
      by_cases e3 : k < i ∨ l.length - i ≤ k
      · rw [if_pos e3, if_pos (by omega)]
      · rw [if_neg e3, if_neg (by omega)]
theorem rev_end {l c : List Str} {i : Nat} (h : Rev l c i) (hi : l.length ≤ 2 * i + 1) : c = l.reverse := by
  obtain ⟨h1, h2⟩ := h
  apply List.ext_getElem?
  intro k
  by_cases hk : k < l.length
  · rw [h2 k hk]
    rw [List.getElem?_reverse hk]
    by_cases e : k < i ∨ l.length - i ≤ k
    · rw [if_pos e]
    · rw [if_neg e]
      congr 1; omega
  · rw [List.getElem?_eq_none (by omega), List.getElem?_eq_none (by simp; omega)]
end Go.HL
end
section
namespace Go.HL
def turnTeams (r : Room) (s : List Swap) : List Str := if checkSwaps r s != 0 then [] else (turns r s).map (·.team)
theorem checkSwaps_ok {r : Room} {l : List Swap} (h : checkSwaps r l = 0) : checkRoom r = 0 ∧ l.length ≤ 600 := by
  unfold checkSwaps at h
  by_cases h1 : checkRoom r = 0
  · rw [if_neg (by simp [h1])] at h
    split at h
    · omega
    · exact ⟨h1, by omega⟩
  · rw [if_pos (by simpa using h1)] at h; exact absurd h h1
theorem orI_zero {a b : Int} (h : orI [a, b] = 0) : a = 0 ∧ b = 0 := by
  simp only [orI] at h
  split at h <;> simp_all
theorem openFault_ok {r : Room} {k : List Keep} {s : List Swap} (h : openFault r k s = 0) : checkRoom r = 0 ∧ checkSwaps r s = 0 ∧ checkKeeps r k = 0 := by
  unfold openFault at h
  by_cases h1 : orI [checkKeeps r k, checkSwaps r s] = 0
  · obtain ⟨h2, h3⟩ := orI_zero h1
    exact ⟨(checkSwaps_ok h3).1, h3, h2⟩
  · rw [if_pos (by simpa using h1)] at h; exact absurd h h1
def opened (r : Room) (k : List Keep) (s : List Swap) : List Pick := if openFault r k s != 0 then [] else open1 r k s
theorem turns_len {r : Room} {s : List Swap} (h : checkRoom r = 0) : (turns r s).length ≤ 600 := by
  obtain ⟨_, h1, _, h2, h3, _⟩ := checkRoom_ok h
  unfold turns
  rw [turnsFrom_len]
  have := Nat.mul_le_mul (show r.Rounds.toNat ≤ 30 by omega) h1
  omega
theorem keepIn_snoc (r : Room) (t : Turn) (k : List Keep) (x : Keep) : ∀ p, keepIn r t p (k ++ [x]) = (if x.Team = t.of ∧ x.Round = t.round then { keepIn r t p k with Player := x.Player, At := r.Start } else keepIn r t p k) := by
  induction k with
  | nil => intro p; simp [keepIn]
  | cons y k ih => intro p; simp only [List.cons_append, keepIn]; exact ih _
theorem openFrom_snoc (r : Room) (k : List Keep) (t : Turn) : ∀ (l : List Turn) (i : Nat), openFrom r k i (l ++ [t]) = openFrom r k i l ++ [keepIn r t ⟨(i + l.length : Nat), t.team, [], 0, false⟩ k]
  | [], i => by simp [openFrom]
  | y :: l, i => by
    simp only [List.cons_append, openFrom, openFrom_snoc r k t l (i + 1), List.length_cons]
    have : i + 1 + l.length = i + (l.length + 1) := by omega
    rw [this]
end Go.HL
end
section
namespace Go.HL
def ResC (P : Program) (e : Env) : List ResultVar → List HVal → Prop
  | [], [] => True
  | .tmp t :: r, h :: l => e t = some h ∧ ResC P e r l
  | .cell a t :: r, h :: l => (∃ cs d size bytes zero, e a = some (.vptr cs 0) ∧ Fits P t d size bytes zero ∧ ((d.isAgg = false ∧ cs[0]? = some h) ∨ (d.isAgg = true ∧ size = cs.length ∧ h = .agg cs))) ∧ ResC P e r l
  | _, _ => False
def tupOf : List HVal → HVal
  | [h] => h
  | l => .tup l
def RetC (P : Program) (rs : List ResultVar) (Q : HVal → List MObj → Prop) : Exit → Env → List MObj → Prop
  | .normal, e, M | .ret, e, M => ∃ e' M', Ghost e M e' M' ∧ ∃ l h', ResC P e' rs l ∧ Weak (tupOf l) h' ∧ Q h' M'
  | _, _, _ => False
theorem resC_run {P : Program} {I : Imm} {e : Env} {tmps : Array Value} (he : EnvV I e tmps) {M : List MObj} {w : World} (hs : Sat P I M w) : ∀ (rs : List ResultVar) (l : List HVal), ResC P e rs l →
    ∃ vs : List Value, (rs.mapM (resRun tmps)).run P w = .ok vs w ∧ VL I l vs := by
  intro rs
  induction rs with
  | nil =>
    intro l h
    cases l with
    | nil => exact ⟨[], by simp, VL.nil⟩
    | cons _ _ => exact h.elim
  | cons r rs ih =>
    intro l h
    cases l with
    | nil => cases r <;> exact h.elim
    | cons x l =>
      cases r with
      | tmp t =>
        obtain ⟨h1, h2⟩ := h
        obtain ⟨vs, h3, h4⟩ := ih l h2
        obtain ⟨v, h5, h6⟩ := he t x h1
        refine ⟨v :: vs, ?_, VL.cons h6 h4⟩
        simp only [List.mapM_cons, resRun, Sem.run_bind, Sem.run_pure, Result.andThen_ok, h3]
        simp [h5]
      | cell a t =>
        obtain ⟨⟨cs, d, size, bytes, zero, h1, hf, hh⟩, h2⟩ := h
        obtain ⟨vs, h3, h4⟩ := ih l h2
        obtain ⟨v, h5, h6⟩ := he a _ h1
        obtain ⟨b, base, rc, el, fr, g1, g2, g3, g4⟩ := h6.vptr_inv
        obtain ⟨v', h7, h8⟩ := run_loadVar (I := I) (h := x) (o := base + 0) (off := 0) (base := base) hf (hs.imm _ _ g2) rfl g3 g4 (by
          rcases hh with hh | ⟨p1, p2, p3⟩
          · exact .inl hh
          · exact .inr ⟨p1, by omega, by rw [p2]; simpa using p3⟩)
        refine ⟨v' :: vs, ?_, VL.cons h8 h4⟩
        have hg : tmps.getD a undef = .pointer (some ⟨b, base + 0, none⟩) := by simp [h5, g1]
        simp only [List.mapM_cons, resRun, Sem.run_bind, Sem.run_pure, Result.andThen_ok, hg, asAddr, h7, h3]

theorem Con.of_bodyc {P : Program} {f : FuncId} {fn : Func} {c : Code} {hargs : List HVal} {M : List MObj} {Q : HVal → List MObj → Prop}
    {n : Nat} (hf : P.funcs[f]? = some fn) (hb : fn.body = some c) (hnt : fn.ntmps = n) (hn' : Nat.ble hargs.length n = true) {rs : List ResultVar} (hrs : fn.results.toList = rs) (h : HWp P n c (argsE hargs) M (RetC P rs Q)) : Con P f hargs M Q := by
  have hn := Nat.le_of_ble_eq_true hn'
  subst hnt hrs
  intro I F w args h1 h2
  refine calls_of_wp hf hb ?_
  have hlen := h1.1
  refine wp_mono (h I F _ w rfl (by simp; omega) ?_ h2) ?_
  · intro t x hx
    obtain ⟨v, h3, h4⟩ := h1.get hx
    have hlt : t < args.length := lt_of_get h3
    refine ⟨v, ?_, h4⟩
    rw [Array.getElem?_append_left (by simpa using hlt)]
    simpa using h3
  · have key : ∀ (a' : Act) (w' : World), a'.defers = [] → (∃ J e M', Le I J ∧ (∃ e' M'', Ghost e M' e' M'' ∧ ∃ l h', ResC P e' fn.results.toList l ∧ Weak (tupOf l) h' ∧ Q h' M'') ∧ EnvV J e a'.tmps ∧ Sat P J (M' ++ F) w') →
        a'.defers = [] ∧ ∃ v, (results fn a'.tmps).run P w' = .ok v w' ∧ (∃ v_1 h M' J, Ending.returned v = Ending.returned v_1 ∧ Le I J ∧ Q h M' ∧ V J h v_1 ∧ Sat P J (M' ++ F) w') := by
      rintro a' w' hd ⟨J, e, M', hl, ⟨e', M'', hg, l, h', hr, hw, hq⟩, he, hs⟩
      obtain ⟨J2, hl2, he2, hs2⟩ := hg J F a'.tmps w' he hs
      refine ⟨hd, ?_⟩
      obtain ⟨vs, h3, h4⟩ := resC_run he2 hs2 _ _ hr
      have hrun : (results fn a'.tmps).run P w' = .ok (if h : vs.length = 1 then vs[0] else .tuple vs.toArray) w' := by
        rw [results_eq]
        have hm : (fn.results.mapM (resRun a'.tmps)).run P w' = .ok vs.toArray w' := by
          rw [Array.mapM_eq_mapM_toList]
          simp only [Sem.run_map, h3, Result.andThen_ok]
        simp only [Sem.run_bind, Sem.run_pure]
        rw [hm]
        simp
      refine ⟨_, hrun, _, h', M'', J2, rfl, hl.trans hl2, hq, ?_, hs2⟩
      apply hw
      match l, h4 with
      | [], h4 =>
        have : vs = [] := by have := h4.1; simpa using this
        subst this
        exact .tup (by simp) (fun j c v h _ => by simp at h)
      | [x], h4 =>
        have hl1 : vs.length = 1 := by have := h4.1; simpa using this
        match vs, hl1, h4 with
        | [v], _, h4 => exact h4.head
      | x :: y :: r, h4 =>
        have hl1 : vs.length = r.length + 2 := by have := h4.1; simpa using this
        rw [dif_neg (by omega)]
        exact .tup (by simp [hl1]) (fun j c v h1 h2 => h4.2 j c v h1 (by simpa using h2))
    rintro x a' w' ⟨p1, p2, J, e, M', p3, p4, p5, p6⟩
    cases x with
    | normal => exact key a' w' p1 ⟨J, e, M', p3, p4, p5, p6⟩
    | ret => exact key a' w' p1 ⟨J, e, M', p3, p4, p5, p6⟩
    | exit id => exact p4.elim
    | goto l => exact p4.elim
    | panic ch => exact p4.elim
    | outgrown => exact p4.elim

section
variable {P : Program} {e : Env} {dst : Option Tmp} {ty : TypeId} {pos : String} {af : Array Edge} {g : Option (Nat × Bool)} {M : List MObj} {K : HVal → List MObj → Prop}
theorem Fits.arrD {t : TypeId} {n el size bytes : Nat} {zero : Value} (h : Fits P t (.arr n el) size bytes zero) : P.underlying t = some (.array n el) := by
  obtain ⟨x, h1, h2⟩ := h.underlying
  cases x <;> simp [descOf] at h2
  obtain ⟨rfl, rfl⟩ := h2
  exact h1
theorem run_indexAtA {t el : TypeId} {n size bytes sz b2 : Nat} {zero z2 : Value} {d : TD} (hf : Fits P t (.arr n el) size bytes zero) (hel : Fits P el d sz b2 z2) {k : IntKind} {j b o : Nat} (hj : j < n) (w : World) :
    (Instr.indexAt t (.pointer (some ⟨b, o, none⟩)) (.int k (j : Int))).run P w = .ok (.pointer (some ⟨b, o + j * sz, none⟩)) w := by
  have h1 : (0 : Int) ≤ (j : Int) ∧ (j : Int) < (n : Int) := by omega
  simp [Instr.indexAt, asIntOf, run_underlying hf.arrD, h1, hel.run_sizeOf, addr_add, Instr.sureAddr]
  intro h; omega
/-- An element of an array. -/
theorem pop_idxa {x y : Operand} {t el : TypeId} {n size bytes sz b2 : Nat} {zero z2 : Value} {d : TD} {cs : List HVal} {off : Nat} {k : IntKind} {i : Int} {j : Nat}
    (hf : Fits P t (.arr n el) size bytes zero) (hel : Fits P el d sz b2 z2) (hx : evalO e x = some (.vptr cs off)) (hy : evalO e y = some (.int k i)) (hi : i = (j : Int)) (hj : j < n) :
    POp P e ⟨dst, .indexAddr t x y, ty, pos, af, g⟩ (.vptr cs (off + j * sz)) :=
  POp.of_val fun I a w ho => by
    subst hi
    obtain ⟨b, base, rc, el, fr, h1, h2, h3, h4⟩ := (ho.one (x := x) (by simp [Op.operands]) hx).vptr_inv
    have h5 := (ho.one (x := y) (by simp [Op.operands]) hy).int_inv
    refine ⟨.pointer (some ⟨b, base + off + j * sz, none⟩), by simp [execOp, h1, h5, run_indexAtA hf hel hj], ?_⟩
    rw [Nat.add_assoc]; exact .vptr h2 h3 h4
theorem pop_idxa_raw {x y : Operand} {t el : TypeId} {n size bytes sz b2 : Nat} {zero z2 : Value} {d : TD} {b o : Nat} {k : IntKind} {i : Int} {j : Nat}
    (hf : Fits P t (.arr n el) size bytes zero) (hel : Fits P el d sz b2 z2) (hx : evalO e x = some (.raw (.pointer (some ⟨b, o, none⟩)))) (hy : evalO e y = some (.int k i)) (hi : i = (j : Int)) (hj : j < n) :
    POp P e ⟨dst, .indexAddr t x y, ty, pos, af, g⟩ (.raw (.pointer (some ⟨b, o + j * sz, none⟩))) :=
  POp.of_val fun I a w ho => by
    subst hi
    have h1 := (ho.one (x := x) (by simp [Op.operands]) hx).raw_inv
    have h5 := (ho.one (x := y) (by simp [Op.operands]) hy).int_inv
    exact ⟨_, by simp [execOp, h1, h5, run_indexAtA hf hel hj], .raw _ rfl⟩

theorem pop_indexByte {f : FuncId} {fn : Func} {args : Array Operand} {ats : Array TypeId} {x y : Operand} {s : List UInt8} {c : Int} (hf : P.funcs[f]? = some fn) (h1 : (fn.name == "runtime.NumGoroutine") = false) (h2 : fn.body.isNone = true)
    (h3 : (Extern.findNext fn).isNone = true) (h4 : Extern.find fn = some Extern.BytealgIndexByte.indexByte) (ha : args = #[x, y]) (hx : evalO e x = some (.str s)) (hy : evalO e y = some (.int .u8 c)) :
    POp P e ⟨dst, .call ⟨.value (.func f), args, ats⟩, ty, pos, af, g⟩ (.int .i64 (Lib.indexByte s c.toNat.toUInt8)) :=
  POp.of_val fun I a w ho => by
    subst ha
    have e1 := (ho.one (x := x) (by simp [Op.operands, Call.operands]) hx).str_inv
    have e2 := (ho.one (x := y) (by simp [Op.operands, Call.operands]) hy).int_inv
    refine ⟨_, ?_, .int _ _⟩
    have h3' : Extern.findNext fn = none := by cases h : Extern.findNext fn with | none => rfl | some _ => rw [h] at h3; simp at h3
    have hcmp : (Extern.BytealgIndexByte.indexByte #[.string ⟨s.toArray⟩, .int .u8 c]).run P w = .ok (.int .i64 (Lib.indexByte s c.toNat.toUInt8)) w := by
      have := Lib.run_indexByteString (P := P) ⟨s.toArray⟩ c w
      simpa using this
    have hev : a.eval (.func f) = .func (.func f) #[] #[] := rfl
    have hmap : (#[x, y] : Array Operand).map a.eval = #[.string ⟨s.toArray⟩, .int .u8 c] := by simp [e1, e2]
    have hargs : (#[] : Array Value) ++ #[.string ⟨s.toArray⟩, .int .u8 c] ++ #[] = #[.string ⟨s.toArray⟩, .int .u8 c] := rfl
    simp only [execOp, resolve, hev, hmap, Deferred.ofValue, invoke, callFunc, Sem.run_bind, Sem.run_pure, Result.andThen_ok, run_program, hf, h1, h2, h3', h4, Bool.false_eq_true, if_false, if_true, run_mark, hargs, hcmp]
end
end Go.HL
end
section
namespace Go.HL
def asciiSet (l : List UInt8) : List HVal := (List.range 256).map fun i => .bool (l.contains (UInt8.ofNat i))
theorem asciiSet_len (l : List UInt8) : (asciiSet l).length = 256 := by simp [asciiSet]
theorem asciiSet_get (l : List UInt8) (c : UInt8) : (asciiSet l)[c.toNat]? = some (.bool (l.contains c)) := by
  have := c.toNat_lt
  simp [asciiSet, List.getElem?_range, this]
theorem flat_bools {α : Type} (f : α → Bool) : ∀ l : List α, flat (l.map fun i => .bool (f i)) = true
  | [] => rfl
  | x :: l => by simp only [List.map_cons, flat]; exact flat_bools f l
theorem asciiSet_flat (l : List UInt8) : flat (asciiSet l) = true := flat_bools _ _
theorem asciiSet_add (l : List UInt8) (c : UInt8) : setL (asciiSet l) (0 + c.toNat * 1) [.bool true] = asciiSet (l ++ [c]) := by
  have hc := c.toNat_lt
  have hl : 0 + c.toNat * 1 = c.toNat := by omega
  rw [hl]
  apply List.ext_getElem?
  intro i
  have hlen := asciiSet_len l
  simp only [setL, List.length_singleton]
  by_cases hi : i < c.toNat
  · rw [List.getElem?_append_left (by simp; omega), List.getElem?_append_left (by simp [hlen]; omega), List.getElem?_take_of_lt hi]
    have h256 : i < 256 := by omega
    have hne : UInt8.ofNat i ≠ c := fun h => by
      have := congrArg UInt8.toNat h
      rw [UInt8.toNat_ofNat_of_lt' (by simpa [UInt8.size] using h256)] at this; omega
    simp [asciiSet, List.getElem?_range, h256, hne]
  · by_cases he : i = c.toNat
    · subst he
      rw [List.getElem?_append_left (by simp [hlen]; omega), List.getElem?_append_right (by simp [hlen]; omega)]
      rw [asciiSet_get]
      simp [hlen, Nat.min_eq_left (Nat.le_of_lt hc)]
    · rw [List.getElem?_append_right (by simp [hlen]; omega), List.getElem?_drop]
      have e1 : c.toNat + 1 + (i - ((asciiSet l).take c.toNat ++ [HVal.bool true]).length) = i := by simp [hlen]; omega
      rw [e1]
      by_cases h256 : i < 256
      · have hne : UInt8.ofNat i ≠ c := fun h => by
          have := congrArg UInt8.toNat h
          rw [UInt8.toNat_ofNat_of_lt' (by simpa [UInt8.size] using h256)] at this; omega
        simp [asciiSet, List.getElem?_range, h256, hne]
      · rw [List.getElem?_eq_none (by rw [asciiSet_len]; omega), List.getElem?_eq_none (by rw [asciiSet_len]; omega)]
def rtrim (p : UInt8 → Bool) (s : Str) : Str := (s.reverse.dropWhile p).reverse
theorem rtrim_snoc (p : UInt8 → Bool) (s : Str) (c : UInt8) : rtrim p (s ++ [c]) = if p c then rtrim p s else s ++ [c] := by
  unfold rtrim
  rw [List.reverse_append]
  simp only [List.reverse_cons, List.reverse_nil, List.nil_append, List.singleton_append, List.dropWhile_cons]
  split <;> simp
theorem dw_len (p : UInt8 → Bool) : ∀ s : Str, (s.dropWhile p).length ≤ s.length
  | [] => Nat.le_refl _
  | x :: s => by
    rw [List.dropWhile_cons]
    split
    · exact Nat.le_succ_of_le (dw_len p s)
    · exact Nat.le_refl _
theorem rtrim_len (p : UInt8 → Bool) (s : Str) : (rtrim p s).length ≤ s.length := by
  unfold rtrim
  rw [List.length_reverse]
  have := dw_len p s.reverse
  rwa [List.length_reverse] at this
theorem dw_nil (p : UInt8 → Bool) : ∀ s : Str, s.dropWhile p = [] → ∀ c ∈ s, p c = true
  | [], _, c, h => by cases h
  | x :: s, h, c, hc => by
    rw [List.dropWhile_cons] at h
    by_cases hx : p x = true
    · rw [if_pos hx] at h
      rcases List.mem_cons.1 hc with rfl | hc
      · exact hx
      · exact dw_nil p s h c hc
    · rw [if_neg hx] at h; cases h
theorem trim_nil (p : UInt8 → Bool) (s : Str) : ((rtrim p s).dropWhile p == []) = s.all p := by
  induction s using List.reverseRecOn' with
  | nil => rfl
  | snoc s c ih =>
    rw [rtrim_snoc]
    by_cases hc : p c = true
    · rw [if_pos hc, ih]; simp [hc]
    · rw [if_neg hc]
      have : (s ++ [c]).all p = false := by simp [hc]
      rw [this]
      cases hd : (s ++ [c]).dropWhile p with
      | nil => exact absurd (dw_nil _ _ hd c (by simp)) hc
      | cons _ _ => rfl
where
  List.reverseRecOn' {motive : Str → Prop} (nil : motive []) (snoc : ∀ s c, motive s → motive (s ++ [c])) (l : Str) : motive l := by
    have : ∀ n (l : Str), l.length = n → motive l := by
      intro n
      induction n with
      | zero => intro l h; rw [List.length_eq_zero_iff.1 h]; exact nil
      | succ n ih =>
        intro l h
        have hne : l ≠ [] := fun h0 => by subst h0; simp at h
        rw [← List.dropLast_concat_getLast hne]
        exact snoc _ _ (ih _ (by simp [h]))
    exact this l.length l rfl
def cut38 : Str := [97, 98, 99, 100, 101, 102, 103, 104, 105, 106, 107, 108, 109, 110, 111, 112, 113, 114, 115, 116, 117, 118, 119, 120, 121, 122, 48, 49, 50, 51, 52, 53, 54, 55, 56, 57, 45, 95]
def small26 : Str := [97, 98, 99, 100, 101, 102, 103, 104, 105, 106, 107, 108, 109, 110, 111, 112, 113, 114, 115, 116, 117, 118, 119, 120, 121, 122]
theorem all256 {p : UInt8 → Bool} (h : (List.range 256).all (fun i => p (UInt8.ofNat i)) = true) (c : UInt8) : p c = true := by
  have := List.all_eq_true.1 h c.toNat (List.mem_range.2 c.toNat_lt)
  simpa using this
theorem cut38_eq (c : UInt8) : cut38.contains c = keyCh c := by
  have := all256 (p := fun c => cut38.contains c == keyCh c) (by kernel_rfl) c
  simpa using this
theorem small26_eq (c : UInt8) : decide (0 ≤ Lib.indexByte small26 c) = (decide (97 ≤ c.toNat) && decide (c.toNat ≤ 122)) := by
  have := all256 (p := fun c => decide (0 ≤ Lib.indexByte small26 c) == (decide (97 ≤ c.toNat) && decide (c.toNat ≤ 122))) (by kernel_rfl) c
  simpa using this
theorem key_ref (s : Str) : key s = ((!(out s.length 1 40) && ((rtrim (cut38.contains ·) s).dropWhile (cut38.contains ·) == [])) && decide (0 ≤ Lib.indexByte small26 (s.headD 0))) := by
  rw [trim_nil, small26_eq]
  have : (fun x => cut38.contains x) = keyCh := funext cut38_eq
  rw [this]
  unfold key keyHd
  cases s with
  | nil => simp [out]
  | cons x r =>
    simp only [List.headD_cons]
    have h1 : (!(out ((x :: r).length : Int) 1 40)) = decide ((x :: r).length ≤ 40) := by
      simp only [out, List.length_cons]
      rw [Bool.eq_iff_iff]; simp; omega
    rw [h1]
    have h2 : ((x :: r) != []) = true := rfl
    rw [h2]
    have hb : ∀ a b c d : Bool, (true && a && c && d && b) = (a && b && (c && d)) := by decide
    exact hb _ _ _ _
theorem moment_ref (n : Int) : (if out n 0 345686399999 then (1 : Int) else 0) = if moment n then 0 else 1 := by
  have : out n 0 345686399999 = !(moment n) := by
    simp only [out, moment]; rw [Bool.eq_iff_iff]; simp; try omega
  rw [this]; cases moment n <;> rfl
def ownFrom (r : Room) : Nat → List Str
  | 0 => []
  | n + 1 => ownFrom r n ++ (if backwards r.Way ((n : Int) + 1) then r.Teams.reverse else r.Teams)
def ownTurns (r : Room) : List Str := ownFrom r r.Rounds.toNat
theorem ownFrom_len (r : Room) : ∀ n, (ownFrom r n).length = n * r.Teams.length
  | 0 => by simp [ownFrom]
  | n + 1 => by
    have : (if backwards r.Way ((n : Int) + 1) then r.Teams.reverse else r.Teams).length = r.Teams.length := by split <;> simp
    simp only [ownFrom, List.length_append, ownFrom_len r n, this, Nat.succ_mul]
end Go.HL
end
section
namespace Go.Proofs.YtnlfcjoofdjpiaaGreatDoor
open Go.HL
set_option maxRecDepth 100000
set_option linter.unusedVariables false
set_option linter.unusedSimpArgs false
/-- strings.makeASCIISet -/
theorem c_strings_makeASCIISet {l : Str} (hl : l.length ≤ 1000000) (ha : ∀ c ∈ l, c.toNat < 128) : ConP Tryz.prog 67 [.str l] (.tup [.agg (asciiSet l), .bool true]) := by
  refine Con.of_bodyc Tryz.func67 rfl Tryz.ntmps67 rfl rfl ?_
  refine hw_reg ?_
  refine de rfl (eop_alloc ty92 rfl fun b2 => ?_)
  refine dp rfl (pop_assign rfl) ?_
  refine dn ?_
  refine hw_seq ?_
  refine hw_reg ?_
  refine dp rfl (pop_assign rfl) ?_
  refine dn ?_
  refine hw_block ?_
  refine hw_loopw [3, 4, 5, 6, 7, 8, 9, 10, 11, 12, 13, 14, 15, 16, 17, 18, 19] (fun (k : Nat) => [(4, .int .i64 k)]) (fun (k : Nat) => [.cells b2 (asciiSet (l.take k))]) (fun (k : Nat) => k ≤ l.length ∧ (True)) (fun (k : Nat) => l.length - k) (0) ?_ ?_ ?_ ?_
  · exact ⟨Nat.zero_le _, by simp_all⟩
  · exact ⟨rfl, trivial⟩
  · exact perm_eq rfl
  · intro k hinv
    obtain ⟨hk, -⟩ := hinv
    refine hw_seq ?_
    refine hw_reg ?_
    refine dp rfl (pop_move rfl) ?_
    refine dp rfl (pop_move rfl) ?_
    refine dp rfl (pop_lens ty9 rfl) ?_
    refine dp rfl (pop_lss rfl rfl) ?_
    refine dn ?_
    refine hw_cond rfl (fun h1 => ?_) (fun h2 => ?_)
    · try simp at h1
      obtain ⟨x, hx⟩ : ∃ x, l[k]? = some x := ⟨_, List.getElem?_eq_getElem h1⟩
      have hdx := drop_cons hx
      have hc := ha x (List.mem_of_getElem? hx)
      refine hw_skip ?_
      refine seqQ_n ?_
      refine hw_seq ?_
      refine hw_block ?_
      refine hw_reg ?_
      refine dp rfl (pop_move rfl) ?_
      refine dp rfl (pop_move rfl) ?_
      refine dp rfl (pop_indexs ty9 rfl rfl rfl (by first | assumption | simp_all)) ?_
      refine dp rfl (pop_assign rfl) ?_
      refine dn ?_
      refine hw_seq ?_
      refine hw_reg ?_
      refine dp rfl (pop_move rfl) ?_
      refine dp rfl (pop_geq rfl rfl) ?_
      refine dn ?_
      refine hw_cond rfl (fun h3 => ?_) (fun h3 => ?_)
      · exfalso
        try simp at h3
        omega
      · try simp at h3
        refine hw_skip ?_
        refine seqQ_n ?_
        refine hw_reg1 ?_
        refine dp rfl (pop_move rfl) ?_
        refine dp rfl (pop_idxa_raw ty92 ty4 rfl rfl rfl (by first | omega | decide)) ?_
        refine de0 (eop_store (i := 0) ty4 rfl rfl rfl rfl rfl (by rw [asciiSet_len]; omega) ?_)
        refine dn ?_
        refine blockQ_n ?_
        refine seqQ_n ?_
        refine hw_reg1 ?_
        refine dp rfl (pop_move rfl) ?_
        refine dp rfl (pop_add64 rfl rfl (by omega) (by omega)) ?_
        refine dp rfl (pop_assign rfl) ?_
        refine dn ?_
        refine ⟨k + 1, ?_, ?_, ⟨rfl, trivial⟩, (by repeat (first | exact keeps_refl | refine keeps_upd rfl ?_ | refine keeps_loop rfl rfl ?_)), perm_eq (by show [MObj.cells b2 (setL _ (0 + x.toNat * 1) [.bool true])] = _; rw [asciiSet_add]; dsimp only; rw [List.take_add_one, hx]; rfl)⟩
        · exact ⟨by omega, trivial⟩
        · dsimp only; omega
    · try simp at h2
      have hnk : l.length ≤ k := by omega
      obtain rfl : k = l.length := by omega
      refine hw_exit ?_
      refine seqQ_x ?_
      refine loopQ_x ?_
      refine blockQ_eq ?_
      refine seqQ_n ?_
      refine hw_ghost (Ghost.of_eq (M' := [.cells b2 (asciiSet l)]) (by rw [List.take_length])) ?_
      refine hw_reg ?_
      refine de rfl (eop_loadw (i := 0) (h := .agg (asciiSet l)) ty92 rfl rfl rfl rfl (asciiSet_len l) ?_)
      refine de0 (eop_storew (h := .agg (asciiSet l)) ty92 rfl rfl (by simp [okElem, asciiSet_len]) (asciiSet_flat l) (asciiSet_len l) ?_)
      refine dp rfl (pop_assign rfl) ?_
      refine dn ?_
      refine hw_ret ?_
      refine ⟨_, _, Ghost.fc0 2 rfl, [_, _], _, ⟨⟨_, _, _, _, _, rfl, ty92, .inr ⟨rfl, rfl, rfl⟩⟩, ⟨rfl, trivial⟩⟩, Weak.refl _, ?_, rfl⟩
      rfl

/-- (*strings.asciiSet).contains -/
theorem c_strings_asciiSet_contains {l : Str} {c : UInt8}  : ConP Tryz.prog 92 [.vptr (asciiSet l) 0, .int .u8 c.toNat] (.bool (l.contains c)) := by
  have hc := c.toNat_lt
  refine Con.of_body Tryz.func92 rfl Tryz.ntmps92 rfl rfl ?_
  refine hw_reg ?_
  refine dp rfl (pop_assign rfl) ?_
  refine dn ?_
  refine hw_reg ?_
  refine dp rfl (pop_move rfl) ?_
  refine dp rfl (pop_move rfl) ?_
  refine dp rfl ((by first | exact pop_nilCheck rfl | exact pop_nilCheck_raw rfl)) ?_
  refine dp rfl (pop_idxa ty92 ty4 rfl rfl rfl (by first | omega | decide)) ?_
  refine dp rfl (pop_load ty4 rfl rfl (by rw [show 0 + c.toNat * 1 = c.toNat from by omega]; exact asciiSet_get l c)) ?_
  refine dp rfl (pop_assign rfl) ?_
  refine dn ?_
  refine hw_ret ?_
  refine ret_p rfl ?_
  rfl

/-- strings.trimLeftASCII -/
theorem c_strings_trimLeftASCII {s l : Str} (hl : s.length ≤ 1000000) : ConP Tryz.prog 68 [.str s, .vptr (asciiSet l) 0] (.str (s.dropWhile (l.contains ·))) := by
  refine Con.of_body Tryz.func68 rfl Tryz.ntmps68 rfl rfl ?_
  refine hw_reg ?_
  refine dp rfl (pop_assign rfl) ?_
  refine dn ?_
  refine hw_seq ?_
  refine hw_block ?_
  refine hw_loopw [0, 5, 6, 7, 8, 9, 10, 11, 12, 13, 14] (fun (t : Str) => [(0, .str t)]) (fun (t : Str) => []) (fun (t : Str) => t.length ≤ s.length ∧ s.dropWhile (l.contains ·) = t.dropWhile (l.contains ·)) (fun (t : Str) => t.length) (s) ?_ ?_ ?_ ?_
  · exact ⟨Nat.le_refl _, rfl⟩
  · exact ⟨rfl, trivial⟩
  · exact List.Perm.refl _
  · intro t hinv
    obtain ⟨ht, hg⟩ := hinv
    refine hw_seq ?_
    refine hw_reg ?_
    refine dp rfl (pop_move rfl) ?_
    refine dp rfl (pop_lens ty9 rfl) ?_
    refine dp rfl (pop_gtr rfl rfl) ?_
    refine dn ?_
    refine hw_cond rfl (fun h1 => ?_) (fun h2 => ?_)
    · try simp at h1
      obtain ⟨x, u, rfl⟩ : ∃ x u, t = x :: u := by cases t with | nil => simp at h1 | cons x u => exact ⟨x, u, rfl⟩
      have hlen : (x :: u).length = u.length + 1 := rfl
      refine hw_skip ?_
      refine seqQ_n ?_
      refine hw_block ?_
      refine hw_seq ?_
      refine hw_reg ?_
      refine dp rfl (pop_move rfl) ?_
      refine dp rfl (pop_move rfl) ?_
      refine dp rfl (pop_indexs (j := 0) (b := x) ty9 rfl rfl rfl rfl) ?_
      refine dp rfl (pop_call ca92 rfl (WeakL.refl _) c_strings_asciiSet_contains) ?_
      refine dp rfl (pop_not rfl) ?_
      refine dn ?_
      refine hw_cond rfl (fun h3 => ?_) (fun h4 => ?_)
      · try simp at h3
        refine hw_exit ?_
        refine seqQ_x ?_
        refine blockQ_ne rfl ?_
        refine loopQ_x ?_
        refine blockQ_eq ?_
        refine seqQ_n ?_
        refine hw_reg ?_
        refine dp rfl (pop_move rfl) ?_
        refine dp rfl (pop_assign rfl) ?_
        refine dn ?_
        refine hw_ret ?_
        refine ret_p rfl ?_
        show HVal.str _ = _
        rw [hg]; simp_all [List.dropWhile_cons]
      · try simp at h4
        refine hw_skip ?_
        refine seqQ_n ?_
        refine hw_reg1 ?_
        refine dp rfl (pop_move rfl) ?_
        refine dp rfl (pop_slices (l := 1) ty9 rfl ⟨_, _, rfl, rfl⟩ rfl (by omega) (by omega)) ?_
        refine dp rfl (pop_assign rfl) ?_
        refine dn ?_
        refine blockQ_n ?_
        refine ⟨_, ?_, ?_, ⟨rfl, trivial⟩, (by repeat (first | exact keeps_refl | refine keeps_upd rfl ?_ | refine keeps_loop rfl rfl ?_)), List.Perm.refl _⟩
        · refine ⟨by simp at ht ⊢; omega, ?_⟩
          rw [hg]; simp_all [List.dropWhile_cons]
        · dsimp only; simp
    · try simp at h2
      obtain rfl : t = [] := by simpa using h2
      refine hw_exit ?_
      refine seqQ_x ?_
      refine loopQ_x ?_
      refine blockQ_eq ?_
      refine seqQ_n ?_
      refine hw_reg ?_
      refine dp rfl (pop_move rfl) ?_
      refine dp rfl (pop_assign rfl) ?_
      refine dn ?_
      refine hw_ret ?_
      refine ret_p rfl ?_
      show HVal.str _ = _
      rw [hg]; simp_all [List.dropWhile_cons]

/-- strings.trimRightASCII -/
theorem c_strings_trimRightASCII {s l : Str} (hl : s.length ≤ 1000000) : ConP Tryz.prog 69 [.str s, .vptr (asciiSet l) 0] (.str (rtrim (l.contains ·) s)) := by
  refine Con.of_body Tryz.func69 rfl Tryz.ntmps69 rfl rfl ?_
  refine hw_reg ?_
  refine dp rfl (pop_assign rfl) ?_
  refine dn ?_
  refine hw_seq ?_
  refine hw_block ?_
  refine hw_loopw [0, 5, 6, 7, 8, 9, 10, 11, 12, 13, 14, 15, 16, 17, 18, 19, 20] (fun (t : Str) => [(0, .str t)]) (fun (t : Str) => []) (fun (t : Str) => t.length ≤ s.length ∧ rtrim (l.contains ·) s = rtrim (l.contains ·) t) (fun (t : Str) => t.length) (s) ?_ ?_ ?_ ?_
  · exact ⟨Nat.le_refl _, rfl⟩
  · exact ⟨rfl, trivial⟩
  · exact List.Perm.refl _
  · intro t hinv
    obtain ⟨ht, hg⟩ := hinv
    refine hw_seq ?_
    refine hw_reg ?_
    refine dp rfl (pop_move rfl) ?_
    refine dp rfl (pop_lens ty9 rfl) ?_
    refine dp rfl (pop_gtr rfl rfl) ?_
    refine dn ?_
    refine hw_cond rfl (fun h1 => ?_) (fun h2 => ?_)
    · try simp at h1
      obtain ⟨u, x, rfl⟩ : ∃ u x, t = u ++ [x] := ⟨_, _, (List.dropLast_concat_getLast (by intro h0; subst h0; simp at h1)).symm⟩
      have hlen : (u ++ [x]).length = u.length + 1 := by simp
      refine hw_skip ?_
      refine seqQ_n ?_
      refine hw_block ?_
      refine hw_seq ?_
      refine hw_reg ?_
      refine dp rfl (pop_move rfl) ?_
      refine dp rfl (pop_move rfl) ?_
      refine dp rfl (pop_move rfl) ?_
      refine dp rfl (pop_lens ty9 rfl) ?_
      refine dp rfl (pop_sub64 rfl rfl (by omega) (by omega)) ?_
      refine dp rfl (pop_indexs (j := u.length) (b := x) ty9 rfl rfl (by omega) (by simp)) ?_
      refine dp rfl (pop_call ca92 rfl (WeakL.refl _) c_strings_asciiSet_contains) ?_
      refine dp rfl (pop_not rfl) ?_
      refine dn ?_
      refine hw_cond rfl (fun h3 => ?_) (fun h4 => ?_)
      · try simp at h3
        refine hw_exit ?_
        refine seqQ_x ?_
        refine blockQ_ne rfl ?_
        refine loopQ_x ?_
        refine blockQ_eq ?_
        refine seqQ_n ?_
        refine hw_reg ?_
        refine dp rfl (pop_move rfl) ?_
        refine dp rfl (pop_assign rfl) ?_
        refine dn ?_
        refine hw_ret ?_
        refine ret_p rfl ?_
        show HVal.str _ = _
        rw [hg]; first | rfl | (rw [rtrim_snoc, if_neg (by simp_all)])
      · try simp at h4
        refine hw_skip ?_
        refine seqQ_n ?_
        refine hw_reg1 ?_
        refine dp rfl (pop_move rfl) ?_
        refine dp rfl (pop_move rfl) ?_
        refine dp rfl (pop_lens ty9 rfl) ?_
        refine dp rfl (pop_sub64 rfl rfl (by omega) (by omega)) ?_
        refine dp rfl (pop_slices (l := 0) (h := u.length) ty9 rfl rfl ⟨_, _, rfl, by omega⟩ (by omega) (by omega)) ?_
        refine dp rfl (pop_assign rfl) ?_
        refine dn ?_
        refine blockQ_n ?_
        refine ⟨_, ?_, ?_, ⟨rfl, trivial⟩, (by repeat (first | exact keeps_refl | refine keeps_upd rfl ?_ | refine keeps_loop rfl rfl ?_)), List.Perm.refl _⟩
        · refine ⟨by simp at ht ⊢; omega, ?_⟩
          rw [hg, rtrim_snoc, if_pos (by simp_all)]; simp
        · dsimp only; simp
    · try simp at h2
      obtain rfl : t = [] := by simpa using h2
      refine hw_exit ?_
      refine seqQ_x ?_
      refine loopQ_x ?_
      refine blockQ_eq ?_
      refine seqQ_n ?_
      refine hw_reg ?_
      refine dp rfl (pop_move rfl) ?_
      refine dp rfl (pop_assign rfl) ?_
      refine dn ?_
      refine hw_ret ?_
      refine ret_p rfl ?_
      show HVal.str _ = _
      rw [hg]; first | rfl | (rw [rtrim_snoc, if_neg (by simp_all)])

/-- strings.Trim -/
theorem c_strings_Trim {s l : Str} (hs : s.length ≤ 1000000) (hl : l.length ≤ 1000000) (h2l : 2 ≤ l.length) (ha : ∀ c ∈ l, c.toNat < 128) : ConP Tryz.prog 49 [.str s, .str l] (.str ((rtrim (l.contains ·) s).dropWhile (l.contains ·))) := by
  refine Con.of_body Tryz.func49 rfl Tryz.ntmps49 rfl rfl ?_
  refine hw_reg ?_
  refine dp rfl (pop_assign rfl) ?_
  refine dn ?_
  refine hw_seq ?_
  refine hw_reg ?_
  refine dp rfl (pop_move rfl) ?_
  refine dp rfl (pop_eqls rfl rfl) ?_
  refine dp rfl (pop_move rfl) ?_
  refine dg rfl rfl (fun hc => ⟨_, OpenTo.refl _, pop_move rfl⟩) ?_
  refine dg rfl rfl (fun hc => ⟨_, OpenTo.upd (t := 10) rfl (by first | exact hc | simp_all) (OpenTo.refl _), pop_eqls rfl rfl⟩) ?_
  refine dp rfl (pop_picko rfl (.inl rfl) (.inr ⟨_, rfl, fun h => by simp_all⟩)) ?_
  refine dn ?_
  refine hw_cond rfl (fun h1 => ?_) (fun h2 => ?_)
  · try simp at h1
    refine hw_reg ?_
    refine dp rfl (pop_move rfl) ?_
    refine dp rfl (pop_assign rfl) ?_
    refine dn ?_
    refine hw_ret ?_
    refine ret_p rfl ?_
    show HVal.str _ = _
    first | rfl | (rcases h1 with rfl | rfl <;> first | (simp at h2l; done) | (simp [rtrim]; done))
  · try simp at h2
    refine hw_skip ?_
    refine seqQ_n ?_
    refine hw_seq ?_
    refine hw_reg ?_
    refine dp rfl (pop_move rfl) ?_
    refine dp rfl (pop_lens ty9 rfl) ?_
    refine dp rfl (pop_eql rfl rfl) ?_
    refine dp rfl (pop_move rfl) ?_
    refine dg rfl rfl (fun hc => ⟨_, OpenTo.refl _, pop_move rfl⟩) ?_
    refine dg rfl rfl (fun hc => ⟨_, OpenTo.upd (t := 18) rfl (by first | exact hc | simp_all) (OpenTo.refl _), pop_indexs (j := 0) (b := l.headD 0) ty9 rfl rfl rfl (hd0 (by intro h0; subst h0; simp at h2l))⟩) ?_
    refine dg rfl rfl (fun hc => ⟨_, OpenTo.upd (t := 19) rfl (by first | exact hc | simp_all) (OpenTo.refl _), pop_lss rfl rfl⟩) ?_
    refine dp rfl (pop_picko rfl (.inr ⟨_, rfl, fun h => by simp_all⟩) (.inl rfl)) ?_
    refine dn ?_
    refine hw_cond rfl (fun h3 => ?_) (fun h3 => ?_)
    · exfalso
      try simp at h3
      omega
    · try simp at h3
      refine hw_skip ?_
      refine seqQ_n ?_
      refine hw_seq ?_
      refine hw_reg ?_
      refine dp rfl (pop_move rfl) ?_
      refine dp rfl (pop_call ca67 rfl (WeakL.refl _) (c_strings_makeASCIISet (by first | assumption | omega | (simp; omega) | simp_all) (by first | assumption | omega | (simp; omega) | simp_all))) ?_
      refine dp rfl (pop_move rfl) ?_
      refine dp rfl (pop_extract rfl rfl) ?_
      refine dp rfl (pop_extract rfl rfl) ?_
      refine de rfl (eop_alloc ty92 rfl fun b5 => ?_)
      refine de0 (eop_storew ty92 rfl rfl rfl rfl rfl ?_)
      refine dp rfl (pop_assign rfl) ?_
      refine dn ?_
      refine hw_ghost (Ghost.fc0 5 rfl) ?_
      refine hw_reg ?_
      refine dp rfl (pop_move rfl) ?_
      refine dn ?_
      refine hw_cond_t rfl ?_
      refine hw_reg ?_
      refine dp rfl (pop_move rfl) ?_
      refine dp rfl (pop_call ca69 rfl (WeakL.refl _) (c_strings_trimRightASCII (by first | assumption | omega | (simp; omega) | simp_all))) ?_
      refine dp rfl (pop_call ca68 rfl (WeakL.refl _) (c_strings_trimLeftASCII (Nat.le_trans (rtrim_len _ _) hs))) ?_
      refine dp rfl (pop_assign rfl) ?_
      refine dn ?_
      refine hw_ret ?_
      refine ret_p rfl ?_
      show HVal.str _ = _
      first | rfl | (rcases h1 with rfl | rfl <;> first | (simp at h2l; done) | (simp [rtrim]; done))

/-- internal/stringslite.IndexByte -/
theorem c_internal_stringslite_IndexByte {s : Str} {c : Int}  : ConP Tryz.prog 72 [.str s, .int .u8 c] (.int .i64 (Lib.indexByte s c.toNat.toUInt8)) := by
  refine Con.of_body Tryz.func72 rfl Tryz.ntmps72 rfl rfl ?_
  refine hw_reg ?_
  refine dp rfl (pop_assign rfl) ?_
  refine dn ?_
  refine hw_reg ?_
  refine dp rfl (pop_move rfl) ?_
  refine dp rfl (pop_move rfl) ?_
  refine dp rfl (pop_indexByte Tryz.func96 (by kernel_rfl) (by kernel_rfl) (by kernel_rfl) (by kernel_rfl) rfl rfl rfl) ?_
  refine dp rfl (pop_assign rfl) ?_
  refine dn ?_
  refine hw_ret ?_
  refine ret_p rfl ?_
  rfl

/-- strings.IndexByte -/
theorem c_strings_IndexByte {s : Str} {c : Int}  : ConP Tryz.prog 50 [.str s, .int .u8 c] (.int .i64 (Lib.indexByte s c.toNat.toUInt8)) := by
  refine Con.of_body Tryz.func50 rfl Tryz.ntmps50 rfl rfl ?_
  refine hw_reg ?_
  refine dp rfl (pop_assign rfl) ?_
  refine dn ?_
  refine hw_reg ?_
  refine dp rfl (pop_move rfl) ?_
  refine dp rfl (pop_move rfl) ?_
  refine dp rfl (pop_call ca72 rfl (WeakL.refl _) c_internal_stringslite_IndexByte) ?_
  refine dp rfl (pop_assign rfl) ?_
  refine dn ?_
  refine hw_ret ?_
  refine ret_p rfl ?_
  rfl

/-- benchwarmer/benchref1.in -/
theorem c_benchref1_in {n lo hi : Int}  : ConP Tryz.prog 29 [.int .i64 n, .int .i64 lo, .int .i64 hi] (.bool (!(out n lo hi))) := by
  refine Con.of_body Tryz.func29 rfl Tryz.ntmps29 rfl rfl ?_
  refine hw_reg ?_
  refine dp rfl (pop_assign rfl) ?_
  refine dn ?_
  refine hw_reg ?_
  refine dp rfl (pop_move rfl) ?_
  refine dp rfl (pop_move rfl) ?_
  refine dp rfl (pop_leq rfl rfl) ?_
  refine dp rfl (pop_move rfl) ?_
  refine dg rfl rfl (fun hc => ⟨_, OpenTo.refl _, pop_move rfl⟩) ?_
  refine dg rfl rfl (fun hc => ⟨_, OpenTo.refl _, pop_move rfl⟩) ?_
  refine dg rfl rfl (fun hc => ⟨_, OpenTo.upd (t := 12) rfl (by first | exact hc | simp_all) (OpenTo.upd (t := 11) rfl (by first | exact hc | simp_all) (OpenTo.refl _)), pop_leq rfl rfl⟩) ?_
  refine dp rfl (pop_picko rfl (.inr ⟨_, rfl, fun h => by simp_all⟩) (.inl rfl)) ?_
  refine dp rfl (pop_assign rfl) ?_
  refine dn ?_
  refine hw_ret ?_
  refine ret_p rfl ?_
  show HVal.bool _ = _
  congr 1; simp [out]; rw [Bool.eq_iff_iff]; simp; try omega

/-- benchwarmer/benchref1.Key -/
theorem c_benchref1_Key {s : Str} (hs : s.length ≤ 1000000) : ConP Tryz.prog 28 [.str s] (.bool (key s)) := by
  refine Con.of_body Tryz.func28 rfl Tryz.ntmps28 rfl rfl ?_
  refine hw_reg ?_
  refine dp rfl (pop_assign rfl) ?_
  refine dn ?_
  refine hw_reg ?_
  refine dp rfl (pop_move rfl) ?_
  refine dp rfl (pop_lens ty9 rfl) ?_
  refine dp rfl (pop_call ca29 rfl (WeakL.refl _) c_benchref1_in) ?_
  refine dp rfl (pop_move rfl) ?_
  refine dg rfl rfl (fun hc => ⟨_, OpenTo.refl _, pop_move rfl⟩) ?_
  refine dg rfl rfl (fun hc => ⟨_, OpenTo.upd (t := 7) rfl (by first | exact hc | simp_all) (OpenTo.refl _), pop_call ca49 rfl (WeakL.refl _) (c_strings_Trim (l := cut38) hs (by decide) (by decide) (by decide))⟩) ?_
  refine dg rfl rfl (fun hc => ⟨_, OpenTo.upd (t := 8) rfl (by first | exact hc | simp_all) (OpenTo.refl _), pop_eqls rfl rfl⟩) ?_
  refine dp rfl (pop_picko rfl (.inr ⟨_, rfl, fun h => by simp_all⟩) (.inl rfl)) ?_
  refine dp rfl (pop_move rfl) ?_
  refine dg rfl rfl (fun hc => ⟨_, OpenTo.refl _, pop_move rfl⟩) ?_
  refine dg rfl rfl (fun hc => ⟨_, OpenTo.upd (t := 12) rfl (by first | exact hc | simp_all) (OpenTo.refl _), pop_indexs (j := 0) (b := s.headD 0) ty9 rfl rfl rfl (hd0 (by rintro rfl; simp [out] at hc))⟩) ?_
  refine dg rfl rfl (fun hc => ⟨_, OpenTo.upd (t := 13) rfl (by first | exact hc | simp_all) (OpenTo.refl _), pop_call ca50 rfl (WeakL.refl _) c_strings_IndexByte⟩) ?_
  refine dg rfl rfl (fun hc => ⟨_, OpenTo.upd (t := 14) rfl (by first | exact hc | simp_all) (OpenTo.refl _), pop_geq rfl rfl⟩) ?_
  refine dp rfl (pop_picko rfl (.inr ⟨_, rfl, fun h => by simp_all⟩) (.inl rfl)) ?_
  refine dp rfl (pop_assign rfl) ?_
  refine dn ?_
  refine hw_ret ?_
  refine ret_p rfl ?_
  show HVal.bool _ = _
  rw [key_ref]
  simp [cut38, small26]

/-- benchwarmer/benchref1.SpanFault -/
theorem c_benchref1_SpanFault {n lo hi : Int}  : ConP Tryz.prog 15 [.int .i64 n, .int .i64 lo, .int .i64 hi] (.int .i64 (if out n lo hi then 1 else 0)) := by
  refine Con.of_body Tryz.func15 rfl Tryz.ntmps15 rfl rfl ?_
  refine hw_reg ?_
  refine dp rfl (pop_assign rfl) ?_
  refine dn ?_
  refine hw_seq ?_
  refine hw_reg ?_
  refine dp rfl (pop_move rfl) ?_
  refine dp rfl (pop_move rfl) ?_
  refine dp rfl (pop_move rfl) ?_
  refine dp rfl (pop_call ca29 rfl (WeakL.refl _) c_benchref1_in) ?_
  refine dp rfl (pop_not rfl) ?_
  refine dn ?_
  refine hw_cond rfl (fun h1 => ?_) (fun h2 => ?_)
  · try simp at h1
    refine hw_reg ?_
    refine dp rfl (pop_assign rfl) ?_
    refine dn ?_
    refine hw_ret ?_
    refine ret_p rfl ?_
    show HVal.int .i64 _ = _
    simp_all
  · try simp at h2
    refine hw_skip ?_
    refine seqQ_n ?_
    refine hw_reg ?_
    refine dp rfl (pop_assign rfl) ?_
    refine dn ?_
    refine hw_ret ?_
    refine ret_p rfl ?_
    show HVal.int .i64 _ = _
    simp_all
end Go.Proofs.YtnlfcjoofdjpiaaGreatDoor
end
section
namespace Go.Proofs
open Go.Shelf
def Tryz.lays190_ren : Go.Shelf.Ren := ⟨fun | 190 => 80 | 125 => 76 | 258 => 109 | 128 => 105 | 129 => 106 | 302 => 134 | 303 => 135 | 304 => 136 | 305 => 137 | 306 => 138 | 307 => 139 | 308 => 140 | 309 => 141 | 310 => 142 | 333 => 154 | 329 => 129 | 330 => 130 | 334 => 155 | 335 => 156 | 336 => 157 | 344 => 160 | n => n, fun | 31 => 61 | 9 => 9 | 3 => 3 | 46 => 101 | 0 => 0 | 51 => 129 | 53 => 110 | 4 => 4 | 183 => 122 | 182 => 121 | 131 => 126 | 5 => 5 | 218 => 142 | 222 => 146 | 228 => 161 | 229 => 162 | n => n, fun | n => n⟩
theorem Tryz.lays190 : Go.Proofs.Lays.n190 Tryz.prog Tryz.lays190_ren := {
  mixed := by kernel_rfl
  f125 := Tryz.func76.trans (congrArg some (by kernel_rfl))
  f128 := Tryz.func105.trans (congrArg some (by kernel_rfl))
  f129 := Tryz.func106.trans (congrArg some (by kernel_rfl))
  f190 := Tryz.func80.trans (congrArg some (by kernel_rfl))
  f258 := Tryz.func109.trans (congrArg some (by kernel_rfl))
  f302 := Tryz.func134.trans (congrArg some (by kernel_rfl))
  f303 := Tryz.func135.trans (congrArg some (by kernel_rfl))
  f304 := Tryz.func136.trans (congrArg some (by kernel_rfl))
  f305 := Tryz.func137.trans (congrArg some (by kernel_rfl))
  f306 := Tryz.func138.trans (congrArg some (by kernel_rfl))
  f307 := Tryz.func139.trans (congrArg some (by kernel_rfl))
  f308 := Tryz.func140.trans (congrArg some (by kernel_rfl))
  f309 := Tryz.func141.trans (congrArg some (by kernel_rfl))
  f310 := Tryz.func142.trans (congrArg some (by kernel_rfl))
  f329 := Tryz.func129.trans (congrArg some (by kernel_rfl))
  f330 := Tryz.func130.trans (congrArg some (by kernel_rfl))
  f333 := Tryz.func154.trans (congrArg some (by kernel_rfl))
  f334 := Tryz.func155.trans (congrArg some (by kernel_rfl))
  f335 := Tryz.func156.trans (congrArg some (by kernel_rfl))
  f336 := Tryz.func157.trans (congrArg some (by kernel_rfl))
  f344 := Tryz.func160.trans (congrArg some (by kernel_rfl))
  t0 := Tryz.underlying0
  a0 := Tryz.isAgg0
  z0 := Tryz.sizeOf0
  v0 := Tryz.zeroValue0
  t3 := Tryz.underlying3
  a3 := Tryz.isAgg3
  z3 := Tryz.sizeOf3
  v3 := Tryz.zeroValue3
  t4 := Tryz.underlying4
  a4 := Tryz.isAgg4
  z4 := Tryz.sizeOf4
  v4 := Tryz.zeroValue4
  t5 := Tryz.underlying5
  a5 := Tryz.isAgg5
  z5 := Tryz.sizeOf5
  v5 := Tryz.zeroValue5
  t9 := Tryz.underlying9
  a9 := Tryz.isAgg9
  z9 := Tryz.sizeOf9
  v9 := Tryz.zeroValue9
  t31 := Tryz.underlying61
  a31 := Tryz.isAgg61
  z31 := Tryz.sizeOf61
  v31 := Tryz.zeroValue61
  t46 := Tryz.underlying101
  a46 := Tryz.isAgg101
  z46 := Tryz.sizeOf101
  v46 := Tryz.zeroValue101
  t51 := Tryz.underlying129
  a51 := Tryz.isAgg129
  z51 := Tryz.sizeOf129
  v51 := Tryz.zeroValue129
  t53 := Tryz.underlying110
  a53 := Tryz.isAgg110
  z53 := Tryz.sizeOf110
  v53 := Tryz.zeroValue110
  t131 := Tryz.underlying126
  a131 := Tryz.isAgg126
  z131 := Tryz.sizeOf126
  v131 := Tryz.zeroValue126
  t182 := Tryz.underlying121
  a182 := Tryz.isAgg121
  z182 := Tryz.sizeOf121
  v182 := Tryz.zeroValue121
  t183 := Tryz.underlying122
  a183 := Tryz.isAgg122
  z183 := Tryz.sizeOf122
  v183 := Tryz.zeroValue122
  t218 := Tryz.underlying142
  a218 := Tryz.isAgg142
  z218 := Tryz.sizeOf142
  v218 := Tryz.zeroValue142
  t222 := Tryz.underlying146
  a222 := Tryz.isAgg146
  z222 := Tryz.sizeOf146
  v222 := Tryz.zeroValue146
  t228 := Tryz.underlying161
  a228 := Tryz.isAgg161
  z228 := Tryz.sizeOf161
  v228 := Tryz.zeroValue161
  t229 := Tryz.underlying162
  a229 := Tryz.isAgg162
  z229 := Tryz.sizeOf162
  v229 := Tryz.zeroValue162 }
def Tryz.lays171_ren : Go.Shelf.Ren := ⟨fun | 171 => 23 | 243 => 47 | 246 => 64 | 283 => 88 | 284 => 89 | 285 => 90 | 286 => 91 | 129 => 106 | 317 => 113 | 318 => 114 | 319 => 115 | 320 => 116 | 337 => 145 | 338 => 146 | n => n, fun | 3 => 3 | 9 => 9 | 2 => 2 | 4 => 4 | 171 => 109 | 0 => 0 | 53 => 110 | 37 => 113 | 5 => 5 | 173 => 114 | 212 => 134 | 51 => 129 | 20 => 20 | 213 => 135 | 46 => 101 | 232 => 166 | 233 => 167 | n => n, fun | 17 => 1 | 18 => 4 | 19 => 5 | n => n⟩
theorem Tryz.lays171 : Go.Proofs.Lays.n171 Tryz.prog Tryz.lays171_ren := {
  mixed := by kernel_rfl
  f129 := Tryz.func106.trans (congrArg some (by kernel_rfl))
  f171 := Tryz.func23.trans (congrArg some (by kernel_rfl))
  f243 := Tryz.func47.trans (congrArg some (by kernel_rfl))
  f246 := Tryz.func64.trans (congrArg some (by kernel_rfl))
  f283 := Tryz.func88.trans (congrArg some (by kernel_rfl))
  f284 := Tryz.func89.trans (congrArg some (by kernel_rfl))
  f285 := Tryz.func90.trans (congrArg some (by kernel_rfl))
  f286 := Tryz.func91.trans (congrArg some (by kernel_rfl))
  f317 := Tryz.func113.trans (congrArg some (by kernel_rfl))
  f318 := Tryz.func114.trans (congrArg some (by kernel_rfl))
  f319 := Tryz.func115.trans (congrArg some (by kernel_rfl))
  f320 := Tryz.func116.trans (congrArg some (by kernel_rfl))
  f337 := Tryz.func145.trans (congrArg some (by kernel_rfl))
  f338 := Tryz.func146.trans (congrArg some (by kernel_rfl))
  t0 := Tryz.underlying0
  a0 := Tryz.isAgg0
  z0 := Tryz.sizeOf0
  v0 := Tryz.zeroValue0
  t2 := Tryz.underlying2
  a2 := Tryz.isAgg2
  z2 := Tryz.sizeOf2
  v2 := Tryz.zeroValue2
  t3 := Tryz.underlying3
  a3 := Tryz.isAgg3
  z3 := Tryz.sizeOf3
  v3 := Tryz.zeroValue3
  t4 := Tryz.underlying4
  a4 := Tryz.isAgg4
  z4 := Tryz.sizeOf4
  v4 := Tryz.zeroValue4
  t5 := Tryz.underlying5
  a5 := Tryz.isAgg5
  z5 := Tryz.sizeOf5
  v5 := Tryz.zeroValue5
  t9 := Tryz.underlying9
  a9 := Tryz.isAgg9
  z9 := Tryz.sizeOf9
  v9 := Tryz.zeroValue9
  t20 := Tryz.underlying20
  a20 := Tryz.isAgg20
  z20 := Tryz.sizeOf20
  v20 := Tryz.zeroValue20
  t37 := Tryz.underlying113
  a37 := Tryz.isAgg113
  z37 := Tryz.sizeOf113
  v37 := Tryz.zeroValue113
  t46 := Tryz.underlying101
  a46 := Tryz.isAgg101
  z46 := Tryz.sizeOf101
  v46 := Tryz.zeroValue101
  t51 := Tryz.underlying129
  a51 := Tryz.isAgg129
  z51 := Tryz.sizeOf129
  v51 := Tryz.zeroValue129
  t53 := Tryz.underlying110
  a53 := Tryz.isAgg110
  z53 := Tryz.sizeOf110
  v53 := Tryz.zeroValue110
  t171 := Tryz.underlying109
  a171 := Tryz.isAgg109
  z171 := Tryz.sizeOf109
  v171 := Tryz.zeroValue109
  t173 := Tryz.underlying114
  a173 := Tryz.isAgg114
  z173 := Tryz.sizeOf114
  v173 := Tryz.zeroValue114
  t212 := Tryz.underlying134
  a212 := Tryz.isAgg134
  z212 := Tryz.sizeOf134
  v212 := Tryz.zeroValue134
  t213 := Tryz.underlying135
  a213 := Tryz.isAgg135
  z213 := Tryz.sizeOf135
  t232 := Tryz.underlying166
  a232 := Tryz.isAgg166
  z232 := Tryz.sizeOf166
  v232 := Tryz.zeroValue166
  t233 := Tryz.underlying167
  a233 := Tryz.isAgg167
  z233 := Tryz.sizeOf167
  v233 := Tryz.zeroValue167
  g17 := by kernel_rfl
  g18 := by kernel_rfl
  g19 := by kernel_rfl }
def Tryz.laysm171_ren : Go.Shelf.Ren := ⟨fun | 171 => 23 | 243 => 47 | 246 => 64 | 283 => 88 | 284 => 89 | 285 => 90 | 286 => 91 | 129 => 106 | 317 => 113 | 318 => 114 | 319 => 115 | 320 => 116 | 337 => 145 | 338 => 146 | n => n, fun | 3 => 3 | 9 => 9 | 2 => 2 | 4 => 4 | 171 => 109 | 0 => 0 | 53 => 110 | 37 => 113 | 5 => 5 | 173 => 114 | 212 => 134 | 51 => 129 | 20 => 20 | 213 => 135 | 46 => 101 | 232 => 166 | 233 => 167 | n => n, fun | 17 => 1 | 18 => 4 | 19 => 5 | n => n⟩
theorem Tryz.laysm171 : Go.Proofs.LaysM.n171 Tryz.prog Tryz.laysm171_ren := {
  mixed := by kernel_rfl
  f129 := Tryz.func106.trans (congrArg some (by kernel_rfl))
  f171 := Tryz.func23.trans (congrArg some (by kernel_rfl))
  f243 := Tryz.func47.trans (congrArg some (by kernel_rfl))
  f246 := Tryz.func64.trans (congrArg some (by kernel_rfl))
  f283 := Tryz.func88.trans (congrArg some (by kernel_rfl))
  f284 := Tryz.func89.trans (congrArg some (by kernel_rfl))
  f285 := Tryz.func90.trans (congrArg some (by kernel_rfl))
  f286 := Tryz.func91.trans (congrArg some (by kernel_rfl))
  f317 := Tryz.func113.trans (congrArg some (by kernel_rfl))
  f318 := Tryz.func114.trans (congrArg some (by kernel_rfl))
  f319 := Tryz.func115.trans (congrArg some (by kernel_rfl))
  f320 := Tryz.func116.trans (congrArg some (by kernel_rfl))
  f337 := Tryz.func145.trans (congrArg some (by kernel_rfl))
  f338 := Tryz.func146.trans (congrArg some (by kernel_rfl))
  t0 := Tryz.underlying0
  a0 := Tryz.isAgg0
  z0 := Tryz.sizeOf0
  v0 := Tryz.zeroValue0
  t2 := Tryz.underlying2
  a2 := Tryz.isAgg2
  z2 := Tryz.sizeOf2
  v2 := Tryz.zeroValue2
  t3 := Tryz.underlying3
  a3 := Tryz.isAgg3
  z3 := Tryz.sizeOf3
  v3 := Tryz.zeroValue3
  t4 := Tryz.underlying4
  a4 := Tryz.isAgg4
  z4 := Tryz.sizeOf4
  v4 := Tryz.zeroValue4
  t5 := Tryz.underlying5
  a5 := Tryz.isAgg5
  z5 := Tryz.sizeOf5
  v5 := Tryz.zeroValue5
  t9 := Tryz.underlying9
  a9 := Tryz.isAgg9
  z9 := Tryz.sizeOf9
  v9 := Tryz.zeroValue9
  t20 := Tryz.underlying20
  a20 := Tryz.isAgg20
  z20 := Tryz.sizeOf20
  v20 := Tryz.zeroValue20
  t37 := Tryz.underlying113
  a37 := Tryz.isAgg113
  z37 := Tryz.sizeOf113
  v37 := Tryz.zeroValue113
  t46 := Tryz.underlying101
  a46 := Tryz.isAgg101
  z46 := Tryz.sizeOf101
  v46 := Tryz.zeroValue101
  t51 := Tryz.underlying129
  a51 := Tryz.isAgg129
  z51 := Tryz.sizeOf129
  v51 := Tryz.zeroValue129
  t53 := Tryz.underlying110
  a53 := Tryz.isAgg110
  z53 := Tryz.sizeOf110
  v53 := Tryz.zeroValue110
  t171 := Tryz.underlying109
  a171 := Tryz.isAgg109
  z171 := Tryz.sizeOf109
  v171 := Tryz.zeroValue109
  t173 := Tryz.underlying114
  a173 := Tryz.isAgg114
  z173 := Tryz.sizeOf114
  v173 := Tryz.zeroValue114
  t212 := Tryz.underlying134
  a212 := Tryz.isAgg134
  z212 := Tryz.sizeOf134
  v212 := Tryz.zeroValue134
  t213 := Tryz.underlying135
  a213 := Tryz.isAgg135
  z213 := Tryz.sizeOf135
  t232 := Tryz.underlying166
  a232 := Tryz.isAgg166
  z232 := Tryz.sizeOf166
  v232 := Tryz.zeroValue166
  t233 := Tryz.underlying167
  a233 := Tryz.isAgg167
  z233 := Tryz.sizeOf167
  v233 := Tryz.zeroValue167
  g17 := by kernel_rfl
  g18 := by kernel_rfl
  g19 := by kernel_rfl
  i0 := by kernel_rfl
  i2 := by kernel_rfl
  i3 := by kernel_rfl
  i4 := by kernel_rfl
  i5 := by kernel_rfl
  i9 := by kernel_rfl
  i20 := by kernel_rfl
  i37 := by kernel_rfl
  i46 := by kernel_rfl
  i51 := by kernel_rfl
  i53 := by kernel_rfl
  i171 := by kernel_rfl
  i173 := by kernel_rfl
  i212 := by kernel_rfl
  i232 := by kernel_rfl
  i233 := by kernel_rfl
  m17 := by kernel_rfl
  m18 := by kernel_rfl
  m19 := by kernel_rfl }
end Go.Proofs
end
section
namespace Go.HL
variable {P : Program}
open Go.Sort Go.Proofs
theorem arr_some {I : Imm} {F : List MObj} {w : World} {b off n cap sz : Nat} {es : List HVal} (h : Sat P I (.arr (.slice (some ⟨b, off, none⟩) n cap) sz es :: F) w) :
    n = es.length ∧ ∃ rc el fr, w.heap[b]? = some (.cells rc el fr) ∧ Free fr rc.size ∧ (∀ e ∈ es, (hcells e).length = sz) ∧ (es.length ≤ cap ∧ cap ≤ 9223372036854775807) ∧ off + cap * sz ≤ rc.size ∧
        (∀ (i j : Nat) (e c : HVal) (v : Value), es[i]? = some e → (hcells e)[j]? = some c → rc[off + i * sz + j]? = some v → V I c v) := by
  rcases h.obj _ List.mem_cons_self with ⟨h0, _⟩ | ⟨b', off', cap', rc, el, fr, h1, h2, h3, h4, h5, h6, h7⟩
  · cases h0
  · cases h1
    exact ⟨rfl, rc, el, fr, h2, h3, h4, h5, h6, h7⟩
theorem holds_row {I : Imm} {F : List MObj} {w : World} {b off n cap : Nat} {l : List (List UInt8)} (h : Sat P I (.arr (.slice (some ⟨b, off, none⟩) n cap) 1 (l.map .str) :: F) w) :
    Holds encStr w b off l.toArray ∧ b < w.heap.size ∧ l.length ≤ cap ∧ n = l.length := by
  obtain ⟨h0, rc, el, fr, h2, h3, h4, h5, h6, h7⟩ := arr_some h
  simp only [List.length_map] at h0 h5
  refine ⟨fun j hj => ?_, ?_, h5.1, h0⟩
  · have hj' : j < l.length := by simpa using hj
    have hlt : off + j < rc.size := by omega
    constructor
    · rw [cell_of h2, Array.getElem?_eq_getElem hlt]
      have hv := h7 j 0 (.str l[j]) (.str l[j]) rc[off + j] (by simp [hj']) (by simp [hcells]) (by simp [Array.getElem?_eq_getElem hlt])
      rw [hv.str_inv]
      simp [hj', encStr]
    · simp only [World.frozen?, h2]
      have := h3 (off + j) hlt
      simpa using this
  · rcases Nat.lt_or_ge b w.heap.size with h' | h'
    · exact h'
    · simp [Array.getElem?_eq_none h'] at h2
theorem sat_row {I : Imm} {F : List MObj} {w : World} {b off n cap n' k : Nat} {os : Array Obj} {l zs : List (List UInt8)} (h : Sat P I (.arr (.slice (some ⟨b, off, none⟩) n cap) 1 (l.map .str) :: F) w) (hz : zs.length = l.length) (hn : n' ≤ l.length) :
    Sat P I (.arr (.slice (some ⟨b, off, none⟩) n' cap) 1 ((zs.take n').map .str) :: F) (grow (putRow encStr (Sort.ahead w k) b off zs.toArray) os) := by
  obtain ⟨h0, rc, el, fr, h2, h3, h4, h5, h6, h7⟩ := arr_some h
  simp only [List.length_map] at h0 h5
  have hlt : b < w.heap.size := by
    rcases Nat.lt_or_ge b w.heap.size with h' | h'
    · exact h'
    · simp [Array.getElem?_eq_none h'] at h2
  have hheap : ∀ c, c < w.heap.size → (grow (putRow encStr (Sort.ahead w k) b off zs.toArray) os).heap[c]? = (w.heap.modify b (onCells (putCells encStr off zs.toArray)))[c]? := fun c hc => by
    simp only [grow, putRow, mapBlock, Sort.ahead]
    rw [Array.getElem?_append_left (by simpa using hc)]
  refine h.change (m' := .arr (.slice (some ⟨b, off, none⟩) n' cap) 1 ((zs.take n').map .str)) (fun c hc hnc => ?_) (fun c hc => .inl hc) (by simp [MObj.blocks]) ?_ rfl rfl rfl
  · rw [hheap c hc, Array.getElem?_modify]
    have : b ≠ c := fun hh => hnc (by subst hh; simp [MObj.blocks])
    rw [if_neg this]
  · refine .inr ⟨b, off, cap, putCells encStr off zs.toArray rc, el, fr, ?_, ?_, ?_, ?_, ?_, ?_, ?_⟩
    · simp [hz, Nat.min_eq_left hn]
    · rw [hheap b hlt, Array.getElem?_modify, if_pos rfl, h2]; rfl
    · simpa [putCells] using h3
    · intro e he; obtain ⟨a, _, rfl⟩ := List.mem_map.1 he; simp [hcells]
    · simp; omega
    · simpa [putCells] using h6
    · intro i j e c v a1 a2 a3
      have hi : i < n' := by
        have := lt_of_get a1; simp at this; omega
      rw [List.getElem?_map, List.getElem?_take_of_lt hi] at a1
      cases hq : zs[i]? with
      | none => rw [hq] at a1; simp at a1
      | some s =>
        rw [hq] at a1; simp at a1; subst a1
        have hj : j = 0 := by have := lt_of_get a2; simp [hcells] at this; omega
        subst hj
        simp [hcells] at a2; subst a2
        have hil : i < zs.length := lt_of_get hq
        have hr : off + i * 1 + 0 < rc.size := by omega
        rw [putCells, Array.getElem?_mapIdx, Array.getElem?_eq_getElem hr, Option.map_some, if_pos ⟨by omega, by simp; omega⟩] at a3
        have e1 : off + i * 1 + 0 - off = i := by omega
        rw [e1] at a3
        have e2 : zs.toArray[i]! = s := by
          rw [getElem!_pos zs.toArray i (by simpa using hil)]
          have := List.getElem?_eq_getElem hil
          rw [hq] at this; simpa using (Option.some.inj this).symm
        rw [e2] at a3
        cases a3
        exact .str s

theorem VL.one {I : Imm} {h : HVal} {args : List Value} (hv : VL I [h] args) : ∃ v, args = [v] ∧ V I h v := by
  obtain ⟨h1, h2⟩ := hv
  match args, h1 with
  | [v], _ => exact ⟨v, rfl, h2 0 h v rfl rfl⟩

def sortS (l : List (List UInt8)) : List (List UInt8) := l.mergeSort fun x y => decide (x ≤ y)
theorem sortS_len (l : List (List UInt8)) : (sortS l).length = l.length := by simp [sortS]

/-- A function that works on a slice of strings in place and hands on nothing. -/
theorem con_row {P : Program} {f : FuncId} {l zs : List (List UInt8)} {v : Value} (hz : zs.length = l.length)
    (h1 : ∀ (b off cap : Nat) (w : World), Holds encStr w b off l.toArray → b < w.heap.size → l.length ≤ cap → Calls P f #[.slice (some ⟨b, off, none⟩) l.length cap] w fun e w' => e = .returned (.tuple #[]) ∧ ∃ n os, w' = grow (putRow encStr (Sort.ahead w n) b off zs.toArray) os)
    (h0 : l = [] → ConP P f [.slice 1 []] (.tup [])) : Con P f [.raw v] [.arr v 1 (l.map .str)] fun x M' => x = .tup [] ∧ M' = [.arr v 1 (zs.map .str)] := by
  intro I F w args ha hs
  obtain ⟨u, rfl, hu⟩ := ha.one
  obtain rfl : u = v := hu.raw_inv
  rcases hs.obj (.arr u 1 (l.map .str)) (by simp) with ⟨rfl, hn⟩ | ⟨b, off, cap, rc, el, fr, rfl, _⟩
  · have hl : l = [] := by simpa using hn
    subst hl
    have hz0 : zs = [] := List.length_eq_zero_iff.1 hz
    subst hz0
    refine (h0 rfl I (.arr (.slice none 0 0) 1 [] :: F) w [.slice none 0 0] (VL.cons (.slice0 _ _ _) VL.nil) (by simpa using hs)).mono ?_
    rintro _ w' ⟨v, h, M', J, rfl, hle, ⟨rfl, rfl⟩, hv, hsat⟩
    exact ⟨v, _, [.arr (.slice none 0 0) 1 []], J, rfl, hle, ⟨rfl, rfl⟩, hv, by simpa using hsat⟩
  · rw [List.length_map] at hs ⊢
    obtain ⟨g1, g2, g3, g4⟩ := holds_row hs
    refine (h1 b off cap w g1 g2 g3).mono ?_
    rintro _ w' ⟨rfl, n, os, rfl⟩
    refine ⟨_, .tup [], _, I, rfl, .refl I, ⟨rfl, rfl⟩, .tup (by simp) (fun j c v h _ => by simp at h), ?_⟩
    have := sat_row (n' := l.length) (k := n) (os := os) hs hz (Nat.le_refl _)
    rw [← hz, List.take_length, hz] at this
    exact this
/-- The same, where the slice comes back, cut. -/
theorem con_rowc {P : Program} {f : FuncId} {l zs : List (List UInt8)} {v : Value} (hz : zs.length ≤ l.length)
    (h1 : ∀ (b off cap : Nat) (w : World), Holds encStr w b off l.toArray → b < w.heap.size → l.length ≤ cap → Calls P f #[.slice (some ⟨b, off, none⟩) l.length cap] w fun e w' => e = .returned (.slice (some ⟨b, off, none⟩) zs.length cap) ∧ ∃ n, w' = putRow encStr (Sort.ahead w n) b off (zs ++ List.replicate (l.length - zs.length) []).toArray)
    (h0 : l = [] → ∀ w, Calls P f #[.slice none 0 0] w fun e w' => e = .returned (.slice none 0 0) ∧ w' = w) : Con P f [.raw v] [.arr v 1 (l.map .str)] fun x M' => ∃ u, x = .raw u ∧ M' = [.arr u 1 (zs.map .str)] := by
  intro I F w args ha hs
  obtain ⟨u, rfl, hu⟩ := ha.one
  obtain rfl : u = v := hu.raw_inv
  rcases hs.obj (.arr u 1 (l.map .str)) (by simp) with ⟨rfl, hn⟩ | ⟨b, off, cap, rc, el, fr, rfl, _⟩
  · have hl : l = [] := by simpa using hn
    subst hl
    have hz0 : zs = [] := List.length_eq_zero_iff.1 (by simpa using hz)
    subst hz0
    refine (h0 rfl w).mono ?_
    rintro _ w' ⟨rfl, rfl⟩
    exact ⟨_, .raw (.slice none 0 0), _, I, rfl, .refl I, ⟨_, rfl, rfl⟩, .raw _ rfl, hs⟩
  · rw [List.length_map] at hs ⊢
    obtain ⟨g1, g2, g3, g4⟩ := holds_row hs
    refine (h1 b off cap w g1 g2 g3).mono ?_
    rintro _ w' ⟨rfl, n, rfl⟩
    refine ⟨_, .raw (.slice (some ⟨b, off, none⟩) zs.length cap), _, I, rfl, .refl I, ⟨_, rfl, rfl⟩, .raw _ rfl, ?_⟩
    have := sat_row (zs := zs ++ List.replicate (l.length - zs.length) []) (n' := zs.length) (k := n) (os := #[]) hs (by simp; omega) hz
    rw [List.take_left' rfl, grow_empty] at this
    exact this
end Go.HL
end
section
namespace Go.HL
theorem compactUpTo_le {α : Type} [BEq α] [LawfulBEq α] [Inhabited α] [DecidableEq α] (d : Array α) (m : Nat) : (Lib.compactUpTo d m).length ≤ m := by
  unfold Lib.compactUpTo
  rw [List.length_map]
  have := List.length_filter_le (Lib.keeps d) (List.range m)
  simpa using this
theorem compact_le (l : List Str) : (Lib.compact l).length ≤ l.length := compactUpTo_le _ _
end Go.HL
end
section
namespace Go.Proofs.YtnlfcjoofdjpiaaGreatDoor
open Go.HL
set_option maxRecDepth 100000
set_option linter.unusedVariables false
set_option linter.unusedSimpArgs false
/-- math/bits.Len64 -/
theorem c_math_bits_Len64   : ConP Tryz.prog 106 [.int .u64 0] (.int .i64 0) := by
  refine Con.of_body Tryz.func106 rfl Tryz.ntmps106 rfl rfl ?_
  refine hw_reg ?_
  refine dp rfl (pop_assign rfl) ?_
  refine dn ?_
  refine hw_seq ?_
  refine hw_reg ?_
  refine dp rfl (pop_move rfl) ?_
  refine dp rfl (pop_geq rfl rfl) ?_
  refine dn ?_
  refine hw_cond_f rfl ?_
  refine hw_skip ?_
  refine seqQ_n ?_
  refine hw_seq ?_
  refine hw_reg ?_
  refine dp rfl (pop_move rfl) ?_
  refine dp rfl (pop_geq rfl rfl) ?_
  refine dn ?_
  refine hw_cond_f rfl ?_
  refine hw_skip ?_
  refine seqQ_n ?_
  refine hw_seq ?_
  refine hw_reg ?_
  refine dp rfl (pop_move rfl) ?_
  refine dp rfl (pop_geq rfl rfl) ?_
  refine dn ?_
  refine hw_cond_f rfl ?_
  refine hw_skip ?_
  refine seqQ_n ?_
  refine hw_reg ?_
  refine dp rfl (pop_move rfl) ?_
  refine dp rfl (pop_move rfl) ?_
  refine dp rfl (pop_conv ty110 ty5 rfl) ?_
  refine dp rfl (pop_indexs (j := 0) (b := 0) ty9 rfl rfl rfl rfl) ?_
  refine dp rfl (pop_conv ty5 ty3 rfl) ?_
  refine dp rfl (pop_add64 rfl rfl (by decide) (by decide)) ?_
  refine dp rfl (pop_assign rfl) ?_
  refine dn ?_
  refine hw_ret ?_
  refine ret_p rfl ?_
  rfl

/-- math/bits.Len -/
theorem c_math_bits_Len   : ConP Tryz.prog 76 [.int .u64 0] (.int .i64 0) := by
  refine Con.of_body Tryz.func76 rfl Tryz.ntmps76 rfl rfl ?_
  refine hw_reg ?_
  refine dp rfl (pop_assign rfl) ?_
  refine dn ?_
  refine hw_seq ?_
  refine hw_cond_f rfl ?_
  refine hw_skip ?_
  refine seqQ_n ?_
  refine hw_reg ?_
  refine dp rfl (pop_move rfl) ?_
  refine dp rfl (pop_call ca106 rfl (WeakL.refl _) c_math_bits_Len64) ?_
  refine dp rfl (pop_assign rfl) ?_
  refine dn ?_
  refine hw_ret ?_
  refine ret_p rfl ?_
  rfl

/-- slices.insertionSortOrdered[string] -/
theorem c_slices_insertionSortOrdered_string   : ConP Tryz.prog 134 [eSs [], .int .i64 0, .int .i64 0] (.tup []) := by
  refine Con.of_body Tryz.func134 rfl Tryz.ntmps134 rfl rfl ?_
  refine hw_reg ?_
  refine dp rfl (pop_move rfl) ?_
  refine dp rfl (pop_add64 rfl rfl (by omega) (by omega)) ?_
  refine dp rfl (pop_assign rfl) ?_
  refine dn ?_
  refine hw_block ?_
  refine hw_loopw [6, 7, 10, 11, 12, 13, 14, 15, 16, 17, 18, 19, 20, 21, 22, 23, 24, 25, 26, 27, 28, 29, 30, 31, 32, 33, 34, 35, 36, 37, 38, 39, 40, 41, 42, 43, 44, 45, 46, 47, 48] (fun (u : Unit) => [(6, .int .i64 1)]) (fun (u : Unit) => []) (fun (u : Unit) => True) (fun (u : Unit) => 0) (()) ?_ ?_ ?_ ?_
  · trivial
  · exact ⟨rfl, trivial⟩
  · exact List.Perm.refl _
  · intro u hu
    refine hw_seq ?_
    refine hw_reg ?_
    refine dp rfl (pop_move rfl) ?_
    refine dp rfl (pop_move rfl) ?_
    refine dp rfl (pop_lss rfl rfl) ?_
    refine dn ?_
    refine hw_cond_f rfl ?_
    refine hw_exit ?_
    refine seqQ_x ?_
    refine loopQ_x ?_
    refine blockQ_eq ?_
    refine ret_n rfl ?_
    rfl

/-- slices.pdqsortOrdered[string] -/
theorem c_slices_pdqsortOrdered_string   : ConP Tryz.prog 109 [eSs [], .int .i64 0, .int .i64 0, .int .i64 0] (.tup []) := by
  refine Con.of_body Tryz.func109 rfl Tryz.ntmps109 rfl rfl ?_
  refine hw_reg ?_
  refine dp rfl (pop_assign rfl) ?_
  refine dn ?_
  refine hw_reg ?_
  refine dp rfl (pop_assign rfl) ?_
  refine dn ?_
  refine hw_block ?_
  refine hw_loopw (1 :: 2 :: 3 :: 8 :: 9 :: 10 :: 11 :: 12 :: 13 :: 14 :: 15 :: 16 :: 17 :: 18 :: 19 :: 20 :: 21 :: 22 :: 23 :: 24 :: 25 :: 26 :: 27 :: 28 :: 29 :: 30 :: 31 :: 32 :: 33 :: 34 :: 35 :: 36 :: 37 :: 38 :: 39 :: 40 :: 41 :: 42 :: 43 :: 44 :: 45 :: 46 :: 47 :: 48 :: 49 :: 50 :: 51 :: 52 :: 53 :: 54 :: 55 :: 56 :: 57 :: 58 :: 59 :: 60 :: 61 :: 62 :: 63 :: 64 :: 65 :: 66 :: 67 :: 68 :: 69 :: 70 :: 71 :: 72 :: 73 :: 74 :: 75 :: 76 :: 77 :: 78 :: 79 :: 80 :: 81 :: 82 :: 83 :: 84 :: 85 :: 86 :: 87 :: 88 :: 89 :: 90 :: 91 :: 92 :: 93 :: 94 :: 95 :: 96 :: 97 :: 98 :: 99 :: 100 :: 101 :: 102 :: 103 :: 104 :: 105 :: 106 :: 107 :: 108 :: 109 :: 110 :: 111 :: 112 :: 113 :: 114 :: 115 :: 116 :: 117 :: 118 :: 119 :: 120 :: 121 :: 122 :: 123 :: 124 :: 125 :: 126 :: 127 :: 128 :: 129 :: 130 :: 131 :: 132 :: 133 :: []) (fun (u : Unit) => [(1, .int .i64 0), (2, .int .i64 0)]) (fun (u : Unit) => []) (fun (u : Unit) => True) (fun (u : Unit) => 0) (()) ?_ ?_ ?_ ?_
  · trivial
  · exact ⟨rfl, rfl, trivial⟩
  · exact List.Perm.refl _
  · intro u hu
    refine hw_block ?_
    refine hw_reg ?_
    refine dp rfl (pop_move rfl) ?_
    refine dp rfl (pop_move rfl) ?_
    refine dp rfl (pop_sub64 rfl rfl (by omega) (by omega)) ?_
    refine dp rfl (pop_assign rfl) ?_
    refine dn ?_
    refine hw_seq ?_
    refine hw_reg ?_
    refine dp rfl (pop_move rfl) ?_
    refine dp rfl (pop_leq rfl rfl) ?_
    refine dn ?_
    refine hw_cond_t rfl ?_
    refine hw_reg ?_
    refine dp rfl (pop_move rfl) ?_
    refine dp rfl (pop_move rfl) ?_
    refine dp rfl (pop_move rfl) ?_
    refine dp rfl (pop_call ca134 rfl (WeakL.refl _) c_slices_insertionSortOrdered_string) ?_
    refine dn ?_
    refine hw_ret ?_
    refine ret_p rfl ?_
    rfl

/-- slices.Sort[[]string,string] -/
theorem c_slices_Sort_nil   : ConP Tryz.prog 80 [eSs []] (.tup []) := by
  refine Con.of_body Tryz.func80 rfl Tryz.ntmps80 rfl rfl ?_
  refine hw_reg ?_
  refine dp rfl (pop_move rfl) ?_
  refine dp rfl (pop_lenm ty61 rfl) ?_
  refine dp rfl (pop_assign rfl) ?_
  refine dn ?_
  refine hw_reg1 ?_
  refine dp rfl (pop_move rfl) ?_
  refine dp rfl (pop_move rfl) ?_
  refine dp rfl (pop_move rfl) ?_
  refine dp rfl (pop_conv ty3 ty101 rfl) ?_
  refine dp rfl (pop_call ca76 rfl (WeakL.refl _) c_math_bits_Len) ?_
  refine dp rfl (pop_call ca109 rfl (WeakL.refl _) c_slices_pdqsortOrdered_string) ?_
  refine dn ?_
  refine ret_n rfl ?_
  rfl

/-- slices.Sort: the slice holds the same strings in order -/
theorem c_slices_Sort {l : List Str} {v : Value} (hl : l.length ≤ 1000000) : Con Tryz.prog 80 [.raw v] [.arr v 1 (l.map .str)] fun x M' => x = .tup [] ∧ M' = [.arr v 1 ((sortS l).map .str)] :=
  con_row (sortS_len l) (fun b off cap w h1 h2 _ => Any.slices_Sort_string Tryz.lays190 b off cap l w h1 h2 (by omega)) (fun _ => c_slices_Sort_nil)
end Go.Proofs.YtnlfcjoofdjpiaaGreatDoor
end
section
namespace Go.HL
open Op (bytesLess)
theorem cmpI_flip (a b : Int) : cmpI a b = -cmpI b a := by
  unfold cmpI; split <;> split <;> (try split) <;> omega
theorem cmpS_flip (a b : Str) : cmpS a b = -cmpS b a := by
  rw [cmpS_eq, cmpS_eq]
  rcases less_total a b with h | h | h
  · have hne : a ≠ b := fun e => by subst e; rw [less_irrefl] at h; cases h
    simp [h, less_asymm h, hne.symm]
  · subst h; simp [less_irrefl]
  · have hne : a ≠ b := fun e => by subst e; rw [less_irrefl] at h; cases h
    simp [h, less_asymm h, hne]
theorem orI_flip (a b : Int) : orI [-a, -b] = -orI [a, b] := by
  by_cases h1 : a = 0 <;> by_cases h2 : b = 0 <;> simp [orI, h1, h2]
theorem ord_flip (a b c d : Int) (h1 : a = -b) (h2 : c = -d) : decide (0 ≤ orI [a, c]) = decide (orI [b, d] ≤ 0) := by
  subst h1 h2; rw [orI_flip, Bool.eq_iff_iff]; simp
theorem ord_is (a c : Str) (e f : Int) : decide (0 ≤ orI [cmpI e f, cmpS a c]) = decide (orI [cmpI f e, cmpS c a] ≤ 0) := ord_flip _ _ _ _ (cmpI_flip _ _) (cmpS_flip _ _)
theorem ord_si (a c : Str) (e f : Int) : decide (0 ≤ orI [cmpS a c, cmpI e f]) = decide (orI [cmpS c a, cmpI f e] ≤ 0) := ord_flip _ _ _ _ (cmpS_flip _ _) (cmpI_flip _ _)
def refSwaps (r : Room) (l : List Swap) : Int := if 600 < l.length then 2 else swapsGo r l 0 l
def isTwice (l : List Str) : Bool := decide ((Lib.compact (sortS l)).length < l.length)
def refKeepsGo (r : Room) (l : List Keep) : Nat → List Str → List Keep → Int
  | _, who, [] => if isTwice who then 6 else 0
  | k, who, x :: t => if !(r.Teams.contains x.Team) || !(r.Players.contains x.Player) then 8 else if out x.Round 1 r.Rounds then 1
    else if decide (0 < k) && decide (orI [cmpS x.Team (l.getD (k - 1) keep0).Team, cmpI x.Round (l.getD (k - 1) keep0).Round] ≤ 0) then 7
    else refKeepsGo r l (k + 1) (who ++ [x.Player]) t
def refKeeps (r : Room) (l : List Keep) : Int := if 600 < l.length then 2 else refKeepsGo r l 0 [] l
def draftFault (r : Room) (k : List Keep) (s : List Swap) : Int := if checkRoom r != 0 then checkRoom r else orI [refKeeps r k, refSwaps r s]
def refOpenFault (r : Room) (k : List Keep) (s : List Swap) : Int := if draftFault r k s != 0 then draftFault r k s else clashGo s k
theorem clash_eq (x : Keep) (s : List Swap) : (s.any fun y => y.Round == x.Round && y.Of == x.Team) = s.any (clash x) := rfl
def tfor (r : Room) (s : List Swap) : Nat → List Str → List Turn
  | _, [] => []
  | i, t :: l => ⟨((i / r.Teams.length : Nat) : Int) + 1, t, owner (((i / r.Teams.length : Nat) : Int) + 1) t s⟩ :: tfor r s (i + 1) l
theorem tfor_len (r : Room) (s : List Swap) : ∀ (i : Nat) (l : List Str), (tfor r s i l).length = l.length
  | _, [] => rfl
  | i, _ :: l => by simp [tfor, tfor_len r s (i + 1) l]
theorem tfor_app (r : Room) (s : List Swap) : ∀ (i : Nat) (a b : List Str), tfor r s i (a ++ b) = tfor r s i a ++ tfor r s (i + a.length) b
  | i, [], b => by simp [tfor]
  | i, x :: a, b => by
    have : i + 1 + a.length = i + (a.length + 1) := by omega
    simp [tfor, tfor_app r s (i + 1) a b, this]
theorem tfor_get (r : Room) (s : List Swap) : ∀ (l : List Str) (i j : Nat) (t : Str), l[j]? = some t → (tfor r s i l)[j]? = some ⟨(((i + j) / r.Teams.length : Nat) : Int) + 1, t, owner ((((i + j) / r.Teams.length : Nat) : Int) + 1) t s⟩
  | [], i, j, t, h => by simp at h
  | x :: l, i, 0, t, h => by simp at h; subst h; simp [tfor]
  | x :: l, i, j + 1, t, h => by
    have := tfor_get r s l (i + 1) j t (by simpa using h)
    have e : i + 1 + j = i + (j + 1) := by omega
    rw [e] at this
    simpa [tfor] using this
theorem tfor_round (r : Room) (s : List Swap) (n : Nat) : ∀ (l : List Str) (i : Nat), n * r.Teams.length ≤ i → i + l.length ≤ (n + 1) * r.Teams.length → tfor r s i l = l.map fun t => ⟨(n : Int) + 1, t, owner ((n : Int) + 1) t s⟩
  | [], i, _, _ => rfl
  | t :: l, i, h1, h2 => by
    simp only [List.length_cons] at h2
    have hd : i / r.Teams.length = n := by
      rw [Nat.succ_mul] at h2
      rw [Nat.div_eq_iff (by omega)]
      constructor <;> omega
    simp only [tfor, hd, List.map_cons, tfor_round r s n l (i + 1) (by omega) (by omega)]
theorem tfor_turns (r : Room) (s : List Swap) : ∀ n, tfor r s 0 (ownFrom r n) = turnsFrom r s n
  | 0 => rfl
  | n + 1 => by
    rw [ownFrom, tfor_app, tfor_turns r s n, turnsFrom, Nat.zero_add, ownFrom_len]
    congr 1
    have hl : (if backwards r.Way ((n : Int) + 1) then r.Teams.reverse else r.Teams).length = r.Teams.length := by split <;> simp
    rw [tfor_round r s n _ _ (Nat.le_refl _) (by rw [hl, Nat.succ_mul]; omega)]
    rfl
theorem ref_turns (r : Room) (s : List Swap) : tfor r s 0 (ownTurns r) = turns r s := tfor_turns r s _
theorem tdiv_nat (a b : Nat) : ((a : Int)).tdiv (b : Int) = ((a / b : Nat) : Int) := by
  simp [Int.ofNat_tdiv]
theorem take_map_snoc {α β : Type} (f : α → β) {l : List α} {k : Nat} {x : α} (h : l[k]? = some x) : (l.take (k + 1)).map f = (l.take k).map f ++ [f x] := by
  rw [List.take_add_one, h]; simp
end Go.HL
end
section
namespace Go.HL
variable {P : Program}
section
variable {P : Program} {e : Env} {dst : Option Tmp} {ty : TypeId} {pos : String} {af : Array Edge} {g : Option (Nat × Bool)} {M : List MObj} {K : HVal → List MObj → Prop}
theorem perm_erase {α : Type} : ∀ {l : List α} {i : Nat} {x : α}, l[i]? = some x → l.Perm (x :: l.eraseIdx i)
  | [], i, x, h => by simp at h
  | y :: l, 0, x, h => by simp at h; subst h; exact .refl _
  | y :: l, i + 1, x, h => by
    have := perm_erase (l := l) (i := i) (x := x) (by simpa using h)
    exact (this.cons y).trans (.swap _ _ _)
/-- A call on one of the owned objects. -/
theorem eop_callx {f : FuncId} {args : Array Operand} {ats : Array TypeId} {hs hs' : List HVal} {i : Nat} {m : MObj} {Q : HVal → List MObj → Prop} (hc : Callable P f) (ha : evalL e args.toList = some hs) (hw : WeakL hs hs') (hm : M[i]? = some m)
    (hp : Con P f hs' [m] Q) (hk : ∀ h M', Q h M' → K h (M' ++ M.eraseIdx i)) : EOp P e M ⟨dst, .call ⟨.value (.func f), args, ats⟩, ty, pos, af, g⟩ K :=
  eop_callf (M1 := [m]) hc ha hw (perm_erase hm) hp hk
/-- The length of an owned slice. -/
theorem eop_lenm {α : Type} {f : α → HVal} {x : Operand} {t el : TypeId} {size bytes : Nat} {zero : Value} {i : Nat} {v : Value} {sz : Nat} {es : List α} (hf : Fits P t (.slice el) size bytes zero) (hx : evalO e x = some (.raw v))
    (hm : M[i]? = some (.arr v sz (es.map f))) (hk : K (.int .i64 es.length) M) : EOp P e M ⟨dst, .call ⟨.builtin .len, #[x], #[t]⟩, ty, pos, af, g⟩ K := by
  refine eop_len hf hx hm ?_
  rw [List.length_map]; exact hk
/-- An element of an owned slice is loaded, whole or in part, through its address. -/
theorem eop_load_el {α : Type} {f : α → HVal} {x : Operand} {t : TypeId} {d : TD} {size bytes : Nat} {zero : Value} {i b off cap n sz j o : Nat} {es : List α} {y : α} (k : Nat) {h : HVal} (hf : Fits P t d size bytes zero)
    (hx : evalO e x = some (.raw (.pointer (some ⟨b, o, none⟩)))) (ho' : o = off + j * sz + k) (hm : M[i]? = some (.arr (.slice (some ⟨b, off, none⟩) n cap) sz (es.map f))) (hj : es[j]? = some y)
    (hd : d.isAgg = false) (hh : (hcells (f y))[k]? = some h) (hk : K h M) : EOp P e M ⟨dst, .load t x, ty, pos, af, g⟩ K :=
  eop_load_arr (j := j) (f := k) (y := f y) hf hx ho' hm (by rw [List.getElem?_map, hj]; rfl) (.inl ⟨hd, hh⟩) hk
end
section
variable {P : Program} {ops : Array Oper} {n : Nat} {K : Env → List MObj → Prop} {rest : List Oper} {e : Env} {M : List MObj} {d : Nat} {op : Op} {ty : TypeId} {pos : String} {af : Array Edge}
/-- An operation with an effect under a guard: what it brings about holds where it is not carried out as well. -/
theorem dgx {j : Nat} {want c : Bool} (Q : HVal → List MObj → Prop) (hd : Nat.blt d n = true) (hg : guardC ops e j want = some c) (hn : c = false → ∃ x, Q x M)
    (hp : c = true → ∃ e2, OpenTo e e2 ∧ EOp P e2 M ⟨some d, op, ty, pos, af, some (j, want)⟩ Q)
    (k : ∀ x M', Q x M' → Der P ops n K rest (upd e d (.opt c x)) M') : Der P ops n K (⟨some d, op, ty, pos, af, some (j, want)⟩ :: rest) e M :=
  ⟨fun t ht => by simp at ht; subst ht; exact blt_lt hd, c, hg, fun hc => by
    obtain ⟨e2, h1, h2⟩ := hp hc
    intro I F a w ho hs
    exact Oper.wp_noQ (fun _ _ ⟨v, x, M', J, h3, h4, h5, h7, h8⟩ => ⟨v, .opt c x, M', J, h3, h4, k x M' h5, .opt (fun _ => h7) (fun hf => by rw [hc] at hf; cases hf), h8⟩) (h2 I F a w (ho.open h1) hs),
   fun hc => by
    obtain ⟨x, hx⟩ := hn hc
    subst hc
    exact ⟨x, k x M hx⟩⟩
end
def tailOff (cap off sz : Nat) : Nat := if cap = 1 then off else off + sz
theorem Sat.arr_tail {I : Imm} {F : List MObj} {w : World} {b off cap sz : Nat} {x : HVal} {es : List HVal} (h : Sat P I (.arr (.slice (some ⟨b, off, none⟩) (es.length + 1) cap) sz (x :: es) :: F) w) :
    Sat P I (.arr (.slice (some ⟨b, tailOff cap off sz, none⟩) es.length (cap - 1)) sz es :: F) w := by
  obtain ⟨_, rc, el, fr, h2, h3, h4, h5, h6, h7⟩ := arr_some h
  simp only [List.length_cons] at h5
  refine h.change (m' := .arr (.slice (some ⟨b, tailOff cap off sz, none⟩) es.length (cap - 1)) sz es) (fun _ _ _ => rfl) (fun c hc => .inl hc) (by simp [MObj.blocks]) ?_ rfl rfl rfl
  have hcs : cap * sz = (cap - 1) * sz + sz := by
    conv => lhs; rw [show cap = cap - 1 + 1 by omega]
    rw [Nat.succ_mul]
  refine .inr ⟨b, tailOff cap off sz, cap - 1, rc, el, fr, rfl, h2, h3, fun e he => h4 e (List.mem_cons_of_mem _ he), by omega, ?_, ?_⟩
  · unfold tailOff; split
    · omega
    · omega
  · intro i j e c v a1 a2 a3
    have hi := lt_of_get a1
    have ht : tailOff cap off sz = off + sz := by unfold tailOff; rw [if_neg (by omega)]
    rw [ht] at a3
    refine h7 (i + 1) j e c v (by simpa using a1) a2 ?_
    rw [Nat.succ_mul]
    have e1 : off + (i * sz + sz) + j = off + sz + i * sz + j := by omega
    rw [e1]; exact a3
theorem Ghost.tail {e : Env} {M : List MObj} {b off cap sz : Nat} {x : HVal} {es : List HVal} : Ghost e (.arr (.slice (some ⟨b, off, none⟩) (es.length + 1) cap) sz (x :: es) :: M) e (.arr (.slice (some ⟨b, tailOff cap off sz, none⟩) es.length (cap - 1)) sz es :: M) :=
  fun _ I F tmps w h1 h2 => ⟨I, .refl I, h1, h2.arr_tail⟩
section
variable {P : Program} {e : Env} {dst : Option Tmp} {ty : TypeId} {pos : String} {af : Array Edge} {g : Option (Nat × Bool)}
/-- The tail of a slice whose header is known. -/
theorem pop_tail {x : Operand} {t el : TypeId} {size bytes sz b2 : Nat} {zero z2 : Value} {d : TD} {b off n cap : Nat}
    (hf : Fits P t (.slice el) size bytes zero) (hel : Fits P el d sz b2 z2) (hx : evalO e x = some (.raw (.slice (some ⟨b, off, none⟩) (n + 1) cap))) (hc : n + 1 ≤ cap) :
    POp P e ⟨dst, .slice t x (some (.const (.int .i64 1))) none none, ty, pos, af, g⟩ (.raw (.slice (some ⟨b, tailOff cap off sz, none⟩) n (cap - 1))) :=
  POp.of_val fun I a w ho => by
    have h1 := (ho.one (x := x) (by simp [Op.operands]) hx).raw_inv
    have hb : (Instr.sliceBounds true (n + 1) cap (Option.map a.eval (some (.const (.int .i64 1)))) (Option.map a.eval none) none).run P w = .ok (1, n + 1, cap) w :=
      run_bounds (P := P) (e := e) (lo := some (.const (.int .i64 1))) (hi := none) (l := 1) (h := n + 1) (len := n + 1) (cap := cap) ho (by intro y hy; simp [Op.operands, hy]) (by intro y hy; simp [Op.operands, hy]) ⟨_, _, rfl, rfl⟩ rfl (by omega) (Nat.le_refl _) hc true w
    refine ⟨_, ?_, .raw _ rfl⟩
    simp only [Option.map_some, Option.map_none] at hb
    simp [execOp, Instr.sliceAt, run_underlying hf.slice, h1, Instr.slice, hb, hel.run_sizeOf, tailOff]
    try (split <;> simp_all [addr_add])
end
end Go.HL
end
section
namespace Go.HL
abbrev pAt (b : Nat) : HVal := .raw (.pointer (some ⟨b, 0, none⟩))
/-- A stream of numbers of which a have been drawn. -/
abbrev St (b : Nat) (l : List Int) (a : Nat) : MObj := .cells b [.slice 1 (l.map (.int .i64)), .int .i64 (a : Int)]
def below (x n : Int) : Int := if n < 1 then 0 else if x.tmod n < 0 then x.tmod n + n else x.tmod n
theorem below_nat (x n : Int) : ∃ y : Nat, below x n = (y : Int) ∧ (y : Int) < max n 1 := by
  have h : 0 ≤ below x n ∧ below x n < max n 1 := by
    unfold below
    split
    · omega
    · have h1 := Int.tmod_lt_of_pos x (show 0 < n by omega)
      have h2 : -n < x.tmod n := by
        have := Int.neg_lt_tmod_of_pos' x n (by omega)
        exact this
      split <;> omega
  exact ⟨(below x n).toNat, by omega, by omega⟩
where
  Int.neg_lt_tmod_of_pos' (x n : Int) (h : 0 < n) : -n < x.tmod n := by
    rcases Int.le_total 0 x with hx | hx
    · have := Int.tmod_nonneg n hx; omega
    · have e : x.tmod n = -((-x).tmod n) := by rw [Int.neg_tmod]; simp
      have := Int.tmod_lt_of_pos (-x) h
      omega
theorem getI {L : List Int} {y : Nat} (h : (y : Int) < max (L.length : Int) 1) (h0 : 0 < L.length) : ∃ z, L[y]? = some z ∧ z ∈ L :=
  ⟨L[y]'(by omega), List.getElem?_eq_getElem _, List.getElem_mem _⟩
theorem getS {L : List Str} {y : Nat} (h : (y : Int) < max (L.length : Int) 1) (h0 : 0 < L.length) : ∃ z, L[y]? = some z ∧ z ∈ L :=
  ⟨L[y]'(by omega), List.getElem?_eq_getElem _, List.getElem_mem _⟩
theorem tmod_nat (a b : Nat) : ((a : Int)).tmod (b : Int) = ((a % b : Nat) : Int) := by
  exact (Int.ofNat_tmod a b).symm
end Go.HL
end
section
namespace Go.Proofs.YtnlfcjoofdjpiaaGreatDoor
open Go.HL
set_option maxRecDepth 100000
set_option linter.unusedVariables false
set_option linter.unusedSimpArgs false
/-- benchwarmer/benchmake.Below -/
theorem c_benchmake_Below {x n : Int} (hn : n ≤ 4000000000) : ConP Tryz.prog 48 [.int .i64 x, .int .i64 n] (.int .i64 (below x n)) := by
  refine Con.of_body Tryz.func48 rfl Tryz.ntmps48 rfl rfl ?_
  refine hw_reg ?_
  refine dp rfl (pop_assign rfl) ?_
  refine dn ?_
  refine hw_seq ?_
  refine hw_reg ?_
  refine dp rfl (pop_move rfl) ?_
  refine dp rfl (pop_lss rfl rfl) ?_
  refine dn ?_
  refine hw_cond rfl (fun h1 => ?_) (fun h2 => ?_)
  · try simp at h1
    refine hw_reg ?_
    refine dp rfl (pop_assign rfl) ?_
    refine dn ?_
    refine hw_ret ?_
    refine ret_p rfl ?_
    show HVal.int .i64 _ = _
    simp_all [below]
    try omega
  · try simp at h2
    refine hw_skip ?_
    refine seqQ_n ?_
    refine hw_reg ?_
    refine dp rfl (pop_move rfl) ?_
    refine dp rfl (pop_move rfl) ?_
    refine dp rfl (pop_rem rfl rfl (by omega)) ?_
    refine dp rfl (pop_assign rfl) ?_
    refine dn ?_
    refine hw_seq ?_
    refine hw_reg ?_
    refine dp rfl (pop_move rfl) ?_
    refine dp rfl (pop_lss rfl rfl) ?_
    refine dn ?_
    refine hw_cond rfl (fun h3 => ?_) (fun h4 => ?_)
    · try simp at h3
      refine hw_reg1 ?_
      refine dp rfl (pop_move rfl) ?_
      refine dp rfl (pop_move rfl) ?_
      have hm := Int.tmod_lt_of_pos x (show 0 < n by omega)
      obtain ⟨y, hy1, hy2⟩ := below_nat x n
      have hb : below x n = x.tmod n + n := by unfold below; rw [if_neg (by omega), if_pos (by omega)]
      refine dp rfl (pop_add64 rfl rfl (by omega) (by omega)) ?_
      refine dp rfl (pop_assign rfl) ?_
      refine dn ?_
      refine seqQ_n ?_
      refine hw_reg ?_
      refine dp rfl (pop_move rfl) ?_
      refine dp rfl (pop_assign rfl) ?_
      refine dn ?_
      refine hw_ret ?_
      refine ret_p rfl ?_
      show HVal.int .i64 _ = _
      simp_all [below]
      try omega
    · try simp at h4
      refine hw_skip ?_
      refine seqQ_n ?_
      refine hw_reg ?_
      refine dp rfl (pop_move rfl) ?_
      refine dp rfl (pop_assign rfl) ?_
      refine dn ?_
      refine hw_ret ?_
      refine ret_p rfl ?_
      show HVal.int .i64 _ = _
      simp_all [below]
      try omega

/-- (*benchwarmer/benchmake.Stream).Next -/
theorem c_benchmake_Stream_Next {b : Nat} {l : List Int} {a : Nat} {n : Int} (ha : a ≤ 1000000) (hn : n ≤ 4000000000) : Con Tryz.prog 26 [pAt b, .int .i64 n] [St b l a] (fun x M' => ∃ y : Nat, x = .int .i64 (y : Int) ∧ (y : Int) < max n 1 ∧ M' = [St b l (a + 1)]) := by
  refine Con.of_body Tryz.func26 rfl Tryz.ntmps26 rfl rfl ?_
  refine hw_reg ?_
  refine dp rfl (pop_assign rfl) ?_
  refine dn ?_
  refine hw_reg ?_
  refine dp rfl (pop_move rfl) ?_
  refine dp rfl ((by first | exact pop_nilCheck rfl | exact pop_nilCheck_raw rfl)) ?_
  refine dp rfl (pop_fieldAddr_raw ty25 rfl ty3 (by decide) rfl) ?_
  first
  | refine de rfl (eop_load (i := 0) ty3 rfl rfl (.inl ⟨rfl, rfl⟩) ?_)
  | refine de rfl (eop_load (i := 1) ty3 rfl rfl (.inl ⟨rfl, rfl⟩) ?_)
  | refine de rfl (eop_load (i := 2) ty3 rfl rfl (.inl ⟨rfl, rfl⟩) ?_)
  | refine de rfl (eop_load (i := 3) ty3 rfl rfl (.inl ⟨rfl, rfl⟩) ?_)
  refine dp rfl (pop_add64 rfl rfl (by omega) (by omega)) ?_
  refine dp rfl ((by first | exact pop_nilCheck rfl | exact pop_nilCheck_raw rfl)) ?_
  refine dp rfl (pop_fieldAddr_raw ty25 rfl ty3 (by decide) rfl) ?_
  first
  | refine de0 (eop_store (i := 0) ty3 rfl rfl rfl rfl rfl (Nat.le_of_ble_eq_true rfl) ?_)
  | refine de0 (eop_store (i := 1) ty3 rfl rfl rfl rfl rfl (Nat.le_of_ble_eq_true rfl) ?_)
  | refine de0 (eop_store (i := 2) ty3 rfl rfl rfl rfl rfl (Nat.le_of_ble_eq_true rfl) ?_)
  | refine de0 (eop_store (i := 3) ty3 rfl rfl rfl rfl rfl (Nat.le_of_ble_eq_true rfl) ?_)
  refine dn ?_
  refine hw_seq ?_
  refine hw_reg ?_
  refine dp rfl (pop_move rfl) ?_
  refine dp rfl ((by first | exact pop_nilCheck rfl | exact pop_nilCheck_raw rfl)) ?_
  refine dp rfl (pop_fieldAddr_raw ty25 rfl ty22 (by decide) rfl) ?_
  first
  | refine de rfl (eop_load (i := 0) ty22 rfl rfl (.inl ⟨rfl, rfl⟩) ?_)
  | refine de rfl (eop_load (i := 1) ty22 rfl rfl (.inl ⟨rfl, rfl⟩) ?_)
  | refine de rfl (eop_load (i := 2) ty22 rfl rfl (.inl ⟨rfl, rfl⟩) ?_)
  | refine de rfl (eop_load (i := 3) ty22 rfl rfl (.inl ⟨rfl, rfl⟩) ?_)
  refine dp rfl (pop_lenm ty22 rfl) ?_
  refine dp rfl (pop_eql rfl rfl) ?_
  refine dn ?_
  refine hw_cond rfl (fun h1 => ?_) (fun h2 => ?_)
  · try simp at h1
    refine hw_reg ?_
    refine dp rfl (pop_move rfl) ?_
    refine dp rfl ((by first | exact pop_nilCheck rfl | exact pop_nilCheck_raw rfl)) ?_
    refine dp rfl (pop_fieldAddr_raw ty25 rfl ty3 (by decide) rfl) ?_
    first
    | refine de rfl (eop_load (i := 0) ty3 rfl rfl (.inl ⟨rfl, rfl⟩) ?_)
    | refine de rfl (eop_load (i := 1) ty3 rfl rfl (.inl ⟨rfl, rfl⟩) ?_)
    | refine de rfl (eop_load (i := 2) ty3 rfl rfl (.inl ⟨rfl, rfl⟩) ?_)
    | refine de rfl (eop_load (i := 3) ty3 rfl rfl (.inl ⟨rfl, rfl⟩) ?_)
    refine dp rfl (pop_mul rfl rfl) ?_
    refine dp rfl (pop_move rfl) ?_
    refine dp rfl (pop_call ca48 rfl (WeakL.refl _) (c_benchmake_Below (by first | assumption | omega | (simp; omega) | simp_all))) ?_
    refine dp rfl (pop_assign rfl) ?_
    refine dn ?_
    refine hw_ret ?_
    refine ret_q rfl ?_
    obtain ⟨y, h1, h2⟩ := below_nat _ n
    exact ⟨y, congrArg _ h1, h2, rfl⟩
  · try simp at h2
    refine hw_skip ?_
    refine seqQ_n ?_
    have hl0 : 0 < l.length := List.length_pos_iff.2 (by simpa using h2)
    refine hw_draw (fun M => ∃ i : Nat, M[i]? = some (St b l (a + 1))) [3, 8] mixed ?_
    refine ahp 0 rfl rfl (by kernel_rfl) (by kernel_rfl) (pop_move rfl) ?_
    refine ahp 1 rfl rfl (by kernel_rfl) (by kernel_rfl) ((by first | exact pop_nilCheck rfl | exact pop_nilCheck_raw rfl)) ?_
    refine ahp 2 rfl rfl (by kernel_rfl) (by kernel_rfl) (pop_fieldAddr_raw ty25 rfl ty3 (by decide) rfl) ?_
    refine ahl 3 rfl rfl (by kernel_rfl) (by kernel_rfl) (by simp) (by first | exact ⟨0, rfl⟩ | exact ⟨1, rfl⟩ | exact ⟨2, rfl⟩) (fun M hM => by obtain ⟨i, hi⟩ := hM; exact eop_load (i := i) ty3 rfl hi (.inl ⟨rfl, rfl⟩) ⟨rfl, rfl⟩) ?_
    refine ahp 4 rfl rfl (by kernel_rfl) (by kernel_rfl) (pop_sub64 rfl rfl (by omega) (by omega)) ?_
    refine ahp 5 rfl rfl (by kernel_rfl) (by kernel_rfl) (pop_move rfl) ?_
    refine ahp 6 rfl rfl (by kernel_rfl) (by kernel_rfl) ((by first | exact pop_nilCheck rfl | exact pop_nilCheck_raw rfl)) ?_
    refine ahp 7 rfl rfl (by kernel_rfl) (by kernel_rfl) (pop_fieldAddr_raw ty25 rfl ty22 (by decide) rfl) ?_
    refine ahl 8 rfl rfl (by kernel_rfl) (by kernel_rfl) (by simp) (by first | exact ⟨0, rfl⟩ | exact ⟨1, rfl⟩ | exact ⟨2, rfl⟩) (fun M hM => by obtain ⟨i, hi⟩ := hM; exact eop_load (i := i) ty22 rfl hi (.inl ⟨rfl, rfl⟩) ⟨rfl, rfl⟩) ?_
    refine ahp 9 rfl rfl (by kernel_rfl) (by kernel_rfl) (pop_lenm ty22 rfl) ?_
    refine ahp 10 rfl rfl (by kernel_rfl) (by kernel_rfl) (pop_eq (h' := .int .i64 ((a % l.length : Nat) : Int)) (pop_rem rfl rfl (by omega)) (by show HVal.int .i64 (((a : Int) + 1 - 1).tmod _) = _; rw [show ((a : Int) + 1 - 1) = (a : Int) by omega]; exact congrArg _ (tmod_nat _ _))) ?_
    refine ahp 11 rfl rfl (by kernel_rfl) (by kernel_rfl) (pop_assign rfl) ?_
    refine ahz (by kernel_rfl) ?_
    refine hw_draw (fun M => ∃ i : Nat, M[i]? = some (St b l (a + 1))) [3, 8] mixed ?_
    refine ahp 0 rfl rfl (by kernel_rfl) (by kernel_rfl) (pop_move rfl) ?_
    refine ahp 1 rfl rfl (by kernel_rfl) (by kernel_rfl) ((by first | exact pop_nilCheck rfl | exact pop_nilCheck_raw rfl)) ?_
    refine ahp 2 rfl rfl (by kernel_rfl) (by kernel_rfl) (pop_fieldAddr_raw ty25 rfl ty3 (by decide) rfl) ?_
    refine ahl 3 rfl rfl (by kernel_rfl) (by kernel_rfl) (by simp) (by first | exact ⟨0, rfl⟩ | exact ⟨1, rfl⟩ | exact ⟨2, rfl⟩) (fun M hM => by obtain ⟨i, hi⟩ := hM; exact eop_load (i := i) ty3 rfl hi (.inl ⟨rfl, rfl⟩) ⟨rfl, rfl⟩) ?_
    refine ahp 4 rfl rfl (by kernel_rfl) (by kernel_rfl) (pop_sub64 rfl rfl (by omega) (by omega)) ?_
    refine ahp 5 rfl rfl (by kernel_rfl) (by kernel_rfl) (pop_move rfl) ?_
    refine ahp 6 rfl rfl (by kernel_rfl) (by kernel_rfl) ((by first | exact pop_nilCheck rfl | exact pop_nilCheck_raw rfl)) ?_
    refine ahp 7 rfl rfl (by kernel_rfl) (by kernel_rfl) (pop_fieldAddr_raw ty25 rfl ty22 (by decide) rfl) ?_
    refine ahl 8 rfl rfl (by kernel_rfl) (by kernel_rfl) (by simp) (by first | exact ⟨0, rfl⟩ | exact ⟨1, rfl⟩ | exact ⟨2, rfl⟩) (fun M hM => by obtain ⟨i, hi⟩ := hM; exact eop_load (i := i) ty22 rfl hi (.inl ⟨rfl, rfl⟩) ⟨rfl, rfl⟩) ?_
    refine ahp 9 rfl rfl (by kernel_rfl) (by kernel_rfl) (pop_lenm ty22 rfl) ?_
    refine ahp 10 rfl rfl (by kernel_rfl) (by kernel_rfl) (pop_quo rfl rfl (by omega)) ?_
    refine ahp 11 rfl rfl (by kernel_rfl) (by kernel_rfl) (pop_assign rfl) ?_
    refine ahz (by kernel_rfl) ?_
    refine hw_reg ?_
    refine dp rfl (pop_move rfl) ?_
    refine dp rfl ((by first | exact pop_nilCheck rfl | exact pop_nilCheck_raw rfl)) ?_
    refine dp rfl (pop_fieldAddr_raw ty25 rfl ty22 (by decide) rfl) ?_
    first
    | refine de rfl (eop_load (i := 0) ty22 rfl rfl (.inl ⟨rfl, rfl⟩) ?_)
    | refine de rfl (eop_load (i := 1) ty22 rfl rfl (.inl ⟨rfl, rfl⟩) ?_)
    | refine de rfl (eop_load (i := 2) ty22 rfl rfl (.inl ⟨rfl, rfl⟩) ?_)
    | refine de rfl (eop_load (i := 3) ty22 rfl rfl (.inl ⟨rfl, rfl⟩) ?_)
    refine dp rfl (pop_move rfl) ?_
    refine dp rfl (pop_idx (j := a % l.length) (a := l[a % l.length]'(Nat.mod_lt _ (by omega))) ty22 ty3 rfl rfl rfl (List.getElem?_eq_getElem _)) ?_
    refine dp rfl (pop_load ty3 rfl rfl rfl) ?_
    refine dp rfl (pop_call ca48 rfl (WeakL.refl _) (c_benchmake_Below (by first | assumption | omega | (simp; omega) | simp_all))) ?_
    refine dp rfl (pop_move rfl) ?_
    refine dp rfl (pop_move rfl) ?_
    refine dp rfl (pop_add rfl rfl) ?_
    refine dp rfl (pop_mul rfl rfl) ?_
    refine dp rfl (pop_add rfl rfl) ?_
    refine dp rfl (pop_move rfl) ?_
    refine dp rfl (pop_call ca48 rfl (WeakL.refl _) (c_benchmake_Below (by first | assumption | omega | (simp; omega) | simp_all))) ?_
    refine dp rfl (pop_assign rfl) ?_
    refine dn ?_
    refine hw_ret ?_
    refine ret_q rfl ?_
    obtain ⟨y, h1, h2⟩ := below_nat _ n
    exact ⟨y, congrArg _ h1, h2, rfl⟩

/-- (*benchwarmer/benchmake.Stream).Range -/
theorem c_benchmake_Stream_Range {b : Nat} {l : List Int} {a : Nat} {lo hi : Int} (ha : a ≤ 1000000) (hlh : lo ≤ hi) (h0 : -1000000000 ≤ lo) (h1 : hi ≤ 1000000000) : Con Tryz.prog 22 [pAt b, .int .i64 lo, .int .i64 hi] [St b l a] (fun x M' => ∃ y : Int, x = .int .i64 y ∧ (lo ≤ y ∧ y ≤ hi) ∧ M' = [St b l (a + 1)]) := by
  refine Con.of_body Tryz.func22 rfl Tryz.ntmps22 rfl rfl ?_
  refine hw_reg ?_
  refine dp rfl (pop_assign rfl) ?_
  refine dn ?_
  refine hw_seq ?_
  refine hw_reg ?_
  refine dp rfl (pop_move rfl) ?_
  refine dp rfl (pop_move rfl) ?_
  refine dp rfl (pop_lss rfl rfl) ?_
  refine dn ?_
  refine hw_cond rfl (fun h1 => ?_) (fun h1 => ?_)
  · exfalso
    try simp at h1
    omega
  · try simp at h1
    refine hw_skip ?_
    refine seqQ_n ?_
    refine hw_reg ?_
    refine dp rfl (pop_move rfl) ?_
    refine dp rfl (pop_move rfl) ?_
    refine dp rfl (pop_move rfl) ?_
    refine dp rfl (pop_move rfl) ?_
    refine dp rfl (pop_sub64 rfl rfl (by omega) (by omega)) ?_
    refine dp rfl (pop_add64 rfl rfl (by omega) (by omega)) ?_
    first
    | refine de rfl (eop_callx (i := 0) ca26 rfl (WeakL.refl _) rfl (c_benchmake_Stream_Next (by first | assumption | omega | (simp; omega) | simp_all) (by first | assumption | omega | (simp; omega) | simp_all)) ?_)
    | refine de rfl (eop_callx (i := 1) ca26 rfl (WeakL.refl _) rfl (c_benchmake_Stream_Next (by first | assumption | omega | (simp; omega) | simp_all) (by first | assumption | omega | (simp; omega) | simp_all)) ?_)
    | refine de rfl (eop_callx (i := 2) ca26 rfl (WeakL.refl _) rfl (c_benchmake_Stream_Next (by first | assumption | omega | (simp; omega) | simp_all) (by first | assumption | omega | (simp; omega) | simp_all)) ?_)
    | refine de rfl (eop_callx (i := 3) ca26 rfl (WeakL.refl _) rfl (c_benchmake_Stream_Next (by first | assumption | omega | (simp; omega) | simp_all) (by first | assumption | omega | (simp; omega) | simp_all)) ?_)
    rintro _ _ ⟨y17, rfl, hy17, rfl⟩
    refine dp rfl (pop_add64 rfl rfl (by omega) (by omega)) ?_
    refine dp rfl (pop_assign rfl) ?_
    refine dn ?_
    refine hw_ret ?_
    exact ret_q rfl ⟨_, rfl, by omega, rfl⟩

/-- (*benchwarmer/benchmake.Stream).Flip -/
theorem c_benchmake_Stream_Flip {b : Nat} {l : List Int} {a : Nat} {n : Int} (ha : a ≤ 1000000) (hn : n ≤ 4000000000) : Con Tryz.prog 25 [pAt b, .int .i64 n] [St b l a] (fun x M' => ∃ y : Bool, x = .bool y ∧ M' = [St b l (a + 1)]) := by
  refine Con.of_body Tryz.func25 rfl Tryz.ntmps25 rfl rfl ?_
  refine hw_reg ?_
  refine dp rfl (pop_assign rfl) ?_
  refine dn ?_
  refine hw_reg ?_
  refine dp rfl (pop_move rfl) ?_
  refine dp rfl (pop_move rfl) ?_
  first
  | refine de rfl (eop_callx (i := 0) ca26 rfl (WeakL.refl _) rfl (c_benchmake_Stream_Next (by first | assumption | omega | (simp; omega) | simp_all) (by first | assumption | omega | (simp; omega) | simp_all)) ?_)
  | refine de rfl (eop_callx (i := 1) ca26 rfl (WeakL.refl _) rfl (c_benchmake_Stream_Next (by first | assumption | omega | (simp; omega) | simp_all) (by first | assumption | omega | (simp; omega) | simp_all)) ?_)
  | refine de rfl (eop_callx (i := 2) ca26 rfl (WeakL.refl _) rfl (c_benchmake_Stream_Next (by first | assumption | omega | (simp; omega) | simp_all) (by first | assumption | omega | (simp; omega) | simp_all)) ?_)
  | refine de rfl (eop_callx (i := 3) ca26 rfl (WeakL.refl _) rfl (c_benchmake_Stream_Next (by first | assumption | omega | (simp; omega) | simp_all) (by first | assumption | omega | (simp; omega) | simp_all)) ?_)
  rintro _ _ ⟨y7, rfl, hy7, rfl⟩
  refine dp rfl (pop_eql rfl rfl) ?_
  refine dp rfl (pop_assign rfl) ?_
  refine dn ?_
  refine hw_ret ?_
  exact ret_q rfl ⟨_, rfl, rfl⟩

/-- (*benchwarmer/benchmake.Stream).Pick -/
theorem c_benchmake_Stream_Pick {b : Nat} {l : List Int} {a : Nat} {L : List Int} (ha : a ≤ 1000000) (h0 : 0 < L.length) (h1 : L.length ≤ 1000000) : Con Tryz.prog 6 [pAt b, .slice 1 (L.map (.int .i64))] [St b l a] (fun x M' => ∃ y : Int, x = .int .i64 y ∧ y ∈ L ∧ M' = [St b l (a + 1)]) := by
  refine Con.of_body Tryz.func6 rfl Tryz.ntmps6 rfl rfl ?_
  refine hw_reg ?_
  refine dp rfl (pop_assign rfl) ?_
  refine dn ?_
  refine hw_reg ?_
  refine dp rfl (pop_move rfl) ?_
  refine dp rfl (pop_move rfl) ?_
  refine dp rfl (pop_move rfl) ?_
  refine dp rfl (pop_lenm ty22 rfl) ?_
  first
  | refine de rfl (eop_callx (i := 0) ca26 rfl (WeakL.refl _) rfl (c_benchmake_Stream_Next (by first | assumption | omega | (simp; omega) | simp_all) (by first | assumption | omega | (simp; omega) | simp_all)) ?_)
  | refine de rfl (eop_callx (i := 1) ca26 rfl (WeakL.refl _) rfl (c_benchmake_Stream_Next (by first | assumption | omega | (simp; omega) | simp_all) (by first | assumption | omega | (simp; omega) | simp_all)) ?_)
  | refine de rfl (eop_callx (i := 2) ca26 rfl (WeakL.refl _) rfl (c_benchmake_Stream_Next (by first | assumption | omega | (simp; omega) | simp_all) (by first | assumption | omega | (simp; omega) | simp_all)) ?_)
  | refine de rfl (eop_callx (i := 3) ca26 rfl (WeakL.refl _) rfl (c_benchmake_Stream_Next (by first | assumption | omega | (simp; omega) | simp_all) (by first | assumption | omega | (simp; omega) | simp_all)) ?_)
  rintro _ _ ⟨y9, rfl, hy9, rfl⟩
  obtain ⟨z, hz, hm⟩ := getI hy9 h0
  refine dp rfl (pop_idx (j := y9) (a := z) ty22 ty3 rfl rfl rfl hz) ?_
  refine dp rfl (pop_load ty3 rfl rfl rfl) ?_
  refine dp rfl (pop_assign rfl) ?_
  refine dn ?_
  refine hw_ret ?_
  exact ret_q rfl ⟨_, rfl, hm, rfl⟩

/-- (*benchwarmer/benchmake.Stream).Some -/
theorem c_benchmake_Stream_Some {b : Nat} {l : List Int} {a : Nat} {L : List Str} (ha : a ≤ 1000000) (h0 : 0 < L.length) (h1 : L.length ≤ 1000000) : Con Tryz.prog 24 [pAt b, eSs L] [St b l a] (fun x M' => ∃ y : Str, x = .str y ∧ y ∈ L ∧ M' = [St b l (a + 1)]) := by
  refine Con.of_body Tryz.func24 rfl Tryz.ntmps24 rfl rfl ?_
  refine hw_reg ?_
  refine dp rfl (pop_assign rfl) ?_
  refine dn ?_
  refine hw_reg ?_
  refine dp rfl (pop_move rfl) ?_
  refine dp rfl (pop_move rfl) ?_
  refine dp rfl (pop_move rfl) ?_
  refine dp rfl (pop_lenm ty61 rfl) ?_
  first
  | refine de rfl (eop_callx (i := 0) ca26 rfl (WeakL.refl _) rfl (c_benchmake_Stream_Next (by first | assumption | omega | (simp; omega) | simp_all) (by first | assumption | omega | (simp; omega) | simp_all)) ?_)
  | refine de rfl (eop_callx (i := 1) ca26 rfl (WeakL.refl _) rfl (c_benchmake_Stream_Next (by first | assumption | omega | (simp; omega) | simp_all) (by first | assumption | omega | (simp; omega) | simp_all)) ?_)
  | refine de rfl (eop_callx (i := 2) ca26 rfl (WeakL.refl _) rfl (c_benchmake_Stream_Next (by first | assumption | omega | (simp; omega) | simp_all) (by first | assumption | omega | (simp; omega) | simp_all)) ?_)
  | refine de rfl (eop_callx (i := 3) ca26 rfl (WeakL.refl _) rfl (c_benchmake_Stream_Next (by first | assumption | omega | (simp; omega) | simp_all) (by first | assumption | omega | (simp; omega) | simp_all)) ?_)
  rintro _ _ ⟨y9, rfl, hy9, rfl⟩
  obtain ⟨z, hz, hm⟩ := getS hy9 h0
  refine dp rfl (pop_idx (j := y9) (a := z) ty61 ty9 rfl rfl rfl hz) ?_
  refine dp rfl (pop_load ty9 rfl rfl rfl) ?_
  refine dp rfl (pop_assign rfl) ?_
  refine dn ?_
  refine hw_ret ?_
  exact ret_q rfl ⟨_, rfl, hm, rfl⟩

/-- (*benchwarmer/benchmake.Stream).Odd -/
theorem c_benchmake_Stream_Odd {b : Nat} {l : List Int} {a : Nat} {lo hi : Int} (ha : a ≤ 900000) (hlh : lo ≤ hi) (h0 : -1000000000 ≤ lo) (h1 : hi ≤ 1000000000) : Con Tryz.prog 27 [pAt b, .int .i64 lo, .int .i64 hi] [St b l a] (fun x M' => ∃ y : Int, x = .int .i64 y ∧ M' = [St b l (a + 2)]) := by
  refine Con.of_body Tryz.func27 rfl Tryz.ntmps27 rfl rfl ?_
  refine hw_reg ?_
  refine dp rfl (pop_assign rfl) ?_
  refine dn ?_
  refine hw_seq ?_
  refine hw_reg ?_
  refine dp rfl (pop_move rfl) ?_
  first
  | refine de rfl (eop_callx (i := 0) ca25 rfl (WeakL.refl _) rfl (c_benchmake_Stream_Flip (by first | assumption | omega | (simp; omega) | simp_all) (by first | assumption | omega | (simp; omega) | simp_all)) ?_)
  | refine de rfl (eop_callx (i := 1) ca25 rfl (WeakL.refl _) rfl (c_benchmake_Stream_Flip (by first | assumption | omega | (simp; omega) | simp_all) (by first | assumption | omega | (simp; omega) | simp_all)) ?_)
  | refine de rfl (eop_callx (i := 2) ca25 rfl (WeakL.refl _) rfl (c_benchmake_Stream_Flip (by first | assumption | omega | (simp; omega) | simp_all) (by first | assumption | omega | (simp; omega) | simp_all)) ?_)
  | refine de rfl (eop_callx (i := 3) ca25 rfl (WeakL.refl _) rfl (c_benchmake_Stream_Flip (by first | assumption | omega | (simp; omega) | simp_all) (by first | assumption | omega | (simp; omega) | simp_all)) ?_)
  rintro _ _ ⟨y8, rfl, rfl⟩
  refine dn ?_
  refine hw_cond rfl (fun h1 => ?_) (fun h2 => ?_)
  · try simp at h1
    refine hw_reg ?_
    refine dp rfl (pop_move rfl) ?_
    refine dp rfl (pop_move rfl) ?_
    refine dp rfl (pop_sub64 rfl rfl (by omega) (by omega)) ?_
    refine dp rfl (pop_move rfl) ?_
    refine dp rfl (pop_add64 rfl rfl (by omega) (by omega)) ?_
    refine dp rfl (pop_move rfl) ?_
    refine dp rfl (pop_move rfl) ?_
    refine dp rfl (pop_buildSlice (hs := [_, _, _, _, _, _]) ty22 ty3 rfl rfl (by decide) (by decide) rfl) ?_
    first
    | refine de rfl (eop_callx (i := 0) ca6 rfl (WeakL.refl _) rfl (c_benchmake_Stream_Pick (L := [_, _, _, _, _, _]) (by first | assumption | omega | (simp; omega) | simp_all) (by first | assumption | omega | (simp; omega) | simp_all) (by first | assumption | omega | (simp; omega) | simp_all)) ?_)
    | refine de rfl (eop_callx (i := 1) ca6 rfl (WeakL.refl _) rfl (c_benchmake_Stream_Pick (L := [_, _, _, _, _, _]) (by first | assumption | omega | (simp; omega) | simp_all) (by first | assumption | omega | (simp; omega) | simp_all) (by first | assumption | omega | (simp; omega) | simp_all)) ?_)
    | refine de rfl (eop_callx (i := 2) ca6 rfl (WeakL.refl _) rfl (c_benchmake_Stream_Pick (L := [_, _, _, _, _, _]) (by first | assumption | omega | (simp; omega) | simp_all) (by first | assumption | omega | (simp; omega) | simp_all) (by first | assumption | omega | (simp; omega) | simp_all)) ?_)
    | refine de rfl (eop_callx (i := 3) ca6 rfl (WeakL.refl _) rfl (c_benchmake_Stream_Pick (L := [_, _, _, _, _, _]) (by first | assumption | omega | (simp; omega) | simp_all) (by first | assumption | omega | (simp; omega) | simp_all) (by first | assumption | omega | (simp; omega) | simp_all)) ?_)
    rintro _ _ ⟨y17, rfl, hy17, rfl⟩
    refine dp rfl (pop_assign rfl) ?_
    refine dn ?_
    refine hw_ret ?_
    exact ret_q rfl ⟨_, rfl, rfl⟩
  · try simp at h2
    refine hw_skip ?_
    refine seqQ_n ?_
    refine hw_reg ?_
    refine dp rfl (pop_move rfl) ?_
    refine dp rfl (pop_move rfl) ?_
    refine dp rfl (pop_move rfl) ?_
    first
    | refine de rfl (eop_callx (i := 0) ca22 rfl (WeakL.refl _) rfl (c_benchmake_Stream_Range (by first | assumption | omega | (simp; omega) | simp_all) (by first | assumption | omega | (simp; omega) | simp_all) (by first | assumption | omega | (simp; omega) | simp_all) (by first | assumption | omega | (simp; omega) | simp_all)) ?_)
    | refine de rfl (eop_callx (i := 1) ca22 rfl (WeakL.refl _) rfl (c_benchmake_Stream_Range (by first | assumption | omega | (simp; omega) | simp_all) (by first | assumption | omega | (simp; omega) | simp_all) (by first | assumption | omega | (simp; omega) | simp_all) (by first | assumption | omega | (simp; omega) | simp_all)) ?_)
    | refine de rfl (eop_callx (i := 2) ca22 rfl (WeakL.refl _) rfl (c_benchmake_Stream_Range (by first | assumption | omega | (simp; omega) | simp_all) (by first | assumption | omega | (simp; omega) | simp_all) (by first | assumption | omega | (simp; omega) | simp_all) (by first | assumption | omega | (simp; omega) | simp_all)) ?_)
    | refine de rfl (eop_callx (i := 3) ca22 rfl (WeakL.refl _) rfl (c_benchmake_Stream_Range (by first | assumption | omega | (simp; omega) | simp_all) (by first | assumption | omega | (simp; omega) | simp_all) (by first | assumption | omega | (simp; omega) | simp_all) (by first | assumption | omega | (simp; omega) | simp_all)) ?_)
    rintro _ _ ⟨y21, rfl, hy21, rfl⟩
    refine dp rfl (pop_assign rfl) ?_
    refine dn ?_
    refine hw_ret ?_
    exact ret_q rfl ⟨_, rfl, rfl⟩
end Go.Proofs.YtnlfcjoofdjpiaaGreatDoor
end
section
namespace Go.HL
variable {P : Program}
open Go.Sort Go.Proofs
section
variable {P : Program} {n : Nat} {e : Env} {M : List MObj} {Q : Exit → Env → List MObj → Prop} {c c' : Code}
def JoinG {ι : Type} (e : Env) (ks : List Nat) (W : ι → List (Nat × HVal)) (MM : ι → List MObj) (Iv : ι → Prop) (Q : Exit → Env → List MObj → Prop) : Exit → Env → List MObj → Prop
  | .normal, e', M => ∃ e2 M2, Ghost e' M e2 M2 ∧ ∃ j, Iv j ∧ HoldsW e2 (W j) ∧ Keeps ks e e2 ∧ M2.Perm (MM j)
  | x, e', M => Q x e' M
theorem hw_joing {ι : Type} (ks : List Nat) (W : ι → List (Nat × HVal)) (MM : ι → List MObj) (Iv : ι → Prop) (h1 : HWp P n c e M (JoinG e ks W MM Iv Q))
    (h2 : ∀ i, Iv i → HWp P n c' (loopE e ks (W i)) (MM i) Q) : HWp P n (.seq c c') e M Q := by
  refine hw_seq (hw_mono h1 ?_)
  intro x e1 M1 hq
  cases x with
  | normal =>
    obtain ⟨e2, M2, hg, j, a1, a2, a3, a4⟩ := hq
    exact hw_ghost (hg.trans ((Ghost.sub (Sub.loopE a2 a3)).trans (Ghost.perm a4))) (h2 j a1)
  | _ => exact hq
theorem joinG_x {ι : Type} {e0 : Env} {ks : List Nat} {W : ι → List (Nat × HVal)} {MM : ι → List MObj} {Iv : ι → Prop} {id : Nat} (h : Q (.exit id) e M) : JoinG e0 ks W MM Iv Q (.exit id) e M := h
theorem joinG_n {ι : Type} {e0 e2 : Env} {M2 : List MObj} {ks : List Nat} {W : ι → List (Nat × HVal)} {MM : ι → List MObj} {Iv : ι → Prop} (hg : Ghost e M e2 M2) (h : JoinG e0 ks W MM Iv Q .normal e2 M2) : JoinG e0 ks W MM Iv Q .normal e M := by
  obtain ⟨e3, M3, g, r⟩ := h
  exact ⟨e3, M3, hg.trans g, r⟩
theorem joinG_z {ι : Type} {e0 : Env} {ks : List Nat} {W : ι → List (Nat × HVal)} {MM : ι → List MObj} {Iv : ι → Prop} (j : ι) (h : Iv j) (hW : HoldsW e (W j)) (hk : Keeps ks e0 e) (hM : M.Perm (MM j)) : JoinG e0 ks W MM Iv Q .normal e M :=
  ⟨e, M, Ghost.sub (Sub.refl _), j, h, hW, hk, hM⟩
end
/-- Another view of the state within a region. -/
theorem dghost {P : Program} {ops : Array Oper} {n : Nat} {K : Env → List MObj → Prop} {rest : List Oper} {e : Env} {M M' : List MObj} (hm : M = M') (k : Der P ops n K rest e M') : Der P ops n K rest e M := hm ▸ k
/-- The header of an owned slice, with its capacity. -/
theorem hw_arrc {P : Program} {n : Nat} {e : Env} {M : List MObj} {c : Code} {Q : Exit → Env → List MObj → Prop} {i : Nat} {v : Value} {sz : Nat} {es : List HVal} (hm : M[i]? = some (.arr v sz es))
    (h0 : v = .slice none 0 0 → es = [] → HWp P n c e M Q) (h1 : ∀ b off cap, v = .slice (some ⟨b, off, none⟩) es.length cap → es.length ≤ cap → HWp P n c e M Q) : HWp P n c e M Q := fun I F a w a1 a2 a3 a4 => by
  rcases a4.obj _ (List.mem_append_left _ (List.mem_of_getElem? hm)) with ⟨g1, g2⟩ | ⟨b, off, cap, rc, el, fr, g1, _, _, _, g5, _⟩
  · exact h0 g1 g2 I F a w a1 a2 a3 a4
  · exact h1 b off cap g1 g5.1 I F a w a1 a2 a3 a4
theorem permTo {α : Type} {l r : List α} {x : α} (i : Nat) (h : l[i]? = some x) (hr : (l.eraseIdx i).Perm r) : l.Perm (x :: r) := (perm_erase h).trans (hr.cons x)
theorem permToE {α : Type} {l r : List α} {x y : α} (i : Nat) (h : l[i]? = some y) (hy : y = x) (hr : (l.eraseIdx i).Perm r) : l.Perm (x :: r) := hy ▸ permTo i h hr
/-- A function that cuts a slice of strings and hands it back; the long slice stays with its owner. -/
theorem con_rowk {P : Program} {f : FuncId} {l zs : List (List UInt8)} {b off cap : Nat} (hz : zs.length ≤ l.length)
    (h1 : ∀ (w : World), Holds encStr w b off l.toArray → b < w.heap.size → l.length ≤ cap → Calls P f #[.slice (some ⟨b, off, none⟩) l.length cap] w fun e w' => e = .returned (.slice (some ⟨b, off, none⟩) zs.length cap) ∧ ∃ n, w' = putRow encStr (Sort.ahead w n) b off (zs ++ List.replicate (l.length - zs.length) []).toArray) :
    Con P f [.raw (.slice (some ⟨b, off, none⟩) l.length cap)] [.arr (.slice (some ⟨b, off, none⟩) l.length cap) 1 (l.map .str)] fun x M' =>
      x = .raw (.slice (some ⟨b, off, none⟩) zs.length cap) ∧ M' = [.arr (.slice (some ⟨b, off, none⟩) l.length cap) 1 ((zs ++ List.replicate (l.length - zs.length) []).map .str)] := by
  intro I F w args ha hs
  obtain ⟨u, rfl, hu⟩ := ha.one
  obtain rfl := hu.raw_inv
  obtain ⟨g1, g2, g3, g4⟩ := holds_row hs
  refine (h1 w g1 g2 g3).mono ?_
  rintro _ w' ⟨rfl, n, rfl⟩
  refine ⟨_, .raw (.slice (some ⟨b, off, none⟩) zs.length cap), _, I, rfl, .refl I, ⟨rfl, rfl⟩, .raw _ rfl, ?_⟩
  have hlen : (zs ++ List.replicate (l.length - zs.length) []).length = l.length := by simp; omega
  have := sat_row (zs := zs ++ List.replicate (l.length - zs.length) []) (n' := l.length) (k := n) (os := #[]) hs hlen (Nat.le_refl _)
  rw [List.take_of_length_le (by omega), grow_empty] at this
  exact this
theorem VL.three {I : Imm} {h1 h2 h3 : HVal} {args : List Value} (hv : VL I [h1, h2, h3] args) : ∃ v1 v2 v3, args = [v1, v2, v3] ∧ V I h1 v1 ∧ V I h2 v2 ∧ V I h3 v3 := by
  obtain ⟨a, b⟩ := hv
  match args, a with
  | [v1, v2, v3], _ => exact ⟨v1, v2, v3, rfl, b 0 _ _ rfl rfl, b 1 _ _ rfl rfl, b 2 _ _ rfl rfl⟩
/-- The same with two numbers, of a slice that is not empty. -/
theorem con_rowd {P : Program} {f : FuncId} {l zs : List (List UInt8)} {v : Value} {i j : Int} (h0 : 0 < l.length) (hz : zs.length ≤ l.length)
    (h1 : ∀ (b off cap : Nat) (w : World), Holds encStr w b off l.toArray → l.length ≤ cap → cap ≤ 9223372036854775807 → Calls P f #[.slice (some ⟨b, off, none⟩) l.length cap, .int .i64 i, .int .i64 j] w fun e w' => e = .returned (.slice (some ⟨b, off, none⟩) zs.length cap) ∧ ∃ n, w' = putRow encStr (Sort.ahead w n) b off (zs ++ List.replicate (l.length - zs.length) []).toArray) :
    Con P f [.raw v, .int .i64 i, .int .i64 j] [.arr v 1 (l.map .str)] fun x M' => ∃ u, x = .raw u ∧ M' = [.arr u 1 (zs.map .str)] := by
  intro I F w args ha hs
  obtain ⟨u, v2, v3, rfl, hu, hu2, hu3⟩ := ha.three
  obtain rfl := hu.raw_inv
  obtain rfl := hu2.int_inv
  obtain rfl := hu3.int_inv
  rcases hs.obj (.arr u 1 (l.map .str)) (by simp) with ⟨rfl, hn⟩ | ⟨b, off, cap, rc, el, fr, rfl, _⟩
  · have hl : l = [] := by simpa using hn
    subst hl; simp at h0
  · rw [List.length_map] at hs ⊢
    obtain ⟨g1, g2, g3, g4⟩ := holds_row hs
    obtain ⟨_, _, _, _, _, _, _, g5, _⟩ := arr_some hs
    refine (h1 b off cap w g1 g3 g5.2).mono ?_
    rintro _ w' ⟨rfl, n, rfl⟩
    refine ⟨_, .raw (.slice (some ⟨b, off, none⟩) zs.length cap), _, I, rfl, .refl I, ⟨_, rfl, rfl⟩, .raw _ rfl, ?_⟩
    have := sat_row (zs := zs ++ List.replicate (l.length - zs.length) []) (n' := zs.length) (k := n) (os := #[]) hs (by simp; omega) hz
    rw [List.take_left' rfl, grow_empty] at this
    exact this
theorem conp_of_calls {P : Program} {f : FuncId} {hargs : List HVal} {h : HVal} (hc : ∀ (I : Imm) (w : World) (args : List Value), VL I hargs args → ∃ v, V I h v ∧ Calls P f args.toArray w fun e w' => e = .returned v ∧ w' = w) : ConP P f hargs h := by
  intro I F w args ha hs
  obtain ⟨v, hv, hcalls⟩ := hc I w args ha
  refine hcalls.mono ?_
  rintro _ w' ⟨rfl, rfl⟩
  exact ⟨v, h, [], I, rfl, .refl I, ⟨rfl, rfl⟩, hv, hs⟩
end Go.HL
end
section
namespace Go.HL
abbrev nilS : HVal := .raw (.slice none 0 0)
abbrev RoomC (b : Nat) (t : HVal) (R W : Int) (p : HVal) (C S : Int) : MObj := .cells b [t, .int .i64 R, .int .i64 W, p, .int .i64 C, .int .i64 S]
structure GoodRoom (r : Room) : Prop where
  t0 : 0 < r.Teams.length
  t4 : r.Teams.length ≤ 4
  p20 : r.Players.length ≤ 20
  ts : ∀ s ∈ r.Teams, s.length ≤ 1000000
  ps : ∀ s ∈ r.Players, s.length ≤ 1000000
def team3 : List Str := [[116, 99], [116, 97], [116, 98]]
theorem team3_len : ∀ s ∈ team3, s.length ≤ 100 := by decide
theorem dec_len {i : Nat} (h : i < 100) : (Lib.decDigits i).length ≤ 10 := by
  have : (List.range 100).all (fun i => decide ((Lib.decDigits i).length ≤ 10)) = true := by kernel_rfl
  have := List.all_eq_true.1 this i (List.mem_range.2 h)
  simpa using this
theorem good_room {T Pl : List Str} {R W C S : Int} {k : Nat} (hT : 1 ≤ T.length ∧ T.length ≤ 3) (hP : Pl.length = k) (hk : k ≤ 19) (h1 : ∀ s ∈ T, s.length ≤ 100) (h2 : ∀ s ∈ Pl, s.length ≤ 100) : GoodRoom ⟨T, R, W, Pl, C, S⟩ :=
  ⟨by dsimp only; omega, by dsimp only; omega, by dsimp only; omega, fun s hs => by have := h1 s hs; omega, fun s hs => by have := h2 s hs; omega⟩
theorem good_roomT {T Pl : List Str} {R W C S : Int} {k : Nat} {y : Str} (hT : 1 ≤ T.length ∧ T.length ≤ 3) (hP : Pl.length = k) (hk : k ≤ 19) (h1 : ∀ s ∈ T, s.length ≤ 100) (h2 : ∀ s ∈ Pl, s.length ≤ 100) (hy : y.length ≤ 100) : GoodRoom ⟨T ++ [y], R, W, Pl, C, S⟩ :=
  ⟨by simp, by simp; omega, by dsimp only; omega, fun s hs => by
    rcases List.mem_append.1 hs with h | h
    · have := h1 s h; omega
    · simp at h; subst h; omega, fun s hs => by have := h2 s hs; omega⟩
theorem good_roomP {T Pl : List Str} {R W C S : Int} {k : Nat} {y : Str} (hT : 1 ≤ T.length ∧ T.length ≤ 3) (hP : Pl.length = k) (hk : k ≤ 19) (h1 : ∀ s ∈ T, s.length ≤ 100) (h2 : ∀ s ∈ Pl, s.length ≤ 100) (hy : y.length ≤ 100) : GoodRoom ⟨T, R, W, Pl ++ [y], C, S⟩ :=
  ⟨by dsimp only; omega, by dsimp only; omega, by simp; omega, fun s hs => by have := h1 s hs; omega, fun s hs => by
    rcases List.mem_append.1 hs with h | h
    · have := h2 s h; omega
    · simp at h; subst h; omega⟩
end Go.HL
end
section
namespace Go.Proofs.YtnlfcjoofdjpiaaGreatDoor
open Go.HL
set_option maxRecDepth 100000
set_option linter.unusedVariables false
set_option linter.unusedSimpArgs false
/-- strconv.Itoa of a small number -/
theorem c_strconv_Itoa {i : Nat} (hi : i < 100) : ConP Tryz.prog 23 [.int .i64 (i : Int)] (.str (Lib.decDigits i)) :=
  conp_of_calls fun I w args ha => by
    obtain ⟨u, rfl, hu⟩ := ha.one
    obtain rfl := hu.int_inv
    exact ⟨_, .str _, Any.strconv_Itoa_small Tryz.lays171 i hi w⟩
end Go.Proofs.YtnlfcjoofdjpiaaGreatDoor
end
section
namespace Go.HL
variable {P : Program}
section
variable {P : Program} {e : Env} {dst : Option Tmp} {ty : TypeId} {pos : String} {af : Array Edge} {g : Option (Nat × Bool)} {M : List MObj} {K : HVal → List MObj → Prop}
/-- A whole element of an owned slice is loaded. -/
theorem eop_load_elw {α : Type} {f : α → HVal} {x : Operand} {t : TypeId} {d : TD} {size bytes : Nat} {zero : Value} {i b off cap n sz j o : Nat} {es : List α} {y : α} (hf : Fits P t d size bytes zero)
    (hx : evalO e x = some (.raw (.pointer (some ⟨b, o, none⟩)))) (ho' : o = off + j * sz) (hm : M[i]? = some (.arr (.slice (some ⟨b, off, none⟩) n cap) sz (es.map f))) (hj : es[j]? = some y)
    (hd : d.isAgg = true) (hs : size = (hcells (f y)).length) (hv : f y = .agg (hcells (f y))) (hk : K (f y) M) : EOp P e M ⟨dst, .load t x, ty, pos, af, g⟩ K :=
  eop_load_arr (j := j) (f := 0) (y := f y) hf hx (by omega) hm (by rw [List.getElem?_map, hj]; rfl) (.inr ⟨hd, by omega, by rw [List.drop_zero, hs, List.take_length]; exact hv⟩) hk
/-- A whole element of an owned slice is stored. -/
theorem eop_store_elw {α : Type} {f : α → HVal} {x z : Operand} {t : TypeId} {d : TD} {size bytes : Nat} {zero : Value} {i b off cap n sz j o : Nat} {es : List α} {y y' : α} (hf : Fits P t d size bytes zero)
    (hx : evalO e x = some (.raw (.pointer (some ⟨b, o, none⟩)))) (ho' : o = off + j * sz) (hz : evalO e z = some (f y')) (hm : M[i]? = some (.arr (.slice (some ⟨b, off, none⟩) n cap) sz (es.map f))) (hj : es[j]? = some y)
    (hok : okElem size (f y') = true) (hfl : flat (hcells (f y')) = true) (hle : (hcells (f y')).length = (hcells (f y)).length)
    (hk : K .junk (M.set i (.arr (.slice (some ⟨b, off, none⟩) n cap) sz ((es.set j y').map f)))) : EOp P e M ⟨dst, .store t x z, ty, pos, af, g⟩ K := by
  have h0 := (okElem_cells hok).1
  refine eop_store_arr (j := j) (f := 0) (y := f y) (y' := f y') hf hx (by omega) hz hm (by rw [List.getElem?_map, hj]; rfl) hok hfl (by omega) ?_ ?_
  · rw [setL_all hle]
  · rw [List.map_set] at hk; exact hk
end
theorem flat_get : ∀ {cs : List HVal} {j : Nat} {c : HVal}, flat cs = true → cs[j]? = some c → flat [c] = true
  | [], j, c, _, h => by simp at h
  | x :: r, 0, c, hf, h => by
    simp at h; subst h
    cases x <;> simp_all [flat]
  | x :: r, j + 1, c, hf, h => by
    refine flat_get (cs := r) (j := j) ?_ (by simpa using h)
    cases x <;> simp_all [flat]
theorem Sat.arr_take {I : Imm} {F : List MObj} {w : World} {b off n cap sz m : Nat} {es : List HVal} (hm : m ≤ es.length) (h : Sat P I (.arr (.slice (some ⟨b, off, none⟩) n cap) sz es :: F) w) :
    Sat P I (.arr (.slice (some ⟨b, off, none⟩) m cap) sz (es.take m) :: F) w := by
  obtain ⟨_, rc, el, fr, h2, h3, h4, h5, h6, h7⟩ := arr_some h
  refine h.change (m' := .arr (.slice (some ⟨b, off, none⟩) m cap) sz (es.take m)) (fun _ _ _ => rfl) (fun c hc => .inl hc) (by simp [MObj.blocks]) ?_ rfl rfl rfl
  have hl : (es.take m).length = m := by simp; omega
  refine .inr ⟨b, off, cap, rc, el, fr, by rw [hl], h2, h3, fun e he => h4 e (List.mem_of_mem_take he), by omega, h6, fun i j e c v a1 a2 a3 => ?_⟩
  have hi := lt_of_get a1
  rw [List.getElem?_take_of_lt (by omega)] at a1
  exact h7 i j e c v a1 a2 a3
theorem Ghost.take {e : Env} {M : List MObj} {b off n cap sz m : Nat} {es : List HVal} (hm : m ≤ es.length) : Ghost e (.arr (.slice (some ⟨b, off, none⟩) n cap) sz es :: M) e (.arr (.slice (some ⟨b, off, none⟩) m cap) sz (es.take m) :: M) :=
  fun _ I F tmps w h1 h2 => ⟨I, .refl I, h1, h2.arr_take hm⟩
def slOff (cap off sz lo : Nat) : Nat := if cap = lo then off else off + lo * sz
section
variable {P : Program} {e : Env} {dst : Option Tmp} {ty : TypeId} {pos : String} {af : Array Edge} {g : Option (Nat × Bool)} {M : List MObj} {K : HVal → List MObj → Prop}
/-- A slice whose header is known is cut. -/
theorem pop_slraw {x : Operand} {lo hi : Option Operand} {t el : TypeId} {size bytes sz b2 : Nat} {zero z2 : Value} {d : TD} {b off n cap l h : Nat}
    (hf : Fits P t (.slice el) size bytes zero) (hel : Fits P el d sz b2 z2) (hx : evalO e x = some (.raw (.slice (some ⟨b, off, none⟩) n cap))) (hlo : BoundIs e lo 0 l) (hhi : BoundIs e hi n h) (h1 : l ≤ h) (h2 : h ≤ n) (hc : n ≤ cap) :
    POp P e ⟨dst, .slice t x lo hi none, ty, pos, af, g⟩ (.raw (.slice (some ⟨b, slOff cap off sz l, none⟩) (h - l) (cap - l))) :=
  POp.of_val fun I a w ho => by
    have h3 := (ho.one (x := x) (by simp [Op.operands]) hx).raw_inv
    have hb : (Instr.sliceBounds true n cap (Option.map a.eval lo) (Option.map a.eval hi) none).run P w = .ok (l, h, cap) w :=
      run_bounds (P := P) (e := e) (lo := lo) (hi := hi) (l := l) (h := h) (len := n) (cap := cap) ho (by intro y hy; simp [Op.operands, hy]) (by intro y hy; simp [Op.operands, hy]) hlo hhi h1 h2 hc true w
    refine ⟨_, ?_, .raw _ rfl⟩
    simp [execOp, Instr.sliceAt, run_underlying hf.slice, h3, Instr.slice, hb, hel.run_sizeOf, slOff]
    try (split <;> simp_all [addr_add])
    try omega
/-- Cells of an owned slice behind the first m' elements are cleared: what stays are these. -/
theorem eop_clear_at {x : Operand} {t el : TypeId} {size bytes sz b2 : Nat} {zero z2 : Value} {d : TD} {i b off n cap m q o c2 : Nat} {es : List HVal} (m' : Nat)
    (hf : Fits P t (.slice el) size bytes zero) (hel : Fits P el d sz b2 z2) (hz : z2.cells.size = sz) (hz1 : z2.cells.toList.all Value.oneCell' = true)
    (hx : evalO e x = some (.raw (.slice (some ⟨b, o, none⟩) q c2))) (ho' : q = 0 ∨ o = off + m * sz) (hm : M[i]? = some (.arr (.slice (some ⟨b, off, none⟩) n cap) sz es)) (hmq : m + q ≤ cap) (hmm : m' ≤ m) (hme : m' ≤ es.length)
    (hk : K .junk (M.set i (.arr (.slice (some ⟨b, off, none⟩) m' cap) sz (es.take m')))) : EOp P e M ⟨dst, .call ⟨.builtin .clear, #[x], #[t]⟩, ty, pos, af, g⟩ K :=
  EOp.of_run fun I F a w ho hs => by
    have h1 := (ho.one (x := x) (by simp [Op.operands, Call.operands]) hx).raw_inv
    have hp := hs.pull hm
    obtain ⟨_, rc, el', fr, h2, h3, h4, h5, h6, h7⟩ := arr_some hp
    have hrun : (execOp a.eval ⟨dst, .call ⟨.builtin .clear, #[x], #[t]⟩, ty, pos, af, g⟩).run P w = ((Builtin.clear_ #[t] ty #[a.eval x]).run P w).andThen fun v w => .ok (.value v) w := by
      simp [execOp, resolve, invoke, builtin]
    rcases Nat.eq_zero_or_pos q with h0 | h0
    · refine ⟨.tuple #[], .junk, _, w, I, ?_, .refl I, hk, .junk _, ?_⟩
      · rw [hrun, h1, h0]
        simp [Builtin.clear_, run_underlying hf.slice]
      · exact Sat.unpull hm (hp.arr_take hme)
    · have hso : o = off + m * sz := by rcases ho' with h | h; omega; exact h
      have hmul : (m + q) * sz ≤ cap * sz := Nat.mul_le_mul_right _ hmq
      rw [Nat.add_mul] at hmul
      have hlen : (Builtin.zeroCells z2.cells q).toList.length = q * sz := by rw [Array.length_toList, zeroCells_size, hz]
      have hone : ∀ v ∈ (Builtin.zeroCells z2.cells q).toList, v.oneCell' = true := fun v hv => by
        simp only [Builtin.zeroCells, Array.toList_map, List.mem_map] at hv
        obtain ⟨r, hr, rfl⟩ := hv
        have hq' : r < q * z2.cells.size := by simpa using hr
        have hpos : 0 < z2.cells.size := by
          rcases Nat.eq_zero_or_pos z2.cells.size with h | h
          · rw [h] at hq'; simp at hq'
          · exact h
        have hlt : r % z2.cells.size < z2.cells.size := Nat.mod_lt _ hpos
        rw [getElem!_pos z2.cells _ hlt]
        exact List.all_eq_true.1 hz1 _ (by simp)
      obtain ⟨w', rc', g1, g2, g3, g4, g5, g6, g7, g8, g9⟩ := run_storeCells (P := P) b el' fr (off + m * sz) (Builtin.zeroCells z2.cells q).toList 0 w rc h2 h3 hone (by rw [hlen]; omega)
      refine ⟨.tuple #[], .junk, _, w', I, ?_, .refl I, hk, .junk _, ?_⟩
      · rw [hrun, h1, hso]
        obtain ⟨r, rfl⟩ : ∃ r, q = r + 1 := ⟨q - 1, by omega⟩
        simp [Builtin.clear_, run_underlying hf.slice, hel.run_zero, g1]
      · refine Sat.unpull hm (hp.change (m' := .arr (.slice (some ⟨b, off, none⟩) m' cap) sz (es.take m')) (fun k hk hnk => g5 k (by simpa [MObj.blocks] using hnk)) (fun k hk => .inl hk) (by simp [MObj.blocks]) ?_ g7 g8 g9)
        have hl : (es.take m').length = m' := by simp; omega
        refine .inr ⟨b, off, cap, rc', el', fr, by rw [hl], g2, by rw [g3]; exact h3, fun e he => h4 e (List.mem_of_mem_take he), by omega, by rw [g3]; exact h6, fun p q' y c v a1 a2 a3 => ?_⟩
        have hi := lt_of_get a1
        rw [List.getElem?_take_of_lt (by omega)] at a1
        have hq := lt_of_get a2
        rw [h4 y (List.mem_of_getElem? a1)] at hq
        have hpm : (p + 1) * sz ≤ m * sz := Nat.mul_le_mul_right _ (by omega)
        rw [Nat.add_mul] at hpm
        rw [g4, if_neg (by omega)] at a3
        exact h7 p q' y c v a1 a2 a3
theorem run_boundsc {I : Imm} {a : Act} {o : Oper} (ho : Opds I e a o) {lo hi : Option Operand} (hlo : ∀ x, lo = some x → x ∈ o.op.operands) (hhi : ∀ x, hi = some x → x ∈ o.op.operands)
    {len cap l h : Nat} (h1 : BoundIs e lo 0 l) (h2 : BoundIs e hi len h) (h3 : l ≤ h) (h4 : h ≤ cap) (b : Bool) (w : World) :
    (Instr.sliceBounds b len cap (lo.map a.eval) (hi.map a.eval) none).run P w = .ok (l, h, cap) w := by
  unfold Instr.sliceBounds
  cases lo with
  | none =>
    simp only [BoundIs] at h1
    subst h1
    cases hi with
    | none => simp only [BoundIs] at h2; subst h2; simp
    | some y =>
      obtain ⟨k, i, h6, rfl⟩ := h2
      have h7 := (ho.one (hhi y rfl) h6).int_inv
      simp [h7, run_sliceBound h4]
  | some x =>
    obtain ⟨k', i', h8, rfl⟩ := h1
    have h9 := (ho.one (hlo x rfl) h8).int_inv
    cases hi with
    | none => simp only [BoundIs] at h2; subst h2; simp [h9, run_sliceBound h3]
    | some y =>
      obtain ⟨k, i, h6, rfl⟩ := h2
      have h7 := (ho.one (hhi y rfl) h6).int_inv
      simp [h7, h9, run_sliceBound h4, run_sliceBound h3]
/-- A slice whose header is known is cut, within its capacity. -/
theorem pop_slrawc {x : Operand} {lo hi : Option Operand} {t el : TypeId} {size bytes sz b2 : Nat} {zero z2 : Value} {d : TD} {b off n cap l h : Nat}
    (hf : Fits P t (.slice el) size bytes zero) (hel : Fits P el d sz b2 z2) (hx : evalO e x = some (.raw (.slice (some ⟨b, off, none⟩) n cap))) (hlo : BoundIs e lo 0 l) (hhi : BoundIs e hi n h) (h1 : l ≤ h) (h2 : h ≤ cap) :
    POp P e ⟨dst, .slice t x lo hi none, ty, pos, af, g⟩ (.raw (.slice (some ⟨b, slOff cap off sz l, none⟩) (h - l) (cap - l))) :=
  POp.of_val fun I a w ho => by
    have h3 := (ho.one (x := x) (by simp [Op.operands]) hx).raw_inv
    have hb : (Instr.sliceBounds true n cap (Option.map a.eval lo) (Option.map a.eval hi) none).run P w = .ok (l, h, cap) w :=
      run_boundsc (P := P) (e := e) (lo := lo) (hi := hi) (l := l) (h := h) (len := n) (cap := cap) ho (by intro y hy; simp [Op.operands, hy]) (by intro y hy; simp [Op.operands, hy]) hlo hhi h1 h2 true w
    refine ⟨_, ?_, .raw _ rfl⟩
    simp [execOp, Instr.sliceAt, run_underlying hf.slice, h3, Instr.slice, hb, hel.run_sizeOf, slOff]
    try (split <;> simp_all [addr_add])
    try omega
/-- s[:h] -/
theorem pop_slraw0 {x : Operand} {hi : Option Operand} {t el : TypeId} {size bytes sz b2 : Nat} {zero z2 : Value} {d : TD} {b off n cap h : Nat}
    (hf : Fits P t (.slice el) size bytes zero) (hel : Fits P el d sz b2 z2) (hx : evalO e x = some (.raw (.slice (some ⟨b, off, none⟩) n cap))) (hhi : BoundIs e hi n h) (h2 : h ≤ cap) :
    POp P e ⟨dst, .slice t x none hi none, ty, pos, af, g⟩ (.raw (.slice (some ⟨b, off, none⟩) h cap)) := by
  have := pop_slrawc (P := P) (dst := dst) (ty := ty) (pos := pos) (af := af) (g := g) (lo := none) (l := 0) hf hel hx rfl hhi (Nat.zero_le _) h2
  have e1 : slOff cap off sz 0 = off := by unfold slOff; split <;> omega
  rwa [e1, Nat.sub_zero, Nat.sub_zero] at this
/-- A cut with three bounds of which only the check matters. -/
theorem pop_sl3 {x lo hi mx : Operand} {t el : TypeId} {size bytes sz b2 : Nat} {zero z2 : Value} {d : TD} {b off n cap l h m : Nat} {k1 k2 k3 : IntKind}
    (hf : Fits P t (.slice el) size bytes zero) (hel : Fits P el d sz b2 z2) (hx : evalO e x = some (.raw (.slice (some ⟨b, off, none⟩) n cap))) (hl : evalO e lo = some (.int k1 (l : Int))) (hh : evalO e hi = some (.int k2 (h : Int))) (hm : evalO e mx = some (.int k3 (m : Int)))
    (h1 : l ≤ h) (h2 : h ≤ m) (h3 : m ≤ cap) : POp P e ⟨dst, .slice t x (some lo) (some hi) (some mx), ty, pos, af, g⟩ .junk :=
  POp.of_val fun I a w ho => by
    have a1 := (ho.one (x := x) (by simp [Op.operands]) hx).raw_inv
    have a2 := (ho.one (x := lo) (by simp [Op.operands]) hl).int_inv
    have a3 := (ho.one (x := hi) (by simp [Op.operands]) hh).int_inv
    have a4 := (ho.one (x := mx) (by simp [Op.operands]) hm).int_inv
    refine ⟨.slice (if m = l then some ⟨b, off, none⟩ else some ((⟨b, off, none⟩ : Addr).add (l * sz))) (h - l) (m - l), ?_, .junk _⟩
    · simp [execOp, Instr.sliceAt, run_underlying hf.slice, a1, a2, a3, a4, Instr.slice, Instr.sliceBounds, run_sliceBound h1, run_sliceBound h2, run_sliceBound h3, hel.run_sizeOf]
      try (split <;> rfl)
/-- append(s[:i], s[j:]...): the elements from j on move to place i. -/
theorem eop_append_self {x y : Operand} {t el : TypeId} {size bytes sz b2 : Nat} {zero z2 : Value} {d : TD} {k b off n cap i j c2 : Nat} {es : List HVal}
    (hf : Fits P t (.slice el) size bytes zero) (hel : Fits P el d sz b2 z2) (hx : evalO e x = some (.raw (.slice (some ⟨b, off, none⟩) i cap))) (hy : evalO e y = some (.raw (.slice (some ⟨b, slOff cap off sz j, none⟩) (n - j) c2)))
    (hm : M[k]? = some (.arr (.slice (some ⟨b, off, none⟩) n cap) sz es)) (hn : n = es.length) (hij : i ≤ j) (hjn : j ≤ n) (hfl : ∀ y ∈ es, flat (hcells y) = true)
    (hk : K (.raw (.slice (some ⟨b, off, none⟩) (i + (n - j)) cap)) (M.set k (.arr (.slice (some ⟨b, off, none⟩) (i + (n - j)) cap) sz (es.take i ++ es.drop j)))) :
    EOp P e M ⟨dst, .call ⟨.builtin .append, #[x, y], #[t, t]⟩, ty, pos, af, g⟩ K :=
  EOp.of_run fun I F a w ho hs => by
    have h1 := (ho.one (x := x) (by simp [Op.operands, Call.operands]) hx).raw_inv
    have h1y := (ho.one (x := y) (by simp [Op.operands, Call.operands]) hy).raw_inv
    have hp := hs.pull hm
    subst hn
    obtain ⟨_, rc, el', fr, h2, h3, h4, h5, h6, h7⟩ := arr_some hp
    have hmc : es.length * sz ≤ cap * sz := Nat.mul_le_mul_right _ h5.1
    have hmul : (es.length - j) * sz + j * sz = es.length * sz := by rw [← Nat.add_mul]; congr 1; omega
    have hijz : i * sz ≤ j * sz := Nat.mul_le_mul_right _ hij
    have hnl : ((rc.toList.drop (off + j * sz)).take ((es.length - j) * sz)).length = (es.length - j) * sz := by simp; omega
    have hfirst : (Builtin.firstCells sz (es.length - j) (a.eval y)).run P w = .ok ((rc.toList.drop (off + j * sz)).take ((es.length - j) * sz)).toArray w := by
      rw [h1y]
      simp only [Builtin.firstCells]
      have := run_loadCells_list (P := P) w ⟨b, slOff cap off sz j, none⟩ ((rc.toList.drop (off + j * sz)).take ((es.length - j) * sz)) fun q u hq => by
        have hlt := lt_of_get hq
        rw [hnl] at hlt
        have hne : es.length - j ≠ 0 := fun h0 => by rw [h0] at hlt; simp at hlt
        have hso : slOff cap off sz j = off + j * sz := by unfold slOff; rw [if_neg (by omega)]
        rw [addr_add, cell_of h2, hso]
        rw [List.getElem?_take_of_lt hlt, List.getElem?_drop] at hq
        simpa using hq
      rw [hnl] at this
      exact this
    have hone : ∀ v ∈ (rc.toList.drop (off + j * sz)).take ((es.length - j) * sz), v.oneCell' = true := fun v hv => by
      obtain ⟨q, hq⟩ := List.getElem?_of_mem hv
      have hlt := lt_of_get hq
      rw [hnl] at hlt
      rw [List.getElem?_take_of_lt hlt, List.getElem?_drop] at hq
      have hsz : 0 < sz := by
        rcases Nat.eq_zero_or_pos sz with h | h
        · subst h; simp at hlt
        · exact h
      have hp1 : q / sz < es.length - j := (Nat.div_lt_iff_lt_mul hsz).2 hlt
      have hy := List.getElem?_eq_getElem (l := es) (i := j + q / sz) (by omega)
      have hcl := h4 _ (List.getElem_mem (l := es) (n := j + q / sz) (by omega))
      have hc := List.getElem?_eq_getElem (l := hcells (es[j + q / sz]'(by omega))) (i := q % sz) (by rw [hcl]; exact Nat.mod_lt _ hsz)
      have e1 : off + (j + q / sz) * sz + q % sz = off + j * sz + q := by
        rw [Nat.add_mul]; have := Nat.div_add_mod q sz; rw [Nat.mul_comm] at this; omega
      have hv' := h7 (j + q / sz) (q % sz) _ _ v hy hc (by rw [e1]; simpa using hq)
      exact flat_one (VL.cons hv' VL.nil) (flat_get (hfl _ (List.getElem_mem (by omega))) hc) v (by simp)
    obtain ⟨w', rc', g1, g2, g3, g4, g5, g6, g7, g8, g9⟩ := run_storeCells (P := P) b el' fr (off + i * sz) ((rc.toList.drop (off + j * sz)).take ((es.length - j) * sz)) 0 w rc h2 h3 hone (by rw [hnl]; omega)
    refine ⟨.slice (some ⟨b, off, none⟩) (i + (es.length - j)) cap, .raw _, _, w', I, ?_, .refl I, hk, .raw _ rfl, ?_⟩
    · rw [run_append]
      have hb1 : i + (es.length - j) ≤ cap := by omega
      have hlenof : (Builtin.lenOf (a.eval y)).run P w = .ok (es.length - j) w := by rw [h1y]; simp [Builtin.lenOf]
      simp only [List.map_toArray, List.map_cons, List.map_nil, h1, Builtin.append_, List.getElem?_toArray, List.getElem?_cons_zero, List.getElem?_cons_succ, Sem.run_bind, run_underlying hf.slice, Result.andThen_ok,
        hel.run_sizeOf, Sem.run_pure, Bool.false_eq_true, if_false, hlenof, hb1, if_true, Bool.not_false, hfirst, addr_add, g1]
    · refine Sat.unpull hm (hp.change (m' := .arr (.slice (some ⟨b, off, none⟩) (i + (es.length - j)) cap) sz (es.take i ++ es.drop j)) (fun k hk hnk => g5 k (by simpa [MObj.blocks] using hnk)) (fun k hk => .inl hk) (by simp [MObj.blocks]) ?_ g7 g8 g9)
      have hl : (es.take i ++ es.drop j).length = i + (es.length - j) := by simp; omega
      refine .inr ⟨b, off, cap, rc', el', fr, by rw [hl], g2, by rw [g3]; exact h3, fun e he => ?_, by rw [hl]; omega, by rw [g3]; exact h6, fun p q y c v a1 a2 a3 => ?_⟩
      · rcases List.mem_append.1 he with h | h
        · exact h4 e (List.mem_of_mem_take h)
        · exact h4 e (List.mem_of_mem_drop h)
      · rw [g4, hnl] at a3
        have hti : (es.take i).length = i := by simp; omega
        by_cases hpi : p < i
        · rw [List.getElem?_append_left (by omega), List.getElem?_take_of_lt hpi] at a1
          have hq := lt_of_get a2
          rw [h4 y (List.mem_of_getElem? a1)] at hq
          have hpm : (p + 1) * sz ≤ i * sz := Nat.mul_le_mul_right _ (by omega)
          rw [Nat.add_mul] at hpm
          rw [if_neg (by omega)] at a3
          exact h7 p q y c v a1 a2 a3
        · rw [List.getElem?_append_right (by omega), hti, List.getElem?_drop] at a1
          have hlt := lt_of_get a1
          have hq := lt_of_get a2
          rw [h4 y (List.mem_of_getElem? a1)] at hq
          have e1 : (p - i) * sz + i * sz = p * sz := by rw [← Nat.add_mul]; congr 1; omega
          have hpm : (p - i + 1) * sz ≤ (es.length - j) * sz := Nat.mul_le_mul_right _ (by omega)
          rw [Nat.add_mul] at hpm
          rw [if_pos (by omega), List.getElem?_take_of_lt (by omega), List.getElem?_drop] at a3
          refine h7 (j + (p - i)) q y c v a1 a2 ?_
          have e2 : off + (j + (p - i)) * sz + q = off + j * sz + (off + p * sz + q - (off + i * sz) - 0) := by rw [Nat.add_mul]; omega
          rw [e2]; simpa using a3
end
end Go.HL
end
section
namespace Go.HL
section
variable {α : Type} (c : α → α → Int)
def insF (x : α) : List α → List α
  | [] => [x]
  | y :: t => if c x y < 0 then y :: insF x t else x :: y :: t
def insB (x : α) (S : List α) : List α := (insF c x S.reverse).reverse
def isort (l : List α) : List α := l.foldl (fun S x => insB c x S) []
theorem insB_nil (x : α) : insB c x [] = [x] := rfl
theorem insB_snoc (x y : α) (S : List α) : insB c x (S ++ [y]) = if c x y < 0 then insB c x S ++ [y] else S ++ [y, x] := by
  unfold insB
  rw [List.reverse_append]
  simp only [List.reverse_cons, List.reverse_nil, List.nil_append, List.singleton_append, insF]
  split <;> simp
theorem isort_nil : isort c [] = [] := rfl
theorem isort_snoc (l : List α) (x : α) : isort c (l ++ [x]) = insB c x (isort c l) := by simp [isort, List.foldl_append]
theorem isort_one (x : α) : isort c [x] = [x] := rfl
theorem insF_perm (x : α) : ∀ l, (insF c x l).Perm (x :: l)
  | [] => .refl _
  | y :: t => by
    simp only [insF]; split
    · exact ((insF_perm x t).cons y).trans (.swap _ _ _)
    · exact .refl _
theorem insB_perm (x : α) (S : List α) : (insB c x S).Perm (x :: S) := by
  unfold insB
  exact (List.reverse_perm _).trans ((insF_perm c x _).trans ((List.reverse_perm S).cons x))
theorem foldl_perm : ∀ (l S : List α), (l.foldl (fun S x => insB c x S) S).Perm (S ++ l)
  | [], S => by simp
  | x :: l, S => by
    simp only [List.foldl_cons]
    refine (foldl_perm l _).trans ?_
    refine ((insB_perm c x S).append_right l).trans ?_
    exact (List.perm_middle (a := x) (l₁ := S) (l₂ := l)).symm
theorem isort_perm (l : List α) : (isort c l).Perm l := by
  have := foldl_perm c l []
  simpa [isort] using this
theorem isort_len (l : List α) : (isort c l).length = l.length := (isort_perm c l).length_eq
theorem isort_mem {l : List α} {x : α} : x ∈ isort c l ↔ x ∈ l := (isort_perm c l).mem_iff
theorem insB_len (x : α) (S : List α) : (insB c x S).length = S.length + 1 := (insB_perm c x S).length_eq

/-- A comparison by which things stand in one line, as far as they are in s. -/
structure Cmp (s : α → Prop) : Prop where
  flip : ∀ x y, s x → s y → (c x y < 0 ↔ 0 < c y x)
  trans : ∀ x y z, s x → s y → s z → c x y ≤ 0 → c y z ≤ 0 → c x z ≤ 0
variable {c}
theorem insF_sorted {s : α → Prop} (hc : Cmp c s) {x : α} (hx : s x) : ∀ {l : List α}, (∀ y ∈ l, s y) → l.Pairwise (fun a b => c b a ≤ 0) → (insF c x l).Pairwise (fun a b => c b a ≤ 0)
  | [], _, _ => by simp [insF]
  | y :: t, hs, hp => by
    have hy := hs y (by simp)
    have ht : ∀ z ∈ t, s z := fun z hz => hs z (List.mem_cons_of_mem _ hz)
    obtain ⟨h1, h2⟩ := List.pairwise_cons.1 hp
    simp only [insF]
    split
    · rename_i hlt
      refine List.pairwise_cons.2 ⟨fun z hz => ?_, insF_sorted hc hx ht h2⟩
      rcases List.mem_cons.1 ((insF_perm c x t).mem_iff.1 hz) with rfl | hz
      · omega
      · exact h1 z hz
    · rename_i hge
      have hyx : c y x ≤ 0 := by
        have := (hc.flip x y hx hy)
        omega
      refine List.pairwise_cons.2 ⟨fun z hz => ?_, hp⟩
      rcases List.mem_cons.1 hz with rfl | hz
      · exact hyx
      · exact hc.trans z y x (ht z hz) hy hx (h1 z hz) hyx
theorem insB_sorted {s : α → Prop} (hc : Cmp c s) {x : α} (hx : s x) {l : List α} (hs : ∀ y ∈ l, s y) (hp : l.Pairwise (fun a b => c a b ≤ 0)) : (insB c x l).Pairwise (fun a b => c a b ≤ 0) := by
  unfold insB
  rw [List.pairwise_reverse]
  exact insF_sorted hc hx (fun y hy => hs y (List.mem_reverse.1 hy)) (List.pairwise_reverse.2 hp)
theorem isort_sorted {s : α → Prop} (hc : Cmp c s) {l : List α} (hs : ∀ y ∈ l, s y) : (isort c l).Pairwise (fun a b => c a b ≤ 0) := by
  have key : ∀ (n : Nat), n ≤ l.length → (isort c (l.take n)).Pairwise (fun a b => c a b ≤ 0) := by
    intro n
    induction n with
    | zero => intro _; simp [isort]
    | succ n ih =>
      intro hn
      have hx := List.getElem?_eq_getElem (l := l) (i := n) (by omega)
      rw [take_snoc' hx, isort_snoc]
      exact insB_sorted hc (hs _ (List.mem_of_getElem? hx)) (fun y hy => hs y (List.mem_of_mem_take ((isort_perm c _).mem_iff.1 hy))) (ih (by omega))
  have := key l.length (Nat.le_refl _)
  rwa [List.take_length] at this
/-- Where no two are alike the order is that of the things, however they came. -/
theorem isort_unique {s : α → Prop} (hc : Cmp c s) {l m : List α} (hs : ∀ y ∈ l, s y) (he : ∀ x y, x ∈ l → y ∈ l → c x y = 0 → x = y) (hp : l.Perm m) : isort c l = isort c m := by
  have hm : ∀ y ∈ m, s y := fun y hy => hs y (hp.mem_iff.2 hy)
  refine List.Perm.eq_of_pairwise (le := fun a b => c a b ≤ 0) ?_ (isort_sorted hc hs) (isort_sorted hc hm) ((isort_perm c l).trans (hp.trans (isort_perm c m).symm))
  intro a b ha hb h1 h2
  have ha' := (isort_perm c l).mem_iff.1 ha
  have hb' := hp.mem_iff.2 ((isort_perm c m).mem_iff.1 hb)
  refine he a b ha' hb' ?_
  have f1 := hc.flip a b (hs a ha') (hs b hb')
  have f2 := hc.flip b a (hs b hb') (hs a ha')
  omega
/-- Two comparisons that answer alike of what comes later against what came before. -/
theorem isort_congr {c d : α → α → Int} {l : List α} (h : ∀ (i j : Nat) (x y : α), i < j → l[i]? = some y → l[j]? = some x → (c x y < 0 ↔ d x y < 0)) : isort c l = isort d l := by
  have hF : ∀ (x : α) (S : List α), (∀ y ∈ S, (c x y < 0 ↔ d x y < 0)) → insF c x S = insF d x S := by
    intro x S
    induction S with
    | nil => intro _; rfl
    | cons y t ih =>
      intro hy
      have h0 := hy y (by simp)
      simp only [insF]
      rw [ih fun z hz => hy z (List.mem_cons_of_mem _ hz)]
      by_cases hh : c x y < 0
      · rw [if_pos hh, if_pos (h0.1 hh)]
      · rw [if_neg hh, if_neg (fun h => hh (h0.2 h))]
  have key : ∀ n, n ≤ l.length → isort c (l.take n) = isort d (l.take n) := by
    intro n
    induction n with
    | zero => intro _; rfl
    | succ n ih =>
      intro hn
      have hx := List.getElem?_eq_getElem (l := l) (i := n) (by omega)
      rw [take_snoc' hx, isort_snoc, isort_snoc, ih (by omega)]
      unfold insB
      rw [hF]
      intro y hy
      have hy' := (isort_perm d _).mem_iff.1 (List.mem_reverse.1 hy)
      obtain ⟨i, hi, rfl⟩ := List.getElem_of_mem hy'
      have hi' : i < n := by simp at hi; omega
      exact h i n _ _ hi' (by rw [List.getElem_take]; exact List.getElem?_eq_getElem _) hx
  have := key l.length (Nat.le_refl _)
  rwa [List.take_length] at this
end
end Go.HL
end
section
namespace Go.HL
section
variable {P : Program} {ops : Array Oper} {n : Nat} {S : List MObj → Prop} {ld : List Nat} {K : Env → List MObj → Prop} {e : Env} {M : List MObj} {listed : Array Bool} {fuel : Nat} {d : Nat} {op : Op} {ty : TypeId} {pos : String} {af : Array Edge} {h : HVal}
/-- A load under a guard out of owned objects of which S knows enough is taken first. -/
theorem ahgl (i : Nat) {j : Nat} {want c : Bool} (hi : ops[i]? = some ⟨some d, op, ty, pos, af, some (j, want)⟩) (hd : Nat.blt d n = true) (hf : Region.free .any ops listed i = true) (hr : (Region.ready .any ops listed).contains i = true) (hl : i ∈ ld) (hS : S M)
    (hg : guardC ops e j want = some c) (hp : c = true → ∃ e2, OpenTo e e2 ∧ ∀ M, S M → EOp P e2 M ⟨some d, op, ty, pos, af, some (j, want)⟩ fun x M' => x = h ∧ M' = M)
    (k : HAny P ops n S ld K fuel (listed.setIfInBounds i true) (upd e d (.opt c h)) M) : HAny P ops n S ld K (fuel + 1) listed e M :=
  HAny.first (T := S) hi (fun t ht => by simp at ht; subst ht; exact blt_lt hd) (.inr ⟨rfl, hl⟩) fuel listed e M (Region.free_spec hi hf) (by simpa using hr)
    ⟨c, hg, fun hc M hM => by
      obtain ⟨e2, h1, h2⟩ := hp hc
      intro I F a w ho hs
      exact Oper.wp_noQ (fun _ _ ⟨v, x, M', J, h3, h4, ⟨e1, e3⟩, h5, h6⟩ => ⟨v, .opt c h, M, J, h3, h4, ⟨rfl, rfl⟩, .opt (fun _ => e1 ▸ h5) (fun hf => by rw [hc] at hf; cases hf), e3 ▸ h6⟩) (h2 M hM I F a w (ho.open h1) hs),
     fun hc => ⟨h, by rw [hc]⟩⟩ hS k
end
theorem wrap8 {x : Nat} (h : x < 16) : IntKind.wrap .u8 (x : Int) = (x : Int) := by
  have : (List.range 16).all (fun x => IntKind.wrap .u8 (x : Int) == (x : Int)) = true := by decide
  simpa using List.all_eq_true.1 this x (List.mem_range.2 h)
theorem wrapu64 {x : Nat} (h : x < 16) : IntKind.wrap .u64 (x : Int) = (x : Int) := by
  have : (List.range 16).all (fun x => IntKind.wrap .u64 (x : Int) == (x : Int)) = true := by decide
  simpa using List.all_eq_true.1 this x (List.mem_range.2 h)
theorem some_int {k : IntKind} {a b : Int} (h : a = b) : some (HVal.int k a) = some (.int k b) := by rw [h]
section
variable {α : Type} {c : α → α → Int}
theorem isort_take1 (l : List α) : isort c (l.take 1) ++ l.drop 1 = l := by
  cases l with
  | nil => rfl
  | cons x r => simp [isort, insB, insF]
theorem get_mid {A R : List α} {x : α} : (A ++ x :: R)[A.length]? = some x := by simp
theorem get_before {A R : List α} {x : α} (h : 0 < A.length) : (A ++ x :: R)[A.length - 1]? = some ((A[A.length - 1]?).getD x) := by
  rw [List.getElem?_append_left (by omega), List.getElem?_eq_getElem (by omega)]
  simp [List.getElem?_eq_getElem (show A.length - 1 < A.length by omega)]
theorem snoc_of {A : List α} (h : 0 < A.length) : ∃ B y, A = B ++ [y] := by
  have hne : A ≠ [] := fun e => by subst e; simp at h
  exact ⟨_, _, (List.dropLast_concat_getLast hne).symm⟩
theorem getD_snoc {A : List α} {y d : α} : ((A ++ [y])[(A ++ [y]).length - 1]?).getD d = y := by simp
theorem swap_mid {A R : List α} {x y : α} : (((A ++ [y]) ++ x :: R).set (A ++ [y]).length y).set ((A ++ [y]).length - 1) x = A ++ x :: y :: R := by
  have e1 : ((A ++ [y]) ++ x :: R).set (A ++ [y]).length y = (A ++ [y]) ++ y :: R := by rw [List.set_append_right _ _ (Nat.le_refl _)]; simp
  rw [e1, List.append_assoc]
  have e2 : (A ++ [y]).length - 1 = A.length := by simp
  rw [e2, List.set_append_right _ _ (Nat.le_refl _)]
  simp
/-- The inner loop ends. -/
theorem ins_exit {l A B : List α} {x : α} {k : Nat} (hx : l[k]? = some x) (hB : insB c x (isort c (l.take k)) = insB c x A ++ B) (h : 0 < A.length → ¬ c x ((A[A.length - 1]?).getD x) < 0) : A ++ x :: (B ++ l.drop (k + 1)) = isort c (l.take (k + 1)) ++ l.drop (k + 1) := by
  rw [take_snoc' hx, isort_snoc, hB]
  rcases Nat.eq_zero_or_pos A.length with h0 | h0
  · obtain rfl := List.length_eq_zero_iff.1 h0
    simp [insB_nil]
  · obtain ⟨A', y, rfl⟩ := snoc_of h0
    have := h h0
    rw [getD_snoc] at this
    rw [insB_snoc, if_neg this]; simp
theorem ins_step {A B : List α} {x y : α} {S : List α} (hB : insB c x S = insB c x (A ++ [y]) ++ B) (h : c x y < 0) : insB c x S = insB c x A ++ (y :: B) := by
  rw [hB, insB_snoc, if_pos h]; simp
end
end Go.HL
namespace Go.HL
section
variable {α : Type} {p : α → Bool}
/-- What slices.DeleteFunc has done when it looks at place j. -/
structure DelInv (p : α → Bool) (l : List α) (j : Nat) (D : List α) : Prop where
  len : D.length = l.length
  jle : j ≤ l.length
  lt : ((l.take j).filter (fun x => !p x)).length < j
  kept : D.take ((l.take j).filter (fun x => !p x)).length = (l.take j).filter (fun x => !p x)
  rest : D.drop j = l.drop j
theorem filter_snoc {l : List α} {j : Nat} {x : α} (hx : l[j]? = some x) : (l.take (j + 1)).filter (fun x => !p x) = (l.take j).filter (fun x => !p x) ++ if p x then [] else [x] := by
  rw [take_snoc' hx, List.filter_append]
  by_cases h : p x <;> simp [h]
theorem DelInv.get {l D : List α} {j : Nat} {x : α} (h : DelInv p l j D) (hx : l[j]? = some x) : D[j]? = some x := by
  have h1 := congrArg (fun t => t[0]?) h.rest
  simp only [List.getElem?_drop, Nat.add_zero] at h1
  rw [h1]; exact hx
theorem DelInv.drop1 {l D : List α} {j : Nat} (h : DelInv p l j D) : D.drop (j + 1) = l.drop (j + 1) := by
  have := congrArg (List.drop 1) h.rest
  simpa [List.drop_drop] using this
theorem DelInv.skip {l D : List α} {j : Nat} {x : α} (h : DelInv p l j D) (hx : l[j]? = some x) (hp : p x = true) : DelInv p l (j + 1) D ∧ ((l.take (j + 1)).filter (fun x => !p x)).length = ((l.take j).filter (fun x => !p x)).length := by
  have e := filter_snoc (p := p) hx
  rw [if_pos hp, List.append_nil] at e
  refine ⟨⟨h.len, by have := lt_of_get hx; omega, by rw [e]; have := h.lt; omega, by rw [e]; exact h.kept, h.drop1⟩, by rw [e]⟩
theorem DelInv.keep {l D : List α} {j : Nat} {x : α} (h : DelInv p l j D) (hx : l[j]? = some x) (hp : p x = false) :
    DelInv p l (j + 1) (D.set ((l.take j).filter (fun x => !p x)).length x) ∧ ((l.take (j + 1)).filter (fun x => !p x)).length = ((l.take j).filter (fun x => !p x)).length + 1 := by
  have e := filter_snoc (p := p) hx
  rw [if_neg (by simp [hp])] at e
  have hlt := h.lt
  have hj := lt_of_get hx
  have hl := h.len
  have el : ((l.take (j + 1)).filter (fun x => !p x)).length = ((l.take j).filter (fun x => !p x)).length + 1 := by rw [e]; simp
  refine ⟨⟨by simp [hl], by omega, by omega, ?_, ?_⟩, el⟩
  · rw [el, e]
    have hk := h.kept
    generalize ((l.take j).filter (fun x => !p x)) = F at *
    rw [take_snoc' (List.getElem?_set_self (by omega)), List.take_set_of_le (Nat.le_refl _), hk]
  · rw [List.drop_set_of_lt (by omega)]; exact h.drop1
theorem idxF_found (p : α → Bool) : ∀ (l : List α) (k : Int), 0 ≤ k → idxF p l k ≠ -1 → ∃ i : Nat, idxF p l k = k + i ∧ i < l.length ∧ (∃ x, l[i]? = some x ∧ p x = true) ∧ ∀ y ∈ l.take i, p y = false
  | [], k, _, h => by simp [idxF] at h
  | x :: r, k, h0, h => by
    by_cases hx : p x = true
    · exact ⟨0, by simp [idxF, hx], by simp, ⟨x, rfl, hx⟩, by simp⟩
    · have e : idxF p (x :: r) k = idxF p r (k + 1) := by simp [idxF, hx]
      rw [e] at h ⊢
      obtain ⟨i, h1, h2, ⟨y, h3, h4⟩, h5⟩ := idxF_found p r (k + 1) (by omega) h
      refine ⟨i + 1, by rw [h1]; simp; omega, by simp; omega, ⟨y, by simpa using h3, h4⟩, fun z hz => ?_⟩
      simp only [List.take_succ_cons, List.mem_cons] at hz
      rcases hz with rfl | hz
      · simpa using hx
      · exact h5 z hz
theorem idxF_none (p : α → Bool) : ∀ (l : List α) (k : Int), 0 ≤ k → idxF p l k = -1 → l.filter (fun x => !p x) = l
  | [], _, _, _ => rfl
  | x :: r, k, h0, h => by
    by_cases hx : p x = true
    · simp [idxF, hx] at h; omega
    · have e : idxF p (x :: r) k = idxF p r (k + 1) := by simp [idxF, hx]
      rw [e] at h
      rw [List.filter_cons, if_pos (by simp [hx]), idxF_none p r (k + 1) (by omega) h]
theorem DelInv.start {l : List α} {i : Nat} {x : α} (hi : i < l.length) (hx : l[i]? = some x) (hp : p x = true) (hb : ∀ y ∈ l.take i, p y = false) : DelInv p l (i + 1) l ∧ ((l.take (i + 1)).filter (fun x => !p x)).length = i := by
  have e := filter_snoc (p := p) hx
  rw [if_pos hp, List.append_nil, (List.filter_eq_self (l := l.take i) (p := fun x => !p x)).2 (fun y hy => by simp [hb y hy])] at e
  have hl : (l.take i).length = i := by simp; omega
  refine ⟨⟨rfl, by omega, by rw [e]; omega, by rw [e, hl], rfl⟩, by rw [e, hl]⟩
theorem DelInv.done {l D : List α} (h : DelInv p l l.length D) : D.take (l.filter (fun x => !p x)).length = l.filter (fun x => !p x) := by
  have := h.kept
  rwa [List.take_length] at this
end
theorem slOff_or {cap off sz m n : Nat} (h1 : m ≤ n) (h2 : n ≤ cap) : n - m = 0 ∨ slOff cap off sz m = off + m * sz := by
  unfold slOff
  by_cases h : cap = m
  · exact .inl (by omega)
  · exact .inr (by rw [if_neg h])
end Go.HL
namespace Go.HL
/-- A function that only reads is handed an owned slice for good. -/
theorem con_fz0 {P : Program} {f : FuncId} {v : Value} {sz : Nat} {es rest : List HVal} {h : HVal} (hp : ConP P f (.slice sz es :: rest) h) : Con P f (.raw v :: rest) [.arr v sz es] fun x M' => x = h ∧ M' = [] := by
  intro I F w args ha hs
  obtain ⟨J, hl, hs', hv⟩ := hs.freeze_arr
  cases args with
  | nil => have := ha.1; simp at this
  | cons a args =>
    have h1 := ha.head.raw_inv
    subst h1
    refine (hp J F w (a :: args) (VL.cons hv (ha.tail.mono hl)) hs').mono ?_
    rintro e w' ⟨u, x, M', K, rfl, hk, ⟨rfl, rfl⟩, h3, h4⟩
    exact ⟨u, x, [], K, rfl, hl.trans hk, ⟨rfl, rfl⟩, h3, h4⟩
end Go.HL
end
section
namespace Go.HL
open Op (bytesLess)
/-- A list without the elements that equal the one before (p ahead of the first). -/
def uniqP (p : Option Str) : List Str → List Str
  | [] => []
  | x :: r => if p = some x then uniqP (some x) r else x :: uniqP (some x) r
theorem uniqP_snoc (x : Str) : ∀ (l : List Str) (p : Option Str), uniqP p (l ++ [x]) = uniqP p l ++ if (l.getLast?.or p) = some x then [] else [x]
  | [], p => by
    by_cases h : p = some x
    · simp only [List.nil_append, uniqP]
      rw [if_pos h, if_pos (by simpa using h)]
    · simp only [List.nil_append, uniqP]
      rw [if_neg h, if_neg (by simpa using h)]
  | y :: l, p => by
    have ih := uniqP_snoc x l (some y)
    have e : (y :: l).getLast?.or p = l.getLast?.or (some y) := by
      cases l with
      | nil => simp
      | cons z r => simp [List.getLast?_cons_cons]; rw [List.getLast?_eq_some_getLast (by simp)]; simp
    rw [e]
    simp only [List.cons_append, uniqP, ih]
    split <;> simp
theorem compactUpTo_uniq (l : List Str) : ∀ m, m ≤ l.length → Lib.compactUpTo l.toArray m = uniqP none (l.take m)
  | 0, _ => by simp [Lib.compactUpTo, uniqP]
  | m + 1, h => by
    have hm : m < l.length := by omega
    have hx := List.getElem?_eq_getElem hm
    rw [Lib.compactUpTo_succ, compactUpTo_uniq l m (by omega), take_snoc' hx, uniqP_snoc]
    congr 1
    have e1 : l.toArray[m]! = l[m] := by simp [getElem!_pos, hm]
    rw [e1]
    cases m with
    | zero => simp [Lib.keeps]
    | succ m =>
      have hl : (l.take (m + 1)).getLast? = some l[m] := by
        rw [take_snoc' (List.getElem?_eq_getElem (show m < l.length by omega)), List.getLast?_append]; rfl
      have e2 : l.toArray[m]! = l[m] := by simp [getElem!_pos, show m < l.length by omega]
      rw [hl]
      simp only [Lib.keeps, e1, Nat.add_sub_cancel, e2]
      by_cases hh : l[m] = l[m + 1]
      · simp [hh]
      · have hh' : ¬ l[m + 1] = l[m] := fun h => hh h.symm
        simp [hh, hh']
theorem compact_uniq (l : List Str) : Lib.compact l = uniqP none l := by
  unfold Lib.compact
  rw [compactUpTo_uniq l _ (Nat.le_refl _), List.take_length]
theorem uniqP_le : ∀ (l : List Str) (p : Option Str), (uniqP p l).length ≤ l.length
  | [], _ => Nat.le_refl _
  | x :: r, p => by
    have := uniqP_le r (some x)
    simp only [uniqP]; split <;> simp <;> omega
theorem uniqP_nodup : ∀ (l : List Str) (p : Str), (p :: l).Pairwise (fun x y => x ≤ y) → ((uniqP (some p) l).length = l.length ↔ (p :: l).Nodup)
  | [], p, _ => by simp [uniqP]
  | x :: r, p, h => by
    have h1 := List.pairwise_cons.1 h
    have ih := uniqP_nodup r x h1.2
    have hle := uniqP_le r (some x)
    simp only [uniqP]
    by_cases hp : p = x
    · subst hp
      simp; omega
    · rw [if_neg (by simpa using hp)]
      simp only [List.length_cons, Nat.add_right_cancel_iff, ih]
      constructor
      · intro hn
        refine List.nodup_cons.2 ⟨fun hm => ?_, hn⟩
        rcases List.mem_cons.1 hm with h2 | h2
        · exact hp h2
        · have a1 := h1.1 x (by simp)
          have a2 := (List.pairwise_cons.1 h1.2).1 p h2
          exact hp (List.le_antisymm a1 a2)
      · intro hn; exact (List.nodup_cons.1 hn).2
theorem sortS_sorted (l : List Str) : (sortS l).Pairwise (fun x y => x ≤ y) := by
  have := List.pairwise_mergeSort (le := fun x y : Str => decide (x ≤ y)) (fun a b c h1 h2 => by
    simp only [decide_eq_true_eq] at *; exact List.le_trans h1 h2) (fun a b => by
    simp only [Bool.or_eq_true, decide_eq_true_eq]; exact List.le_total a b) l
  exact this.imp (fun h => by simpa using h)
theorem isTwice_eq (l : List Str) : isTwice l = !decide l.Nodup := by
  unfold isTwice
  rw [compact_uniq]
  have hp : (sortS l).Perm l := List.mergeSort_perm _ _
  have hs := sortS_sorted l
  rw [Bool.eq_iff_iff]
  simp only [decide_eq_true_eq, Bool.not_eq_true', decide_eq_false_iff_not]
  rw [← sortS_len l, ← hp.nodup_iff]
  revert hs
  generalize sortS l = s
  intro hs
  cases s with
  | nil => simp [uniqP]
  | cons x r =>
    have := uniqP_nodup r x hs
    have hle := uniqP_le r (some x)
    simp only [uniqP, reduceCtorEq, if_false, List.length_cons]
    rw [← this]; omega
theorem sadd_mem (s t : Str) (l : List Str) : t ∈ sadd s l ↔ t = s ∨ t ∈ l := by
  unfold sadd
  split
  · rename_i h
    simp only [List.contains_iff_mem] at h
    constructor
    · exact .inr
    · rintro (rfl | h')
      · exact h
      · exact h'
  · simp [or_comm]
theorem keepsGo_ref (r : Room) (l : List Keep) : ∀ (t : List Keep) (k : Nat) (kept who : List Str) (tw : Bool), (∀ s, s ∈ kept ↔ s ∈ who) → tw = !decide who.Nodup → keepsGo r l k kept tw t = refKeepsGo r l k who t
  | [], k, kept, who, tw, h1, h2 => by simp [keepsGo, refKeepsGo, isTwice_eq, h2]
  | x :: t, k, kept, who, tw, h1, h2 => by
    simp only [keepsGo, refKeepsGo]
    rw [keepsGo_ref r l t (k + 1) (sadd x.Player kept) (who ++ [x.Player]) (tw || kept.contains x.Player)]
    · intro s; rw [sadd_mem, h1]; simp [or_comm]
    · rw [h2]
      have : kept.contains x.Player = who.contains x.Player := by
        rw [Bool.eq_iff_iff]; simp only [List.contains_iff_mem]; exact h1 _
      rw [this, Bool.eq_iff_iff]
      simp only [Bool.or_eq_true, Bool.not_eq_true', decide_eq_false_iff_not, List.contains_iff_mem, List.nodup_append]
      constructor
      · rintro (h | h) hn
        · exact h hn.1
        · exact hn.2.2 _ h _ (by simp) rfl
      · intro h
        by_cases hm : x.Player ∈ who
        · exact .inr hm
        · refine .inl fun hn => h ⟨hn, by simp, fun a ha b hb => ?_⟩
          simp at hb; subst hb
          exact fun e => hm (e ▸ ha)
theorem checkKeeps_ref (r : Room) (l : List Keep) : checkKeeps r l = if checkRoom r != 0 then checkRoom r else refKeeps r l := by
  unfold checkKeeps refKeeps
  rw [keepsGo_ref r l l 0 [] [] false (fun _ => Iff.rfl) (by simp)]
theorem checkSwaps_ref (r : Room) (l : List Swap) : checkSwaps r l = if checkRoom r != 0 then checkRoom r else refSwaps r l := rfl
theorem openFault_ref (r : Room) (k : List Keep) (s : List Swap) : refOpenFault r k s = openFault r k s := by
  unfold refOpenFault openFault draftFault
  rw [checkKeeps_ref, checkSwaps_ref]
  by_cases h : checkRoom r = 0
  · simp [h]
  · have : (checkRoom r != 0) = true := by simpa using h
    simp only [this, if_true]
    simp [orI, h]
end Go.HL
end
section
namespace Go.HL
def Sh (s : Str) : Prop := s.length ≤ 1000000
structure GoodKeeps (k : List Keep) : Prop where
  len : k.length ≤ 20
  str : ∀ x ∈ k, Sh x.Team ∧ Sh x.Player
structure GoodSwaps (k : List Swap) : Prop where
  len : k.length ≤ 20
  str : ∀ x ∈ k, Sh x.Of ∧ Sh x.Team
/-- The state of KeepList's loops. -/
structure KLs where
  u : Value
  out : List Keep
  lv : Value
  left : List Str
  a : Nat
structure KLok (n a : Nat) (q : KLs) : Prop where
  out : q.out.length ≤ n
  left : q.left.length ≤ 20
  ls : ∀ s ∈ q.left, Sh s
  os : ∀ x ∈ q.out, Sh x.Team ∧ Sh x.Player
  a : q.a ≤ a + 2 * n
theorem mem_uniqP : ∀ (l : List Str) (p : Option Str) (s : Str), s ∈ uniqP p l → s ∈ l
  | [], _, s, h => by simp [uniqP] at h
  | x :: r, p, s, h => by
    simp only [uniqP] at h
    split at h
    · exact List.mem_cons_of_mem _ (mem_uniqP r _ s h)
    · rcases List.mem_cons.1 h with h | h
      · subst h; simp
      · exact List.mem_cons_of_mem _ (mem_uniqP r _ s h)
theorem mem_cs {l : List Str} {s : Str} (h : s ∈ Lib.compact (sortS l)) : s ∈ l := by
  rw [compact_uniq] at h
  have := mem_uniqP _ _ _ h
  exact (List.mergeSort_perm _ _).mem_iff.1 this
theorem mem_compact {l : List Str} {s : Str} (h : s ∈ Lib.compact l) : s ∈ l := by
  rw [compact_uniq] at h
  exact mem_uniqP _ _ _ h
theorem cs_len (l : List Str) : (Lib.compact (sortS l)).length ≤ l.length := by
  have := compact_le (sortS l); rw [sortS_len] at this; exact this
theorem KLok.more {n a : Nat} {u lv : Value} {out : List Keep} {left : List Str} {a1 a2 : Nat} (h : KLok n a ⟨u, out, lv, left, a1⟩) (h1 : a2 ≤ a1 + 2) : KLok (n + 1) a ⟨u, out, lv, left, a2⟩ :=
  ⟨by have := h.out; dsimp only at *; omega, h.left, h.ls, h.os, by have := h.a; dsimp only at *; omega⟩
theorem KLok.add {n a : Nat} {u u' lv lv' : Value} {out : List Keep} {left : List Str} {a1 a2 k : Nat} {t p : Str} {rd : Int} (h : KLok n a ⟨u, out, lv, left, a1⟩) (h1 : a2 ≤ a1 + 2) (ht : Sh t) (hp : left[k]? = some p) :
    KLok (n + 1) a ⟨u', out ++ [⟨t, p, rd⟩], lv', left.eraseIdx k, a2⟩ :=
  ⟨by have := h.out; simp at *; omega, by have := h.left; have := List.length_eraseIdx_le left k; dsimp only at *; omega, fun s hs => h.ls s (List.mem_of_mem_eraseIdx hs), fun x hx => by
    rcases List.mem_append.1 hx with hx | hx
    · exact h.os x hx
    · simp at hx; subst hx; exact ⟨ht, h.ls p (List.mem_of_getElem? hp)⟩, by have := h.a; dsimp only at *; omega⟩
theorem set_self {α : Type} {l : List α} {j : Nat} {x y : α} (h : l[j]? = some y) : (l.set j x)[j]? = some x := by
  rw [List.getElem?_set_self (lt_of_get h)]
theorem map_get {α β : Type} {f : α → β} {l : List α} {j : Nat} {x : α} (h : l[j]? = some x) : (l.map f)[j]? = some (f x) := by
  rw [List.getElem?_map, h]; rfl
theorem zz_sh : Sh [122, 122] := by simp [Sh]
theorem mem_set_of {α : Type} {l : List α} {j : Nat} {x y : α} (h : x ∈ l.set j y) : x = y ∨ x ∈ l := by
  rcases List.mem_or_eq_of_mem_set h with h | h
  · exact .inr h
  · exact .inl h
theorem keeps_set {k : List Keep} {j : Nat} {y : Keep} (h : ∀ x ∈ k, Sh x.Team ∧ Sh x.Player) (h1 : Sh y.Team) (h2 : Sh y.Player) : ∀ x ∈ k.set j y, Sh x.Team ∧ Sh x.Player := fun x hx => by
  rcases mem_set_of hx with rfl | hx
  · exact ⟨h1, h2⟩
  · exact h x hx
theorem swaps_set {k : List Swap} {j : Nat} {y : Swap} (h : ∀ x ∈ k, Sh x.Of ∧ Sh x.Team) (h1 : Sh y.Of) (h2 : Sh y.Team) : ∀ x ∈ k.set j y, Sh x.Of ∧ Sh x.Team := fun x hx => by
  rcases mem_set_of hx with rfl | hx
  · exact ⟨h1, h2⟩
  · exact h x hx
/-- The state of SwapList's loops: what is out, the row of teams, the draws. -/
structure SLs where
  u : Value
  out : List Swap
  row : List Str
  a : Nat
structure SLok (n a : Nat) (q : SLs) : Prop where
  out : q.out.length ≤ n
  row : q.row.length ≤ 4
  rs : ∀ s ∈ q.row, Sh s
  os : ∀ x ∈ q.out, Sh x.Of ∧ Sh x.Team
  a : q.a ≤ a + 2 * n
theorem SLok.more {n a : Nat} {u : Value} {out : List Swap} {row : List Str} {a1 a2 : Nat} (h : SLok n a ⟨u, out, row, a1⟩) (h1 : a2 ≤ a1 + 2) : SLok (n + 1) a ⟨u, out, row, a2⟩ :=
  ⟨by have := h.out; dsimp only at *; omega, h.row, h.rs, h.os, by have := h.a; dsimp only at *; omega⟩
theorem SLok.mono {n m a : Nat} {q : SLs} (h : SLok n a q) (hm : n ≤ m) : SLok m a q :=
  ⟨by have := h.out; omega, h.row, h.rs, h.os, by have := h.a; omega⟩
theorem KLok.mono {n m a : Nat} {q : KLs} (h : KLok n a q) (hm : n ≤ m) : KLok m a q :=
  ⟨by have := h.out; omega, h.left, h.ls, h.os, by have := h.a; omega⟩
theorem SLok.rowTo {n a : Nat} {u : Value} {out : List Swap} {row row' : List Str} {a1 : Nat} (h : SLok n a ⟨u, out, row, a1⟩) (h1 : row'.length ≤ 4) (h2 : ∀ s ∈ row', Sh s) : SLok n a ⟨u, out, row', a1⟩ :=
  ⟨h.out, h1, h2, h.os, h.a⟩
def fillUp (n : Nat) (l : List Str) : List Str := l ++ List.replicate (n - l.length) []
theorem fillUp_len {n : Nat} {l : List Str} (h : l.length ≤ n) : (fillUp n l).length = n := by simp [fillUp]; omega
theorem fillUp_get {n k : Nat} {l : List Str} {x : Str} (h : l[k]? = some x) : (fillUp n l)[k]? = some x := by
  unfold fillUp; rw [List.getElem?_append_left (lt_of_get h)]; exact h
theorem fillUp_sh {n : Nat} {l : List Str} (h : ∀ s ∈ l, Sh s) : ∀ s ∈ fillUp n l, Sh s := fun s hs => by
  rcases List.mem_append.1 hs with h1 | h1
  · exact h s h1
  · rw [(List.mem_replicate.1 h1).2]; simp [Sh]
theorem SLok.add {n a : Nat} {u u' : Value} {out : List Swap} {row : List Str} {a1 a2 : Nat} {t p : Str} {rd : Int} (h : SLok n a ⟨u, out, row, a1⟩) (h1 : a2 ≤ a1 + 2) (ht : Sh t) (hp : Sh p) :
    SLok (n + 1) a ⟨u', out ++ [⟨rd, t, p⟩], row, a2⟩ :=
  ⟨by have := h.out; simp at *; omega, h.row, h.rs, fun x hx => by
    rcases List.mem_append.1 hx with hx | hx
    · exact h.os x hx
    · simp at hx; subst hx; exact ⟨ht, hp⟩, by have := h.a; dsimp only at *; omega⟩
end Go.HL
end
section
namespace Go.HL
open Op (bytesLess)
structure Asset where
  Player : Str
  Position : Str
  Value : Int
structure Place where
  Position : Str
  Many : Int
abbrev eAsset (x : Asset) : HVal := .agg [.str x.Player, .str x.Position, .int .i64 x.Value]
abbrev ePlace (x : Place) : HVal := .agg [.str x.Position, .int .i64 x.Many]
abbrev eAssets (l : List Asset) : HVal := .slice 3 (l.map eAsset)
abbrev ePlaces (l : List Place) : HVal := .slice 2 (l.map ePlace)
def asset0 : Asset := ⟨[], [], 0⟩
def place0 : Place := ⟨[], 0⟩
def assetFault (x : Asset) : Int := if !(key x.Player) || !(key x.Position) then 5 else if out x.Value (-1000000) 1000000 then 1 else 0
def assetsGo (l : List Asset) : Nat → List Asset → Int
  | _, [] => 0
  | k, x :: t => if assetFault x != 0 then assetFault x else if decide (0 < k) && leS x.Player (l.getD (k - 1) asset0).Player then 7 else assetsGo l (k + 1) t
def checkAssets (l : List Asset) : Int := if 300 < l.length then 2 else assetsGo l 0 l
def placesGo (l : List Place) : Nat → List Place → Int
  | _, [] => 0
  | k, x :: t => if !(key x.Position) then 5 else if out x.Many 0 12 then 1 else if decide (0 < k) && leS x.Position (l.getD (k - 1) place0).Position then 7 else placesGo l (k + 1) t
def checkPlaces (l : List Place) : Int := if 10 < l.length then 2 else placesGo l 0 l
def byValue (a b : Asset) : Int := orI [cmpI b.Value a.Value, cmpS a.Player b.Player]
def byVal (a b : Asset) : Int := cmpI b.Value a.Value
def byPlayer (a b : Asset) : Int := cmpS a.Player b.Player
def atPos (l : List Asset) (pos : Str) : List Asset := l.filter (fun x => x.Position == pos)
def ofP (l : List Asset) (pos : Str) : List Asset := isort byValue (atPos l pos)
def ofR (l : List Asset) (pos : Str) : List Asset := isort byVal (atPos l pos)
def chosen (o : List Asset) (many : Int) : List Asset := (o.take (min many o.length).toNat).filter (fun y => decide (0 < y.Value))
def fieldedL (of : Str → List Asset) (p : List Place) : List Asset := p.flatMap fun x => chosen (of x.Position) x.Many
def sumV (l : List Asset) : Int := (l.map (·.Value)).sum
def namesV (l : List Asset) : List Str := sortS (l.map (·.Player))
/-- What is known of assets that are right. -/
structure OkA (l : List Asset) : Prop where
  val : ∀ x ∈ l, -1000000 ≤ x.Value ∧ x.Value ≤ 1000000
theorem atPos_snoc {l : List Asset} {k : Nat} {x : Asset} {pos : Str} (h : l[k]? = some x) : atPos (l.take (k + 1)) pos = atPos (l.take k) pos ++ if x.Position == pos then [x] else [] := by
  rw [take_snoc' h]; unfold atPos; rw [List.filter_append]
  by_cases hx : x.Position == pos <;> simp [hx]
theorem atPos_le (l : List Asset) (pos : Str) : (atPos l pos).length ≤ l.length := List.length_filter_le _ _
theorem ofP_len (l : List Asset) (pos : Str) : (ofP l pos).length ≤ l.length := by unfold ofP; rw [isort_len]; exact atPos_le l pos
theorem ofR_len (l : List Asset) (pos : Str) : (ofR l pos).length ≤ l.length := by unfold ofR; rw [isort_len]; exact atPos_le l pos
end Go.HL
end
