/- Contracts of functions of the program, by the rules of the logic; printed by gen.py. -/
import Derived.Test.YtfeimpgcpjoilaaGreatDoorCRef1
import Derived.Test.YtfeimpgcpjoilaaGreatDoorLay
import Derived.Test.YtfeimpgcpjoilaaGreatDoorPure7
namespace Go.Proofs.YtfeimpgcpjoilaaGreatDoor
open Go.HL
set_option maxRecDepth 100000
set_option linter.unusedVariables false
set_option linter.unusedSimpArgs false
/-- math/bits.Len64 -/
theorem c_math_bits_Len64   : ConP Tryz.prog 87 [.int .u64 0] (.int .i64 0) := by
  refine Con.of_body Tryz.func87 rfl Tryz.ntmps87 rfl rfl ?_
  refine hw_reg ?_
  refine dp rfl (pop_assign rfl) ?_
  refine dn ?_
  refine hw_seq ?_
  refine hw_reg ?_
  refine dp rfl (pop_move rfl) ?_
  refine dp rfl (pop_geq rfl rfl) ?_
  refine dn ?_
  refine hw_cond_f rfl ?_
  refine hw_skip ?_
  refine seqQ_n ?_
  refine hw_seq ?_
  refine hw_reg ?_
  refine dp rfl (pop_move rfl) ?_
  refine dp rfl (pop_geq rfl rfl) ?_
  refine dn ?_
  refine hw_cond_f rfl ?_
  refine hw_skip ?_
  refine seqQ_n ?_
  refine hw_seq ?_
  refine hw_reg ?_
  refine dp rfl (pop_move rfl) ?_
  refine dp rfl (pop_geq rfl rfl) ?_
  refine dn ?_
  refine hw_cond_f rfl ?_
  refine hw_skip ?_
  refine seqQ_n ?_
  refine hw_reg ?_
  refine dp rfl (pop_move rfl) ?_
  refine dp rfl (pop_move rfl) ?_
  refine dp rfl (pop_conv ty107 ty5 rfl) ?_
  refine dp rfl (pop_indexs (j := 0) (b := 0) ty9 rfl rfl rfl rfl) ?_
  refine dp rfl (pop_conv ty5 ty3 rfl) ?_
  refine dp rfl (pop_add64 rfl rfl (by decide) (by decide)) ?_
  refine dp rfl (pop_assign rfl) ?_
  refine dn ?_
  refine hw_ret ?_
  refine ret_p rfl ?_
  rfl

/-- math/bits.Len -/
theorem c_math_bits_Len   : ConP Tryz.prog 60 [.int .u64 0] (.int .i64 0) := by
  refine Con.of_body Tryz.func60 rfl Tryz.ntmps60 rfl rfl ?_
  refine hw_reg ?_
  refine dp rfl (pop_assign rfl) ?_
  refine dn ?_
  refine hw_seq ?_
  refine hw_cond_f rfl ?_
  refine hw_skip ?_
  refine seqQ_n ?_
  refine hw_reg ?_
  refine dp rfl (pop_move rfl) ?_
  refine dp rfl (pop_call ca87 rfl (WeakL.refl _) c_math_bits_Len64) ?_
  refine dp rfl (pop_assign rfl) ?_
  refine dn ?_
  refine hw_ret ?_
  refine ret_p rfl ?_
  rfl

/-- slices.insertionSortOrdered[string] -/
theorem c_slices_insertionSortOrdered_string   : ConP Tryz.prog 77 [eSs [], .int .i64 0, .int .i64 0] (.tup []) := by
  refine Con.of_body Tryz.func77 rfl Tryz.ntmps77 rfl rfl ?_
  refine hw_reg ?_
  refine dp rfl (pop_move rfl) ?_
  refine dp rfl (pop_add64 rfl rfl (by omega) (by omega)) ?_
  refine dp rfl (pop_assign rfl) ?_
  refine dn ?_
  refine hw_block ?_
  refine hw_loopw [6, 7, 10, 11, 12, 13, 14, 15, 16, 17, 18, 19, 20, 21, 22, 23, 24, 25, 26, 27, 28, 29, 30, 31, 32, 33, 34, 35, 36, 37, 38, 39, 40, 41, 42, 43, 44, 45, 46, 47, 48] (fun (u : Unit) => [(6, .int .i64 1)]) (fun (u : Unit) => []) (fun (u : Unit) => True) (fun (u : Unit) => 0) (()) ?_ ?_ ?_ ?_
  · trivial
  · exact ⟨rfl, trivial⟩
  · exact List.Perm.refl _
  · intro u hu
    refine hw_seq ?_
    refine hw_reg ?_
    refine dp rfl (pop_move rfl) ?_
    refine dp rfl (pop_move rfl) ?_
    refine dp rfl (pop_lss rfl rfl) ?_
    refine dn ?_
    refine hw_cond_f rfl ?_
    refine hw_exit ?_
    refine seqQ_x ?_
    refine loopQ_x ?_
    refine blockQ_eq ?_
    refine ret_n rfl ?_
    rfl

/-- slices.pdqsortOrdered[string] -/
theorem c_slices_pdqsortOrdered_string   : ConP Tryz.prog 59 [eSs [], .int .i64 0, .int .i64 0, .int .i64 0] (.tup []) := by
  refine Con.of_body Tryz.func59 rfl Tryz.ntmps59 rfl rfl ?_
  refine hw_reg ?_
  refine dp rfl (pop_assign rfl) ?_
  refine dn ?_
  refine hw_reg ?_
  refine dp rfl (pop_assign rfl) ?_
  refine dn ?_
  refine hw_block ?_
  refine hw_loopw (1 :: 2 :: 3 :: 8 :: 9 :: 10 :: 11 :: 12 :: 13 :: 14 :: 15 :: 16 :: 17 :: 18 :: 19 :: 20 :: 21 :: 22 :: 23 :: 24 :: 25 :: 26 :: 27 :: 28 :: 29 :: 30 :: 31 :: 32 :: 33 :: 34 :: 35 :: 36 :: 37 :: 38 :: 39 :: 40 :: 41 :: 42 :: 43 :: 44 :: 45 :: 46 :: 47 :: 48 :: 49 :: 50 :: 51 :: 52 :: 53 :: 54 :: 55 :: 56 :: 57 :: 58 :: 59 :: 60 :: 61 :: 62 :: 63 :: 64 :: 65 :: 66 :: 67 :: 68 :: 69 :: 70 :: 71 :: 72 :: 73 :: 74 :: 75 :: 76 :: 77 :: 78 :: 79 :: 80 :: 81 :: 82 :: 83 :: 84 :: 85 :: 86 :: 87 :: 88 :: 89 :: 90 :: 91 :: 92 :: 93 :: 94 :: 95 :: 96 :: 97 :: 98 :: 99 :: 100 :: 101 :: 102 :: 103 :: 104 :: 105 :: 106 :: 107 :: 108 :: 109 :: 110 :: 111 :: 112 :: 113 :: 114 :: 115 :: 116 :: 117 :: 118 :: 119 :: 120 :: 121 :: 122 :: 123 :: 124 :: 125 :: 126 :: 127 :: 128 :: 129 :: 130 :: 131 :: 132 :: 133 :: []) (fun (u : Unit) => [(1, .int .i64 0), (2, .int .i64 0)]) (fun (u : Unit) => []) (fun (u : Unit) => True) (fun (u : Unit) => 0) (()) ?_ ?_ ?_ ?_
  · trivial
  · exact ⟨rfl, rfl, trivial⟩
  · exact List.Perm.refl _
  · intro u hu
    refine hw_block ?_
    refine hw_reg ?_
    refine dp rfl (pop_move rfl) ?_
    refine dp rfl (pop_move rfl) ?_
    refine dp rfl (pop_sub64 rfl rfl (by omega) (by omega)) ?_
    refine dp rfl (pop_assign rfl) ?_
    refine dn ?_
    refine hw_seq ?_
    refine hw_reg ?_
    refine dp rfl (pop_move rfl) ?_
    refine dp rfl (pop_leq rfl rfl) ?_
    refine dn ?_
    refine hw_cond_t rfl ?_
    refine hw_reg ?_
    refine dp rfl (pop_move rfl) ?_
    refine dp rfl (pop_move rfl) ?_
    refine dp rfl (pop_move rfl) ?_
    refine dp rfl (pop_call ca77 rfl (WeakL.refl _) c_slices_insertionSortOrdered_string) ?_
    refine dn ?_
    refine hw_ret ?_
    refine ret_p rfl ?_
    rfl

/-- slices.Sort[[]string,string] -/
theorem c_slices_Sort_nil   : ConP Tryz.prog 39 [eSs []] (.tup []) := by
  refine Con.of_body Tryz.func39 rfl Tryz.ntmps39 rfl rfl ?_
  refine hw_reg ?_
  refine dp rfl (pop_move rfl) ?_
  refine dp rfl (pop_lenm ty37 rfl) ?_
  refine dp rfl (pop_assign rfl) ?_
  refine dn ?_
  refine hw_reg1 ?_
  refine dp rfl (pop_move rfl) ?_
  refine dp rfl (pop_move rfl) ?_
  refine dp rfl (pop_move rfl) ?_
  refine dp rfl (pop_conv ty3 ty83 rfl) ?_
  refine dp rfl (pop_call ca60 rfl (WeakL.refl _) c_math_bits_Len) ?_
  refine dp rfl (pop_call ca59 rfl (WeakL.refl _) c_slices_pdqsortOrdered_string) ?_
  refine dn ?_
  refine ret_n rfl ?_
  rfl

/-- slices.Sort: the slice holds the same strings in order -/
theorem c_slices_Sort {l : List Str} {v : Value} (hl : l.length ≤ 1000000) : Con Tryz.prog 39 [.raw v] [.arr v 1 (l.map .str)] fun x M' => x = .tup [] ∧ M' = [.arr v 1 ((sortS l).map .str)] :=
  con_row (sortS_len l) (fun b off cap w h1 h2 _ => Any.slices_Sort_string Tryz.lays190 b off cap l w h1 h2 (by omega)) (fun _ => c_slices_Sort_nil)
end Go.Proofs.YtfeimpgcpjoilaaGreatDoor
