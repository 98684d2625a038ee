/- Part 4 of the proof: a program logic, contracts of functions and plain facts; no conditions. -/
import Derived.Test.YtkcnenknbbcoiaaGreatDoorQTopDraftedCanTrade3
import Derived.KernelRfl
set_option linter.unusedVariables false
set_option linter.unusedSimpArgs false
namespace Go.Proofs.YtkcnenknbbcoiaaGreatDoor
set_option maxRecDepth 100000
set_option linter.unusedVariables false
set_option linter.unusedSimpArgs false
section
open Go.HL
/-- slices.IndexFunc[[]string,string] -/
theorem zbt [Tracks] {l : List Str} {fid : FuncId} {caps : List HVal} {p : Str → Bool} (hca : Callable Tryz.prog fid) (hp : ∀ x, ConP Tryz.prog fid ([HVal.str x] ++ caps) (.bool (p x))) (hl : l.length ≤ 1000000) : ConP Tryz.prog 112 [.slice 1 (l.map HVal.str), .fn (.func fid) [] caps] (.int .i64 (zbm p l 0)) := by
 refine Con.of_body Tryz.func112 rfl Tryz.ntmps112 rfl rfl ?_
 refine za ?_
 refine das rfl ?_
 refine dn ?_
 refine zf ?_
 refine za ?_
 refine dmv rfl ?_
 refine dq (zv zA rfl) ?_
 refine dmv rfl ?_
 refine dn ?_
 refine zk ?_
 refine zab [4, 5, 8, 9, 10, 11, 12, 13, 14, 15, 16, 17, 18] (fun (k : Nat) => [(8, .int .i64 k)]) (fun (k : Nat) => []) (fun (k : Nat) => k ≤ l.length ∧ (zbm p l 0 = zbm p (l.drop k) k)) (fun (k : Nat) => l.length - k) (0) ?_ ?_ ?_ ?_
 ·exact ⟨Nat.zero_le _, rfl⟩
 ·exact ⟨rfl, trivial⟩
 ·exact List.Perm.refl _
 ·intro k hinv
  obtain ⟨hk, hg⟩ := hinv
  refine za ?_
  refine dq (zK rfl rfl) ?_
  refine dn ?_
  refine zf ?_
  refine ze rfl (fun h1 => ?_) (fun h2 => ?_)
  ·try simp at h1
   obtain ⟨x, hx⟩ : ∃ x, l[k]? = some x := ⟨_, List.getElem?_eq_getElem h1⟩
   have hdx := zI hx
   rw [hdx] at hg
   refine zi ?_
   refine zd ?_
   refine zf ?_
   refine zk ?_
   refine za ?_
   refine dmv rfl ?_
   refine das rfl ?_
   refine dn ?_
   refine za ?_
   refine dmv rfl ?_
   refine dmv rfl ?_
   refine dmv rfl ?_
   refine dq (zH zA ty9 rfl rfl rfl (by assumption)) ?_
   refine dq (zc ty9 rfl rfl rfl) ?_
   refine dq (zej hca rfl rfl (WeakL.refl _) (hp _)) ?_
   refine dn ?_
   refine ze rfl (fun h3 => ?_) (fun h4 => ?_)
   ·try simp at h3
    refine za ?_
    refine dmv rfl ?_
    refine das rfl ?_
    refine dn ?_
    refine zg ?_
    refine zm rfl ?_
    show HVal.int .i64 _ = _
    (rw [hg]; simp_all [zbm])
   ·try simp at h4
    refine zi ?_
    refine zu ?_
    refine zd ?_
    refine zy ?_
    refine dq (zx rfl rfl (by omega) (by omega)) ?_
    refine dmv rfl ?_
    refine dn ?_
    refine ⟨k + 1, ?_, ?_, ⟨rfl, trivial⟩, (by repeat (first | exact zo | refine zt rfl ?_ | refine zp rfl rfl ?_)), List.Perm.refl _⟩
    ·refine ⟨by omega, ?_⟩
     rw [hg, zbm, if_neg (by simp_all)]; rfl
    ·dsimp only; omega
  ·try simp at h2
   have hnk : l.length ≤ k := by omega
   obtain rfl : k = l.length := by omega
   rw [zaq (Nat.le_refl _)] at hg
   refine zL ?_
   refine zS ?_
   refine zap ?_
   refine zD ?_
   refine zd ?_
   refine za ?_
   refine das rfl ?_
   refine dn ?_
   refine zg ?_
   refine zm rfl ?_
   show HVal.int .i64 _ = _
   (rw [hg]; rfl)

/-- slices.ContainsFunc[[]string,string] -/
theorem zdI [Tracks] {l : List Str} {fid : FuncId} {caps : List HVal} {p : Str → Bool} (hca : Callable Tryz.prog fid) (hp : ∀ x, ConP Tryz.prog fid ([HVal.str x] ++ caps) (.bool (p x))) (hl : l.length ≤ 1000000) : ConP Tryz.prog 86 [.slice 1 (l.map HVal.str), .fn (.func fid) [] caps] (.bool (l.any p)) := by
 refine Con.of_body Tryz.func86 rfl Tryz.ntmps86 rfl rfl ?_
 refine za ?_
 refine das rfl ?_
 refine dn ?_
 refine za ?_
 refine dmv rfl ?_
 refine dmv rfl ?_
 refine dq (zj zoI rfl (WeakL.refl _) (zbt hca hp hl)) ?_
 refine dq (zbD rfl rfl) ?_
 refine das rfl ?_
 refine dn ?_
 refine zg ?_
 refine zm rfl ?_
 congr 1; exact zdg p l 0 (by omega)

/-- (*benchwarmer/draft.run).last -/
theorem zfS [Tracks] {r : Room} {A T l : List Pick} {S : List Str}  (hl : l.length ≤ 1000000) : ConP Tryz.prog 33 [.vptr (zhi r A T l S) 0] (.int .i64 (za9 r l)) := by
 refine Con.of_body Tryz.func33 rfl Tryz.ntmps33 rfl rfl ?_
 refine za ?_
 refine das rfl ?_
 refine dn ?_
 refine zf ?_
 refine za ?_
 refine dmv rfl ?_
 refine dq ((zac rfl)) ?_
 refine dq (zb zbx rfl zaw (by decide) rfl) ?_
 refine dq (zc zaw rfl rfl rfl) ?_
 refine dq (zv zaw rfl) ?_
 refine dq (zaz rfl rfl) ?_
 refine dn ?_
 refine ze rfl (fun h1 => ?_) (fun h2 => ?_)
 ·try simp at h1
  refine za ?_
  refine dmv rfl ?_
  refine dq ((zac rfl)) ?_
  refine dq (zb zbx rfl zhg (by decide) rfl) ?_
  refine dq (zc zhg rfl rfl rfl) ?_
  refine dq ((zac rfl)) ?_
  refine dq (zb zV rfl ty3 (by decide) rfl) ?_
  refine dq (zc ty3 rfl rfl rfl) ?_
  refine das rfl ?_
  refine dn ?_
  refine zg ?_
  refine zm rfl ?_
  show HVal.int .i64 _ = _
  (rw [zrn h1]; done)
 ·try simp at h2
  refine zi ?_
  refine zd ?_
  have hl0 : 0 < l.length := List.length_pos_iff.2 h2
  refine zaF (fun _ => True) [] mixed ?_
  refine ahp 0 rfl rfl (by kernel_rfl) (by kernel_rfl) (zh rfl) ?_
  refine ahp 1 rfl rfl (by kernel_rfl) (by kernel_rfl) ((zac rfl)) ?_
  refine ahp 2 rfl rfl (by kernel_rfl) (by kernel_rfl) (zb zbx rfl zaw (by decide) rfl) ?_
  refine ahp 3 rfl rfl (by kernel_rfl) (by kernel_rfl) (zc zaw rfl rfl rfl) ?_
  refine ahp 4 rfl rfl (by kernel_rfl) (by kernel_rfl) (zh rfl) ?_
  refine ahp 5 rfl rfl (by kernel_rfl) (by kernel_rfl) ((zac rfl)) ?_
  refine ahp 6 rfl rfl (by kernel_rfl) (by kernel_rfl) (zb zbx rfl zaw (by decide) rfl) ?_
  refine ahp 7 rfl rfl (by kernel_rfl) (by kernel_rfl) (zc zaw rfl rfl rfl) ?_
  refine ahp 8 rfl rfl (by kernel_rfl) (by kernel_rfl) (zv zaw rfl) ?_
  refine ahp 9 rfl rfl (by kernel_rfl) (by kernel_rfl) (zal rfl rfl (by omega) (by omega)) ?_
  refine ahp 10 rfl rfl (by kernel_rfl) (by kernel_rfl) (zH (j := l.length - 1) (a := l.getD (l.length - 1) za3) zaw zan rfl rfl (by omega) (getD_some (by omega))) ?_
  refine ahp 11 rfl rfl (by kernel_rfl) (by kernel_rfl) (zb zan rfl ty3 (by decide) rfl) ?_
  refine ahp 12 rfl rfl (by kernel_rfl) (by kernel_rfl) (zc ty3 rfl rfl rfl) ?_
  refine ahp 13 rfl rfl (by kernel_rfl) (by kernel_rfl) (zaJ rfl) ?_
  refine ahz (by kernel_rfl) ?_
  refine zg ?_
  refine zm rfl ?_
  show HVal.int .i64 _ = _
  (rw [zrs h2])

/-- (*benchwarmer/draft.run).fault -/
theorem zjl [Tracks] {r : Room} {k : List Keep} {s : List Swap} {A T l : List Pick} {S : List Str} {fr : List Pick} {p : Pick} (hl : l.length ≤ 1000000) (hT : T = fr.drop l.length) (h0 : l.length < fr.length) (ok : RunOk r k s l S) (hpl : r.Players.length ≤ 1000000) (hso : SortedS r.Players) : ConP Tryz.prog 107 [.vptr (zhi r A T l S) 0, zc1 p] (.int .i64 (pkF r k fr l p)) := by
 subst hT
 refine Con.of_body Tryz.func107 rfl Tryz.ntmps107 rfl rfl ?_
 refine za ?_
 refine dq (zam rfl rfl) ?_
 refine das rfl ?_
 refine dn ?_
 refine zf ?_
 refine za ?_
 refine dmv rfl ?_
 refine dq ((zac rfl)) ?_
 refine dq (zb zbx rfl zaw (by decide) rfl) ?_
 refine dq (zc zaw rfl rfl rfl) ?_
 refine dq (zH (j := 0) (a := fr.getD l.length za3) zaw zan rfl rfl rfl (znM h0)) ?_
 refine dq (zB zan rfl rfl rfl rfl) ?_
 refine de rfl (zO zan rfl fun b5 => ?_)
 refine de0 (zR zan rfl rfl rfl rfl rfl ?_)
 refine dn ?_
 refine zF (Ghost.fc0 5 rfl) ?_
 refine zk ?_
 refine za ?_
 refine dq (zb zan rfl ty3 (by decide) rfl) ?_
 refine dq (zc ty3 rfl rfl rfl) ?_
 refine dq (zj zpc rfl (WeakL.refl _) zd2) ?_
 refine dq (zW rfl) ?_
 refine das rfl ?_
 refine dn ?_
 refine ze rfl (fun h1 => ?_) (fun h2 => ?_)
 ·try simp at h1
  refine za ?_
  refine das rfl ?_
  refine dn ?_
  refine zg ?_
  refine zm rfl ?_
  show HVal.int .i64 _ = _
  (rw [pf1 h1]; done)
 ·try simp at h2
  refine za ?_
  refine dq (zb zan rfl ty3 (by decide) rfl) ?_
  refine dq (zc ty3 rfl rfl rfl) ?_
  refine dq (zb zan rfl ty3 (by decide) rfl) ?_
  refine dq (zc ty3 rfl rfl rfl) ?_
  refine dq (zah rfl rfl) ?_
  refine das rfl ?_
  refine dn ?_
  refine ze rfl (fun h3 => ?_) (fun h4 => ?_)
  ·try simp at h3
   refine za ?_
   refine das rfl ?_
   refine dn ?_
   refine zg ?_
   refine zm rfl ?_
   show HVal.int .i64 _ = _
   (rw [pf2 h2 h3]; done)
  ·try simp at h4
   refine za ?_
   refine dq (zb zan rfl ty9 (by decide) rfl) ?_
   refine dq (zc ty9 rfl rfl rfl) ?_
   refine dq (zb zan rfl ty9 (by decide) rfl) ?_
   refine dq (zc ty9 rfl rfl rfl) ?_
   refine dq (zef rfl rfl) ?_
   refine das rfl ?_
   refine dn ?_
   refine ze rfl (fun h5 => ?_) (fun h6 => ?_)
   ·try simp at h5
    refine za ?_
    refine das rfl ?_
    refine dn ?_
    refine zg ?_
    refine zm rfl ?_
    show HVal.int .i64 _ = _
    (rw [pf3 h2 h4 h5]; done)
   ·try simp at h6
    refine zaF (fun _ => True) [] mixed ?_
    refine ahp 0 rfl rfl (by kernel_rfl) (by kernel_rfl) (zh rfl) ?_
    refine ahp 1 rfl rfl (by kernel_rfl) (by kernel_rfl) ((zac rfl)) ?_
    refine ahp 2 rfl rfl (by kernel_rfl) (by kernel_rfl) (zb zbx rfl zhg (by decide) rfl) ?_
    refine ahp 3 rfl rfl (by kernel_rfl) (by kernel_rfl) (zc zhg rfl rfl rfl) ?_
    refine ahp 4 rfl rfl (by kernel_rfl) (by kernel_rfl) (zb zan rfl ty9 (by decide) rfl) ?_
    refine ahp 5 rfl rfl (by kernel_rfl) (by kernel_rfl) (zc ty9 rfl rfl rfl) ?_
    refine ahp 6 rfl rfl (by kernel_rfl) (by kernel_rfl) (zj zoH rfl (WeakL.refl _) (zgq (by assumption) (by assumption))) ?_
    refine ahp 7 rfl rfl (by kernel_rfl) (by kernel_rfl) (zW rfl) ?_
    refine ahp 8 rfl rfl (by kernel_rfl) (by kernel_rfl) (zaJ rfl) ?_
    refine ahz (by kernel_rfl) ?_
    refine ze rfl (fun h7 => ?_) (fun h8 => ?_)
    ·try simp at h7
     refine za ?_
     refine das rfl ?_
     refine dn ?_
     refine zg ?_
     refine zm rfl ?_
     show HVal.int .i64 _ = _
     (rw [pf4 h2 h4 h6 h7]; done)
    ·try simp at h8
     refine zaF (fun _ => True) [] mixed ?_
     refine ahp 0 rfl rfl (by kernel_rfl) (by kernel_rfl) (zh rfl) ?_
     refine ahp 1 rfl rfl (by kernel_rfl) (by kernel_rfl) ((zac rfl)) ?_
     refine ahp 2 rfl rfl (by kernel_rfl) (by kernel_rfl) (zb zbx rfl zcM (by decide) rfl) ?_
     refine ahp 3 rfl rfl (by kernel_rfl) (by kernel_rfl) (zc zcM rfl rfl rfl) ?_
     refine ahp 4 rfl rfl (by kernel_rfl) (by kernel_rfl) (zb zan rfl ty9 (by decide) rfl) ?_
     refine ahp 5 rfl rfl (by kernel_rfl) (by kernel_rfl) (zc ty9 rfl rfl rfl) ?_
     refine ahp 6 rfl rfl (by kernel_rfl) (by kernel_rfl) (ze6 (zhR zcM ty9 ty4 rfl rfl) (congrArg HVal.bool (ok.gone p.Player h8))) ?_
     refine ahp 7 rfl rfl (by kernel_rfl) (by kernel_rfl) (zaJ rfl) ?_
     refine ahz (by kernel_rfl) ?_
     refine ze rfl (fun h9 => ?_) (fun h10 => ?_)
     ·try simp at h9
      refine za ?_
      refine das rfl ?_
      refine dn ?_
      refine zg ?_
      refine zm rfl ?_
      show HVal.int .i64 _ = _
      (rw [pf5 h2 h4 h6 h8 h9]; done)
     ·try simp at h10
      refine zaF (fun _ => True) [] mixed ?_
      refine ahp 0 rfl rfl (by kernel_rfl) (by kernel_rfl) (zb zan rfl ty3 (by decide) rfl) ?_
      refine ahp 1 rfl rfl (by kernel_rfl) (by kernel_rfl) (zc ty3 rfl rfl rfl) ?_
      refine ahp 2 rfl rfl (by kernel_rfl) (by kernel_rfl) (zh rfl) ?_
      refine ahp 3 rfl rfl (by kernel_rfl) (by kernel_rfl) (zj ca33 rfl (WeakL.refl _) (zfS (by assumption))) ?_
      refine ahp 4 rfl rfl (by kernel_rfl) (by kernel_rfl) (zK rfl rfl) ?_
      refine ahp 5 rfl rfl (by kernel_rfl) (by kernel_rfl) (zaJ rfl) ?_
      refine ahz (by kernel_rfl) ?_
      refine ze rfl (fun h11 => ?_) (fun h12 => ?_)
      ·try simp at h11
       refine za ?_
       refine das rfl ?_
       refine dn ?_
       refine zg ?_
       refine zm rfl ?_
       show HVal.int .i64 _ = _
       (rw [pf6 h2 h4 h6 h8 h10 h11]; done)
      ·try simp at h12
       refine zi ?_
       refine zu ?_
       refine zd ?_
       refine za ?_
       refine das rfl ?_
       refine dn ?_
       refine zg ?_
       refine zm rfl ?_
       show HVal.int .i64 _ = _
       (rw [pf0 h2 h4 h6 h8 h10 (by omega)]; done)

/-- (*benchwarmer/draft.run).wish$1 -/
theorem zfe [Tracks] {r : Room} {A T l : List Pick} {S : List Str} {p : Str} {g : Str → Bool} (hS : ∀ x, S.contains x = g x) : ConP Tryz.prog 111 [.str p, .vptr [.vptr (zhi r A T l S) 0] 0] (.bool (!(g p))) := by
 refine Con.of_body Tryz.func111 rfl Tryz.ntmps111 rfl rfl ?_
 refine za ?_
 refine das rfl ?_
 refine dn ?_
 refine za ?_
 refine dq (zc zq8 rfl rfl rfl) ?_
 refine dq ((zac rfl)) ?_
 refine dq (zb zbx rfl zcM (by decide) rfl) ?_
 refine dq (zc zcM rfl rfl rfl) ?_
 refine dmv rfl ?_
 refine dq (ze6 (zhR zcM ty9 ty4 rfl rfl) (congrArg HVal.bool (hS p))) ?_
 refine dq (zW rfl) ?_
 refine das rfl ?_
 refine dn ?_
 refine zg ?_
 refine zm rfl ?_
 rfl

/-- (*benchwarmer/draft.run).wish -/
theorem zjQ [Tracks] {r : Room} {A T l : List Pick} {S : List Str} {w : List Wish} {team : Str} {g : Str → Bool} (hw : w.length ≤ 1000000) (hwp : ∀ y ∈ w, y.Players.length ≤ 1000000) (hpl : r.Players.length ≤ 1000000) (hf : ∃ s ∈ r.Players, g s = false) (hS : ∀ x, S.contains x = g x) : ConP Tryz.prog 64 [.vptr (zhi r A T l S) 0, zel w, .str team] (.str (zbG r g w team)) := by
 refine Con.of_body Tryz.func64 rfl Tryz.ntmps64 rfl rfl ?_
 refine za ?_
 refine dq (zam rfl rfl) ?_
 refine das rfl ?_
 refine dn ?_
 refine za ?_
 refine dq (zew rfl rfl) ?_
 refine das rfl ?_
 refine dn ?_
 refine zf ?_
 refine za ?_
 refine dmv rfl ?_
 refine dq (zv zin rfl) ?_
 refine dmv rfl ?_
 refine dn ?_
 refine zk ?_
 refine zab [6, 9, 10, 14, 15, 16, 17, 18, 19, 20, 21, 22, 23, 24, 25, 26, 27, 28, 29, 30, 31, 32, 33] (fun (k : Nat) => [(14, .int .i64 k)]) (fun (k : Nat) => []) (fun (k : Nat) => k ≤ w.length ∧ (zbo g team w = zbo g team (w.drop k))) (fun (k : Nat) => w.length - k) (0) ?_ ?_ ?_ ?_
 ·exact ⟨Nat.zero_le _, rfl⟩
 ·exact ⟨rfl, trivial⟩
 ·exact List.Perm.refl _
 ·intro k hinv
  obtain ⟨hk, hg⟩ := hinv
  refine za ?_
  refine dq (zK rfl rfl) ?_
  refine dn ?_
  refine zf ?_
  refine ze rfl (fun h1 => ?_) (fun h2 => ?_)
  ·try simp at h1
   obtain ⟨y, hy⟩ : ∃ y, w[k]? = some y := ⟨_, List.getElem?_eq_getElem h1⟩
   have hdy := zI hy
   rw [hdy] at hg
   refine zi ?_
   refine zd ?_
   refine zf ?_
   refine zk ?_
   refine za ?_
   refine dq (zH zin zbW rfl rfl rfl (by assumption)) ?_
   refine dq (zB zbW rfl rfl rfl rfl) ?_
   refine de rfl (zO zbW rfl fun b9 => ?_)
   refine de0 (zR zbW rfl rfl rfl rfl rfl ?_)
   refine dn ?_
   refine zF (Ghost.fc0 9 rfl) ?_
   refine zf ?_
   refine za ?_
   refine dq (zb zbW rfl ty9 (by decide) rfl) ?_
   refine dq (zc ty9 rfl rfl rfl) ?_
   refine dmv rfl ?_
   refine dq (zef rfl rfl) ?_
   refine dn ?_
   refine ze rfl (fun h3 => ?_) (fun h4 => ?_)
   ·try simp at h3
    refine zL ?_
    refine zS ?_
    refine zD ?_
    refine zd ?_
    refine zy ?_
    refine dq (zx rfl rfl (by omega) (by omega)) ?_
    refine dmv rfl ?_
    refine dn ?_
    refine ⟨k + 1, ?_, ?_, ⟨rfl, trivial⟩, (by repeat (first | exact zo | refine zt rfl ?_ | refine zp rfl rfl ?_)), List.Perm.refl _⟩
    ·refine ⟨by omega, ?_⟩
     (rw [hg, zsQ h3]; done)
    ·dsimp only; omega
   ·try simp at h4
    refine zi ?_
    refine zd ?_
    refine za ?_
    refine dq (zb zbW rfl zA (by decide) rfl) ?_
    refine dq (zc zA rfl rfl rfl) ?_
    refine dmv rfl ?_
    refine dq (zj zoI rfl (WeakL.refl _) (zbt (p := fun s => !(g s)) zrP (fun _ => zfe hS) (hwp y (List.mem_of_getElem? hy)))) ?_
    refine das rfl ?_
    refine dn ?_
    refine za ?_
    refine dmv rfl ?_
    refine dq (zbD rfl rfl) ?_
    refine dn ?_
    refine ze rfl (fun h5 => ?_) (fun h6 => ?_)
    ·try simp at h5
     obtain ⟨i, z, hi, hz, hfz⟩ := zlC h5
     refine za ?_
     refine dq (zb zbW rfl zA (by decide) rfl) ?_
     refine dq (zc zA rfl rfl rfl) ?_
     refine dmv rfl ?_
     refine dq (zH (j := i) (a := z) zA ty9 rfl rfl hi hz) ?_
     refine dq (zc ty9 rfl rfl rfl) ?_
     refine das rfl ?_
     refine dn ?_
     refine zg ?_
     refine zm rfl ?_
     show HVal.str _ = _
     (rw [zbG, hg, zsO h4 hfz]; done)
    ·try simp at h6
     refine zi ?_
     refine zu ?_
     refine zd ?_
     refine zy ?_
     refine dq (zx rfl rfl (by omega) (by omega)) ?_
     refine dmv rfl ?_
     refine dn ?_
     refine ⟨k + 1, ?_, ?_, ⟨rfl, trivial⟩, (by repeat (first | exact zo | refine zt rfl ?_ | refine zp rfl rfl ?_)), List.Perm.refl _⟩
     ·refine ⟨by omega, ?_⟩
      (rw [hg, zsS h4 (zqv h6)])
     ·dsimp only; omega
  ·try simp at h2
   have hnk : w.length ≤ k := by omega
   obtain rfl : k = w.length := by omega
   rw [zaq (Nat.le_refl _)] at hg
   refine zL ?_
   refine zS ?_
   refine zap ?_
   refine zD ?_
   refine zd ?_
   obtain ⟨s0, hs0, hs1⟩ := hf
   obtain ⟨i, z, hi, hz, hfz⟩ := zlC (p := fun s => !(g s)) (l := r.Players) (zri ⟨s0, hs0, by rw [hs1]; rfl⟩)
   refine zaF (fun _ => True) [] mixed ?_
   refine ahp 0 rfl rfl (by kernel_rfl) (by kernel_rfl) (zc zq8 rfl rfl rfl) ?_
   refine ahp 1 rfl rfl (by kernel_rfl) (by kernel_rfl) ((zac rfl)) ?_
   refine ahp 2 rfl rfl (by kernel_rfl) (by kernel_rfl) (zb zbx rfl zhg (by decide) rfl) ?_
   refine ahp 3 rfl rfl (by kernel_rfl) (by kernel_rfl) (zc zhg rfl rfl rfl) ?_
   refine ahp 4 rfl rfl (by kernel_rfl) (by kernel_rfl) ((zac rfl)) ?_
   refine ahp 5 rfl rfl (by kernel_rfl) (by kernel_rfl) (zb zV rfl zA (by decide) rfl) ?_
   refine ahp 6 rfl rfl (by kernel_rfl) (by kernel_rfl) (zc zA rfl rfl rfl) ?_
   refine ahp 7 rfl rfl (by kernel_rfl) (by kernel_rfl) (zc zq8 rfl rfl rfl) ?_
   refine ahp 8 rfl rfl (by kernel_rfl) (by kernel_rfl) ((zac rfl)) ?_
   refine ahp 9 rfl rfl (by kernel_rfl) (by kernel_rfl) (zb zbx rfl zhg (by decide) rfl) ?_
   refine ahp 10 rfl rfl (by kernel_rfl) (by kernel_rfl) (zc zhg rfl rfl rfl) ?_
   refine ahp 11 rfl rfl (by kernel_rfl) (by kernel_rfl) ((zac rfl)) ?_
   refine ahp 12 rfl rfl (by kernel_rfl) (by kernel_rfl) (zb zV rfl zA (by decide) rfl) ?_
   refine ahp 13 rfl rfl (by kernel_rfl) (by kernel_rfl) (zc zA rfl rfl rfl) ?_
   refine ahp 14 rfl rfl (by kernel_rfl) (by kernel_rfl) (zh rfl) ?_
   refine ahp 15 rfl rfl (by kernel_rfl) (by kernel_rfl) (zj zoI rfl (WeakL.refl _) (zbt (p := fun s => !(g s)) zrP (fun _ => zfe hS) (hpl))) ?_
   refine ahp 16 rfl rfl (by kernel_rfl) (by kernel_rfl) (zH (j := i) (a := z) zA ty9 rfl rfl hi hz) ?_
   refine ahp 17 rfl rfl (by kernel_rfl) (by kernel_rfl) (zc ty9 rfl rfl rfl) ?_
   refine ahp 18 rfl rfl (by kernel_rfl) (by kernel_rfl) (zaJ rfl) ?_
   refine ahz (by kernel_rfl) ?_
   refine zg ?_
   refine zm rfl ?_
   show HVal.str _ = _
   (rw [zbG, hg]; simp only [zbo]; rw [hfz]; rfl)

/-- (*benchwarmer/draft.run).pick -/
theorem zfO [Tracks] {b m : Nat} {va v : Value} {r : Room} {A T l : List Pick} {S : List Str} {p : Pick} (h0 : 0 < T.length) (hl : l.length ≤ 1000) : Con Tryz.prog 65 [pAt b, zc1 p] (zdq b m va v r A T l S) (fun x M' => ∃ v', x = .tup [] ∧ M' = zdq b m va v' r A (T.drop 1) (l ++ [p]) (zaY p.Player S)) := by
 refine Con.of_body Tryz.func65 rfl Tryz.ntmps65 rfl rfl ?_
 refine za ?_
 refine dq (zam rfl rfl) ?_
 refine dn ?_
 refine zaF (fun M => ∃ i : Nat, M[i]? = some (.cells b [.vptr (zl (zby r)) 0, .raw va, zdb T, .raw v, .raw (.map (some m))])) [5, 12] mixed ?_
 refine ahp 0 rfl rfl (by kernel_rfl) (by kernel_rfl) (zh rfl) ?_
 refine ahp 1 rfl rfl (by kernel_rfl) (by kernel_rfl) (zh rfl) ?_
 refine ahp 2 rfl rfl (by kernel_rfl) (by kernel_rfl) (zh rfl) ?_
 refine ahp 3 rfl rfl (by kernel_rfl) (by kernel_rfl) ((zP rfl)) ?_
 refine ahp 4 rfl rfl (by kernel_rfl) (by kernel_rfl) (zq zbx rfl zaw (by decide) rfl) ?_
 refine ahl 5 rfl rfl (by kernel_rfl) (by kernel_rfl) (by simp) (⟨0, rfl⟩) (fun M hM => by obtain ⟨i, hi⟩ := hM; exact zaD (i := i) zaw rfl hi (.inl ⟨rfl, rfl⟩) ⟨rfl, rfl⟩) ?_
 refine ahp 6 rfl rfl (by kernel_rfl) (by kernel_rfl) (zB zan rfl rfl rfl rfl) ?_
 refine ahp 7 rfl rfl (by kernel_rfl) (by kernel_rfl) (zG (hs := [_]) zaw zan rfl rfl (by decide) (by decide) rfl) ?_
 refine ahp 9 rfl rfl (by kernel_rfl) (by kernel_rfl) (zh rfl) ?_
 refine ahp 10 rfl rfl (by kernel_rfl) (by kernel_rfl) ((zP rfl)) ?_
 refine ahp 11 rfl rfl (by kernel_rfl) (by kernel_rfl) (zq zbx rfl zaw (by decide) rfl) ?_
 refine ahl 12 rfl rfl (by kernel_rfl) (by kernel_rfl) (by simp) (⟨0, rfl⟩) (fun M hM => by obtain ⟨i, hi⟩ := hM; exact zaD (i := i) zaw rfl hi (.inl ⟨rfl, rfl⟩) ⟨rfl, rfl⟩) ?_
 refine ahp 13 rfl rfl (by kernel_rfl) (by kernel_rfl) (zce (l := 1) zaw zan rfl ⟨_, _, rfl, rfl⟩ rfl (by omega) (by omega)) ?_
 refine ahe 8 rfl (by kernel_rfl) ?_
 refine zaE rfl (zaO (i := 2) zaw zan rfl rfl rfl rfl rfl (by simp [za6, zl]) (by simp; omega) fun v12 => ?_)
 refine ⟨fun _ => by first | exact .inl ⟨0, rfl⟩ | exact .inl ⟨1, rfl⟩ | exact .inl ⟨2, rfl⟩ | exact .inr (by simp [zbU, Region.binds]), ?_⟩
 refine ahp 14 rfl rfl (by kernel_rfl) (by kernel_rfl) ((zP rfl)) ?_
 refine ahp 15 rfl rfl (by kernel_rfl) (by kernel_rfl) (zq zbx rfl zaw (by decide) rfl) ?_
 refine ahe 16 rfl (by kernel_rfl) ?_
 refine zbq (zat (i := 0) zaw rfl rfl rfl rfl rfl (Nat.le_of_ble_eq_true rfl) ?_)
 refine ⟨fun _ => by first | exact .inl ⟨0, rfl⟩ | exact .inl ⟨1, rfl⟩ | exact .inl ⟨2, rfl⟩ | exact .inr (by simp [zbU, Region.binds]), ?_⟩
 refine ahp 17 rfl rfl (by kernel_rfl) (by kernel_rfl) ((zP rfl)) ?_
 refine ahp 18 rfl rfl (by kernel_rfl) (by kernel_rfl) (zq zbx rfl zaw (by decide) rfl) ?_
 refine ahe 19 rfl (by kernel_rfl) ?_
 refine zbq (zat (i := 0) zaw rfl rfl rfl rfl rfl (Nat.le_of_ble_eq_true rfl) ?_)
 refine ⟨fun _ => by first | exact .inl ⟨0, rfl⟩ | exact .inl ⟨1, rfl⟩ | exact .inl ⟨2, rfl⟩ | exact .inr (by simp [zbU, Region.binds]), ?_⟩
 refine ahz (by kernel_rfl) ?_
 refine zF (Ghost.perm (M' := zdq b m va v12 r A (T.drop 1) (l ++ [p]) S) (zU (by simp [zZ, zl]; done))) ?_
 refine zb2 (fun _ => True) [] mixed ?_
 refine ahp 0 rfl rfl (by kernel_rfl) (by kernel_rfl) (zh rfl) ?_
 refine ahp 1 rfl rfl (by kernel_rfl) (by kernel_rfl) ((zP rfl)) ?_
 refine ahp 2 rfl rfl (by kernel_rfl) (by kernel_rfl) (zq zbx rfl zcM (by decide) rfl) ?_
 refine ahp 4 rfl rfl (by kernel_rfl) (by kernel_rfl) ((zb zan rfl ty9 (by decide) rfl)) ?_
 refine ahp 5 rfl rfl (by kernel_rfl) (by kernel_rfl) (zc ty9 rfl rfl rfl) ?_
 refine ahe 3 rfl (by kernel_rfl) ?_
 refine zaE rfl (zaD (i := 0) zcM rfl rfl (.inl ⟨rfl, rfl⟩) ?_)
 refine ⟨fun _ => .inl trivial, ?_⟩
 refine ahe 6 rfl (by kernel_rfl) ?_
 refine zbq (zbZ (i := 3) zcM ty9 rfl rfl rfl rfl ?_)
 refine ⟨fun _ => .inl trivial, ?_⟩
 refine ahz (by kernel_rfl) ?_
 exact zcw rfl ⟨v12, rfl, rfl⟩

/-- benchwarmer/draft.open -/
theorem zlr [Tracks] {r : Room} {l : List Keep} {s : List Swap} (ht : r.Teams.length ≤ 20) (hr0 : 1 ≤ r.Rounds) (hr : r.Rounds ≤ 30) (hk0 : l.length ≤ 1000000) (hl : s.length ≤ 1000000) (hlen : (turns r s).length ≤ 600) : zpm Tryz.prog 153 [.vptr (zl (zby r)) 0, zeE l, zb7 s] 5 ((z8 r l s).map zc1) := by
 refine Con.of_body Tryz.func153 rfl Tryz.ntmps153 rfl rfl ?_
 refine za ?_
 refine das rfl ?_
 refine dn ?_
 refine za ?_
 refine das rfl ?_
 refine dn ?_
 refine zF (Ghost.arr_nil 5) ?_
 refine zf ?_
 refine za ?_
 refine dmv rfl ?_
 refine dmv rfl ?_
 refine dq (zj ca58 rfl (WeakL.refl _) (zhA (by assumption) (by assumption) (by assumption) (by assumption))) ?_
 refine dq (zv zi9 rfl) ?_
 refine dmv rfl ?_
 refine dn ?_
 refine zk ?_
 refine zaS [7, 8, 9, 10, 12, 17, 18, 19, 20, 21, 22, 23, 24, 25, 26, 27, 28, 29, 30, 31, 32, 33, 34, 35, 36, 37, 38, 39, 40, 41, 42, 43, 44, 45, 46, 47, 48, 49, 50, 51, 52, 53, 54, 55, 56, 57] (fun (i : Nat) (u : Value) => [(17, .int .i64 i), (7, .raw u)]) (fun (i : Nat) (u : Value) => [.arr u 5 ((zak r l 0 ((turns r s).take i)).map zc1)]) (fun (i : Nat) (u : Value) => i ≤ (turns r s).length ∧ (True)) (fun (i : Nat) (u : Value) => (turns r s).length - i) (0) (.slice none 0 0) ?_ ?_ ?_ ?_
 ·exact ⟨Nat.zero_le _, by simp_all⟩
 ·exact ⟨rfl, rfl, trivial⟩
 ·exact zU (by simp [zak])
 ·intro i u hinv
  obtain ⟨hi, -⟩ := hinv
  refine za ?_
  refine dq (zK rfl rfl) ?_
  refine dn ?_
  refine zf ?_
  refine ze rfl (fun h1 => ?_) (fun h2 => ?_)
  ·try simp at h1
   obtain ⟨t, ht⟩ : ∃ t, (turns r s)[i]? = some t := ⟨_, List.getElem?_eq_getElem h1⟩
   have hdt := zI ht
   refine zi ?_
   refine zd ?_
   refine zf ?_
   refine zk ?_
   refine za ?_
   refine dmv rfl ?_
   refine dq (zH zi9 zcV rfl rfl rfl (by assumption)) ?_
   refine dq (zB zcV rfl rfl rfl rfl) ?_
   refine de rfl (zO zcV rfl fun b9 => ?_)
   refine das rfl ?_
   refine de0 (zR zcV rfl rfl rfl rfl rfl ?_)
   refine dn ?_
   refine zF (Ghost.fc0 9 rfl) ?_
   refine za ?_
   refine dmv rfl ?_
   refine dq (zb zcV rfl ty9 (by decide) rfl) ?_
   refine dq (zc ty9 rfl rfl rfl) ?_
   refine dq (zau (cs := [_, _, _, _, _]) zan pl44 rfl) ?_
   refine de rfl (zO zan rfl fun b10 => ?_)
   refine de0 (zR zan rfl rfl rfl rfl rfl ?_)
   refine dn ?_
   refine zf ?_
   refine za ?_
   refine dmv rfl ?_
   refine dq (zv zht rfl) ?_
   refine dmv rfl ?_
   refine dn ?_
   refine zk ?_
   refine zaS [12, 28, 29, 30, 31, 32, 33, 34, 35, 36, 37, 38, 39, 40, 41, 42, 43, 44, 45, 46, 47, 48, 49, 50, 51, 52] (fun (k : Nat) (p : Pick) => [(28, .int .i64 k)]) (fun (k : Nat) (p : Pick) => [.cells b10 (zl (zc1 p)), .arr u 5 ((zak r l 0 ((turns r s).take i)).map zc1)]) (fun (k : Nat) (p : Pick) => k ≤ l.length ∧ (p = zbb r t ⟨i, t.team, [], 0, false⟩ (l.take k))) (fun (k : Nat) (p : Pick) => l.length - k) (0) (⟨i, t.team, [], 0, false⟩) ?_ ?_ ?_ ?_
   ·exact ⟨Nat.zero_le _, by simp [zbb]⟩
   ·exact ⟨rfl, trivial⟩
   ·exact List.Perm.refl _
   ·intro k p hinv
    obtain ⟨hk, hp⟩ := hinv
    refine za ?_
    refine dq (zK rfl rfl) ?_
    refine dn ?_
    refine zf ?_
    refine ze rfl (fun h3 => ?_) (fun h4 => ?_)
    ·try simp at h3
     obtain ⟨x, hx⟩ : ∃ x, l[k]? = some x := ⟨_, List.getElem?_eq_getElem h3⟩
     have hdx := zI hx
     refine zi ?_
     refine zd ?_
     refine zf ?_
     refine zk ?_
     refine za ?_
     refine dq (zH zht zbd rfl rfl rfl (by assumption)) ?_
     refine dq (zB zbd rfl rfl rfl rfl) ?_
     refine de rfl (zO zbd rfl fun b12 => ?_)
     refine de0 (zR zbd rfl rfl rfl rfl rfl ?_)
     refine dn ?_
     refine zF (Ghost.fc0 12 rfl) ?_
     refine za ?_
     refine dq (zb zbd rfl ty9 (by decide) rfl) ?_
     refine dq (zc ty9 rfl rfl rfl) ?_
     refine dq (zb zcV rfl ty9 (by decide) rfl) ?_
     refine dq (zc ty9 rfl rfl rfl) ?_
     refine dq (zbh rfl rfl) ?_
     refine dmv rfl ?_
     refine dg rfl rfl (fun hc => ⟨_, OpenTo.refl _, zb zbd rfl ty3 (by decide) rfl⟩) ?_
     refine dg rfl rfl (fun hc => ⟨_, OpenTo.upd (t := 38) rfl (hc) (OpenTo.refl _), zc ty3 rfl rfl rfl⟩) ?_
     refine dg rfl rfl (fun hc => ⟨_, OpenTo.refl _, zb zcV rfl ty3 (by decide) rfl⟩) ?_
     refine dg rfl rfl (fun hc => ⟨_, OpenTo.upd (t := 40) rfl (hc) (OpenTo.refl _), zc ty3 rfl rfl rfl⟩) ?_
     refine dg rfl rfl (fun hc => ⟨_, OpenTo.upd (t := 41) rfl (hc) (OpenTo.upd (t := 39) rfl (hc) (OpenTo.refl _)), zaz rfl rfl⟩) ?_
     refine dq (zw rfl (.inr ⟨_, rfl, fun h => by simp_all⟩) (.inl rfl)) ?_
     refine dn ?_
     refine ze rfl (fun h5 => ?_) (fun h6 => ?_)
     ·try simp at h5
      refine zb2 (fun _ => True) [] mixed ?_
      refine ahp 0 rfl rfl (by kernel_rfl) (by kernel_rfl) (zb zbd rfl ty9 (by decide) rfl) ?_
      refine ahp 1 rfl rfl (by kernel_rfl) (by kernel_rfl) (zc ty9 rfl rfl rfl) ?_
      refine ahp 2 rfl rfl (by kernel_rfl) (by kernel_rfl) (zh rfl) ?_
      refine ahp 3 rfl rfl (by kernel_rfl) (by kernel_rfl) ((zac rfl)) ?_
      refine ahp 4 rfl rfl (by kernel_rfl) (by kernel_rfl) (zb zV rfl ty3 (by decide) rfl) ?_
      refine ahp 5 rfl rfl (by kernel_rfl) (by kernel_rfl) (zc ty3 rfl rfl rfl) ?_
      refine ahp 6 rfl rfl (by kernel_rfl) (by kernel_rfl) (zq zan rfl ty9 (by decide) rfl) ?_
      refine ahe 7 rfl (by kernel_rfl) ?_
      refine zbq (zat (i := 0) ty9 rfl rfl rfl rfl rfl (Nat.le_of_ble_eq_true rfl) ?_)
      refine ⟨fun _ => .inl trivial, ?_⟩
      refine ahp 8 rfl rfl (by kernel_rfl) (by kernel_rfl) (zq zan rfl ty3 (by decide) rfl) ?_
      refine ahe 9 rfl (by kernel_rfl) ?_
      refine zbq (zat (i := 0) ty3 rfl rfl rfl rfl rfl (Nat.le_of_ble_eq_true rfl) ?_)
      refine ⟨fun _ => .inl trivial, ?_⟩
      refine ahz (by kernel_rfl) ?_
      refine zu ?_
      refine zd ?_
      refine zy ?_
      refine dq (zx rfl rfl (by omega) (by omega)) ?_
      refine dmv rfl ?_
      refine dn ?_
      exact ⟨k + 1, { p with Player := x.Player, At := r.Start }, ⟨by omega, by rw [List.take_add_one, hx, hp]; exact (zjz r t _ x _).symm ▸ (by simp_all)⟩, by dsimp only; omega, ⟨rfl, trivial⟩, (by repeat (first | exact zo | refine zt rfl ?_ | refine zp rfl rfl ?_)), List.Perm.refl _⟩
     ·try simp at h6
      refine zi ?_
      refine zu ?_
      refine zd ?_
      refine zy ?_
      refine dq (zx rfl rfl (by omega) (by omega)) ?_
      refine dmv rfl ?_
      refine dn ?_
      exact ⟨k + 1, p, ⟨by omega, by rw [List.take_add_one, hx, hp]; exact (zjz r t _ x _).symm ▸ (by simp_all)⟩, by dsimp only; omega, ⟨rfl, trivial⟩, (by repeat (first | exact zo | refine zt rfl ?_ | refine zp rfl rfl ?_)), List.Perm.refl _⟩
    ·try simp at h4
     have hnk : l.length ≤ k := by omega
     obtain rfl : k = l.length := by omega
     rw [List.take_length] at hp
     subst hp
     refine zL ?_
     refine zS ?_
     refine za8 ?_
     refine zD ?_
     refine zd ?_
     have ho : (zak r l 0 ((turns r s).take i)).length ≤ 600 := by rw [zdC]; simp; omega
     refine zy ?_
     refine dmv rfl ?_
     refine de rfl (zgc (i := 0) zan rfl rfl rfl rfl rfl ?_)
     refine dq (zG (hs := [_]) zaw zan rfl rfl (by decide) (by decide) rfl) ?_
     refine de rfl (zaO (i := 1) zaw zan rfl rfl rfl rfl rfl (by simp [za6, zl]) (by simp; omega) fun v56 => ?_)
     refine das rfl ?_
     refine dn ?_
     refine zu ?_
     refine zd ?_
     refine zF Ghost.drop ?_
     refine zy ?_
     refine dq (zx rfl rfl (by omega) (by omega)) ?_
     refine dmv rfl ?_
     refine dn ?_
     refine ⟨i + 1, _, ?_, ?_, ⟨rfl, rfl, trivial⟩, (by repeat (first | exact zo | refine zt rfl ?_ | refine zp rfl rfl ?_)), zU (by simp [List.take_add_one, ht, zhE, Nat.min_eq_left hi])⟩
     ·exact ⟨by omega, trivial⟩
     ·dsimp only; omega
  ·try simp at h2
   have hni : (turns r s).length ≤ i := by omega
   obtain rfl : i = (turns r s).length := by omega
   refine zL ?_
   refine zS ?_
   refine za8 ?_
   refine zD ?_
   refine zd ?_
   refine za ?_
   refine dmv rfl ?_
   refine das rfl ?_
   refine dn ?_
   refine zg ?_
   exact zmp rfl (by simp [z8])

/-- benchwarmer/draft.newRun -/
theorem zla [Tracks] {r : Room} {k : List Keep} {s : List Swap} (h : openFault r k s = 0) (hk0 : k.length ≤ 1000000) (hl : s.length ≤ 1000000) : Con Tryz.prog 106 [.vptr (zl (zby r)) 0, zeE k, zb7 s] [] (fun x M' => ∃ b m va v S, x = pAt b ∧ RunOk r k s [] S ∧ M' = zdq b m va v r (z8 r k s) (zX r k s) [] S) := by
 have hro := zcE (zaQ h).1
 have ht := hro.t20
 have hr0 := hro.r1
 have hr := hro.r30
 have hlen := zhX (r := r) (s := s) (zaQ h).1
 have hop := zrj (k := k) (s := s) hro
 have hol : (z8 r k s).length ≤ 600 := by unfold z8; rw [zdC]; exact hlen
 refine Con.of_body Tryz.func106 rfl Tryz.ntmps106 rfl rfl ?_
 refine za ?_
 refine das rfl ?_
 refine dn ?_
 refine za ?_
 refine dmv rfl ?_
 refine dmv rfl ?_
 refine dmv rfl ?_
 refine dmv rfl ?_
 refine de rfl (zgd ztP rfl (WeakL.refl _) (zlr (by assumption) (by assumption) (by assumption) (by assumption) (by assumption) (by assumption)) fun v14 => ?_)
 refine de rfl (za4 fun m15 => ?_)
 refine dq (zau (cs := [_, _, _, _, _]) zbx zs4 rfl) ?_
 refine de rfl (zoG rfl rfl fun b => ?_)
 refine das rfl ?_
 refine dn ?_
 refine zF (Ghost.perm (M' := [.arr v14 5 ((z8 r k s).map zc1), .cells b [.vptr (zl (zby r)) 0, .raw v14, .raw (.slice none 0 0), .raw (.slice none 0 0), .raw (.map (some m15))], .map m15 (sk (zaP []))]) (by repeat (first | exact List.Perm.nil | refine zT 0 rfl ?_ | refine zT 1 rfl ?_ | refine zT 2 rfl ?_ | refine zT 3 rfl ?_ | (refine zM 0 rfl ?hq ?_; (case hq => simp [zZ, zl]; done)) | (refine zM 1 rfl ?hq ?_; (case hq => simp [zZ, zl]; done)) | (refine zM 2 rfl ?hq ?_; (case hq => simp [zZ, zl]; done)) | (refine zM 3 rfl ?hq ?_; (case hq => simp [zZ, zl]; done)) | fail))) ?_
 refine zi8 (i := 0) rfl (fun h0 he => ?_) (fun ob off cap hv hcap => ?_)
 ·exfalso; have := congrArg List.length he; simp at this; rw [this] at hop; simp at hop
 rw [List.length_map] at hv hcap
 subst hv
 refine zf ?_
 refine za ?_
 refine dmv rfl ?_
 refine dq ((zP rfl)) ?_
 refine dq (zq zbx rfl zaw (by decide) rfl) ?_
 refine de rfl (zaD (i := 1) zaw rfl rfl (.inl ⟨rfl, rfl⟩) ?_)
 refine de rfl (zj2 (i := 0) zaw rfl rfl ?_)
 refine dmv rfl ?_
 refine dn ?_
 refine zF (Ghost.arr_nil 5) ?_
 refine zk ?_
 refine zdt [9, 23, 24, 25, 26, 27, 28, 29, 30, 31, 32, 33, 34, 35, 36, 37, 38, 39, 40, 41, 42, 43, 44, 45, 46] (fun (i : Nat) (u : Value) (S : List Str) => [(23, .int .i64 i)]) (fun (i : Nat) (u : Value) (S : List Str) => [.cells b [.vptr (zl (zby r)) 0, .raw (.slice (some ⟨ob, off, none⟩) (z8 r k s).length cap), .raw u, .raw (.slice none 0 0), .raw (.map (some m15))], .arr (.slice (some ⟨ob, off, none⟩) (z8 r k s).length cap) 5 ((z8 r k s).map zc1), .arr u 5 ((((z8 r k s).take i).filter fun p => p.Player == []).map zc1), .map m15 (sk (zaP S))]) (fun (i : Nat) (u : Value) (S : List Str) => i ≤ (z8 r k s).length ∧ (∀ x, S.contains x = ((z8 r k s).take i).any fun p => !(p.Player == []) && p.Player == x)) (fun (i : Nat) (u : Value) (S : List Str) => (z8 r k s).length - i) (0) (.slice none 0 0) ([]) ?_ ?_ ?_ ?_
 ·exact ⟨Nat.zero_le _, by simp⟩
 ·exact ⟨rfl, trivial⟩
 ·repeat (first | exact List.Perm.nil | refine zT 0 rfl ?_ | refine zT 1 rfl ?_ | refine zT 2 rfl ?_ | refine zT 3 rfl ?_ | (refine zM 0 rfl ?hq ?_; (case hq => simp [zZ, zl]; done)) | (refine zM 1 rfl ?hq ?_; (case hq => simp [zZ, zl]; done)) | (refine zM 2 rfl ?hq ?_; (case hq => simp [zZ, zl]; done)) | (refine zM 3 rfl ?hq ?_; (case hq => simp [zZ, zl]; done)) | fail)
 ·intro i u S hinv
  obtain ⟨hi, hS⟩ := hinv
  refine za ?_
  refine dq (zK rfl rfl) ?_
  refine dn ?_
  refine zf ?_
  refine ze rfl (fun h1 => ?_) (fun h2 => ?_)
  ·try simp at h1
   obtain ⟨x, hx⟩ : ∃ x, (z8 r k s)[i]? = some x := ⟨_, List.getElem?_eq_getElem h1⟩
   have hdx := zI hx
   have hfl : (((z8 r k s).take i).filter fun p => p.Player == []).length ≤ 600 := Nat.le_trans (List.length_filter_le _ _) (by simp; omega)
   refine zi ?_
   refine zd ?_
   refine zf ?_
   refine zk ?_
   refine za ?_
   refine dq (zbj (j := i) zaw zan rfl rfl rfl (by omega)) ?_
   refine de rfl (zds (i := 1) (j := i) (f := zc1) (es := z8 r k s) zan rfl rfl rfl hx rfl rfl rfl ?_)
   refine de rfl (zO zan rfl fun b9 => ?_)
   refine de0 (zR zan rfl rfl rfl rfl rfl ?_)
   refine dn ?_
   refine zF (Ghost.fc0 9 rfl) ?_
   refine za ?_
   refine dq ((zb zan rfl ty9 (by decide) rfl)) ?_
   refine dq (zc ty9 rfl rfl rfl) ?_
   refine dq (zbh rfl rfl) ?_
   refine dn ?_
   refine ze rfl (fun h3 => ?_) (fun h4 => ?_)
   ·try simp at h3
    refine zb2 (fun _ => True) [] mixed ?_
    refine ahp 0 rfl rfl (by kernel_rfl) (by kernel_rfl) (zh rfl) ?_
    refine ahp 1 rfl rfl (by kernel_rfl) (by kernel_rfl) (zh rfl) ?_
    refine ahp 2 rfl rfl (by kernel_rfl) (by kernel_rfl) ((zP rfl)) ?_
    refine ahp 3 rfl rfl (by kernel_rfl) (by kernel_rfl) (zq zbx rfl zaw (by decide) rfl) ?_
    refine ahp 5 rfl rfl (by kernel_rfl) (by kernel_rfl) (zB zan rfl rfl rfl rfl) ?_
    refine ahp 6 rfl rfl (by kernel_rfl) (by kernel_rfl) (zG (hs := [_]) zaw zan rfl rfl (by decide) (by decide) rfl) ?_
    refine ahe 4 rfl (by kernel_rfl) ?_
    refine zaE rfl (zaD (i := 0) zaw rfl rfl (.inl ⟨rfl, rfl⟩) ?_)
    refine ⟨fun _ => .inl trivial, ?_⟩
    refine ahe 7 rfl (by kernel_rfl) ?_
    refine zaE rfl (zaO (i := 2) zaw zan rfl rfl rfl rfl rfl (by simp [za6, zl]) (by simp only [List.length_map, List.length_cons, List.length_nil]; omega) fun v37 => ?_)
    refine ⟨fun _ => .inl trivial, ?_⟩
    refine ahp 8 rfl rfl (by kernel_rfl) (by kernel_rfl) ((zP rfl)) ?_
    refine ahp 9 rfl rfl (by kernel_rfl) (by kernel_rfl) (zq zbx rfl zaw (by decide) rfl) ?_
    refine ahe 10 rfl (by kernel_rfl) ?_
    refine zbq (zat (i := 0) zaw rfl rfl rfl rfl rfl (Nat.le_of_ble_eq_true rfl) ?_)
    refine ⟨fun _ => .inl trivial, ?_⟩
    refine ahz (by kernel_rfl) ?_
    refine zu ?_
    refine zd ?_
    refine zy ?_
    refine dq (zx rfl rfl (by omega) (by omega)) ?_
    refine dmv rfl ?_
    refine dn ?_
    exact ⟨i + 1, v37, S, ⟨by omega, fun y => by rw [zmS _ hx, hS y]; simp [h3]⟩, by dsimp only; omega, ⟨rfl, trivial⟩, (by repeat (first | exact zo | refine zt rfl ?_ | refine zp rfl rfl ?_)), zU (by dsimp only; rw [zhT _ hx]; simp [h3, zZ, zl])⟩
   ·try simp at h4
    refine zb2 (fun _ => True) [] mixed ?_
    refine ahp 0 rfl rfl (by kernel_rfl) (by kernel_rfl) (zh rfl) ?_
    refine ahp 1 rfl rfl (by kernel_rfl) (by kernel_rfl) ((zP rfl)) ?_
    refine ahp 2 rfl rfl (by kernel_rfl) (by kernel_rfl) (zq zbx rfl zcM (by decide) rfl) ?_
    refine ahp 4 rfl rfl (by kernel_rfl) (by kernel_rfl) ((zb zan rfl ty9 (by decide) rfl)) ?_
    refine ahp 5 rfl rfl (by kernel_rfl) (by kernel_rfl) (zc ty9 rfl rfl rfl) ?_
    refine ahe 3 rfl (by kernel_rfl) ?_
    refine zaE rfl (zaD (i := 0) zcM rfl rfl (.inl ⟨rfl, rfl⟩) ?_)
    refine ⟨fun _ => .inl trivial, ?_⟩
    refine ahe 6 rfl (by kernel_rfl) ?_
    refine zbq (zbZ (i := 3) zcM ty9 rfl rfl rfl rfl ?_)
    refine ⟨fun _ => .inl trivial, ?_⟩
    refine ahz (by kernel_rfl) ?_
    refine zu ?_
    refine zd ?_
    refine zy ?_
    refine dq (zx rfl rfl (by omega) (by omega)) ?_
    refine dmv rfl ?_
    refine dn ?_
    have e4 : (x.Player == []) = false := by simpa using h4
    exact ⟨i + 1, u, zaY x.Player S, ⟨by omega, fun y => by simp only [zmS _ hx, zd4, hS y, e4, Bool.not_false, Bool.true_and]⟩, by dsimp only; omega, ⟨rfl, trivial⟩, (by repeat (first | exact zo | refine zt rfl ?_ | refine zp rfl rfl ?_)), zU (by dsimp only; rw [zhT _ hx]; simp [h4])⟩
  ·try simp at h2
   have hni : (z8 r k s).length ≤ i := by omega
   obtain rfl : i = (z8 r k s).length := by omega
   rw [List.take_length] at hS ⊢
   refine zL ?_
   refine zS ?_
   refine zee ?_
   refine zD ?_
   refine zd ?_
   refine zF (Ghost.fcell (i := 2) (k := 0) (j := 2) rfl rfl rfl) ?_
   refine zF (Ghost.arr_nil 5) ?_
   refine za ?_
   refine dmv rfl ?_
   refine das rfl ?_
   refine dn ?_
   refine zg ?_
   refine za2 (Ghost.perm (M' := zdq b m15 (.slice (some ⟨ob, off, none⟩) (z8 r k s).length cap) (.slice none 0 0) r (z8 r k s) (zX r k s) [] S) (by repeat (first | exact List.Perm.nil | refine zT 0 rfl ?_ | refine zT 1 rfl ?_ | refine zT 2 rfl ?_ | refine zT 3 rfl ?_ | (refine zM 0 rfl ?hq ?_; (case hq => simp [zZ, zl]; done)) | (refine zM 1 rfl ?hq ?_; (case hq => simp [zZ, zl]; done)) | (refine zM 2 rfl ?hq ?_; (case hq => simp [zZ, zl]; done)) | (refine zM 3 rfl ?hq ?_; (case hq => simp [zZ, zl]; done)) | fail))) rfl ⟨b, m15, _, _, S, rfl, zp8 h hS, rfl⟩

/-- benchwarmer/draft.follow -/
theorem zlq [Tracks] {r : Room} {k : List Keep} {s : List Swap} {l : List Pick}  (ht : r.Teams.length ≤ 1000000) (hp : r.Players.length ≤ 1000000) (hk0 : k.length ≤ 1000000) (hl : s.length ≤ 1000000) (hll : l.length ≤ 1000) : Con Tryz.prog 62 [.vptr (zl (zby r)) 0, zeE k, zb7 s, zdb l] [] (fun res M' => ∃ v, res = .tup [.raw v, .int .i64 (zaf r k s l)] ∧ (zaf r k s l = 0 → ∃ b m va u S, v = .pointer (some ⟨b, 0, none⟩) ∧ RunOk r k s l S ∧ M' = zdq b m va u r (z8 r k s) ((zX r k s).drop l.length) l S)) := by
 refine Con.of_body Tryz.func62 rfl Tryz.ntmps62 rfl rfl ?_
 refine za ?_
 refine das rfl ?_
 refine das rfl ?_
 refine dn ?_
 refine zf ?_
 refine za ?_
 refine dmv rfl ?_
 refine dq ((zac rfl)) ?_
 refine dq (zB zV rfl rfl rfl rfl) ?_
 refine dmv rfl ?_
 refine dmv rfl ?_
 refine dq (zj ztL rfl (WeakL.refl _) (zjm (by assumption) (by assumption) (by assumption) (by assumption))) ?_
 refine das rfl ?_
 refine dn ?_
 refine za ?_
 refine dmv rfl ?_
 refine dq (zah rfl rfl) ?_
 refine dn ?_
 refine ze rfl (fun h1 => ?_) (fun h2 => ?_)
 ·try simp at h1
  refine za ?_
  refine dmv rfl ?_
  refine das rfl ?_
  refine das rfl ?_
  refine dn ?_
  refine zg ?_
  (refine za2 Ghost.clear rfl ⟨.pointer none, ?_, fun h0 => ?_⟩
   ·show HVal.tup _ = _
    (rw [zaf, if_pos (by simpa using h1)]; rfl)
   ·exfalso
    first
    | (rw [zaf, if_pos (by simpa using h1)] at h0; exact absurd h0 h1)
    | (rw [zaf, if_neg (by simpa using h2), zhs, if_pos (by omega)] at h0; simp at h0; done)
    | (rw [zaf, if_neg (by simpa using h2), hg, ziF (by simpa using h7)] at h0; exact absurd h0 (by simpa using h7)))
 ·try simp at h2
  refine zi ?_
  refine zd ?_
  have hof : openFault r k s = 0 := by simpa using h2
  have hso := (zcE (zaQ hof).1).sorted
  refine za ?_
  refine dmv rfl ?_
  refine dmv rfl ?_
  refine dmv rfl ?_
  refine de rfl (zaK (M1 := []) (R := []) zs5 rfl (WeakL.refl _) (List.Perm.refl _) (zla (k := k) (s := s) hof hk0 hl) ?_)
  rintro _ _ ⟨b, m, va, v0, S0, rfl, ok0, rfl⟩
  refine das rfl ?_
  refine dn ?_
  refine zf ?_
  refine za ?_
  refine dmv rfl ?_
  refine dq (zv zaw rfl) ?_
  refine dmv rfl ?_
  refine dq ((zP rfl)) ?_
  refine dq (zq zbx rfl zaw (by decide) rfl) ?_
  refine de rfl (zaD (i := 0) zaw rfl rfl (.inl ⟨rfl, rfl⟩) ?_)
  refine dq (zv zaw rfl) ?_
  refine dq (z6 rfl rfl) ?_
  refine dn ?_
  refine ze rfl (fun h3 => ?_) (fun h4 => ?_)
  ·try simp at h3
   refine za ?_
   refine das rfl ?_
   refine das rfl ?_
   refine dn ?_
   refine zg ?_
   (refine za2 Ghost.clear rfl ⟨.pointer none, ?_, fun h0 => ?_⟩
    ·show HVal.tup _ = _
     (rw [zaf, if_neg (by simpa using h2), zhs, if_pos (by omega)]; rfl)
    ·exfalso
     first
     | (rw [zaf, if_pos (by simpa using h1)] at h0; exact absurd h0 h1)
     | (rw [zaf, if_neg (by simpa using h2), zhs, if_pos (by omega)] at h0; simp at h0; done)
     | (rw [zaf, if_neg (by simpa using h2), hg, ziF (by simpa using h7)] at h0; exact absurd h0 (by simpa using h7)))
  ·try simp at h4
   refine zi ?_
   refine zd ?_
   refine zf ?_
   refine za ?_
   refine dmv rfl ?_
   refine dq (zv zaw rfl) ?_
   refine dmv rfl ?_
   refine dn ?_
   refine zk ?_
   refine zdt [8, 9, 13, 14, 38, 39, 40, 41, 42, 43, 44, 45, 46, 47, 48, 49, 50, 51] (fun (i : Nat) (v : Value) (S : List Str) => [(38, .int .i64 i)]) (fun (i : Nat) (v : Value) (S : List Str) => (zdq b m va v r (z8 r k s) ((zX r k s).drop i) (l.take i) S)) (fun (i : Nat) (v : Value) (S : List Str) => i ≤ l.length ∧ (RunOk r k s (l.take i) S ∧ zhs r k s l = zd6 r k (zX r k s) l i (l.drop i))) (fun (i : Nat) (v : Value) (S : List Str) => l.length - i) (0) (v0) (S0) ?_ ?_ ?_ ?_
   ·refine ⟨Nat.zero_le _, ok0, ?_⟩
    rw [zhs, if_neg (by omega)]; rfl
   ·exact ⟨rfl, trivial⟩
   ·exact List.Perm.refl _
   ·intro i v S hinv
    obtain ⟨hi, ok, hg⟩ := hinv
    refine za ?_
    refine dq (zK rfl rfl) ?_
    refine dn ?_
    refine zf ?_
    refine ze rfl (fun h5 => ?_) (fun h6 => ?_)
    ·try simp at h5
     obtain ⟨x, hx⟩ : ∃ x, l[i]? = some x := ⟨_, List.getElem?_eq_getElem h5⟩
     have hdx := zI hx
     rw [hdx] at hg
     refine zi ?_
     refine zd ?_
     refine zf ?_
     refine zk ?_
     refine za ?_
     refine dq (zH zaw zan rfl rfl rfl (by assumption)) ?_
     refine dq (zB zan rfl rfl rfl rfl) ?_
     refine de rfl (zO zan rfl fun b13 => ?_)
     refine de0 (zR zan rfl rfl rfl rfl rfl ?_)
     refine dn ?_
     refine zF (Ghost.fc0 13 rfl) ?_
     refine zf ?_
     refine za ?_
     refine dmv rfl ?_
     refine dq (zB zan rfl rfl rfl rfl) ?_
     refine de rfl (zgg (hs' := [.vptr (zhi r (z8 r k s) ((zX r k s).drop i) (l.take i) S) 0, zc1 x]) ztE rfl ⟨zox, .refl, trivial⟩ (zjl (k := k) (s := s) (fr := zX r k s) (by simp; omega) (by rw [List.length_take, Nat.min_eq_left hi]) (by simp; omega) ok hp hso) rfl ?_)
     refine das rfl ?_
     refine dn ?_
     refine za ?_
     refine dmv rfl ?_
     refine dq (zah rfl rfl) ?_
     refine dn ?_
     refine ze rfl (fun h7 => ?_) (fun h8 => ?_)
     ·try simp at h7
      refine za ?_
      refine dmv rfl ?_
      refine das rfl ?_
      refine das rfl ?_
      refine dn ?_
      refine zg ?_
      (refine za2 Ghost.clear rfl ⟨.pointer none, ?_, fun h0 => ?_⟩
       ·show HVal.tup _ = _
        (rw [zaf, if_neg (by simpa using h2), hg, ziF (by simpa using h7)]; rfl)
       ·exfalso
        (rw [zaf, if_neg (by simpa using h2), hg, ziF (by simpa using h7)] at h0; exact absurd h0 (by simpa using h7)))
     ·try simp at h8
      refine zi ?_
      refine zd ?_
      refine zy ?_
      refine dmv rfl ?_
      refine dq (zB zan rfl rfl rfl rfl) ?_
      refine de rfl (zaK (M1 := (zdq b m va v r (z8 r k s) ((zX r k s).drop i) (l.take i) S)) (R := []) ca65 rfl (WeakL.refl _) (List.Perm.refl _) (zfO (p := x) (by simp; omega) (by simp; omega)) ?_)
      rintro _ _ ⟨v50, rfl, rfl⟩
      refine dn ?_
      refine zu ?_
      refine zd ?_
      refine zy ?_
      refine dq (zx rfl rfl (by omega) (by omega)) ?_
      refine dmv rfl ?_
      refine dn ?_
      exact ⟨i + 1, v50, zaY x.Player S, ⟨by omega, by rw [zae hx]; exact ok.add x, by rw [hg, zoZ (by simpa using h8)]⟩, by dsimp only; omega, ⟨rfl, trivial⟩, (by repeat (first | exact zo | refine zt rfl ?_ | refine zp rfl rfl ?_)), zU (by dsimp only; rw [zae hx, List.drop_drop]; rfl)⟩
    ·try simp at h6
     have hni : l.length ≤ i := by omega
     obtain rfl : i = l.length := by omega
     rw [zaq (Nat.le_refl _)] at hg
     rw [List.take_length] at ok
     refine zF (Ghost.of_eq (M' := (zdq b m va v r (z8 r k s) ((zX r k s).drop l.length) l S)) (by rw [List.take_length])) ?_
     refine zL ?_
     refine zS ?_
     refine zee ?_
     refine zD ?_
     refine zd ?_
     refine za ?_
     refine dmv rfl ?_
     refine das rfl ?_
     refine das rfl ?_
     refine dn ?_
     refine zg ?_
     (have hz : zaf r k s l = 0 := by rw [zaf, if_neg (by simpa using h2), hg]; rfl
      rw [hz]
      exact zcw rfl ⟨_, rfl, fun _ => ⟨b, m, va, v, S, rfl, ok, rfl⟩⟩)

end
section
open Go.HL
/-- slices.IndexFunc[[]benchwarmer/api.Wishes,benchwarmer/api.Wishes] -/
theorem zcU [Tracks] {l : List Wish} {fid : FuncId} {caps : List HVal} {p : Wish → Bool} (hca : Callable Tryz.prog fid) (hp : ∀ x, ConP Tryz.prog fid ([zhw x] ++ caps) (.bool (p x))) (hl : l.length ≤ 1000000) : ConP Tryz.prog 154 [.slice 2 (l.map zhw), .fn (.func fid) [] caps] (.int .i64 (zbm p l 0)) := by
 refine Con.of_body Tryz.func154 rfl Tryz.ntmps154 rfl rfl ?_
 refine za ?_
 refine das rfl ?_
 refine dn ?_
 refine zf ?_
 refine za ?_
 refine dmv rfl ?_
 refine dq (zv zin rfl) ?_
 refine dmv rfl ?_
 refine dn ?_
 refine zk ?_
 refine zab [4, 5, 8, 9, 10, 11, 12, 13, 14, 15, 16, 17, 18] (fun (k : Nat) => [(8, .int .i64 k)]) (fun (k : Nat) => []) (fun (k : Nat) => k ≤ l.length ∧ (zbm p l 0 = zbm p (l.drop k) k)) (fun (k : Nat) => l.length - k) (0) ?_ ?_ ?_ ?_
 ·exact ⟨Nat.zero_le _, rfl⟩
 ·exact ⟨rfl, trivial⟩
 ·exact List.Perm.refl _
 ·intro k hinv
  obtain ⟨hk, hg⟩ := hinv
  refine za ?_
  refine dq (zK rfl rfl) ?_
  refine dn ?_
  refine zf ?_
  refine ze rfl (fun h1 => ?_) (fun h2 => ?_)
  ·try simp at h1
   obtain ⟨x, hx⟩ : ∃ x, l[k]? = some x := ⟨_, List.getElem?_eq_getElem h1⟩
   have hdx := zI hx
   rw [hdx] at hg
   refine zi ?_
   refine zd ?_
   refine zf ?_
   refine zk ?_
   refine za ?_
   refine dmv rfl ?_
   refine das rfl ?_
   refine dn ?_
   refine za ?_
   refine dmv rfl ?_
   refine dmv rfl ?_
   refine dmv rfl ?_
   refine dq (zH zin zbW rfl rfl rfl (by assumption)) ?_
   refine dq (zB zbW rfl rfl rfl rfl) ?_
   refine dq (zej hca rfl rfl (WeakL.refl _) (hp _)) ?_
   refine dn ?_
   refine ze rfl (fun h3 => ?_) (fun h4 => ?_)
   ·try simp at h3
    refine za ?_
    refine dmv rfl ?_
    refine das rfl ?_
    refine dn ?_
    refine zg ?_
    refine zm rfl ?_
    show HVal.int .i64 _ = _
    (rw [hg]; simp_all [zbm])
   ·try simp at h4
    refine zi ?_
    refine zu ?_
    refine zd ?_
    refine zy ?_
    refine dq (zx rfl rfl (by omega) (by omega)) ?_
    refine dmv rfl ?_
    refine dn ?_
    refine ⟨k + 1, ?_, ?_, ⟨rfl, trivial⟩, (by repeat (first | exact zo | refine zt rfl ?_ | refine zp rfl rfl ?_)), List.Perm.refl _⟩
    ·refine ⟨by omega, ?_⟩
     rw [hg, zbm, if_neg (by simp_all)]; rfl
    ·dsimp only; omega
  ·try simp at h2
   have hnk : l.length ≤ k := by omega
   obtain rfl : k = l.length := by omega
   rw [zaq (Nat.le_refl _)] at hg
   refine zL ?_
   refine zS ?_
   refine zap ?_
   refine zD ?_
   refine zd ?_
   refine za ?_
   refine das rfl ?_
   refine dn ?_
   refine zg ?_
   refine zm rfl ?_
   show HVal.int .i64 _ = _
   (rw [hg]; rfl)

/-- slices.ContainsFunc[[]benchwarmer/api.Wishes,benchwarmer/api.Wishes] -/
theorem zcu [Tracks] {l : List Wish} {fid : FuncId} {caps : List HVal} {p : Wish → Bool} (hca : Callable Tryz.prog fid) (hp : ∀ x, ConP Tryz.prog fid ([zhw x] ++ caps) (.bool (p x))) (hl : l.length ≤ 1000000) : ConP Tryz.prog 108 [.slice 2 (l.map zhw), .fn (.func fid) [] caps] (.bool (l.any p)) := by
 refine Con.of_body Tryz.func108 rfl Tryz.ntmps108 rfl rfl ?_
 refine za ?_
 refine das rfl ?_
 refine dn ?_
 refine za ?_
 refine dmv rfl ?_
 refine dmv rfl ?_
 refine dq (zj zs9 rfl (WeakL.refl _) (zcU hca hp hl)) ?_
 refine dq (zbD rfl rfl) ?_
 refine das rfl ?_
 refine dn ?_
 refine zg ?_
 refine zm rfl ?_
 congr 1; exact zdg p l 0 (by omega)

/-- benchwarmer/draft.CheckWishes$1 -/
theorem zgM [Tracks] {y x : Wish}  : ConP Tryz.prog 109 [zhw y, .vptr (zl (zhw x)) 0] (.bool (y.Team == x.Team)) := by
 refine Con.of_body Tryz.func109 rfl Tryz.ntmps109 rfl rfl ?_
 refine za ?_
 refine dq (zam rfl rfl) ?_
 refine das rfl ?_
 refine dn ?_
 refine za ?_
 refine dq (zb zbW rfl ty9 (by decide) rfl) ?_
 refine dq (zc ty9 rfl rfl rfl) ?_
 refine dq (zb zbW rfl ty9 (by decide) rfl) ?_
 refine dq (zc ty9 rfl rfl rfl) ?_
 refine dq (zbh rfl rfl) ?_
 refine das rfl ?_
 refine dn ?_
 refine zg ?_
 refine zm rfl ?_
 rfl

/-- benchwarmer/draft.CheckWishes -/
theorem zhM [Tracks] {r : Room} {w : List Wish} (ht : r.Teams.length ≤ 1000000) (hp : r.Players.length ≤ 1000000) (hw : w.length ≤ 1000000) (hwp : ∀ y ∈ w, y.Players.length ≤ 1000000) : ConP Tryz.prog 63 [zby r, zel w] (.int .i64 (zad r w)) := by
 refine Con.of_body Tryz.func63 rfl Tryz.ntmps63 rfl rfl ?_
 refine za ?_
 refine dq (zam rfl rfl) ?_
 refine das rfl ?_
 refine dn ?_
 refine zf ?_
 refine za ?_
 refine dq (zB zV rfl rfl rfl rfl) ?_
 refine dq (zj zq0 rfl (WeakL.refl _) (zdS (by assumption) (by assumption))) ?_
 refine das rfl ?_
 refine dn ?_
 refine za ?_
 refine dmv rfl ?_
 refine dq (zah rfl rfl) ?_
 refine dn ?_
 refine ze rfl (fun h1 => ?_) (fun h2 => ?_)
 ·try simp at h1
  refine za ?_
  refine dmv rfl ?_
  refine das rfl ?_
  refine dn ?_
  refine zg ?_
  (refine zm rfl ?_
   show HVal.int .i64 _ = _
   first
   | (rw [zad, if_pos (by simpa using h1)]; done)
   | (rw [zad, if_neg (by simpa using h2), zdf, if_pos (by omega)]; done)
   | (rw [zad, if_neg (by simpa using h2), hg, ws8 h7]; done)
   | (rw [zad, if_neg (by simpa using h2), hg, ws6 h8 (by simpa using h9)]; done)
   | (rw [zad, if_neg (by simpa using h2), hg, ws2 h8 (by simpa using h10) (by omega)]; done)
   | (rw [zad, if_neg (by simpa using h2), hg]; rfl))
 ·try simp at h2
  refine zi ?_
  refine zd ?_
  refine zf ?_
  have hso := (zb6 (r := r) (by simpa using h2)).1
  refine za ?_
  refine dmv rfl ?_
  refine dq (zv zin rfl) ?_
  refine dq (z6 rfl rfl) ?_
  refine dn ?_
  refine ze rfl (fun h3 => ?_) (fun h4 => ?_)
  ·try simp at h3
   refine za ?_
   refine das rfl ?_
   refine dn ?_
   refine zg ?_
   (refine zm rfl ?_
    show HVal.int .i64 _ = _
    first
    | (rw [zad, if_pos (by simpa using h1)]; done)
    | (rw [zad, if_neg (by simpa using h2), zdf, if_pos (by omega)]; done)
    | (rw [zad, if_neg (by simpa using h2), hg, ws8 h7]; done)
    | (rw [zad, if_neg (by simpa using h2), hg, ws6 h8 (by simpa using h9)]; done)
    | (rw [zad, if_neg (by simpa using h2), hg, ws2 h8 (by simpa using h10) (by omega)]; done)
    | (rw [zad, if_neg (by simpa using h2), hg]; rfl))
  ·try simp at h4
   refine zi ?_
   refine zd ?_
   refine zf ?_
   refine za ?_
   refine dmv rfl ?_
   refine dq (zv zin rfl) ?_
   refine dmv rfl ?_
   refine dn ?_
   refine zk ?_
   refine zab [4, 6, 7, 8, 10, 21, 22, 23, 24, 25, 26, 27, 28, 29, 30, 31, 32, 33, 34, 35, 36, 37, 38, 39, 40, 41, 42, 43, 44, 45, 46, 47, 48, 49, 50, 51, 52, 53, 54, 55, 56, 57, 58, 59, 60, 61] (fun (k : Nat) => [(21, .int .i64 k)]) (fun (k : Nat) => []) (fun (k : Nat) => k ≤ w.length ∧ (zdf r w = zdD r w k (w.drop k))) (fun (k : Nat) => w.length - k) (0) ?_ ?_ ?_ ?_
   ·refine ⟨Nat.zero_le _, ?_⟩
    rw [zdf, if_neg (by omega)]; rfl
   ·exact ⟨rfl, trivial⟩
   ·exact List.Perm.refl _
   ·intro k hinv
    obtain ⟨hk, hg⟩ := hinv
    refine za ?_
    refine dq (zK rfl rfl) ?_
    refine dn ?_
    refine zf ?_
    refine ze rfl (fun h5 => ?_) (fun h6 => ?_)
    ·try simp at h5
     obtain ⟨x, hx⟩ : ∃ x, w[k]? = some x := ⟨_, List.getElem?_eq_getElem h5⟩
     have hdx := zI hx
     rw [hdx] at hg
     refine zi ?_
     refine zd ?_
     refine zf ?_
     refine zk ?_
     refine za ?_
     refine dmv rfl ?_
     refine dq (zH zin zbW rfl rfl rfl (by assumption)) ?_
     refine dq (zB zbW rfl rfl rfl rfl) ?_
     refine de rfl (zO zbW rfl fun b7 => ?_)
     refine das rfl ?_
     refine de0 (zR zbW rfl rfl rfl rfl rfl ?_)
     refine dn ?_
     refine zF (Ghost.fc0 7 rfl) ?_
     refine zf ?_
     refine zk ?_
     refine za ?_
     refine dq (zb zV rfl zA (by decide) rfl) ?_
     refine dq (zc zA rfl rfl rfl) ?_
     refine dq (zb zbW rfl ty9 (by decide) rfl) ?_
     refine dq (zc ty9 rfl rfl rfl) ?_
     refine dq (zj zii rfl (WeakL.refl _) (zaj (by omega))) ?_
     refine dq (zW rfl) ?_
     refine das rfl ?_
     refine dn ?_
     refine ze rfl (fun h7 => ?_) (fun h8 => ?_)
     ·try simp at h7
      refine za ?_
      refine das rfl ?_
      refine dn ?_
      refine zg ?_
      (refine zm rfl ?_
       show HVal.int .i64 _ = _
       first
       | (rw [zad, if_pos (by simpa using h1)]; done)
       | (rw [zad, if_neg (by simpa using h2), zdf, if_pos (by omega)]; done)
       | (rw [zad, if_neg (by simpa using h2), hg, ws8 h7]; done)
       | (rw [zad, if_neg (by simpa using h2), hg, ws6 h8 (by simpa using h9)]; done)
       | (rw [zad, if_neg (by simpa using h2), hg, ws2 h8 (by simpa using h10) (by omega)]; done)
       | (rw [zad, if_neg (by simpa using h2), hg]; rfl))
     ·try simp at h8
      refine za ?_
      refine dmv rfl ?_
      refine dmv rfl ?_
      refine dq (zce zin zbW rfl rfl ⟨_, _, rfl, rfl⟩ (by omega) (by omega)) ?_
      refine dq (zew rfl rfl) ?_
      refine dq (zj ztJ rfl (WeakL.refl _) (zcu (p := fun y => y.Team == x.Team) ztz (fun _ => zgM) (by simp; omega))) ?_
      refine das rfl ?_
      refine dn ?_
      refine ze rfl (fun h9 => ?_) (fun h10 => ?_)
      ·try simp at h9
       refine za ?_
       refine das rfl ?_
       refine dn ?_
       refine zg ?_
       (refine zm rfl ?_
        show HVal.int .i64 _ = _
        first
        | (rw [zad, if_pos (by simpa using h1)]; done)
        | (rw [zad, if_neg (by simpa using h2), zdf, if_pos (by omega)]; done)
        | (rw [zad, if_neg (by simpa using h2), hg, ws8 h7]; done)
        | (rw [zad, if_neg (by simpa using h2), hg, ws6 h8 (by simpa using h9)]; done)
        | (rw [zad, if_neg (by simpa using h2), hg, ws2 h8 (by simpa using h10) (by omega)]; done)
        | (rw [zad, if_neg (by simpa using h2), hg]; rfl))
      ·try simp at h10
       have hxp := hwp x (List.mem_of_getElem? hx)
       refine za ?_
       refine dq (zb zbW rfl zA (by decide) rfl) ?_
       refine dq (zc zA rfl rfl rfl) ?_
       refine dq (zv zA rfl) ?_
       refine dq (z6 rfl rfl) ?_
       refine das rfl ?_
       refine dn ?_
       refine ze rfl (fun h11 => ?_) (fun h12 => ?_)
       ·try simp at h11
        refine za ?_
        refine das rfl ?_
        refine dn ?_
        refine zg ?_
        (refine zm rfl ?_
         show HVal.int .i64 _ = _
         first
         | (rw [zad, if_pos (by simpa using h1)]; done)
         | (rw [zad, if_neg (by simpa using h2), zdf, if_pos (by omega)]; done)
         | (rw [zad, if_neg (by simpa using h2), hg, ws8 h7]; done)
         | (rw [zad, if_neg (by simpa using h2), hg, ws6 h8 (by simpa using h9)]; done)
         | (rw [zad, if_neg (by simpa using h2), hg, ws2 h8 (by simpa using h10) (by omega)]; done)
         | (rw [zad, if_neg (by simpa using h2), hg]; rfl))
       ·try simp at h12
        refine zi ?_
        refine zu ?_
        refine zd ?_
        refine za ?_
        refine de rfl (za4 fun m44 => ?_)
        refine das rfl ?_
        refine dn ?_
        refine za ?_
        refine dq (zb zbW rfl zA (by decide) rfl) ?_
        refine dq (zc zA rfl rfl rfl) ?_
        refine dq (zv zA rfl) ?_
        refine dmv rfl ?_
        refine dn ?_
        refine zk ?_
        refine zaS [4, 10, 48, 49, 50, 51, 52, 53, 54, 55, 56, 57, 58, 59, 60] (fun (j : Nat) (S : List Str) => [(48, .int .i64 j)]) (fun (j : Nat) (S : List Str) => [.map m44 (sk (zaP S))]) (fun (j : Nat) (S : List Str) => j ≤ x.Players.length ∧ (zdw r x.Players 0 x.Players = zdw r x.Players j (x.Players.drop j) ∧ ∀ y, S.contains y = (x.Players.take j).contains y)) (fun (j : Nat) (S : List Str) => x.Players.length - j) (0) ([]) ?_ ?_ ?_ ?_
        ·exact ⟨Nat.zero_le _, rfl, by simp⟩
        ·exact ⟨rfl, trivial⟩
        ·exact List.Perm.refl _
        ·intro j S hinv
         obtain ⟨hj, hg2, hS⟩ := hinv
         refine za ?_
         refine dq (zK rfl rfl) ?_
         refine dn ?_
         refine zf ?_
         refine ze rfl (fun h13 => ?_) (fun h14 => ?_)
         ·try simp at h13
          obtain ⟨y, hy⟩ : ∃ y, x.Players[j]? = some y := ⟨_, List.getElem?_eq_getElem h13⟩
          have hdy := zI hy
          rw [hdy] at hg2
          refine zi ?_
          refine zd ?_
          refine zf ?_
          refine zk ?_
          refine za ?_
          refine dq (zH zA ty9 rfl rfl rfl (by assumption)) ?_
          refine dq (zc ty9 rfl rfl rfl) ?_
          refine das rfl ?_
          refine dn ?_
          refine zf ?_
          refine za ?_
          refine dmv rfl ?_
          refine dq (zj zoH rfl (WeakL.refl _) (zgq hp hso)) ?_
          refine dq (zW rfl) ?_
          refine dn ?_
          refine ze rfl (fun h15 => ?_) (fun h16 => ?_)
          ·try simp at h15
           refine za ?_
           refine das rfl ?_
           refine dn ?_
           refine zg ?_
           (refine za2 Ghost.drop rfl ⟨?_, rfl⟩
            show HVal.int .i64 _ = _
            first
            | (rw [zad, if_neg (by simpa using h2), hg, wsP h8 (by simpa using h10) (by omega) (hg2.trans (wp8 h15)) (by decide)]; done)
            | (rw [zad, if_neg (by simpa using h2), hg, wsP h8 (by simpa using h10) (by omega) (hg2.trans (wp6 h16 (by rw [← hS y]; simpa using h17))) (by decide)]; done))
          ·try simp at h16
           refine zi ?_
           refine zd ?_
           refine zf ?_
           refine za ?_
           refine dmv rfl ?_
           refine dmv rfl ?_
           refine de rfl (zgT (i := 0) zcM ty9 ty4 rfl rfl rfl ?_)
           refine dn ?_
           refine ze rfl (fun h17 => ?_) (fun h18 => ?_)
           ·try simp at h17
            refine za ?_
            refine das rfl ?_
            refine dn ?_
            refine zg ?_
            (refine za2 Ghost.drop rfl ⟨?_, rfl⟩
             show HVal.int .i64 _ = _
             (rw [zad, if_neg (by simpa using h2), hg, wsP h8 (by simpa using h10) (by omega) (hg2.trans (wp6 h16 (by rw [← hS y]; simpa using h17))) (by decide)]; done))
           ·try simp at h18
            refine zi ?_
            refine zd ?_
            refine zy ?_
            refine dmv rfl ?_
            refine dmv rfl ?_
            refine de0 (zbZ (i := 0) zcM ty9 rfl rfl rfl rfl ?_)
            refine dn ?_
            refine zu ?_
            refine zd ?_
            refine zy ?_
            refine dq (zx rfl rfl (by omega) (by omega)) ?_
            refine dmv rfl ?_
            refine dn ?_
            refine ⟨j + 1, zaY y S, ?_, ?_, ⟨rfl, trivial⟩, (by repeat (first | exact zo | refine zt rfl ?_ | refine zp rfl rfl ?_)), List.Perm.refl _⟩
            ·refine ⟨by omega, ?_, fun z => ?_⟩
             ·rw [hg2, wp0 h16 (by rw [← hS y]; simpa using h18)]
             ·rw [zd4, hS z, zq2 hy]
            ·dsimp only; omega
         ·try simp at h14
          have hnj : x.Players.length ≤ j := by omega
          obtain rfl : j = x.Players.length := by omega
          rw [zaq (Nat.le_refl _)] at hg2
          replace hg2 : zdw r x.Players 0 x.Players = 0 := hg2
          refine zF Ghost.drop ?_
          refine zL ?_
          refine zS ?_
          refine za8 ?_
          refine zD ?_
          refine zu ?_
          refine zd ?_
          refine zy ?_
          refine dq (zx rfl rfl (by omega) (by omega)) ?_
          refine dmv rfl ?_
          refine dn ?_
          refine ⟨k + 1, ?_, ?_, ⟨rfl, trivial⟩, (by repeat (first | exact zo | refine zt rfl ?_ | refine zp rfl rfl ?_)), List.Perm.refl _⟩
          ·refine ⟨by omega, ?_⟩
           rw [hg, ws0 h8 (by simpa using h10) (by omega) hg2]
          ·dsimp only; omega
    ·try simp at h6
     have hnk : w.length ≤ k := by omega
     obtain rfl : k = w.length := by omega
     rw [zaq (Nat.le_refl _)] at hg
     refine zL ?_
     refine zS ?_
     refine zap ?_
     refine zD ?_
     refine zd ?_
     refine za ?_
     refine das rfl ?_
     refine dn ?_
     refine zg ?_
     (refine zm rfl ?_
      show HVal.int .i64 _ = _
      (rw [zad, if_neg (by simpa using h2), hg]; rfl))

/-- (*benchwarmer/draft.run).auto -/
theorem zjM [Tracks] {b m : Nat} {va v : Value} {r : Room} {A T l : List Pick} {S : List Str} {w : List Wish} {n : Int} {p : Pick} {g : Str → Bool} (hp0 : T[0]? = some p) (hl : l.length ≤ 1000) (hw : w.length ≤ 1000000) (hwp : ∀ y ∈ w, y.Players.length ≤ 1000000) (hpl : r.Players.length ≤ 1000000) (hf : ∃ s ∈ r.Players, g s = false) (hS : ∀ x, S.contains x = g x) : Con Tryz.prog 32 [pAt b, zel w, .int .i64 n] (zdq b m va v r A T l S) (fun x M' => ∃ v', x = .tup [] ∧ M' = zdq b m va v' r A (T.drop 1) (l ++ [⟨p.No, p.Team, zbG r g w p.Team, n, true⟩]) (zaY (zbG r g w p.Team) S)) := by
 refine Con.of_body Tryz.func32 rfl Tryz.ntmps32 rfl rfl ?_
 refine za ?_
 refine dmv rfl ?_
 refine dq ((zP rfl)) ?_
 refine dq (zq zbx rfl zaw (by decide) rfl) ?_
 refine de rfl (zaD (i := 0) zaw rfl rfl (.inl ⟨rfl, rfl⟩) ?_)
 refine dq (zH (j := 0) (a := p) zaw zan rfl rfl rfl hp0) ?_
 refine dq (zB zan rfl rfl rfl rfl) ?_
 refine de rfl (zO zan rfl fun b6 => ?_)
 refine de0 (zat (i := 0) zan rfl rfl rfl rfl rfl (Nat.le_of_ble_eq_true rfl) ?_)
 refine dn ?_
 refine za ?_
 refine dmv rfl ?_
 refine dmv rfl ?_
 refine dq (zq zan rfl ty9 (by decide) rfl) ?_
 refine de rfl (zaD (i := 0) ty9 rfl rfl (.inl ⟨rfl, rfl⟩) ?_)
 refine de rfl (zgg (hs' := [.vptr (zhi r A T l S) 0, zel w, .str p.Team]) ca64 rfl ⟨zsf, .refl, .refl, trivial⟩ (zjQ (g := g) hw hwp hpl hf hS) rfl ?_)
 refine dmv rfl ?_
 refine dq (zq zan rfl ty9 (by decide) rfl) ?_
 refine de0 (zat (i := 0) ty9 rfl rfl rfl rfl rfl (Nat.le_of_ble_eq_true rfl) ?_)
 refine dq (zq zan rfl ty3 (by decide) rfl) ?_
 refine de0 (zat (i := 0) ty3 rfl rfl rfl rfl rfl (Nat.le_of_ble_eq_true rfl) ?_)
 refine dq (zq zan rfl ty4 (by decide) rfl) ?_
 refine de0 (zat (i := 0) ty4 rfl rfl rfl rfl rfl (Nat.le_of_ble_eq_true rfl) ?_)
 refine dn ?_
 refine zy ?_
 refine dmv rfl ?_
 refine de rfl (zgc (i := 0) (h := zc1 ⟨p.No, p.Team, zbG r g w p.Team, n, true⟩) zan rfl rfl rfl rfl rfl ?_)
 refine de rfl (zaK (M1 := (zdq b m va v r A T l S)) (R := [_]) ca65 rfl (WeakL.refl _) (List.perm_append_comm (l₁ := [_])) (zfO (p := ⟨p.No, p.Team, zbG r g w p.Team, n, true⟩) (zC hp0) hl) ?_)
 rintro _ _ ⟨v24, rfl, rfl⟩
 refine dn ?_
 exact za2 ((Ghost.perm List.perm_append_comm).trans Ghost.drop) rfl ⟨v24, rfl, rfl⟩

/-- benchwarmer/draft.wished -/
theorem zlu [Tracks] {r : Room} {k : List Keep} {s : List Swap} {l : List Pick} {w : List Wish} (ht : r.Teams.length ≤ 1000000) (hp : r.Players.length ≤ 1000000) (hk0 : k.length ≤ 1000000) (hl : s.length ≤ 1000000) (hll : l.length ≤ 1000) (hw : w.length ≤ 1000000) (hwp : ∀ y ∈ w, y.Players.length ≤ 1000000) : Con Tryz.prog 31 [.vptr (zl (zby r)) 0, zeE k, zb7 s, zdb l, zel w] [] (fun res M' => ∃ v, res = .tup [.raw v, .int .i64 (zbc r k s l w)] ∧ (zbc r k s l w = 0 → ∃ b m va u S, v = .pointer (some ⟨b, 0, none⟩) ∧ RunOk r k s l S ∧ M' = zdq b m va u r (z8 r k s) ((zX r k s).drop l.length) l S)) := by
 refine Con.of_body Tryz.func31 rfl Tryz.ntmps31 rfl rfl ?_
 refine za ?_
 refine das rfl ?_
 refine das rfl ?_
 refine dn ?_
 refine za ?_
 refine dmv rfl ?_
 refine dmv rfl ?_
 refine dmv rfl ?_
 refine dmv rfl ?_
 refine de rfl (zaK (M1 := []) (R := []) ca62 rfl (WeakL.refl _) (List.Perm.refl _) (zlq ht hp hk0 hl hll) ?_)
 rintro _ M20 ⟨v20, rfl, hv20⟩
 refine dmv rfl ?_
 refine dq (zJ rfl rfl) ?_
 refine dq (zJ rfl rfl) ?_
 refine das rfl ?_
 refine das rfl ?_
 refine dn ?_
 refine zf ?_
 refine za ?_
 refine dmv rfl ?_
 refine dq (zah rfl rfl) ?_
 refine dn ?_
 refine ze rfl (fun h1 => ?_) (fun h2 => ?_)
 ·try simp at h1
  refine za ?_
  refine dmv rfl ?_
  refine das rfl ?_
  refine das rfl ?_
  refine dn ?_
  refine zg ?_
  (refine za2 Ghost.clear rfl ⟨.pointer none, ?_, fun h0 => ?_⟩
   ·show HVal.tup _ = _
    (rw [zbc, if_pos (by simpa using h1)]; rfl)
   ·exfalso
    first | (rw [zbc, if_pos (by simpa using h1)] at h0; exact h1 h0) | (rw [zbc, if_neg (by simpa using h2)] at h0; exact h3 h0))
 ·try simp at h2
  refine zi ?_
  refine zd ?_
  refine zf ?_
  refine za ?_
  refine dmv rfl ?_
  refine dq ((zac rfl)) ?_
  refine dq (zB zV rfl rfl rfl rfl) ?_
  refine dmv rfl ?_
  refine dq (zj ca63 rfl (WeakL.refl _) (zhM (by assumption) (by assumption) (by assumption) (by assumption))) ?_
  refine das rfl ?_
  refine dn ?_
  refine za ?_
  refine dmv rfl ?_
  refine dq (zah rfl rfl) ?_
  refine dn ?_
  refine ze rfl (fun h3 => ?_) (fun h4 => ?_)
  ·try simp at h3
   refine za ?_
   refine dmv rfl ?_
   refine das rfl ?_
   refine das rfl ?_
   refine dn ?_
   refine zg ?_
   (refine za2 Ghost.clear rfl ⟨.pointer none, ?_, fun h0 => ?_⟩
    ·show HVal.tup _ = _
     (rw [zbc, if_neg (by simpa using h2)]; rfl)
    ·exfalso
     first | (rw [zbc, if_pos (by simpa using h1)] at h0; exact h1 h0) | (rw [zbc, if_neg (by simpa using h2)] at h0; exact h3 h0))
  ·try simp at h4
   refine zi ?_
   refine zd ?_
   refine za ?_
   refine dmv rfl ?_
   refine das rfl ?_
   refine das rfl ?_
   refine dn ?_
   refine zg ?_
   (have hz : zbc r k s l w = 0 := by rw [zbc, if_neg (by simpa using h2)]; exact h4
    rw [hz]
    obtain ⟨b, m, va, u, S, rfl, ok, rfl⟩ := hv20 (by simpa using h2)
    exact zcw rfl ⟨_, rfl, fun _ => ⟨b, m, va, u, S, rfl, ok, rfl⟩⟩)

/-- benchwarmer/draft.Finish -/
theorem zle [Tracks] {r : Room} {k : List Keep} {s : List Swap} {l : List Pick} {w : List Wish} (ht : r.Teams.length ≤ 1000000) (hp : r.Players.length ≤ 1000000) (hk0 : k.length ≤ 1000000) (hl : s.length ≤ 1000000) (hll : l.length ≤ 1000) (hw : w.length ≤ 1000000) (hwp : ∀ y ∈ w, y.Players.length ≤ 1000000) : ConP Tryz.prog 7 [zby r, zeE k, zb7 s, zdb l, zel w] (.tup [zdb (if zbc r k s l w != 0 then [] else zjR r k s w l), .int .i64 (zbc r k s l w)]) := by
 refine Con.of_body Tryz.func7 rfl Tryz.ntmps7 rfl rfl ?_
 refine za ?_
 refine dq (zam rfl rfl) ?_
 refine das rfl ?_
 refine das rfl ?_
 refine dn ?_
 refine za ?_
 refine dmv rfl ?_
 refine dmv rfl ?_
 refine dmv rfl ?_
 refine dmv rfl ?_
 refine de rfl (zaK (M1 := []) (R := []) ca31 rfl (WeakL.refl _) (List.Perm.refl _) (zlu ht hp hk0 hl hll hw hwp) ?_)
 rintro _ M19 ⟨v19, rfl, hv19⟩
 refine dmv rfl ?_
 refine dq (zJ rfl rfl) ?_
 refine dq (zJ rfl rfl) ?_
 refine das rfl ?_
 refine das rfl ?_
 refine dn ?_
 refine zf ?_
 refine za ?_
 refine dmv rfl ?_
 refine dq (zah rfl rfl) ?_
 refine dn ?_
 refine ze rfl (fun h1 => ?_) (fun h2 => ?_)
 ·try simp at h1
  refine za ?_
  refine dmv rfl ?_
  refine das rfl ?_
  refine das rfl ?_
  refine dn ?_
  refine zg ?_
  exact ⟨_, [], Ghost.clear, _, _, rfl, zbn (zaV 5) (Weak.refl _), by rw [if_pos (by simpa using h1)]; rfl, rfl⟩
 ·try simp at h2
  refine zi ?_
  refine zd ?_
  refine zf ?_
  refine zk ?_
  obtain ⟨b, m, va, u0, S0, rfl, ok0, rfl⟩ := hv19 (by simpa using h2)
  obtain ⟨hpk, hwk⟩ := zo2 (by simpa using h2)
  obtain ⟨hof, hlf, _⟩ := zbF hpk
  have hro := zcE (zaQ hof).1
  have hwin : ∀ y ∈ w, ∀ x ∈ y.Players, x ∈ r.Players := fun y hy => (zlH hwk y hy).1
  have hcl := hro.clock
  have hfl : (zX r k s).length ≤ 600 := by have h5 := zmO hof; have h6 := zhX (r := r) (s := s) (zaQ hof).1; omega
  refine zdt [25, 26, 27, 28, 29, 30, 31, 32, 33, 34, 35] (fun (v : Value) (S : List Str) (L : List Pick) => []) (fun (v : Value) (S : List Str) (L : List Pick) => (zdq b m va v r (z8 r k s) ((zX r k s).drop L.length) L S)) (fun (v : Value) (S : List Str) (L : List Pick) => zjR r k s w l = zeu r k (zX r k s) w ((zX r k s).length - L.length) L ∧ RunOk r k s L S ∧ L.length ≤ (zX r k s).length) (fun (v : Value) (S : List Str) (L : List Pick) => (zX r k s).length - L.length) (u0) (S0) (l) ?_ ?_ ?_ ?_
  ·exact ⟨rfl, ok0, hlf⟩
  ·exact trivial
  ·exact List.Perm.refl _
  ·intro v S L hinv
   obtain ⟨hg, ok, hLf⟩ := hinv
   refine zf ?_
   refine za ?_
   refine dmv rfl ?_
   refine dq ((zP rfl)) ?_
   refine dq (zq zbx rfl zaw (by decide) rfl) ?_
   refine de rfl (zaD (i := 0) zaw rfl rfl (.inl ⟨rfl, rfl⟩) ?_)
   refine dq (zv zaw rfl) ?_
   refine dq (z6 rfl rfl) ?_
   refine dn ?_
   refine ze rfl (fun h3 => ?_) (fun h4 => ?_)
   ·try simp at h3
    have hLl : L.length < (zX r k s).length := by omega
    refine zi ?_
    refine zd ?_
    refine zk ?_
    refine zy ?_
    refine dmv rfl ?_
    refine dmv rfl ?_
    refine dmv rfl ?_
    refine de rfl (zgg (hs' := [.vptr (zhi r (z8 r k s) ((zX r k s).drop L.length) L S) 0]) ca33 rfl ⟨zox, trivial⟩ (zfS (by omega)) rfl ?_)
    refine de rfl (zaK (M1 := (zdq b m va v r (z8 r k s) ((zX r k s).drop L.length) L S)) (R := []) ca32 rfl (WeakL.refl _) (List.Perm.refl _) (zjM (p := (zX r k s).getD L.length za3) (g := fun y => S.contains y) (n := za9 r L) (znM hLl) (by omega) hw hwp hp (zsb hof hLl ok) (fun _ => rfl)) ?_)
    rintro _ _ ⟨v99, rfl, rfl⟩
    rw [zsi ok hwin]
    refine dn ?_
    refine zu ?_
    exact ⟨v99, zaY (zbG r (zba k L) w ((zX r k s).getD L.length za3).Team) S, L ++ [zhn r k (zX r k s) w L (za9 r L)], ⟨by rw [hg, zsK hLl, List.length_append]; rfl, ok.add (zhn r k (zX r k s) w L (za9 r L)), by simp; omega⟩, by dsimp only; simp; omega, trivial, (by repeat (first | exact zo | refine zt rfl ?_ | refine zp rfl rfl ?_)), zU (by dsimp only; rw [List.drop_drop, List.length_append]; rfl)⟩
   ·try simp at h4
    have hLn : (zX r k s).length ≤ L.length := by omega
    rw [zqZ hLn] at hg
    refine zL ?_
    refine zS ?_
    refine zee ?_
    refine zD ?_
    refine zd ?_
    refine za ?_
    refine dmv rfl ?_
    refine dq ((zP rfl)) ?_
    refine dq (zq zbx rfl zaw (by decide) rfl) ?_
    refine de rfl (zaD (i := 0) zaw rfl rfl (.inl ⟨rfl, rfl⟩) ?_)
    refine das rfl ?_
    refine das rfl ?_
    refine dn ?_
    refine zg ?_
    (refine za2 ((Ghost.fa 10 (i := 2) rfl rfl).trans Ghost.clear) rfl ⟨?_, rfl⟩
     rw [if_neg (by simpa using h2), hg, h2]; rfl)

end
section
open Go.HL
/-- math/bits.Len64 -/
theorem zk9 [Tracks] {x : Nat} (hx : x < 16) : Con Tryz.prog 77 [.int .u64 (x : Int)] [] (fun y M' => ∃ n : Int, y = .int .i64 n ∧ M' = []) := by
 refine Con.of_body Tryz.func77 rfl Tryz.ntmps77 rfl rfl ?_
 refine za ?_
 refine das rfl ?_
 refine dn ?_
 refine zf ?_
 refine za ?_
 refine dmv rfl ?_
 refine dq (zbD rfl rfl) ?_
 refine dn ?_
 refine ze rfl (fun h1 => ?_) (fun h1 => ?_)
 ·exfalso
  try simp at h1
  omega
 ·try simp at h1
  refine zi ?_
  refine zd ?_
  refine zf ?_
  refine za ?_
  refine dmv rfl ?_
  refine dq (zbD rfl rfl) ?_
  refine dn ?_
  refine ze rfl (fun h2 => ?_) (fun h2 => ?_)
  ·exfalso
   try simp at h2
   omega
  ·try simp at h2
   refine zi ?_
   refine zd ?_
   refine zf ?_
   refine za ?_
   refine dmv rfl ?_
   refine dq (zbD rfl rfl) ?_
   refine dn ?_
   refine ze rfl (fun h3 => ?_) (fun h3 => ?_)
   ·exfalso
    try simp at h3
    omega
   ·try simp at h3
    refine zi ?_
    refine zd ?_
    refine za ?_
    refine dmv rfl ?_
    refine dmv rfl ?_
    refine dq (zcn zrG ty5 rfl) ?_
    refine dq (zbK (j := x) ty9 rfl rfl (zty hx) (List.getElem?_eq_getElem (Nat.lt_of_lt_of_le hx (Nat.le_of_ble_eq_true (by kernel_rfl))))) ?_
    refine dq (zcn ty5 ty3 rfl) ?_
    refine dq (zi4 rfl rfl) ?_
    refine das rfl ?_
    refine dn ?_
    refine zg ?_
    exact zcw rfl ⟨_, rfl, rfl⟩

/-- math/bits.Len -/
theorem zm7 [Tracks] {x : Nat} (hx : x < 16) : Con Tryz.prog 38 [.int .u64 (x : Int)] [] (fun y M' => ∃ n : Int, y = .int .i64 n ∧ M' = []) := by
 refine Con.of_body Tryz.func38 rfl Tryz.ntmps38 rfl rfl ?_
 refine za ?_
 refine das rfl ?_
 refine dn ?_
 refine zf ?_
 refine zcO rfl ?_
 refine zi ?_
 refine zd ?_
 refine za ?_
 refine dmv rfl ?_
 refine de rfl (zaK (M1 := []) (R := []) ca77 rfl (WeakL.refl _) (List.Perm.refl _) (zk9 hx) ?_)
 rintro _ _ ⟨n7, rfl, rfl⟩
 refine das rfl ?_
 refine dn ?_
 refine zg ?_
 exact zcw rfl ⟨_, rfl, rfl⟩

set_option maxHeartbeats 1000000 in
/-- slices.insertionSortCmpFunc[benchwarmer/api.Asset] -/
theorem zc6 [Tracks] {l : List Asset} {v : Value} {fid : FuncId} {caps : List HVal} {c : Asset → Asset → Int} {n : Int} (hca : Callable Tryz.prog fid) (hp : ∀ x y, ConP Tryz.prog fid ([zbf x, zbf y] ++ caps) (.int .i64 (c x y))) (hn : n = l.length) (hl : l.length ≤ 1000000) : Con Tryz.prog 191 [.raw v, .int .i64 0, .int .i64 n, .fn (.func fid) [] caps] [.arr v 3 (l.map zbf)] (fun x M' => x = .tup [] ∧ M' = [.arr v 3 ((za0 c l).map zbf)]) := by
 subst hn
 refine Con.of_body Tryz.func191 rfl Tryz.ntmps191 rfl rfl ?_
 refine za ?_
 refine dmv rfl ?_
 refine dq (zx rfl rfl (by omega) (by omega)) ?_
 refine das rfl ?_
 refine dn ?_
 refine zk ?_
 refine zab [8, 9, 12, 13, 14, 15, 16, 17, 18, 19, 20, 21, 22, 23, 24, 25, 26, 27, 28, 29, 30, 31, 32, 33, 34, 35, 36, 37, 38, 39, 40, 41, 42, 43, 44, 45, 46, 47, 48, 49, 50, 51, 52] (fun (k : Nat) => [(8, .int .i64 (k : Int))]) (fun (k : Nat) => [.arr v 3 ((za0 c (l.take k) ++ l.drop k).map zbf)]) (fun (k : Nat) => 1 ≤ k) (fun (k : Nat) => l.length - k) (1) ?_ ?_ ?_ ?_
 ·exact Nat.le_refl _
 ·exact ⟨rfl, trivial⟩
 ·exact zU (by rw [zn4])
 ·intro k hk
  refine zf ?_
  refine za ?_
  refine dmv rfl ?_
  refine dmv rfl ?_
  refine dq (zK rfl rfl) ?_
  refine dn ?_
  refine ze rfl (fun h1 => ?_) (fun h2 => ?_)
  ·try simp at h1
   obtain ⟨x, hx⟩ : ∃ x, l[k]? = some x := ⟨_, List.getElem?_eq_getElem (by omega)⟩
   refine zi8 (i := 0) rfl (fun h0 he => ?_) (fun b off cap hv hcap => ?_)
   ·exfalso; have := congrArg List.length he; simp [zek] at this; omega
   rw [show ((za0 c (l.take k) ++ l.drop k).map zbf).length = l.length by simp [zek]; omega] at hv
   subst hv
   refine zi ?_
   refine zd ?_
   refine zf ?_
   refine zk ?_
   refine za ?_
   refine dmv rfl ?_
   refine das rfl ?_
   refine dn ?_
   refine zk ?_
   refine zaS [9, 18, 19, 20, 21, 22, 23, 24, 25, 26, 27, 28, 29, 30, 31, 32, 33, 34, 35, 36, 37, 38, 39, 40, 41, 42, 43, 44, 45, 46, 47, 48, 49, 50, 51, 52] (fun (A : List Asset) (B : List Asset) => [(9, .int .i64 (A.length : Int))]) (fun (A : List Asset) (B : List Asset) => [.arr (.slice (some ⟨b, off, none⟩) l.length cap) 3 ((A ++ x :: (B ++ l.drop (k + 1))).map zbf)]) (fun (A : List Asset) (B : List Asset) => A.length + B.length = k ∧ zcJ c x (za0 c (l.take k)) = zcJ c x A ++ B) (fun (A : List Asset) (B : List Asset) => A.length) (za0 c (l.take k)) ([]) ?_ ?_ ?_ ?_
   ·exact ⟨by simp [zek]; omega, by simp⟩
   ·exact ⟨zeb (by simp [zek]; omega), trivial⟩
   ·exact zU (by rw [zI hx]; rfl)
   ·intro A B hinv
    obtain ⟨hA, hB⟩ := hinv
    have hlA : A.length < l.length := by omega
    have hll : ((A ++ x :: (B ++ l.drop (k + 1)))).length = l.length := by simp; omega
    refine zf ?_
    refine zaF (fun M => M = [.arr (.slice (some ⟨b, off, none⟩) l.length cap) 3 ((A ++ x :: (B ++ l.drop (k + 1))).map zbf)]) [8, 13] mixed ?_
    refine ahp 0 rfl rfl (by kernel_rfl) (by kernel_rfl) (zh rfl) ?_
    refine ahp 1 rfl rfl (by kernel_rfl) (by kernel_rfl) (zh rfl) ?_
    refine ahp 2 rfl rfl (by kernel_rfl) (by kernel_rfl) (z6 rfl rfl) ?_
    refine ahp 3 rfl rfl (by kernel_rfl) (by kernel_rfl) (zh rfl) ?_
    refine ahg 4 rfl rfl (by kernel_rfl) (by kernel_rfl) rfl (fun hc => ⟨_, OpenTo.refl _, zh rfl⟩) ?_
    refine ahg 5 rfl rfl (by kernel_rfl) (by kernel_rfl) rfl (fun hc => ⟨_, OpenTo.refl _, zh rfl⟩) ?_
    refine ahg 6 rfl rfl (by kernel_rfl) (by kernel_rfl) rfl (fun hc => ⟨_, OpenTo.refl _, zh rfl⟩) ?_
    refine ahg 7 rfl rfl (by kernel_rfl) (by kernel_rfl) rfl (fun hc => by
     have hq : 0 < A.length := by simpa using hc
     exact ⟨_, OpenTo.upd (t := 24) rfl (hc) (OpenTo.upd (t := 23) rfl (hc) (OpenTo.refl _)), zbj (j := A.length) zcL zaN rfl rfl (by rfl) (by omega)⟩) ?_
    refine zqO 8 rfl rfl (by kernel_rfl) (by kernel_rfl) (by simp) rfl rfl (fun hc => ⟨_, OpenTo.upd (t := 25) rfl (hc) (OpenTo.refl _), fun M hM => by
     subst hM; exact zds (i := 0) (j := A.length) zaN rfl rfl rfl zlk rfl rfl rfl ⟨rfl, rfl⟩
     ⟩) ?_
    refine ahg 9 rfl rfl (by kernel_rfl) (by kernel_rfl) rfl (fun hc => ⟨_, OpenTo.refl _, zh rfl⟩) ?_
    refine ahg 10 rfl rfl (by kernel_rfl) (by kernel_rfl) rfl (fun hc => ⟨_, OpenTo.refl _, zh rfl⟩) ?_
    refine ahg 11 rfl rfl (by kernel_rfl) (by kernel_rfl) rfl (fun hc => by
     have hq : 0 < A.length := by simpa using hc
     exact ⟨_, OpenTo.upd (t := 28) rfl (hc) (OpenTo.refl _), zal rfl rfl (by omega) (by omega)⟩) ?_
    refine ahg 12 rfl rfl (by kernel_rfl) (by kernel_rfl) rfl (fun hc => by
     have hq : 0 < A.length := by simpa using hc
     exact ⟨_, OpenTo.upd (t := 29) rfl (hc) (OpenTo.upd (t := 27) rfl (hc) (OpenTo.refl _)), zbj (j := A.length - 1) zcL zaN rfl rfl (by omega) (by omega)⟩) ?_
    refine zqO 13 rfl rfl (by kernel_rfl) (by kernel_rfl) (by simp) rfl rfl (fun hc => ⟨_, OpenTo.upd (t := 30) rfl (hc) (OpenTo.refl _), fun M hM => by
     have hq : 0 < A.length := by simpa using hc
     subst hM; exact zds (i := 0) (j := A.length - 1) zaN rfl rfl rfl (zg3 hq) rfl rfl rfl ⟨rfl, rfl⟩
     ⟩) ?_
    refine ahg 14 rfl rfl (by kernel_rfl) (by kernel_rfl) rfl (fun hc => ⟨_, OpenTo.upd (t := 31) rfl (hc) (OpenTo.upd (t := 26) rfl (hc) (OpenTo.upd (t := 22) rfl (hc) (OpenTo.refl _))), zej hca rfl rfl (WeakL.refl _) (hp _ _)⟩) ?_
    refine ahg 15 rfl rfl (by kernel_rfl) (by kernel_rfl) rfl (fun hc => ⟨_, OpenTo.upd (t := 32) rfl (hc) (OpenTo.refl _), zK rfl rfl⟩) ?_
    refine ahp 16 rfl rfl (by kernel_rfl) (by kernel_rfl) (zw rfl (.inr ⟨_, rfl, fun h => by simp_all⟩) (.inl rfl)) ?_
    refine ahz (by kernel_rfl) ?_
    refine ze rfl (fun h3 => ?_) (fun h4 => ?_)
    ·try simp at h3
     obtain ⟨hA0, hcx⟩ := h3
     obtain ⟨A1, y, rfl⟩ := zoq hA0
     rw [zf3] at hcx
     refine zi ?_
     refine zd ?_
     refine zf ?_
     refine zk ?_
     refine zb2 (fun M => M = [.arr (.slice (some ⟨b, off, none⟩) l.length cap) 3 (((A1 ++ [y]) ++ x :: (B ++ l.drop (k + 1))).map zbf)]) [9, 13] mixed ?_
     refine ahp 0 rfl rfl (by kernel_rfl) (by kernel_rfl) (zh rfl) ?_
     refine ahp 1 rfl rfl (by kernel_rfl) (by kernel_rfl) (zh rfl) ?_
     refine ahp 2 rfl rfl (by kernel_rfl) (by kernel_rfl) (zh rfl) ?_
     refine ahp 3 rfl rfl (by kernel_rfl) (by kernel_rfl) (zh rfl) ?_
     refine ahp 4 rfl rfl (by kernel_rfl) (by kernel_rfl) (zal rfl rfl (by omega) (by omega)) ?_
     refine ahp 5 rfl rfl (by kernel_rfl) (by kernel_rfl) (zh rfl) ?_
     refine ahp 6 rfl rfl (by kernel_rfl) (by kernel_rfl) (zh rfl) ?_
     refine ahp 7 rfl rfl (by kernel_rfl) (by kernel_rfl) (zal rfl rfl (by omega) (by omega)) ?_
     refine ahp 8 rfl rfl (by kernel_rfl) (by kernel_rfl) (zbj (j := (A1 ++ [y]).length - 1) zcL zaN rfl rfl (by omega) (by omega)) ?_
     refine ahl 9 rfl rfl (by kernel_rfl) (by kernel_rfl) (by simp) rfl (fun M hM => by subst hM; exact zds (i := 0) (j := (A1 ++ [y]).length - 1) zaN rfl rfl rfl ((zg3 hA0).trans (by rw [zf3])) rfl rfl rfl ⟨rfl, rfl⟩) ?_
     refine ahp 10 rfl rfl (by kernel_rfl) (by kernel_rfl) (zh rfl) ?_
     refine ahp 11 rfl rfl (by kernel_rfl) (by kernel_rfl) (zh rfl) ?_
     refine ahp 12 rfl rfl (by kernel_rfl) (by kernel_rfl) (zbj (j := (A1 ++ [y]).length) zcL zaN rfl rfl rfl (by omega)) ?_
     refine ahl 13 rfl rfl (by kernel_rfl) (by kernel_rfl) (by simp) rfl (fun M hM => by subst hM; exact zds (i := 0) (j := (A1 ++ [y]).length) zaN rfl rfl rfl zlk rfl rfl rfl ⟨rfl, rfl⟩) ?_
     refine ahp 14 rfl rfl (by kernel_rfl) (by kernel_rfl) (zbj (j := (A1 ++ [y]).length) zcL zaN rfl rfl rfl (by omega)) ?_
     refine ahe 15 rfl (by kernel_rfl) ?_
     refine zbq (zhK (i := 0) (j := (A1 ++ [y]).length) (y := x) (y' := y) zaN rfl rfl rfl rfl zlk rfl rfl rfl ?_)
     refine ⟨fun _ => .inr (by simp [zbU, Region.binds]), ?_⟩
     refine ahp 16 rfl rfl (by kernel_rfl) (by kernel_rfl) (zbj (j := (A1 ++ [y]).length - 1) zcL zaN rfl rfl (by omega) (by omega)) ?_
     refine ahe 17 rfl (by kernel_rfl) ?_
     refine zbq (zhK (i := 0) (j := (A1 ++ [y]).length - 1) (y := y) (y' := x) zaN rfl rfl rfl rfl (by rw [List.getElem?_set_ne (by simp)]; exact (zg3 hA0).trans (by rw [zf3])) rfl rfl rfl ?_)
     refine ⟨fun _ => .inr (by simp [zbU, Region.binds]), ?_⟩
     refine ahz (by kernel_rfl) ?_
     refine zu ?_
     refine zd ?_
     refine zy ?_
     refine dmv rfl ?_
     refine dq (zal rfl rfl (by omega) (by omega)) ?_
     refine das rfl ?_
     refine dn ?_
     exact ⟨A1, y :: B, ⟨by simp at hA ⊢; omega, zq6 hB hcx⟩, by dsimp only; simp, ⟨zeb (by simp), trivial⟩, (by repeat (first | exact zo | refine zt rfl ?_ | refine zp rfl rfl ?_)), zU (by rw [zqJ]; rfl)⟩
    ·try simp at h4
     have hins := zrd (l := l) (k := k) hx hB (by intro h0; have := h4 h0; omega)
     refine zL ?_
     refine zS ?_
     refine za8 ?_
     refine zD ?_
     refine zu ?_
     refine zd ?_
     refine zy ?_
     refine dmv rfl ?_
     refine dq (zx rfl rfl (by omega) (by omega)) ?_
     refine das rfl ?_
     refine dn ?_
     refine ⟨k + 1, ?_, ?_, ⟨rfl, trivial⟩, (by repeat (first | exact zo | refine zt rfl ?_ | refine zp rfl rfl ?_)), zU (by rw [hins])⟩
     ·omega
     ·dsimp only; omega
  ·try simp at h2
   have hend : za0 c (l.take k) ++ l.drop k = za0 c l := by rw [List.take_of_length_le (by omega), zaq (by omega)]; simp
   refine zL ?_
   refine zS ?_
   refine zap ?_
   refine zD ?_
   exact ⟨_, _, Ghost.sub (Sub.refl _), _, _, rfl, Weak.refl _, rfl, by rw [hend]⟩

/-- slices.pdqsortCmpFunc[benchwarmer/api.Asset] -/
theorem zdX [Tracks] {l : List Asset} {v : Value} {fid : FuncId} {caps : List HVal} {c : Asset → Asset → Int} {lim : Int} (hca : Callable Tryz.prog fid) (hp : ∀ x y, ConP Tryz.prog fid ([zbf x, zbf y] ++ caps) (.int .i64 (c x y))) (hl : l.length ≤ 12) : Con Tryz.prog 174 [.raw v, .int .i64 0, .int .i64 (l.length : Int), .int .i64 lim, .fn (.func fid) [] caps] [.arr v 3 (l.map zbf)] (fun x M' => x = .tup [] ∧ M' = [.arr v 3 ((za0 c l).map zbf)]) := by
 refine Con.of_body Tryz.func174 rfl Tryz.ntmps174 rfl rfl ?_
 refine za ?_
 refine das rfl ?_
 refine dn ?_
 refine za ?_
 refine das rfl ?_
 refine dn ?_
 refine zk ?_
 refine zab (1 :: 2 :: 3 :: 10 :: 11 :: 12 :: 13 :: 14 :: 15 :: 16 :: 17 :: 18 :: 19 :: 20 :: 21 :: 22 :: 23 :: 24 :: 25 :: 26 :: 27 :: 28 :: 29 :: 30 :: 31 :: 32 :: 33 :: 34 :: 35 :: 36 :: 37 :: 38 :: 39 :: 40 :: 41 :: 42 :: 43 :: 44 :: 45 :: 46 :: 47 :: 48 :: 49 :: 50 :: 51 :: 52 :: 53 :: 54 :: 55 :: 56 :: 57 :: 58 :: 59 :: 60 :: 61 :: 62 :: 63 :: 64 :: 65 :: 66 :: 67 :: 68 :: 69 :: 70 :: 71 :: 72 :: 73 :: 74 :: 75 :: 76 :: 77 :: 78 :: 79 :: 80 :: 81 :: 82 :: 83 :: 84 :: 85 :: 86 :: 87 :: 88 :: 89 :: 90 :: 91 :: 92 :: 93 :: 94 :: 95 :: 96 :: 97 :: 98 :: 99 :: 100 :: 101 :: 102 :: 103 :: 104 :: 105 :: 106 :: 107 :: 108 :: 109 :: 110 :: 111 :: 112 :: 113 :: 114 :: 115 :: 116 :: 117 :: 118 :: 119 :: 120 :: 121 :: 122 :: 123 :: 124 :: 125 :: 126 :: 127 :: 128 :: 129 :: 130 :: 131 :: 132 :: 133 :: 134 :: 135 :: 136 :: 137 :: 138 :: 139 :: 140 :: 141 :: 142 :: 143 :: 144 :: 145 :: 146 :: 147 :: []) (fun (u : Unit) => [(1, .int .i64 0), (2, .int .i64 (l.length : Int))]) (fun (u : Unit) => [.arr v 3 (l.map zbf)]) (fun (u : Unit) => True) (fun (u : Unit) => 0) (()) ?_ ?_ ?_ ?_
 ·trivial
 ·exact ⟨rfl, rfl, trivial⟩
 ·exact List.Perm.refl _
 ·intro u hu
  refine zk ?_
  refine za ?_
  refine dmv rfl ?_
  refine dmv rfl ?_
  refine dq (zal rfl rfl (by omega) (by omega)) ?_
  refine das rfl ?_
  refine dn ?_
  refine zf ?_
  refine za ?_
  refine dmv rfl ?_
  refine dq (zcF rfl rfl) ?_
  refine dn ?_
  refine ze rfl (fun h1 => ?_) (fun h1 => ?_)
  ·try simp at h1
   refine za ?_
   refine dmv rfl ?_
   refine dmv rfl ?_
   refine dmv rfl ?_
   refine dmv rfl ?_
   refine de rfl (zN (i := 0) ztv rfl (WeakL.refl _) rfl (zc6 (l := l) hca hp (by omega) (by omega)) ?_)
   rintro _ _ ⟨rfl, rfl⟩
   refine dn ?_
   refine zg ?_
   exact zcw rfl ⟨rfl, rfl⟩
  ·exfalso
   try simp at h1
   omega

/-- slices.SortFunc[[]benchwarmer/api.Asset,benchwarmer/api.Asset] -/
theorem zdo [Tracks] {l : List Asset} {v : Value} {fid : FuncId} {caps : List HVal} {c : Asset → Asset → Int} (hca : Callable Tryz.prog fid) (hp : ∀ x y, ConP Tryz.prog fid ([zbf x, zbf y] ++ caps) (.int .i64 (c x y))) (hl : l.length ≤ 12) : Con Tryz.prog 148 [.raw v, .fn (.func fid) [] caps] [.arr v 3 (l.map zbf)] (fun x M' => x = .tup [] ∧ M' = [.arr v 3 ((za0 c l).map zbf)]) := by
 refine Con.of_body Tryz.func148 rfl Tryz.ntmps148 rfl rfl ?_
 refine za ?_
 refine dmv rfl ?_
 refine de rfl (zj2 (i := 0) zcL rfl rfl ?_)
 refine das rfl ?_
 refine dn ?_
 refine zy ?_
 refine dmv rfl ?_
 refine dmv rfl ?_
 refine dmv rfl ?_
 refine dq (ze6 (zcn ty3 ziX rfl) (congrArg _ (zsz (by omega)))) ?_
 refine de rfl (zaK (M1 := []) (R := [_]) ca38 rfl (WeakL.refl _) (List.Perm.refl _) (zm7 (x := l.length) (by omega)) ?_)
 rintro _ _ ⟨n11, rfl, rfl⟩
 refine dmv rfl ?_
 refine de rfl (zN (i := 0) zto rfl (WeakL.refl _) rfl (zdX hca hp hl) ?_)
 rintro _ _ ⟨rfl, rfl⟩
 refine dn ?_
 exact ⟨_, _, Ghost.sub (Sub.refl _), _, _, rfl, Weak.refl _, rfl, rfl⟩
end
section
open Go.HL

end
section
open Go.HL
/-- benchwarmer/value.assetFault -/
theorem zhU [Tracks] {x : Asset}  : ConP Tryz.prog 103 [zbf x] (.int .i64 (assetFault x)) := by
 refine Con.of_body Tryz.func103 rfl Tryz.ntmps103 rfl rfl ?_
 refine za ?_
 refine dq (zam rfl rfl) ?_
 refine das rfl ?_
 refine dn ?_
 refine zf ?_
 refine zk ?_
 refine za ?_
 refine dq (zb zaN rfl ty9 (by decide) rfl) ?_
 refine dq (zc ty9 rfl rfl rfl) ?_
 refine dq (zj zeQ rfl (WeakL.refl _) zbk) ?_
 refine dq (zW rfl) ?_
 refine dmv rfl ?_
 refine dg rfl rfl (fun hc => ⟨_, OpenTo.refl _, zb zaN rfl ty9 (by decide) rfl⟩) ?_
 refine dg rfl rfl (fun hc => ⟨_, OpenTo.upd (t := 9) rfl (hc) (OpenTo.refl _), zc ty9 rfl rfl rfl⟩) ?_
 refine dg rfl rfl (fun hc => ⟨_, OpenTo.upd (t := 10) rfl (hc) (OpenTo.refl _), zj zeQ rfl (WeakL.refl _) zbk⟩) ?_
 refine dg rfl rfl (fun hc => ⟨_, OpenTo.upd (t := 11) rfl (hc) (OpenTo.refl _), zW rfl⟩) ?_
 refine dq (zw rfl (.inl rfl) (.inr ⟨_, rfl, fun h => by simp_all⟩)) ?_
 refine das rfl ?_
 refine dn ?_
 refine ze rfl (fun h1 => ?_) (fun h2 => ?_)
 ·try simp at h1
  refine za ?_
  refine das rfl ?_
  refine dn ?_
  refine zg ?_
  refine zm rfl ?_
  show HVal.int .i64 _ = _
  simp_all [assetFault]
 ·try simp at h2
  refine za ?_
  refine dq (zb zaN rfl ty3 (by decide) rfl) ?_
  refine dq (zc ty3 rfl rfl rfl) ?_
  refine dq (zj zcI rfl (WeakL.refl _) zaC) ?_
  refine das rfl ?_
  refine dn ?_
  refine ze rfl (fun h3 => ?_) (fun h4 => ?_)
  ·try simp at h3
   refine za ?_
   refine das rfl ?_
   refine dn ?_
   refine zg ?_
   refine zm rfl ?_
   show HVal.int .i64 _ = _
   simp_all [assetFault]
  ·try simp at h4
   refine zi ?_
   refine zu ?_
   refine zd ?_
   refine za ?_
   refine das rfl ?_
   refine dn ?_
   refine zg ?_
   refine zm rfl ?_
   show HVal.int .i64 _ = _
   simp_all [assetFault]

/-- benchwarmer/value.CheckAssets -/
theorem zhP [Tracks] {l : List Asset} (hl : l.length ≤ 1000000) : ConP Tryz.prog 59 [zfD l] (.int .i64 (zbY l)) := by
 refine Con.of_body Tryz.func59 rfl Tryz.ntmps59 rfl rfl ?_
 refine za ?_
 refine das rfl ?_
 refine dn ?_
 refine zf ?_
 refine za ?_
 refine dmv rfl ?_
 refine dq (zv zcL rfl) ?_
 refine dq (z6 rfl rfl) ?_
 refine dn ?_
 refine ze rfl (fun h1 => ?_) (fun h2 => ?_)
 ·try simp at h1
  refine za ?_
  refine das rfl ?_
  refine dn ?_
  refine zg ?_
  refine zm rfl ?_
  show HVal.int .i64 _ = _
  (rw [zbY, if_pos (by omega)]; done)
 ·try simp at h2
  refine zi ?_
  refine zd ?_
  refine zf ?_
  refine za ?_
  refine dmv rfl ?_
  refine dq (zv zcL rfl) ?_
  refine dmv rfl ?_
  refine dn ?_
  refine zk ?_
  refine zab [2, 3, 4, 5, 11, 12, 13, 14, 15, 16, 17, 18, 19, 20, 21, 22, 23, 24, 25, 26, 27, 28, 29, 30, 31, 32, 33, 34] (fun (k : Nat) => [(11, .int .i64 k)]) (fun (k : Nat) => []) (fun (k : Nat) => k ≤ l.length ∧ (zbY l = zcT l k (l.drop k))) (fun (k : Nat) => l.length - k) (0) ?_ ?_ ?_ ?_
  ·refine ⟨Nat.zero_le _, ?_⟩
   rw [zbY, if_neg (by omega)]; rfl
  ·exact ⟨rfl, trivial⟩
  ·exact List.Perm.refl _
  ·intro k hinv
   obtain ⟨hk, hg⟩ := hinv
   refine za ?_
   refine dq (zK rfl rfl) ?_
   refine dn ?_
   refine zf ?_
   refine ze rfl (fun h3 => ?_) (fun h4 => ?_)
   ·try simp at h3
    obtain ⟨x, hx⟩ : ∃ x, l[k]? = some x := ⟨_, List.getElem?_eq_getElem h3⟩
    have hdx := zI hx
    rw [hdx] at hg
    refine zi ?_
    refine zd ?_
    refine zf ?_
    refine zk ?_
    refine za ?_
    refine dmv rfl ?_
    refine dq (zH zcL zaN rfl rfl rfl (by assumption)) ?_
    refine dq (zB zaN rfl rfl rfl rfl) ?_
    refine de rfl (zO zaN rfl fun b4 => ?_)
    refine das rfl ?_
    refine de0 (zR zaN rfl rfl rfl rfl rfl ?_)
    refine dn ?_
    refine zF (Ghost.fc0 4 rfl) ?_
    refine zf ?_
    refine za ?_
    refine dq (zB zaN rfl rfl rfl rfl) ?_
    refine dq (zj ztw rfl (WeakL.refl _) zhU) ?_
    refine das rfl ?_
    refine dn ?_
    refine za ?_
    refine dmv rfl ?_
    refine dq (zah rfl rfl) ?_
    refine dn ?_
    refine ze rfl (fun h5 => ?_) (fun h6 => ?_)
    ·try simp at h5
     refine za ?_
     refine dmv rfl ?_
     refine das rfl ?_
     refine dn ?_
     refine zg ?_
     refine zm rfl ?_
     show HVal.int .i64 _ = _
     (rw [hg]; simp_all [zcT, leS]; done)
    ·try simp at h6
     refine zi ?_
     refine zd ?_
     refine zaF (fun _ => True) [] mixed ?_
     refine ahp 0 rfl rfl (by kernel_rfl) (by kernel_rfl) (zh rfl) ?_
     refine ahp 1 rfl rfl (by kernel_rfl) (by kernel_rfl) (z6 rfl rfl) ?_
     refine ahp 2 rfl rfl (by kernel_rfl) (by kernel_rfl) (zh rfl) ?_
     refine ahg 3 rfl rfl (by kernel_rfl) (by kernel_rfl) rfl (fun hc => ⟨_, OpenTo.refl _, zb zaN rfl ty9 (by decide) rfl⟩) ?_
     refine ahg 4 rfl rfl (by kernel_rfl) (by kernel_rfl) rfl (fun hc => ⟨_, OpenTo.upd (t := 24) rfl (hc) (OpenTo.refl _), zc ty9 rfl rfl rfl⟩) ?_
     refine ahg 5 rfl rfl (by kernel_rfl) (by kernel_rfl) rfl (fun hc => ⟨_, OpenTo.refl _, zh rfl⟩) ?_
     refine ahg 6 rfl rfl (by kernel_rfl) (by kernel_rfl) rfl (fun hc => ⟨_, OpenTo.refl _, zh rfl⟩) ?_
     refine ahg 7 rfl rfl (by kernel_rfl) (by kernel_rfl) rfl (fun hc => by have hq := hc; (try simp at hq); exact ⟨_, OpenTo.upd (t := 27) rfl (hc) (OpenTo.refl _), zal rfl rfl (by omega) (by omega)⟩) ?_
     refine ahg 8 rfl rfl (by kernel_rfl) (by kernel_rfl) rfl (fun hc => by have hq := hc; (try simp at hq); exact ⟨_, OpenTo.upd (t := 28) rfl (hc) (OpenTo.upd (t := 26) rfl (hc) (OpenTo.refl _)), zH (j := k - 1) (a := l.getD (k - 1) ziz) zcL zaN rfl rfl (by omega) (getD_some (by omega))⟩) ?_
     refine ahg 9 rfl rfl (by kernel_rfl) (by kernel_rfl) rfl (fun hc => ⟨_, OpenTo.upd (t := 29) rfl (hc) (OpenTo.refl _), zb zaN rfl ty9 (by decide) rfl⟩) ?_
     refine ahg 10 rfl rfl (by kernel_rfl) (by kernel_rfl) rfl (fun hc => ⟨_, OpenTo.upd (t := 30) rfl (hc) (OpenTo.refl _), zc ty9 rfl rfl rfl⟩) ?_
     refine ahg 11 rfl rfl (by kernel_rfl) (by kernel_rfl) rfl (fun hc => ⟨_, OpenTo.upd (t := 31) rfl (hc) (OpenTo.upd (t := 25) rfl (hc) (OpenTo.refl _)), zd9 rfl rfl⟩) ?_
     refine ahp 12 rfl rfl (by kernel_rfl) (by kernel_rfl) (zw rfl (.inr ⟨_, rfl, fun h => by simp_all⟩) (.inl rfl)) ?_
     refine ahz (by kernel_rfl) ?_
     refine ze rfl (fun h7 => ?_) (fun h8 => ?_)
     ·try simp at h7
      refine za ?_
      refine das rfl ?_
      refine dn ?_
      refine zg ?_
      refine zm rfl ?_
      show HVal.int .i64 _ = _
      (rw [hg]; simp_all [zcT, leS]; done)
     ·try simp at h8
      refine zi ?_
      refine zu ?_
      refine zd ?_
      refine zy ?_
      refine dq (zx rfl rfl (by omega) (by omega)) ?_
      refine dmv rfl ?_
      refine dn ?_
      refine ⟨k + 1, ?_, ?_, ⟨rfl, trivial⟩, (by repeat (first | exact zo | refine zt rfl ?_ | refine zp rfl rfl ?_)), List.Perm.refl _⟩
      ·refine ⟨by omega, ?_⟩
       rw [hg]; simp_all [zcT, leS]
      ·dsimp only; omega
   ·try simp at h4
    have hnk : l.length ≤ k := by omega
    obtain rfl : k = l.length := by omega
    rw [zaq (Nat.le_refl _)] at hg
    refine zL ?_
    refine zS ?_
    refine zap ?_
    refine zD ?_
    refine zd ?_
    refine za ?_
    refine das rfl ?_
    refine dn ?_
    refine zg ?_
    refine zm rfl ?_
    show HVal.int .i64 _ = _
    (rw [hg]; simp_all [zcT, leS]; done)

/-- benchwarmer/value.CheckPlaces -/
theorem zhN [Tracks] {l : List HL.Place} (hl : l.length ≤ 1000000) : ConP Tryz.prog 60 [zi5 l] (.int .i64 (zbX l)) := by
 refine Con.of_body Tryz.func60 rfl Tryz.ntmps60 rfl rfl ?_
 refine za ?_
 refine das rfl ?_
 refine dn ?_
 refine zf ?_
 refine za ?_
 refine dmv rfl ?_
 refine dq (zv zjV rfl) ?_
 refine dq (z6 rfl rfl) ?_
 refine dn ?_
 refine ze rfl (fun h1 => ?_) (fun h2 => ?_)
 ·try simp at h1
  refine za ?_
  refine das rfl ?_
  refine dn ?_
  refine zg ?_
  refine zm rfl ?_
  show HVal.int .i64 _ = _
  (rw [zbX, if_pos (by omega)]; done)
 ·try simp at h2
  refine zi ?_
  refine zd ?_
  refine zf ?_
  refine za ?_
  refine dmv rfl ?_
  refine dq (zv zjV rfl) ?_
  refine dmv rfl ?_
  refine dn ?_
  refine zk ?_
  refine zab [2, 3, 4, 10, 11, 12, 13, 14, 15, 16, 17, 18, 19, 20, 21, 22, 23, 24, 25, 26, 27, 28, 29, 30, 31, 32, 33, 34, 35, 36, 37, 38] (fun (k : Nat) => [(10, .int .i64 k)]) (fun (k : Nat) => []) (fun (k : Nat) => k ≤ l.length ∧ (zbX l = zcq l k (l.drop k))) (fun (k : Nat) => l.length - k) (0) ?_ ?_ ?_ ?_
  ·refine ⟨Nat.zero_le _, ?_⟩
   rw [zbX, if_neg (by omega)]; rfl
  ·exact ⟨rfl, trivial⟩
  ·exact List.Perm.refl _
  ·intro k hinv
   obtain ⟨hk, hg⟩ := hinv
   refine za ?_
   refine dq (zK rfl rfl) ?_
   refine dn ?_
   refine zf ?_
   refine ze rfl (fun h3 => ?_) (fun h4 => ?_)
   ·try simp at h3
    obtain ⟨x, hx⟩ : ∃ x, l[k]? = some x := ⟨_, List.getElem?_eq_getElem h3⟩
    have hdx := zI hx
    rw [hdx] at hg
    refine zi ?_
    refine zd ?_
    refine zf ?_
    refine zk ?_
    refine za ?_
    refine dmv rfl ?_
    refine dq (zH zjV zdE rfl rfl rfl (by assumption)) ?_
    refine dq (zB zdE rfl rfl rfl rfl) ?_
    refine de rfl (zO zdE rfl fun b4 => ?_)
    refine das rfl ?_
    refine de0 (zR zdE rfl rfl rfl rfl rfl ?_)
    refine dn ?_
    refine zF (Ghost.fc0 4 rfl) ?_
    refine zk ?_
    refine za ?_
    refine dq (zb zdE rfl ty9 (by decide) rfl) ?_
    refine dq (zc ty9 rfl rfl rfl) ?_
    refine dq (zj zeQ rfl (WeakL.refl _) zbk) ?_
    refine dq (zW rfl) ?_
    refine das rfl ?_
    refine dn ?_
    refine ze rfl (fun h5 => ?_) (fun h6 => ?_)
    ·try simp at h5
     refine za ?_
     refine das rfl ?_
     refine dn ?_
     refine zg ?_
     refine zm rfl ?_
     show HVal.int .i64 _ = _
     (rw [hg]; simp_all [zcq, leS]; done)
    ·try simp at h6
     refine za ?_
     refine dq (zb zdE rfl ty3 (by decide) rfl) ?_
     refine dq (zc ty3 rfl rfl rfl) ?_
     refine dq (zj zcI rfl (WeakL.refl _) zaC) ?_
     refine das rfl ?_
     refine dn ?_
     refine ze rfl (fun h7 => ?_) (fun h8 => ?_)
     ·try simp at h7
      refine za ?_
      refine das rfl ?_
      refine dn ?_
      refine zg ?_
      refine zm rfl ?_
      show HVal.int .i64 _ = _
      (rw [hg]; simp_all [zcq, leS]; done)
     ·try simp at h8
      refine zaF (fun _ => True) [] mixed ?_
      refine ahp 0 rfl rfl (by kernel_rfl) (by kernel_rfl) (zh rfl) ?_
      refine ahp 1 rfl rfl (by kernel_rfl) (by kernel_rfl) (z6 rfl rfl) ?_
      refine ahp 2 rfl rfl (by kernel_rfl) (by kernel_rfl) (zh rfl) ?_
      refine ahg 3 rfl rfl (by kernel_rfl) (by kernel_rfl) rfl (fun hc => ⟨_, OpenTo.refl _, zb zdE rfl ty9 (by decide) rfl⟩) ?_
      refine ahg 4 rfl rfl (by kernel_rfl) (by kernel_rfl) rfl (fun hc => ⟨_, OpenTo.upd (t := 28) rfl (hc) (OpenTo.refl _), zc ty9 rfl rfl rfl⟩) ?_
      refine ahg 5 rfl rfl (by kernel_rfl) (by kernel_rfl) rfl (fun hc => ⟨_, OpenTo.refl _, zh rfl⟩) ?_
      refine ahg 6 rfl rfl (by kernel_rfl) (by kernel_rfl) rfl (fun hc => ⟨_, OpenTo.refl _, zh rfl⟩) ?_
      refine ahg 7 rfl rfl (by kernel_rfl) (by kernel_rfl) rfl (fun hc => by have hq := hc; (try simp at hq); exact ⟨_, OpenTo.upd (t := 31) rfl (hc) (OpenTo.refl _), zal rfl rfl (by omega) (by omega)⟩) ?_
      refine ahg 8 rfl rfl (by kernel_rfl) (by kernel_rfl) rfl (fun hc => by have hq := hc; (try simp at hq); exact ⟨_, OpenTo.upd (t := 32) rfl (hc) (OpenTo.upd (t := 30) rfl (hc) (OpenTo.refl _)), zH (j := k - 1) (a := l.getD (k - 1) zmT) zjV zdE rfl rfl (by omega) (getD_some (by omega))⟩) ?_
      refine ahg 9 rfl rfl (by kernel_rfl) (by kernel_rfl) rfl (fun hc => ⟨_, OpenTo.upd (t := 33) rfl (hc) (OpenTo.refl _), zb zdE rfl ty9 (by decide) rfl⟩) ?_
      refine ahg 10 rfl rfl (by kernel_rfl) (by kernel_rfl) rfl (fun hc => ⟨_, OpenTo.upd (t := 34) rfl (hc) (OpenTo.refl _), zc ty9 rfl rfl rfl⟩) ?_
      refine ahg 11 rfl rfl (by kernel_rfl) (by kernel_rfl) rfl (fun hc => ⟨_, OpenTo.upd (t := 35) rfl (hc) (OpenTo.upd (t := 29) rfl (hc) (OpenTo.refl _)), zd9 rfl rfl⟩) ?_
      refine ahp 12 rfl rfl (by kernel_rfl) (by kernel_rfl) (zw rfl (.inr ⟨_, rfl, fun h => by simp_all⟩) (.inl rfl)) ?_
      refine ahp 13 rfl rfl (by kernel_rfl) (by kernel_rfl) (zaJ rfl) ?_
      refine ahz (by kernel_rfl) ?_
      refine ze rfl (fun h9 => ?_) (fun h10 => ?_)
      ·try simp at h9
       refine za ?_
       refine das rfl ?_
       refine dn ?_
       refine zg ?_
       refine zm rfl ?_
       show HVal.int .i64 _ = _
       (rw [hg]; simp_all [zcq, leS]; done)
      ·try simp at h10
       refine zi ?_
       refine zu ?_
       refine zu ?_
       refine zd ?_
       refine zy ?_
       refine dq (zx rfl rfl (by omega) (by omega)) ?_
       refine dmv rfl ?_
       refine dn ?_
       refine ⟨k + 1, ?_, ?_, ⟨rfl, trivial⟩, (by repeat (first | exact zo | refine zt rfl ?_ | refine zp rfl rfl ?_)), List.Perm.refl _⟩
       ·refine ⟨by omega, ?_⟩
        rw [hg]; simp_all [zcq, leS]
       ·dsimp only; omega
   ·try simp at h4
    have hnk : l.length ≤ k := by omega
    obtain rfl : k = l.length := by omega
    rw [zaq (Nat.le_refl _)] at hg
    refine zL ?_
    refine zS ?_
    refine zap ?_
    refine zD ?_
    refine zd ?_
    refine za ?_
    refine das rfl ?_
    refine dn ?_
    refine zg ?_
    refine zm rfl ?_
    show HVal.int .i64 _ = _
    (rw [hg]; simp_all [zcq, leS]; done)

/-- benchwarmer/value.byValue -/
theorem zkl [Tracks] {x y : Asset}  : ConP Tryz.prog 149 [zbf x, zbf y] (.int .i64 (byValue x y)) := by
 refine Con.of_body Tryz.func149 rfl Tryz.ntmps149 rfl rfl ?_
 refine za ?_
 refine dq (zam rfl rfl) ?_
 refine dq (zam rfl rfl) ?_
 refine das rfl ?_
 refine dn ?_
 refine zaF (fun _ => True) [] mixed ?_
 refine ahp 0 rfl rfl (by kernel_rfl) (by kernel_rfl) (zb zaN rfl ty3 (by decide) rfl) ?_
 refine ahp 1 rfl rfl (by kernel_rfl) (by kernel_rfl) (zc ty3 rfl rfl rfl) ?_
 refine ahp 2 rfl rfl (by kernel_rfl) (by kernel_rfl) (zb zaN rfl ty3 (by decide) rfl) ?_
 refine ahp 3 rfl rfl (by kernel_rfl) (by kernel_rfl) (zc ty3 rfl rfl rfl) ?_
 refine ahp 4 rfl rfl (by kernel_rfl) (by kernel_rfl) (zj zpw rfl (WeakL.refl _) zcv) ?_
 refine ahp 5 rfl rfl (by kernel_rfl) (by kernel_rfl) (zb zaN rfl ty9 (by decide) rfl) ?_
 refine ahp 6 rfl rfl (by kernel_rfl) (by kernel_rfl) (zc ty9 rfl rfl rfl) ?_
 refine ahp 7 rfl rfl (by kernel_rfl) (by kernel_rfl) (zb zaN rfl ty9 (by decide) rfl) ?_
 refine ahp 8 rfl rfl (by kernel_rfl) (by kernel_rfl) (zc ty9 rfl rfl rfl) ?_
 refine ahp 9 rfl rfl (by kernel_rfl) (by kernel_rfl) (zj zlg rfl (WeakL.refl _) zbE) ?_
 refine ahp 10 rfl rfl (by kernel_rfl) (by kernel_rfl) (zG (hs := [_, _]) zbT ty3 rfl rfl (by decide) (by decide) rfl) ?_
 refine ahp 11 rfl rfl (by kernel_rfl) (by kernel_rfl) (zj zoJ rfl (WeakL.refl _) (zez (l := [_, _]) (by simp))) ?_
 refine ahp 12 rfl rfl (by kernel_rfl) (by kernel_rfl) (zaJ rfl) ?_
 refine ahz (by kernel_rfl) ?_
 refine zg ?_
 refine zm rfl ?_
 rfl

/-- benchwarmer/value.of -/
theorem zoW [Tracks] {l : List Asset} {pos : Str} (hl : l.length ≤ 12) : ConP Tryz.prog 104 [zfD l, .str pos] (zfD (ofP l pos)) := by
 refine Con.of_body Tryz.func104 rfl Tryz.ntmps104 rfl rfl ?_
 refine za ?_
 refine das rfl ?_
 refine dn ?_
 refine za ?_
 refine das rfl ?_
 refine dn ?_
 refine zF (Ghost.arr_nil 3) ?_
 refine zf ?_
 refine za ?_
 refine dmv rfl ?_
 refine dq (zv zcL rfl) ?_
 refine dmv rfl ?_
 refine dn ?_
 refine zk ?_
 refine zaS [5, 7, 10, 11, 12, 13, 14, 15, 16, 17, 18, 19, 20, 21, 22] (fun (k : Nat) (u : Value) => [(10, .int .i64 k), (5, .raw u)]) (fun (k : Nat) (u : Value) => [.arr u 3 ((zex (l.take k) pos).map zbf)]) (fun (k : Nat) (u : Value) => k ≤ l.length ∧ (True)) (fun (k : Nat) (u : Value) => l.length - k) (0) (.slice none 0 0) ?_ ?_ ?_ ?_
 ·exact ⟨Nat.zero_le _, by simp_all⟩
 ·exact ⟨rfl, rfl, trivial⟩
 ·exact zU (by simp [zex])
 ·intro k u hinv
  obtain ⟨hk, -⟩ := hinv
  refine za ?_
  refine dq (zK rfl rfl) ?_
  refine dn ?_
  refine zf ?_
  refine ze rfl (fun h1 => ?_) (fun h2 => ?_)
  ·try simp at h1
   obtain ⟨x, hx⟩ : ∃ x, l[k]? = some x := ⟨_, List.getElem?_eq_getElem h1⟩
   have hdx := zI hx
   refine zi ?_
   refine zd ?_
   refine zf ?_
   refine zk ?_
   refine za ?_
   refine dq (zH zcL zaN rfl rfl rfl (by assumption)) ?_
   refine dq (zB zaN rfl rfl rfl rfl) ?_
   refine de rfl (zO zaN rfl fun b7 => ?_)
   refine de0 (zR zaN rfl rfl rfl rfl rfl ?_)
   refine dn ?_
   refine zF (Ghost.fc0 7 rfl) ?_
   refine za ?_
   refine dq (zb zaN rfl ty9 (by decide) rfl) ?_
   refine dq (zc ty9 rfl rfl rfl) ?_
   refine dmv rfl ?_
   refine dq (zbh rfl rfl) ?_
   refine dn ?_
   refine ze rfl (fun h3 => ?_) (fun h4 => ?_)
   ·try simp at h3
    refine zy ?_
    refine dmv rfl ?_
    refine dq (zB zaN rfl rfl rfl rfl) ?_
    refine dq (zG (hs := [_]) zcL zaN rfl rfl (by decide) (by decide) rfl) ?_
    have hal : (zex (l.take k) pos).length ≤ 12 := Nat.le_trans (zjL _ _) (by simp; omega)
    refine de rfl (zaO (i := 0) zcL zaN rfl rfl rfl rfl rfl (by simp [za6, zl]) (by simp; omega) fun v21 => ?_)
    refine das rfl ?_
    refine dn ?_
    refine zu ?_
    refine zd ?_
    refine zy ?_
    refine dq (zx rfl rfl (by omega) (by omega)) ?_
    refine dmv rfl ?_
    refine dn ?_
    exact ⟨k + 1, _, ⟨by omega, trivial⟩, by dsimp only; omega, ⟨rfl, rfl, trivial⟩, (by repeat (first | exact zo | refine zt rfl ?_ | refine zp rfl rfl ?_)), zU (by dsimp only; rw [zkp hx, if_pos (by simp_all)]; simp)⟩
   ·try simp at h4
    refine zi ?_
    refine zu ?_
    refine zd ?_
    refine zy ?_
    refine dq (zx rfl rfl (by omega) (by omega)) ?_
    refine dmv rfl ?_
    refine dn ?_
    exact ⟨k + 1, _, ⟨by omega, trivial⟩, by dsimp only; omega, ⟨rfl, rfl, trivial⟩, (by repeat (first | exact zo | refine zt rfl ?_ | refine zp rfl rfl ?_)), zU (by dsimp only; rw [zkp hx, if_neg (by simp_all)]; simp)⟩
  ·try simp at h2
   have hnk : l.length ≤ k := by omega
   obtain rfl : k = l.length := by omega
   rw [List.take_length]
   refine zL ?_
   refine zS ?_
   refine za8 ?_
   refine zD ?_
   refine zd ?_
   have hal := zjL l pos
   refine za ?_
   refine dmv rfl ?_
   refine de rfl (zN (i := 0) ztm rfl (WeakL.refl _) rfl (zdo (l := zex l pos) (c := byValue) (caps := []) zti (fun x y => zkl) (by omega)) ?_)
   rintro _ _ ⟨rfl, rfl⟩
   refine dn ?_
   refine za ?_
   refine dmv rfl ?_
   refine das rfl ?_
   refine dn ?_
   refine zg ?_
   exact zgU (M := []) 4 rfl rfl rfl

set_option maxHeartbeats 1000000 in
/-- benchwarmer/value.fielded -/
theorem zkT [Tracks] {l : List Asset} {p : List HL.Place} (hl : l.length ≤ 12) (hp : p.length ≤ 10) (hm : ∀ x ∈ p, 0 ≤ x.Many) (hv : ∀ x ∈ l, -1000000 ≤ x.Value ∧ x.Value ≤ 1000000) : ConP Tryz.prog 61 [zfD l, zi5 p] (.tup [.int .i64 (zcA (zav (ofP l) p)), eSs (zkD (zav (ofP l) p))]) := by
 have hon : ∀ s, (ofP l s).length ≤ 12 := fun s => Nat.le_trans (zsg l s) hl
 refine Con.of_body Tryz.func61 rfl Tryz.ntmps61 rfl rfl ?_
 refine za ?_
 refine das rfl ?_
 refine das rfl ?_
 refine dn ?_
 refine za ?_
 refine das rfl ?_
 refine dn ?_
 refine za ?_
 refine das rfl ?_
 refine dn ?_
 refine zF (Ghost.arr_nil 1) ?_
 refine zf ?_
 refine za ?_
 refine dmv rfl ?_
 refine dq (zv zjV rfl) ?_
 refine dmv rfl ?_
 refine dn ?_
 refine zk ?_
 refine zaS [6, 7, 9, 10, 12, 15, 16, 17, 18, 19, 20, 21, 22, 23, 24, 25, 26, 27, 28, 29, 30, 31, 32, 33, 34, 35, 36, 37, 38, 39, 40, 41, 42, 43, 44, 45, 46, 47, 48] (fun (i : Nat) (u : Value) => [(15, .int .i64 i), (6, .int .i64 (zcA (zav (ofP l) (p.take i)))), (7, .raw u)]) (fun (i : Nat) (u : Value) => [.arr u 1 (((zav (ofP l) (p.take i)).map (·.Player)).map .str)]) (fun (i : Nat) (u : Value) => i ≤ p.length ∧ (True)) (fun (i : Nat) (u : Value) => p.length - i) (0) (.slice none 0 0) ?_ ?_ ?_ ?_
 ·exact ⟨Nat.zero_le _, by simp_all⟩
 ·exact ⟨rfl, zeb (by simp [zav, zcA]), rfl, trivial⟩
 ·exact zU (by simp [zav])
 ·intro i u hinv
  obtain ⟨hi, -⟩ := hinv
  refine za ?_
  refine dq (zK rfl rfl) ?_
  refine dn ?_
  refine zf ?_
  refine ze rfl (fun h1 => ?_) (fun h2 => ?_)
  ·try simp at h1
   obtain ⟨x, hx⟩ : ∃ x, p[i]? = some x := ⟨_, List.getElem?_eq_getElem h1⟩
   have hdx := zI hx
   refine zi ?_
   refine zd ?_
   refine zf ?_
   refine zk ?_
   refine za ?_
   refine dq (zH zjV zdE rfl rfl rfl (by assumption)) ?_
   refine dq (zB zdE rfl rfl rfl rfl) ?_
   refine de rfl (zO zdE rfl fun b9 => ?_)
   refine de0 (zR zdE rfl rfl rfl rfl rfl ?_)
   refine dn ?_
   refine zF (Ghost.fc0 9 rfl) ?_
   refine za ?_
   refine dmv rfl ?_
   refine dq (zb zdE rfl ty9 (by decide) rfl) ?_
   refine dq (zc ty9 rfl rfl rfl) ?_
   refine dq (zj ztQ rfl (WeakL.refl _) (zoW (by assumption))) ?_
   refine das rfl ?_
   refine dn ?_
   have hx0 := hm x (List.mem_of_getElem? hx)
   have hon1 := hon x.Position
   obtain ⟨N, hN⟩ : ∃ N : Nat, (if ((ofP l x.Position).length : Int) < x.Many then ((ofP l x.Position).length : Int) else x.Many) = (N : Int) := ⟨_, (Int.toNat_of_nonneg (by split <;> omega)).symm⟩
   have hNle : N ≤ (ofP l x.Position).length := by split at hN <;> omega
   refine za ?_
   refine dmv rfl ?_
   refine dq (zb zdE rfl ty3 (by decide) rfl) ?_
   refine dq (zc ty3 rfl rfl rfl) ?_
   refine dmv rfl ?_
   refine dq (zv zcL rfl) ?_
   refine dq (ze6 (zr4 rfl rfl) (congrArg _ hN)) ?_
   refine dq (zce (h := N) zcL zaN rfl rfl ⟨_, _, rfl, rfl⟩ (by omega) hNle) ?_
   refine dq (zv zcL rfl) ?_
   refine dmv rfl ?_
   refine dn ?_
   have hCl : ((List.drop 0 (List.take N (ofP l x.Position)))).length ≤ 12 := by simp; omega
   have hCm : ∀ y ∈ (List.drop 0 (List.take N (ofP l x.Position))), y ∈ l := fun y hy => by
    have := List.mem_of_mem_take (List.mem_of_mem_drop hy)
    unfold ofP zex at this
    exact (List.mem_filter.1 ((zgf _).1 this)).1
   generalize hCd : List.drop 0 (List.take N (ofP l x.Position)) = C at *
   refine zk ?_
   refine zaS [6, 7, 12, 31, 32, 33, 34, 35, 36, 37, 38, 39, 40, 41, 42, 43, 44, 45, 46, 47] (fun (k : Nat) (w : Value) => [(31, .int .i64 k), (6, .int .i64 (zcA ((zav (ofP l) (p.take i)) ++ ((C.take k).filter (fun y => decide (0 < y.Value)))))), (7, .raw w)]) (fun (k : Nat) (w : Value) => [.arr w 1 ((((zav (ofP l) (p.take i)) ++ ((C.take k).filter (fun y => decide (0 < y.Value)))).map (·.Player)).map .str)]) (fun (k : Nat) (w : Value) => k ≤ C.length ∧ (True)) (fun (k : Nat) (w : Value) => C.length - k) (0) (u) ?_ ?_ ?_ ?_
   ·exact ⟨Nat.zero_le _, by simp_all⟩
   ·exact ⟨rfl, zeb (by simp), rfl, trivial⟩
   ·exact zU (by simp)
   ·intro k w hinv
    obtain ⟨hk, -⟩ := hinv
    refine za ?_
    refine dq (zK rfl rfl) ?_
    refine dn ?_
    refine zf ?_
    refine ze rfl (fun h3 => ?_) (fun h4 => ?_)
    ·try simp at h3
     obtain ⟨y, hy⟩ : ∃ y, C[k]? = some y := ⟨_, List.getElem?_eq_getElem h3⟩
     have hdy := zI hy
     refine zi ?_
     refine zd ?_
     refine zf ?_
     refine zk ?_
     refine za ?_
     refine dq (zH zcL zaN rfl rfl rfl (by assumption)) ?_
     refine dq (zB zaN rfl rfl rfl rfl) ?_
     refine de rfl (zO zaN rfl fun b12 => ?_)
     refine de0 (zR zaN rfl rfl rfl rfl rfl ?_)
     refine dn ?_
     refine zF (Ghost.fc0 12 rfl) ?_
     refine za ?_
     refine dq (zb zaN rfl ty3 (by decide) rfl) ?_
     refine dq (zc ty3 rfl rfl rfl) ?_
     refine dq (z6 rfl rfl) ?_
     refine dn ?_
     refine ze rfl (fun h5 => ?_) (fun h6 => ?_)
     ·try simp at h5
      refine za ?_
      refine dmv rfl ?_
      refine dq (zb zaN rfl ty3 (by decide) rfl) ?_
      refine dq (zc ty3 rfl rfl rfl) ?_
      have hb1 := znL (f := ofP l) (p := p) (i := i) (fun s m y => zkg) hon hp hv
      have hb2 := zsN (k := k) hCm hCl hv
      have hb3 := hv y (hCm y (List.mem_of_getElem? hy))
      have hb4 := zno (zav (ofP l) (p.take i)) ((C.take k).filter (fun y => decide (0 < y.Value)))
      refine dq (zx rfl rfl (by omega) (by omega)) ?_
      refine das rfl ?_
      refine dn ?_
      refine zy ?_
      refine dmv rfl ?_
      refine dq (zb zaN rfl ty9 (by decide) rfl) ?_
      refine dq (zc ty9 rfl rfl rfl) ?_
      refine dq (zG (hs := [_]) zA ty9 rfl rfl (by decide) (by decide) rfl) ?_
      refine de rfl (zaO (i := 0) zA ty9 rfl rfl rfl rfl rfl (by simp [za6, zl]) (by simp only [List.length_map, List.length_append, List.length_cons, List.length_nil]; omega) fun v46 => ?_)
      refine das rfl ?_
      refine dn ?_
      refine zu ?_
      refine zd ?_
      refine zy ?_
      refine dq (zx rfl rfl (by omega) (by omega)) ?_
      refine dmv rfl ?_
      refine dn ?_
      exact ⟨k + 1, _, ⟨by omega, trivial⟩, by dsimp only; omega, ⟨rfl, zeb (by rw [zhj hy, if_pos (by simp_all), ← List.append_assoc, zno _ [y]]; simp [zcA]), rfl, trivial⟩, (by repeat (first | exact zo | refine zt rfl ?_ | refine zp rfl rfl ?_)), zU (by dsimp only; rw [zhj hy, if_pos (by simp_all)]; simp)⟩
     ·try simp at h6
      refine zi ?_
      refine zu ?_
      refine zd ?_
      refine zy ?_
      refine dq (zx rfl rfl (by omega) (by omega)) ?_
      refine dmv rfl ?_
      refine dn ?_
      exact ⟨k + 1, _, ⟨by omega, trivial⟩, by dsimp only; omega, ⟨rfl, zeb (by rw [zhj hy, if_neg (by omega)]; simp), rfl, trivial⟩, (by repeat (first | exact zo | refine zt rfl ?_ | refine zp rfl rfl ?_)), zU (by dsimp only; rw [zhj hy, if_neg (by omega)]; simp)⟩
    ·try simp at h4
     have hnk : C.length ≤ k := by omega
     obtain rfl : k = C.length := by omega
     refine zL ?_
     refine zS ?_
     refine za8 ?_
     refine zD ?_
     refine zu ?_
     refine zd ?_
     refine zy ?_
     refine dq (zx rfl rfl (by omega) (by omega)) ?_
     refine dmv rfl ?_
     refine dn ?_
     exact ⟨i + 1, _, ⟨by omega, trivial⟩, by dsimp only; omega, ⟨rfl, zeb (by rw [zhI _ hx, zly hN, hCd, List.take_length]), rfl, trivial⟩, (by repeat (first | exact zo | refine zt rfl ?_ | refine zp rfl rfl ?_)), zU (by dsimp only; rw [zhI _ hx, zly hN, hCd, List.take_length])⟩
  ·try simp at h2
   have hni : p.length ≤ i := by omega
   obtain rfl : i = p.length := by omega
   refine zL ?_
   refine zS ?_
   refine za8 ?_
   refine zD ?_
   refine zd ?_
   rw [List.take_length]
   refine za ?_
   refine dmv rfl ?_
   refine de rfl (zN (i := 0) ca35 rfl (WeakL.refl _) rfl (zhJ (l := (zav (ofP l) p).map (·.Player)) (by have hb1 := znL (f := ofP l) (p := p) (i := p.length) (fun s m y => zkg) hon hp hv; rw [List.take_length] at hb1; simp; omega)) ?_)
   rintro _ _ ⟨rfl, rfl⟩
   refine dn ?_
   refine za ?_
   refine dmv rfl ?_
   refine dmv rfl ?_
   refine das rfl ?_
   refine das rfl ?_
   refine dn ?_
   refine zg ?_
   exact zgU (M := []) 5 rfl rfl rfl
end
section
open Go.HL
/-- benchwarmer/value.Fielded -/
theorem zkt [Tracks] {l : List Asset} {p : List HL.Place} (hl : l.length ≤ 11) (hp : p.length ≤ 1000000) : ConP Tryz.prog 29 [zfD l, zi5 p] (.tup [.int .i64 (if zgm l p != 0 then 0 else zoS l p), eSs (if zgm l p != 0 then [] else zkD (zav (ofP l) p)), .int .i64 (zgm l p)]) := by
 refine Con.of_body Tryz.func29 rfl Tryz.ntmps29 rfl rfl ?_
 refine za ?_
 refine das rfl ?_
 refine das rfl ?_
 refine das rfl ?_
 refine dn ?_
 refine zf ?_
 refine za ?_
 refine dmv rfl ?_
 refine dq (zj ca59 rfl (WeakL.refl _) (zhP (by omega))) ?_
 refine dmv rfl ?_
 refine dq (zj ca60 rfl (WeakL.refl _) (zhN (by assumption))) ?_
 refine dq (zG (hs := [_, _]) zjb zlc rfl rfl (by decide) (by decide) rfl) ?_
 refine dq (zj zpq rfl (WeakL.refl _) (zey (l := [_, _]) (by simp))) ?_
 refine das rfl ?_
 refine dn ?_
 refine za ?_
 refine dmv rfl ?_
 refine dq (zah rfl rfl) ?_
 refine dn ?_
 refine ze rfl (fun h1 => ?_) (fun h2 => ?_)
 ·try simp at h1
  refine za ?_
  refine dmv rfl ?_
  refine das rfl ?_
  refine das rfl ?_
  refine das rfl ?_
  refine dn ?_
  refine zg ?_
  (refine ze4 rfl (zpO ?_ ?_ (Weak.refl _))
   ·rw [if_pos (by simpa [zgm] using h1)]; exact Weak.refl _
   ·rw [if_pos (by simpa [zgm] using h1)]; exact zaV 1)
 ·try simp at h2
  refine zi ?_
  refine zd ?_
  obtain ⟨hca0, hcp0⟩ := zr8 (l := l) (p := p) (by simpa [zgm] using h2)
  obtain ⟨hsr, haf⟩ := zlm hca0
  obtain ⟨hmm, hp10⟩ := zlj hcp0
  have hvv : ∀ x ∈ l, -1000000 ≤ x.Value ∧ x.Value ≤ 1000000 := fun x hx => (zhB (haf x hx)).2.2
  refine za ?_
  refine dmv rfl ?_
  refine dmv rfl ?_
  refine dq (zj ca61 rfl (WeakL.refl _) (zkT (by omega) (by assumption) (by simp_all) (by assumption))) ?_
  refine dmv rfl ?_
  refine dq (zJ rfl rfl) ?_
  refine dq (zJ rfl rfl) ?_
  refine das rfl ?_
  refine das rfl ?_
  refine dn ?_
  refine za ?_
  refine dmv rfl ?_
  refine dmv rfl ?_
  refine das rfl ?_
  refine das rfl ?_
  refine das rfl ?_
  refine dn ?_
  refine zg ?_
  (refine zm rfl ?_
   have h0 : zgm l p = 0 := by simpa [zgm] using h2
   simp [h0, zoS, zbi, zfa])

end
end Go.Proofs.YtkcnenknbbcoiaaGreatDoor
namespace Go.HL
section
section
variable {α : Type}
def Srt (c : α → α → Int) (l : List α) : Prop := l.Pairwise fun a b => c a b ≤ 0
theorem Cmp.self {c : α → α → Int} (hc : Cmp c fun _ => True) (x : α) : c x x ≤ 0 := by
 have := hc.flip x x trivial trivial; omega
theorem Srt.get {c : α → α → Int} (hc : Cmp c fun _ => True) {l : List α} (h : Srt c l) {i j : Nat} {x y : α} (hij : i ≤ j) (hx : l[i]? = some x) (hy : l[j]? = some y) : c x y ≤ 0 := by
 rcases Nat.lt_or_ge i j with hlt | hge
 ·have h1 := zC hx
  have h2 := zC hy
  have := List.pairwise_iff_getElem.1 h i j h1 h2 hlt
  rw [List.getElem?_eq_getElem h1] at hx
  rw [List.getElem?_eq_getElem h2] at hy
  rw [Option.some.inj hx, Option.some.inj hy] at this
  exact this
 ·have e : i = j := by omega
  rw [e, hy] at hx
  rw [Option.some.inj hx]; exact hc.self _
theorem Srt.take {c : α → α → Int} {l : List α} (h : Srt c l) (k : Nat) : Srt c (l.take k) := List.Pairwise.sublist (List.take_sublist k l) h
theorem Srt.drop {c : α → α → Int} {l : List α} (h : Srt c l) (k : Nat) : Srt c (l.drop k) := List.Pairwise.sublist (List.drop_sublist k l) h
theorem Srt.nil {c : α → α → Int} : Srt c [] := List.Pairwise.nil
end
end
section
section
variable {α : Type} {c : α → α → Int}
/-- Each block of so many elements is sorted. -/
def Blk (c : α → α → Int) (bs : Nat) (l : List α) : Prop := ∀ q, Srt c ((l.drop (bs * q)).take bs)
theorem Blk.all {bs : Nat} {l : List α} (h : Blk c bs l) (hl : l.length ≤ bs) : Srt c l := by
 have := h 0
 rw [Nat.mul_zero, List.drop_zero, List.take_of_length_le hl] at this
 exact this
theorem Blk.nil {bs : Nat} : Blk c bs [] := fun q => by simp [Srt.nil]
theorem Blk.add {bs k : Nat} {Z W : List α} (h : Blk c bs Z) (hZ : Z.length = bs * k) (hW : Srt c W) (hl : W.length ≤ bs) : Blk c bs (Z ++ W) := by
 intro q
 rcases Nat.lt_trichotomy q k with hq | hq | hq
 ·have h1 : bs * q + bs ≤ Z.length := by rw [hZ, ← Nat.mul_succ]; exact Nat.mul_le_mul_left bs hq
  rw [List.drop_append_of_le_length (by omega), List.take_append_of_le_length (by rw [List.length_drop]; omega)]
  exact h q
 ·rw [hq, ← hZ, List.drop_left, List.take_of_length_le hl]; exact hW
 ·have h1 : Z.length + bs ≤ bs * q := by rw [hZ, ← Nat.mul_succ]; exact Nat.mul_le_mul_left bs hq
  rw [List.drop_of_length_le (by rw [List.length_append]; omega)]
  simp [Srt.nil]
theorem Blk.at {bs q a : Nat} {l : List α} (h : Blk c bs l) (ha : a = bs * q) : Srt c ((l.drop a).take bs) := by rw [ha]; exact h q
end
end
section
section
variable {α : Type} [DecidableEq α]
/-- A list without the things that equal the one before (p ahead of the first). -/
def zc2 (p : Option α) : List α → List α
 | [] => []
 | x :: r => if p = some x then zc2 (some x) r else x :: zc2 (some x) r
theorem zkh (x : α) : ∀ (A : List α) (p : Option α), zc2 p (A ++ [x]) = zc2 p A ++ if (A.getLast?.or p) = some x then [] else [x]
 | [], p => by
   by_cases h : p = some x <;> simp [zc2, h]
 | y :: A, p => by
   have ih := zkh x A (some y)
   have e : ((y :: A).getLast?.or p) = (A.getLast?.or (some y)) := by
    cases A with
    | nil => simp
    | cons z A => simp [List.getLast?_cons_cons, List.getLast?_cons]
   simp only [List.cons_append, zc2]
   rw [e, ih]
   split <;> simp
theorem zpB {l : List α} {k : Nat} {x y : α} (hx : l[k]? = some x) (hy : l[k - 1]? = some y) (h0 : 0 < k) : zc2 none (l.take (k + 1)) = zc2 none (l.take k) ++ if x = y then [] else [x] := by
 have hk := zC hx
 rw [zae hx, zkh]
 have e : ((l.take k).getLast?.or none) = some y := by
  rw [List.getLast?_eq_getElem?, List.length_take, Nat.min_eq_left (by omega), List.getElem?_take_of_lt (by omega), hy]; rfl
 rw [e]
 by_cases h : x = y
 ·rw [if_pos h, if_pos (by rw [h])]
 ·rw [if_neg h, if_neg (by simpa using fun q : y = x => h q.symm)]
structure CmpA (l : List α) (j : Nat) (D : List α) : Prop where
 len : D.length = l.length
 lo : D.take (zc2 none (l.take j)).length = zc2 none (l.take j)
 lt : (zc2 none (l.take j)).length < j
 hi : ∀ i, j ≤ i + 1 → D[i]? = l[i]?
theorem CmpA.same {l D : List α} {j : Nat} (h : CmpA l j D) {x y : α} (hx : l[j]? = some x) (hy : l[j - 1]? = some y) (e : x = y) : CmpA l (j + 1) D ∧ (zc2 none (l.take (j + 1))).length = (zc2 none (l.take j)).length := by
 have h0 := h.lt
 have h1 : zc2 none (l.take (j + 1)) = zc2 none (l.take j) := by rw [zpB hx hy (by omega), if_pos e]; simp
 exact ⟨⟨h.len, by rw [h1]; exact h.lo, by rw [h1]; omega, fun i hi => h.hi i (by omega)⟩, by rw [h1]⟩
variable {c : α → α → Int}
end
end
section
structure MendS where
 Player : Str
 Week : Int
 Stat : Str
 Count : Int
 At : Int
 Version : Int
 By : Str
abbrev Plc := Str × Int
section
variable {α : Type}
def zas (f : α → Int) (c : α → α → Int) (d : α) (l : List α) : Nat → List α → Int
 | _, [] => 0
 | k, x :: r => if f x ≠ 0 then f x else if 0 < k ∧ c x (l.getD (k - 1) d) ≤ 0 then 7 else zas f c d l (k + 1) r
theorem zhl {f : α → Int} {c : α → α → Int} {d : α} {l : List α} {k : Nat} {x : α} {r : List α} (h1 : f x = 0) (h2 : 0 < k → ¬ c x (l.getD (k - 1) d) ≤ 0) : zas f c d l k (x :: r) = zas f c d l (k + 1) r := by
 rw [zas, if_neg (by simp [h1]), if_neg (fun h => h2 h.1 h.2)]
theorem zpQ {f : α → Int} {c : α → α → Int} {d : α} {l : List α} {k : Nat} {x : α} {r : List α} (h1 : f x ≠ 0) : zas f c d l k (x :: r) = f x := by
 rw [zas, if_pos h1]
theorem zpU {f : α → Int} {c : α → α → Int} {d : α} {l : List α} {k : Nat} {x : α} {r : List α} (h1 : f x = 0) (h0 : 0 < k) (h2 : c x (l.getD (k - 1) d) ≤ 0) : zas f c d l k (x :: r) = 7 := by
 rw [zas, if_neg (by simp [h1]), if_pos ⟨h0, h2⟩]
theorem zge {f : α → Int} {c : α → α → Int} {d : α} {l : List α} : ∀ (r : List α) (k : Nat), zas f c d l k r = 0 → ∀ x ∈ r, f x = 0
 | [], _, _, x, hx => by cases hx
 | p :: r, k, h, x, hx => by
   rw [zas] at h
   split at h
   ·contradiction
   ·split at h
    ·omega
    ·rename_i h1 _
     rcases List.mem_cons.1 hx with rfl | hx
     ·simpa using h1
     ·exact zge r (k + 1) h x hx
/-- Each is behind the one ahead of it. -/
theorem zlP {f : α → Int} {c : α → α → Int} {d : α} (hc : Cmp c fun _ => True) : ∀ (r : List α) (l : List α) (k : Nat), l.drop k = r → k ≤ l.length → (l.take k).Pairwise (fun a b => c a b < 0) → zas f c d l k r = 0 → l.Pairwise (fun a b => c a b < 0)
 | [], l, k, hd, hk, hp, _ => by
   have h1 : l.length ≤ k := by simpa using hd
   rw [List.take_of_length_le h1] at hp; exact hp
 | x :: r, l, k, hd, hk, hp, h => by
   rw [zas] at h
   split at h
   ·contradiction
   ·split at h
    ·omega
    ·rename_i h2
     have hx : l[k]? = some x := by have := congrArg (fun q : List α => q[0]?) hd; simpa using this
     have hlt := zC hx
     refine zlP hc r l (k + 1) (by rw [← List.drop_drop (i := 1), hd]; rfl) hlt ?_ h
     rw [zae hx]
     refine List.pairwise_append.2 ⟨hp, List.pairwise_singleton _ _, fun a ha b hb => ?_⟩
     obtain rfl := List.mem_singleton.1 hb
     obtain ⟨i, hi⟩ := List.getElem?_of_mem ha
     have hik : i < k := by have := zC hi; rw [List.length_take] at this; omega
     have hy : l[k - 1]? = some (l.getD (k - 1) d) := getD_some (by omega)
     have h3 : c (l.getD (k - 1) d) b < 0 := by
      rw [hc.flip _ _ trivial trivial]
      have : ¬ c b (l.getD (k - 1) d) ≤ 0 := fun e => h2 ⟨by omega, e⟩
      omega
     rcases Nat.lt_or_ge i (k - 1) with hlt' | hge
     ·have hyk : (l.take k)[k - 1]? = some (l.getD (k - 1) d) := by rw [List.getElem?_take_of_lt (by omega)]; exact hy
      have h4 : c a (l.getD (k - 1) d) < 0 := by
       have hi2 := zC hi
       have hk2 := zC hyk
       have := List.pairwise_iff_getElem.1 hp i (k - 1) hi2 hk2 hlt'
       rw [List.getElem?_eq_getElem hi2] at hi
       rw [List.getElem?_eq_getElem hk2] at hyk
       rw [Option.some.inj hi, Option.some.inj hyk] at this
       exact this
      have h5 := hc.trans a (l.getD (k - 1) d) b trivial trivial trivial (by omega) (by omega)
      have f1 := hc.flip a (l.getD (k - 1) d) trivial trivial
      have f2 := hc.flip (l.getD (k - 1) d) b trivial trivial
      have f3 := hc.flip a b trivial trivial
      have f4 := hc.flip b a trivial trivial
      rcases Int.lt_or_eq_of_le h5 with e | e
      ·exact e
      ·exfalso
       have := hc.trans b a (l.getD (k - 1) d) trivial trivial trivial (by omega) (by omega)
       omega
     ·have e : i = k - 1 := by omega
      rw [e, List.getElem?_take_of_lt (by omega), hy] at hi
      rw [← Option.some.inj hi]; exact h3
theorem zha {f : α → Int} {c : α → α → Int} {d : α} (hc : Cmp c fun _ => True) {l : List α} (h : zas f c d l 0 l = 0) : l.Pairwise (fun a b => c a b < 0) :=
 zlP hc l l 0 rfl (Nat.zero_le _) (by simp) h
theorem zqt {f : α → Int} {c : α → α → Int} {d : α} (hc : Cmp c fun _ => True) {l : List α} (hf : ∀ x ∈ l, f x = 0) (hp : l.Pairwise (fun a b => c a b < 0)) : ∀ (r : List α) (k : Nat), l.drop k = r → zas f c d l k r = 0
 | [], _, _ => rfl
 | x :: r, k, hd => by
   have hx : l[k]? = some x := by have := congrArg (fun q : List α => q[0]?) hd; simpa using this
   have hlt := zC hx
   rw [zhl (hf x (List.mem_of_getElem? hx)) (fun h0 h => ?_)]
   ·exact zqt hc hf hp r (k + 1) (by rw [← List.drop_drop (i := 1), hd]; rfl)
   ·have hy : l[k - 1]? = some (l.getD (k - 1) d) := getD_some (by omega)
    have hk1 : k - 1 < l.length := by omega
    have := List.pairwise_iff_getElem.1 hp (k - 1) k hk1 hlt (by omega)
    rw [List.getElem?_eq_getElem hlt] at hx
    rw [List.getElem?_eq_getElem hk1] at hy
    rw [Option.some.inj hx, Option.some.inj hy] at this
    have f1 := hc.flip (l.getD (k - 1) d) x trivial trivial
    omega
theorem zk1 (f : α → Str) : Cmp (fun a b => zaH (f a) (f b)) fun _ => True where
 flip x y _ _ := by rw [zdx (f x) (f y)]; omega
 trans x y z _ _ _ h1 h2 := zfv h1 h2
end
theorem ziW {a b : Int} (h : (if a ≠ 0 then a else b) = 0) : a = 0 ∧ b = 0 := by
 split at h
 ·contradiction
 ·rename_i h1; exact ⟨by simpa using h1, h⟩
theorem zmJ (a b : Str) : (Op.bytesLess a b || a == b) = decide (zaH a b ≤ 0) := by
 rw [Bool.eq_iff_iff, decide_eq_true_iff, ze0]
 rcases zbA a b with h | h | h
 ·simp [h, zaU h]
 ·subst h; simp [zag]
 ·have hne : a ≠ b := fun e => by subst e; rw [zag] at h; cases h
  simp [h, zaU h, hne]
/-! what is wrong -/
def zik (x : MendS) : Int :=
 if !(key x.Player) || !(key x.Stat) || !(key x.By) then 5
 else if !(zf6 x.Week) || out x.Count (-100000) 100000 || !(zaL x.At) || out x.Version 1 1000 then 1 else 0
theorem znI {x : MendS} (h : zik x = 0) : key x.Player = true ∧ key x.Stat = true ∧ zf6 x.Week = true ∧ (-100000 ≤ x.Count ∧ x.Count ≤ 100000) ∧ zaL x.At = true := by
 unfold zik at h
 split at h
 ·omega
 split at h
 ·omega
 rename_i h1 h2
 simp only [Bool.or_eq_true, Bool.not_eq_true', not_or, Bool.not_eq_false, Bool.not_eq_true] at h1 h2
 exact ⟨h1.1.1, h1.1.2, h2.1.1.1, zdj h2.1.1.2, h2.1.2⟩
end
section
section
variable {α : Type} [DecidableEq α]
end
end
section
def zjd : Str := [103, 111, 97, 108]
def zjc : Play := ⟨[115], 1, 0, 1, [109], [112], zjd, 2, 0⟩
def zpo : LineS := ⟨[112], 1, [⟨zjd, 2⟩]⟩
theorem zni : zdr [zjc] [[115]] 1 5 [zjc] = ⟨[[112]], [(([112], zjd), 2)]⟩ := by kernel_rfl
theorem zmU : orI [zb1 [zjc], zdW [[115]]] = 0 := by kernel_rfl
theorem zkc : zfn [(([112], zjd), 2)] [[112]] = false := by kernel_rfl
theorem zob : zeM [(([112], zjd), 2)] [112] = [⟨zjd, 2⟩] := by kernel_rfl
theorem zsn : zgY [zjc] [[115]] 1 5 = 0 := by
 rw [zgY, zmU, if_neg (by decide), if_neg (by decide), znx, zni, zfz, zkc]; rfl
theorem zsl : zgI [zjc] [[115]] 1 5 = [zpo] := by
 rw [zgI, zmU, if_neg (by decide), if_neg (by decide), znR, zni, zfy, zkc, if_neg (by decide)]
 simp [zar, zob, zpo]
end
section

end
section
theorem Cmp.lt_trans {α : Type} {c : α → α → Int} {s : α → Prop} (h : Cmp c s) {x y z : α} (hx : s x) (hy : s y) (hz : s z) (h1 : c x y < 0) (h2 : c y z < 0) : c x z < 0 := by
 rcases Int.lt_or_le (c x z) 0 with q | q
 ·exact q
 ·exfalso
  have a1 := h.flip y z hy hz
  have a2 := h.flip z x hz hx
  have hzx : c z x ≤ 0 := by
   rcases Int.lt_or_le 0 (c z x) with r | r
   ·have := h.flip x z hx hz; omega
   ·exact r
  have := h.trans z x y hz hx hy hzx (by omega)
  omega
theorem zl9 {a b c : Str} (h1 : zaH a b ≤ 0) (h2 : zaH b c ≤ 0) (h : zaH a c = 0) : zaH a b = 0 ∧ zaH b c = 0 := by
 have e := zcc.1 h
 subst e
 rw [zdx b a] at *
 omega
end
section
def SLt (a b : Str) : Prop := a ≤ b ∧ a ≠ b
theorem zkx : ∀ (l : List Str) (p : Option Str) (s : Str), s ∈ l → s ∈ zci p l ∨ p = some s
 | [], _, _, h => by cases h
 | x :: r, p, s, h => by
   simp only [zci]
   rcases List.mem_cons.1 h with rfl | h
   ·split
    ·rename_i e; exact .inr e
    ·exact .inl (by simp)
   ·rcases zkx r (some x) s h with q | q
    ·split
     ·exact .inl q
     ·exact .inl (List.mem_cons_of_mem _ q)
    ·cases q
     split
     ·rename_i e; exact .inr e
     ·exact .inl (by simp)
def zmr (l : List Str) : List Str := Lib.compact (zar l)
theorem zqm {l : List Str} {s : Str} : s ∈ zmr l ↔ s ∈ l := by
 constructor
 ·exact zsJ
 ·intro h
  unfold zmr
  rw [zfJ]
  rcases zkx (zar l) none s ((List.mergeSort_perm _ _).mem_iff.2 h) with q | q
  ·exact q
  ·cases q
theorem zm9 {l : List Str} (h : l.Nodup) : (zar l).Pairwise SLt := by
 have hn : (zar l).Nodup := (List.mergeSort_perm _ _).nodup_iff.2 h
 have hs := znd l
 rw [List.pairwise_iff_getElem] at *
 intro i j hi hj hij
 exact ⟨hs i j hi hj hij, List.pairwise_iff_getElem.1 hn i j hi hj hij⟩
/-- The sums of one player. -/
def zb8 {κ : Type} (c : List ((Str × κ) × Int)) (s : Str) : List (κ × Int) := (c.filter fun e => e.1.1 == s).map fun e => (e.1.2, e.2)
theorem zlA {κ : Type} [DecidableEq κ] (s : Str) (st : κ) (v : Int) (s' : Str) : ∀ c : List ((Str × κ) × Int), zb8 (zai (s, st) v c) s' = if s' = s then zai st v (zb8 c s) else zb8 c s'
 | [] => by
   by_cases e : s' = s
   ·subst e; simp [zb8, zai]
   ·have : ¬ s = s' := fun q => e q.symm
    simp [zb8, zai, e, this]
 | p :: r => by
   have ih := zlA s st v s' r
   obtain ⟨⟨a, b⟩, w⟩ := p
   simp only [zai, Prod.mk.injEq]
   by_cases h1 : s = a
   ·subst h1
    by_cases h2 : st = b
    ·subst h2
     rw [if_pos ⟨rfl, rfl⟩]
     by_cases e : s' = s
     ·subst e; simp [zb8, zai]
     ·have : ¬ s = s' := fun q => e q.symm
      simp [zb8, e, this]
    ·rw [if_neg (fun q => h2 q.2)]
     by_cases e : s' = s
     ·subst e
      rw [if_pos rfl] at ih ⊢
      simp only [zb8, List.filter_cons, beq_self_eq_true, if_true, List.map_cons, zai, if_neg h2] at ih ⊢
      rw [ih]
     ·have : ¬ s = s' := fun q => e q.symm
      rw [if_neg e] at ih ⊢
      simp only [zb8, List.filter_cons, beq_iff_eq, if_neg this] at ih ⊢
      exact ih
   ·rw [if_neg (fun q => h1 q.1)]
    by_cases e : s' = s
    ·subst e
     have : ¬ a = s' := fun q => h1 q.symm
     rw [if_pos rfl] at ih ⊢
     simp only [zb8, List.filter_cons, beq_iff_eq, if_neg this] at ih ⊢
     exact ih
    ·rw [if_neg e] at ih ⊢
     by_cases h3 : a = s'
     ·simp only [zb8, List.filter_cons, beq_iff_eq, if_pos h3, List.map_cons] at ih ⊢
      rw [ih]
     ·simp only [zb8, List.filter_cons, beq_iff_eq, if_neg h3] at ih ⊢
      exact ih
end
section
structure MarketS where
 Teams : List Str
 Vetoes : Int
 Wait : Int
 Deadline : Int
 Least : Int
 Most : Int
structure OwnerS where
 Player : Str
 Team : Str
structure GiveS where
 Player : Str
 From : Str
 To : Str
structure DealS where
 Id : Str
 By : Str
 From : Int
 To : Int
 Gives : List GiveS
structure ReplyS where
 Offer : Str
 Team : Str
 At : Int
 Kind : Int
abbrev zca (m : MarketS) : HVal := .agg [eSs m.Teams, .int .i64 m.Vetoes, .int .i64 m.Wait, .int .i64 m.Deadline, .int .i64 m.Least, .int .i64 m.Most]
abbrev zaZ (x : OwnerS) : HVal := .agg [.str x.Player, .str x.Team]
abbrev zcD (l : List OwnerS) : HVal := .slice 2 (l.map zaZ)
abbrev ztk (x : GiveS) : HVal := .agg [.str x.Player, .str x.From, .str x.To]
abbrev znH (l : List GiveS) : HVal := .slice 3 (l.map ztk)
abbrev zi6 (x : DealS) : HVal := .agg [.str x.Id, .str x.By, .int .i64 x.From, .int .i64 x.To, znH x.Gives]
abbrev zs0 (l : List DealS) : HVal := .slice 5 (l.map zi6)
def zbB : OwnerS := ⟨[], []⟩
def zcQ : GiveS := ⟨[], [], []⟩
def zbQ : DealS := ⟨[], [], 0, 0, []⟩
def zaB (m : MarketS) : Int :=
 if m.Teams.length = 0 then 8 else if (20 : Int) < m.Teams.length then 2
 else if zdK m.Teams ≠ 0 then zdK m.Teams
 else if out m.Vetoes 1 20 || out m.Wait 0 864000000 || out m.Deadline 0 345686400000 || out m.Least 0 m.Most || decide (60 < m.Most) then 1 else 0
structure MarketOk (m : MarketS) : Prop where
 pos : 0 < m.Teams.length
 len : m.Teams.length ≤ 20
 sorted : SortedS m.Teams
 least : 0 ≤ m.Least ∧ m.Least ≤ m.Most
 most : m.Most ≤ 60
theorem zkA {m : MarketS} (h : zaB m = 0) : MarketOk m := by
 unfold zaB at h
 split at h
 ·omega
 split at h
 ·omega
 split at h
 ·rename_i h1 h2 h3; exact absurd h h3
 split at h
 ·omega
 rename_i h1 h2 h3 h4
 simp only [Bool.or_eq_true, not_or, Bool.not_eq_true, decide_eq_true_eq] at h4
 have h5 := zdj h4.1.2
 exact ⟨by omega, by omega, zeS (by simpa using h3), ⟨h5.1, h5.2⟩, by omega⟩
def zaR (a b : OwnerS) : Int := zaH a.Player b.Player
def zd7 (a b : GiveS) : Int := zaH a.Player b.Player
def zda (a b : DealS) : Int := zaH a.Id b.Id
theorem zem : Cmp zaR fun _ => True := zk1 OwnerS.Player
theorem zqf : Cmp zd7 fun _ => True := zk1 GiveS.Player
theorem zoV : Cmp zda fun _ => True := zk1 DealS.Id
def zb9 : List OwnerS → Str → Int
 | [], _ => 0
 | x :: r, t => (if x.Team = t then 1 else 0) + zb9 r t
theorem zpP (l : List OwnerS) (x : OwnerS) (t : Str) : zb9 (l ++ [x]) t = zb9 l t + (if x.Team = t then 1 else 0) := by
 induction l with
 | nil => simp [zb9]
 | cons y r ih => simp only [List.cons_append, zb9, ih]; omega
theorem zso (l : List OwnerS) (t : Str) : 0 ≤ zb9 l t ∧ zb9 l t ≤ l.length := by
 induction l with
 | nil => simp [zb9]
 | cons y r ih => simp only [zb9, List.length_cons]; split <;> omega
def zep (m : MarketS) (o : List OwnerS) : Bool := m.Teams.all fun t => !(out (zb9 o t) m.Least m.Most)
theorem zqe (m : MarketS) (o : List OwnerS) : (!(m.Teams.any fun t => out (zb9 o t) m.Least m.Most)) = zep m o := by
 unfold zep; rw [List.not_any_eq_all_not]
def zaW (m : MarketS) (x : OwnerS) : Int := if !(key x.Player) then 5 else if !(m.Teams.contains x.Team) then 8 else 0
def zcz (m : MarketS) (o : List OwnerS) : Int := zas (zaW m) zaR zbB o 0 o
def zbN (m : MarketS) (o : List OwnerS) : Int := if 500 < o.length then 2 else if zcz m o ≠ 0 then zcz m o else if zep m o then 0 else 12
def zbu (m : MarketS) (o : List OwnerS) : Int := if zaB m ≠ 0 then zaB m else zbN m o
theorem zo8 {m : MarketS} {o : List OwnerS} (h : zbN m o = 0) : o.length ≤ 500 ∧ (∀ x ∈ o, zaW m x = 0) ∧ o.Pairwise (fun a b => zaR a b < 0) ∧ zep m o = true := by
 unfold zbN at h
 split at h
 ·omega
 split at h
 ·rename_i h1 h2; exact absurd h h2
 rename_i h1 h2
 have h3 : zcz m o = 0 := by simpa using h2
 split at h
 ·rename_i h4; exact ⟨by omega, zge o 0 h3, zha zem h3, h4⟩
 ·omega
theorem zoO {m : MarketS} {o : List OwnerS} (h : zbu m o = 0) : zaB m = 0 ∧ zbN m o = 0 := by
 unfold zbu at h; exact ziW h
def zaG (m : MarketS) (g : GiveS) : Int := if !(key g.Player) then 5 else if !(m.Teams.contains g.From) || !(m.Teams.contains g.To) then 8 else if g.From = g.To then 16 else 0
def zaM (m : MarketS) (l : List GiveS) : Int := if l.length = 0 then 8 else if 40 < l.length then 2 else zas (zaG m) zd7 zcQ l 0 l
theorem zh4 {m : MarketS} {l : List GiveS} (h : zaM m l = 0) : 0 < l.length ∧ l.length ≤ 40 ∧ (∀ x ∈ l, zaG m x = 0) ∧ l.Pairwise (fun a b => zd7 a b < 0) := by
 unfold zaM at h
 split at h
 ·omega
 split at h
 ·omega
 ·exact ⟨by omega, by omega, zge l 0 h, zha zqf h⟩
def zc8 (l : List GiveS) : List Str := l.flatMap fun g => [g.From, g.To]
theorem zft (l : List GiveS) : (zc8 l).length = 2 * l.length := by
 induction l with
 | nil => rfl
 | cons g r ih => simp only [zc8, List.flatMap_cons, List.length_append, List.length_cons, List.length_nil] at ih ⊢; omega
theorem zoe {l : List GiveS} {k : Nat} {g : GiveS} (h : l[k]? = some g) : zc8 (l.take (k + 1)) = zc8 (l.take k) ++ [g.From, g.To] := by
 unfold zc8; rw [zae h, List.flatMap_append]; simp
def zdM (l : List GiveS) : List Str := zmr (zc8 l)
theorem zpK (l : List GiveS) : (zdM l).length ≤ 2 * l.length := by
 unfold zdM zmr
 rw [zfJ]
 have := zmD (zar (zc8 l)) none
 rw [zch, zft] at this
 exact this
def zbs (m : MarketS) (x : DealS) : Int :=
 if !(key x.Id) then 5 else if !(m.Teams.contains x.By) then 8
 else if out x.To 1 345686400000 || out x.From 0 (x.To - 1) then 1
 else if zaM m x.Gives ≠ 0 then zaM m x.Gives
 else if !((zdM x.Gives).contains x.By) then 16 else 0
theorem znj {m : MarketS} {x : DealS} (h : zbs m x = 0) : zaM m x.Gives = 0 := by
 unfold zbs at h
 split at h
 ·omega
 split at h
 ·omega
 split at h
 ·omega
 exact (ziW (b := if !((zdM x.Gives).contains x.By) then 16 else 0) h).1
def zcl (m : MarketS) (l : List DealS) : Int := if 500 < l.length then 2 else zas (zbs m) zda zbQ l 0 l
def zcf (m : MarketS) (l : List DealS) : Int := if zaB m ≠ 0 then zaB m else zcl m l
theorem zlI {m : MarketS} {l : List DealS} (h : zcl m l = 0) : l.length ≤ 500 ∧ (∀ x ∈ l, zbs m x = 0) ∧ l.Pairwise (fun a b => zda a b < 0) := by
 unfold zcl at h
 split at h
 ·omega
 ·exact ⟨by omega, zge l 0 h, zha zoV h⟩
theorem zl7 {m : MarketS} {l : List DealS} (h : zcf m l = 0) : zaB m = 0 ∧ zcl m l = 0 := by
 unfold zcf at h; exact ziW h
theorem zpA (x y : OwnerS) : ze3 [.str x.Player, .str x.Team] [.str y.Player, .str y.Team] = true ↔ x = y := by
 obtain ⟨a1, a2⟩ := x; obtain ⟨b1, b2⟩ := y
 show (_ && (_ && true)) = true ↔ _
 simp [eqH]
instance decOwnerS : DecidableEq OwnerS := fun x y => decidable_of_iff _ (zpA x y)
def zdn (o : List OwnerS) (g : GiveS) : Option (List OwnerS) :=
 match o[o.findIdx (fun y => y.Player == g.Player)]? with
 | some y => if y.Team = g.From then some (o.set (o.findIdx (fun y => y.Player == g.Player)) ⟨y.Player, g.To⟩) else none
 | none => none
def zbl : List OwnerS → List GiveS → Option (List OwnerS)
 | o, [] => some o
 | o, g :: r => (zdn o g).bind fun p => zbl p r
theorem zpr {α : Type} {p : α → Bool} {l : List α} {i : Nat} {y : α} (hi : l[i]? = some y) (hp : p y = true) (hb : ∀ (j : Nat) (z : α), j < i → l[j]? = some z → p z = false) : l.findIdx p = i := by
 have hl := zC hi
 rw [List.getElem?_eq_getElem hl] at hi
 have e := Option.some.inj hi
 rw [List.findIdx_eq hl]
 refine ⟨by rw [e]; exact hp, fun j hj => ?_⟩
 have := hb j l[j] hj (List.getElem?_eq_getElem (by omega))
 simpa using this
theorem znp {o : List OwnerS} {g : GiveS} {i : Nat} {y : OwnerS} (hi : o[i]? = some y) (hp : y.Player = g.Player) (hb : ∀ (j : Nat) (z : OwnerS), j < i → o[j]? = some z → z.Player ≠ g.Player) : zdn o g = if y.Team = g.From then some (o.set i ⟨y.Player, g.To⟩) else none := by
 have h := zpr (p := fun y => y.Player == g.Player) hi (by simpa using hp) (fun j z hj hz => by simpa using hb j z hj hz)
 unfold zdn
 rw [h, hi]
theorem zoR {o : List OwnerS} {g : GiveS} (h : ∀ y ∈ o, y.Player ≠ g.Player) : zdn o g = none := by
 unfold zdn
 rw [List.findIdx_eq_length.2 (fun y hy => by simpa using h y hy), List.getElem?_eq_none (Nat.le_refl _)]
theorem zkC {o : List OwnerS} {i : Nat} {y : OwnerS} {t : Str} (hi : o[i]? = some y) : (o.set i ⟨y.Player, t⟩).map (·.Player) = o.map (·.Player) := by
 rw [List.map_set]
 refine List.ext_getElem? fun j => ?_
 by_cases e : i = j
 ·subst e
  have hl := zC hi
  rw [List.getElem?_set_self (by simpa using hl), List.getElem?_map, hi]; rfl
 ·rw [List.getElem?_set_ne e]
theorem zkW {o : List OwnerS} (h : o.Pairwise fun a b => zaR a b < 0) : SortedS (o.map (·.Player)) :=
 List.pairwise_map.2 (h.imp fun {a b} hab => by
  rcases zbA a.Player b.Player with q | q | q
  ·exact q
  ·exfalso; unfold zaR at hab; rw [zcc.2 q] at hab; omega
  ·exfalso
   have h1 : zaH b.Player a.Player ≤ 0 := ze0.2 (zaU q)
   have h2 := zdx a.Player b.Player
   unfold zaR at hab
   have h3 : ¬ zaH a.Player b.Player ≤ 0 := fun e => by
    have := ze0.1 e; rw [q] at this; cases this
   omega)
/-- The one that a search finds. -/
theorem zsk {l : List Str} {s : Str} (hs : SortedS l) (h : l.contains s = true) : l[zcR l s]? = some s ∧ ∀ (j : Nat) (z : Str), j < zcR l s → l[j]? = some z → z ≠ s := by
 obtain ⟨k, hk, e⟩ := List.getElem_of_mem (by simpa using h)
 have hk' : l[k]? = some s := by rw [List.getElem?_eq_getElem hk, e]
 have hp : zcR l s = k := zlb (by omega) (fun j x hj hx => hs.get hj hx hk') (fun j x hj hx => by
  rcases Nat.lt_or_eq_of_le hj with q | q
  ·exact zaU (hs.get q hk' hx)
  ·subst q; rw [hk'] at hx; cases hx; exact zag _)
 rw [hp]
 refine ⟨hk', fun j z hj hz e2 => ?_⟩
 have := hs.get hj hz hk'
 rw [e2, zag] at this; cases this
/-! as a walk tells it -/
section
variable {α : Type} {f : α → Int} {c : α → α → Int} {d : α} {l r : List α} {k : Nat} {x : α} {e : Int}
theorem zj5 (hg : zas f c d l 0 l = zas f c d l k (x :: r)) (he : e ≠ 0) (hf : f x = e) : zas f c d l 0 l = e := by
 rw [hg, zpQ (by rw [hf]; exact he), hf]
theorem zjP (hg : zas f c d l 0 l = zas f c d l k (x :: r)) (hf : f x = 0) (h0 : 0 < k) (h : c x (l.getD (k - 1) d) ≤ 0) : zas f c d l 0 l = 7 := by
 rw [hg, zpU hf h0 h]
theorem zk3 {a b : Str} : (Op.bytesLess a b || a == b) = true ↔ zaH a b ≤ 0 := by rw [zmJ, decide_eq_true_iff]
theorem zpx {a b : Str} (h : (Op.bytesLess a b || a == b) = false) : ¬ zaH a b ≤ 0 := by rwa [zmJ, decide_eq_false_iff_not] at h
end
theorem zbO {m : MarketS} {o r : List OwnerS} {k : Nat} {x : OwnerS} {e : Int} (hl : ¬ 500 < o.length) (hg : zcz m o = zas (zaW m) zaR zbB o k (x :: r)) (he : e ≠ 0) (hf : zaW m x = e) : e = zbN m o := by
 have h : zcz m o = e := zj5 hg he hf
 rw [zbN, if_neg hl, h, if_pos he]
theorem zeV {m : MarketS} {o r : List OwnerS} {k : Nat} {x : OwnerS} (hl : ¬ 500 < o.length) (hg : zcz m o = zas (zaW m) zaR zbB o k (x :: r)) (hf : zaW m x = 0) (h0 : 0 < k) (h : (Op.bytesLess x.Player (o.getD (k - 1) zbB).Player || x.Player == (o.getD (k - 1) zbB).Player) = true) : 7 = zbN m o := by
 have h : zcz m o = 7 := zjP hg hf h0 (zk3.1 h)
 rw [zbN, if_neg hl, h]; rfl
theorem zqL {m : MarketS} {o r : List OwnerS} {k : Nat} {x : OwnerS} (hf : zaW m x = 0) (h : 0 < k → (Op.bytesLess x.Player (o.getD (k - 1) zbB).Player || x.Player == (o.getD (k - 1) zbB).Player) = false) : zas (zaW m) zaR zbB o k (x :: r) = zas (zaW m) zaR zbB o (k + 1) r :=
 zhl hf fun h0 => zpx (h h0)
theorem zeX {m : MarketS} {o : List OwnerS} (h : 500 < o.length) : 2 = zbN m o := by rw [zbN, if_pos h]
theorem zeU {m : MarketS} {o : List OwnerS} (hl : ¬ 500 < o.length) (hg : zcz m o = 0) : (if zep m o then 0 else 12) = zbN m o := by
 have h : ¬ zcz m o ≠ 0 := by simp [hg]
 rw [zbN, if_neg hl, if_neg h]
theorem za5 {m : MarketS} {l r : List GiveS} {k : Nat} {x : GiveS} {e : Int} (h0 : ¬ l.length = 0) (hl : ¬ 40 < l.length) (hg : zas (zaG m) zd7 zcQ l 0 l = zas (zaG m) zd7 zcQ l k (x :: r)) (he : e ≠ 0) (hf : zaG m x = e) : e = zaM m l := by
 rw [zaM, if_neg h0, if_neg hl, zj5 hg he hf]
theorem ze2 {m : MarketS} {l r : List GiveS} {k : Nat} {x : GiveS} (h0 : ¬ l.length = 0) (hl : ¬ 40 < l.length) (hg : zas (zaG m) zd7 zcQ l 0 l = zas (zaG m) zd7 zcQ l k (x :: r)) (hf : zaG m x = 0) (hk : 0 < k) (h : (Op.bytesLess x.Player (l.getD (k - 1) zcQ).Player || x.Player == (l.getD (k - 1) zcQ).Player) = true) : 7 = zaM m l := by
 rw [zaM, if_neg h0, if_neg hl, zjP hg hf hk (zk3.1 h)]
theorem zra {m : MarketS} {l r : List GiveS} {k : Nat} {x : GiveS} (hf : zaG m x = 0) (h : 0 < k → (Op.bytesLess x.Player (l.getD (k - 1) zcQ).Player || x.Player == (l.getD (k - 1) zcQ).Player) = false) : zas (zaG m) zd7 zcQ l k (x :: r) = zas (zaG m) zd7 zcQ l (k + 1) r :=
 zhl hf fun h0 => zpx (h h0)
theorem zeO {m : MarketS} {l : List GiveS} (h0 : ¬ l.length = 0) (hl : ¬ 40 < l.length) (hg : zas (zaG m) zd7 zcQ l 0 l = 0) : 0 = zaM m l := by
 rw [zaM, if_neg h0, if_neg hl, hg]
theorem zfG {m : MarketS} {l r : List DealS} {k : Nat} {x : DealS} {e : Int} (hl : ¬ 500 < l.length) (hg : zas (zbs m) zda zbQ l 0 l = zas (zbs m) zda zbQ l k (x :: r)) (he : e ≠ 0) (hf : zbs m x = e) : e = zcl m l := by
 rw [zcl, if_neg hl, zj5 hg he hf]
theorem zfH {m : MarketS} {l r : List DealS} {k : Nat} {x : DealS} (hl : ¬ 500 < l.length) (hg : zas (zbs m) zda zbQ l 0 l = zas (zbs m) zda zbQ l k (x :: r)) (hf : zbs m x = 0) (hk : 0 < k) (h : (Op.bytesLess x.Id (l.getD (k - 1) zbQ).Id || x.Id == (l.getD (k - 1) zbQ).Id) = true) : 7 = zcl m l := by
 rw [zcl, if_neg hl, zjP hg hf hk (zk3.1 h)]
theorem zpL {m : MarketS} {l r : List DealS} {k : Nat} {x : DealS} (hf : zbs m x = 0) (h : 0 < k → (Op.bytesLess x.Id (l.getD (k - 1) zbQ).Id || x.Id == (l.getD (k - 1) zbQ).Id) = false) : zas (zbs m) zda zbQ l k (x :: r) = zas (zbs m) zda zbQ l (k + 1) r :=
 zhl hf fun h0 => zpx (h h0)
theorem zfK {m : MarketS} {l : List DealS} (h : 500 < l.length) : 2 = zcl m l := by rw [zcl, if_pos h]
theorem zfV {m : MarketS} {l : List DealS} (hl : ¬ 500 < l.length) (hg : zas (zbs m) zda zbQ l 0 l = 0) : 0 = zcl m l := by rw [zcl, if_neg hl, hg]
/-- Loops that count. -/
theorem zq1 (o : List OwnerS) (t : Str) (k : Nat) (x : OwnerS) (hx : o[k]? = some x) : zb9 (o.take (k + 1)) t = zb9 (o.take k) t + (if x.Team = t then 1 else 0) := by
 rw [zae hx, zpP]
/-! an owner that is looked for -/
theorem zgP {a b : Str} : zaH a b < 0 ↔ Op.bytesLess a b = true := by
 have h1 := zdx a b
 constructor
 ·intro h
  rcases zbA a b with q | q | q
  ·exact q
  ·rw [zcc.2 q] at h; omega
  ·have := ze0.2 (zaU q); omega
 ·intro h
  have h2 : ¬ zaH a b = 0 := fun e => by rw [zcc.1 e, zag] at h; cases h
  have h3 := ze0.2 (zaU h)
  omega
theorem zqo {l : List OwnerS} {s : Str} {i : Nat} : (bif decide ((i : Int) < (l.length : Int)) then zaH (l.getD i zbB).Player s == 0 else false) = ((l.map (·.Player))[i]? == some s) := by
 by_cases h : i < l.length
 ·have h' : (i : Int) < (l.length : Int) := by omega
  rw [List.getElem?_map, getD_some (d := zbB) h]
  simp only [h', decide_true, cond_true]
  rw [Bool.eq_iff_iff]; simp [zcc]
 ·have h' : ¬ (i : Int) < (l.length : Int) := by omega
  rw [List.getElem?_map, List.getElem?_eq_none (by omega : l.length ≤ i)]
  simp [h']
theorem ziN {o : List OwnerS} {s : Str} (hs : SortedS (o.map (·.Player))) (h : (o.map (·.Player)).contains s = true) :
 zcR (o.map (·.Player)) s < o.length ∧ o[zcR (o.map (·.Player)) s]? = some (o.getD (zcR (o.map (·.Player)) s) zbB) ∧ (o.getD (zcR (o.map (·.Player)) s) zbB).Player = s ∧ ∀ (j : Nat) (z : OwnerS), j < zcR (o.map (·.Player)) s → o[j]? = some z → z.Player ≠ s := by
 obtain ⟨h1, h2⟩ := zsk hs h
 have hl : zcR (o.map (·.Player)) s < o.length := by simpa using zC h1
 have hg := getD_some (d := zbB) hl
 refine ⟨hl, hg, ?_, fun j z hj hz => h2 j z.Player hj (by rw [List.getElem?_map, hz]; rfl)⟩
 rw [List.getElem?_map, hg] at h1
 simpa using h1
theorem zqa {o : List OwnerS} {s : Str} (h : (o.map (·.Player)).contains s = false) : ∀ y ∈ o, y.Player ≠ s := fun y hy e => by
 have : (o.map (·.Player)).contains s = true := by
  simp only [List.contains_eq_mem, decide_eq_true_eq]
  exact List.mem_map.2 ⟨y, hy, e⟩
 rw [h] at this; cases this
theorem zqC {o D : List OwnerS} {g : GiveS} {r l : List GiveS} {i : Nat} {y : OwnerS} (hg : zbl o l = zbl D (g :: r)) (hi : D[i]? = some y) (hp : y.Player = g.Player) (hb : ∀ (j : Nat) (z : OwnerS), j < i → D[j]? = some z → z.Player ≠ g.Player) (ht : y.Team = g.From) : zbl o l = zbl (D.set i ⟨y.Player, g.To⟩) r := by
 rw [hg, zbl, znp hi hp hb, if_pos ht]; rfl
theorem zkU {o D : List OwnerS} {g : GiveS} {r l : List GiveS} {i : Nat} {y : OwnerS} (hg : zbl o l = zbl D (g :: r)) (hi : D[i]? = some y) (hp : y.Player = g.Player) (hb : ∀ (j : Nat) (z : OwnerS), j < i → D[j]? = some z → z.Player ≠ g.Player) (ht : ¬ y.Team = g.From) : zbl o l = none := by
 rw [hg, zbl, znp hi hp hb, if_neg ht]; rfl
theorem zlw {o D : List OwnerS} {g : GiveS} {r l : List GiveS} (hg : zbl o l = zbl D (g :: r)) (h : ∀ y ∈ D, y.Player ≠ g.Player) : zbl o l = none := by
 rw [hg, zbl, zoR h]; rfl
def zeL (o : List OwnerS) (l : List GiveS) : List OwnerS := (zbl o l).getD []
def zea (m : MarketS) (o : List OwnerS) (l : List GiveS) : Bool := match zbl o l with | some d => zep m d | none => false
theorem zlN {m : MarketS} {o : List OwnerS} {l : List GiveS} (h : zbl o l = none) : zea m o l = false ∧ zeL o l = [] := by
 unfold zea zeL; rw [h]; exact ⟨rfl, rfl⟩
theorem zlG {m : MarketS} {o d : List OwnerS} {l : List GiveS} (h : zbl o l = some d) : zea m o l = zep m d ∧ zeL o l = d := by
 unfold zea zeL; rw [h]; exact ⟨rfl, rfl⟩
def zcj (m : MarketS) (o : List OwnerS) (x : DealS) : Int := orI [zbu m o, zcf m [x]]
def zeT (m : MarketS) (o : List OwnerS) (x : DealS) : List OwnerS := if zcj m o x ≠ 0 then [] else if zea m o x.Gives then zeL o x.Gives else []
def ziM (m : MarketS) (o : List OwnerS) (x : DealS) : Int := if zcj m o x ≠ 0 then zcj m o x else if zea m o x.Gives then 0 else 11
theorem zrx {a b : Int} (h : orI [a, b] = 0) : a = 0 ∧ b = 0 := by rw [zqP] at h; exact ziW h
theorem zqS {m : MarketS} {x : DealS} (h : zcf m [x] = 0) : zaB m = 0 ∧ x.Gives.length ≤ 40 := by
 obtain ⟨h1, h2⟩ := zl7 h
 obtain ⟨_, h3, _⟩ := zlI h2
 obtain ⟨_, h4, _⟩ := zh4 (znj (h3 x (by simp)))
 exact ⟨h1, h4⟩
theorem zrr {m : MarketS} {o : List OwnerS} {x : DealS} (h : zcj m o x = 0) : SortedS (o.map (·.Player)) ∧ x.Gives.length ≤ 40 := by
 obtain ⟨h1, h2⟩ := zrx h
 obtain ⟨_, h3⟩ := zoO h1
 exact ⟨zkW (zo8 h3).2.2.1, (zqS h2).2⟩
theorem zj1 {m : MarketS} {o : List OwnerS} {x : DealS} (h : zcj m o x ≠ 0) : zeT m o x = [] ∧ ziM m o x = zcj m o x := by
 unfold zeT ziM; rw [if_pos h, if_pos h]; exact ⟨rfl, rfl⟩
theorem zk8 {m : MarketS} {o : List OwnerS} {x : DealS} (h : zcj m o x = 0) (hb : zea m o x.Gives = false) : zeT m o x = [] ∧ ziM m o x = 11 := by
 have h1 : ¬ zcj m o x ≠ 0 := by simp [h]
 unfold zeT ziM; rw [if_neg h1, if_neg h1, hb]; exact ⟨rfl, rfl⟩
theorem zhy {m : MarketS} {o : List OwnerS} {x : DealS} (h : zcj m o x = 0) (hb : zea m o x.Gives = true) : zeT m o x = zeL o x.Gives ∧ ziM m o x = 0 := by
 have h1 : ¬ zcj m o x ≠ 0 := by simp [h]
 unfold zeT ziM; rw [if_neg h1, if_neg h1, hb]; exact ⟨rfl, rfl⟩
end
end Go.HL
namespace Go.Proofs.YtkcnenknbbcoiaaGreatDoor
set_option maxRecDepth 100000
set_option linter.unusedVariables false
set_option linter.unusedSimpArgs false
section
open Go.HL
/-- benchwarmer/trade.isTeam -/
theorem zdO [Tracks] {m : MarketS} {t : Str} (hm : MarketOk m) : ConP Tryz.prog 45 [.vptr (zl (zca m)) 0, .str t] (.bool (m.Teams.contains t)) := by
 refine Con.of_body Tryz.func45 rfl Tryz.ntmps45 rfl rfl ?_
 refine za ?_
 refine das rfl ?_
 refine dn ?_
 refine za ?_
 refine dmv rfl ?_
 refine dq ((by first | exact zac rfl | exact zP rfl)) ?_
 refine dq (zb zb5 rfl zA (by decide) rfl) ?_
 refine dq (zc zA rfl rfl rfl) ?_
 refine dmv rfl ?_
 refine dq (zj ca85 rfl (WeakL.refl _) (zbP (l := m.Teams) (s := t) (by have := hm.len; omega) hm.sorted)) ?_
 refine dmv rfl ?_
 refine dq (zJ rfl rfl) ?_
 refine dq (zJ rfl rfl) ?_
 refine das rfl ?_
 refine das rfl ?_
 refine dn ?_
 refine za ?_
 refine dmv rfl ?_
 refine das rfl ?_
 refine dn ?_
 refine zg ?_
 refine zm rfl ?_
 rfl

/-- benchwarmer/trade.CheckMarket -/
theorem zeH [Tracks] {m : MarketS} (ht : m.Teams.length ≤ 1000000) : ConP Tryz.prog 43 [zca m] (.int .i64 (zaB m)) := by
 refine Con.of_body Tryz.func43 rfl Tryz.ntmps43 rfl rfl ?_
 refine za ?_
 refine dq (zam rfl rfl) ?_
 refine das rfl ?_
 refine dn ?_
 refine zf ?_
 refine zk ?_
 refine za ?_
 refine dq (zb zb5 rfl zA (by decide) rfl) ?_
 refine dq (zc zA rfl rfl rfl) ?_
 refine dq (zv zA rfl) ?_
 refine dq (zaz rfl rfl) ?_
 refine das rfl ?_
 refine dn ?_
 refine ze rfl (fun h1 => ?_) (fun h2 => ?_)
 ·try simp at h1
  refine za ?_
  refine das rfl ?_
  refine dn ?_
  refine zg ?_
  refine zm rfl ?_
  show HVal.int .i64 _ = _
  first
  | (rw [zaB, if_pos (by simpa using h1)]; done)
  | (rw [zaB, if_neg (by simpa using h2), if_pos (by omega)]; done)
  | (rw [zaB, if_neg (by simpa using h2), if_neg (by omega)]; simp_all; done)
 ·try simp at h2
  refine za ?_
  refine dq (zb zb5 rfl zA (by decide) rfl) ?_
  refine dq (zc zA rfl rfl rfl) ?_
  refine dq (zv zA rfl) ?_
  refine dq (z6 rfl rfl) ?_
  refine das rfl ?_
  refine dn ?_
  refine ze rfl (fun h3 => ?_) (fun h4 => ?_)
  ·try simp at h3
   refine za ?_
   refine das rfl ?_
   refine dn ?_
   refine zg ?_
   refine zm rfl ?_
   show HVal.int .i64 _ = _
   first
   | (rw [zaB, if_pos (by simpa using h1)]; done)
   | (rw [zaB, if_neg (by simpa using h2), if_pos (by omega)]; done)
   | (rw [zaB, if_neg (by simpa using h2), if_neg (by omega)]; simp_all; done)
  ·try simp at h4
   refine zi ?_
   refine zu ?_
   refine zd ?_
   refine zf ?_
   refine za ?_
   refine dq (zb zb5 rfl zA (by decide) rfl) ?_
   refine dq (zc zA rfl rfl rfl) ?_
   refine dq (zj ca83 rfl (WeakL.refl _) (zhH (by first | assumption | omega | (simp; omega) | simp_all))) ?_
   refine das rfl ?_
   refine dn ?_
   refine za ?_
   refine dmv rfl ?_
   refine dq (zah rfl rfl) ?_
   refine dn ?_
   refine ze rfl (fun h5 => ?_) (fun h6 => ?_)
   ·try simp at h5
    refine za ?_
    refine dmv rfl ?_
    refine das rfl ?_
    refine dn ?_
    refine zg ?_
    refine zm rfl ?_
    show HVal.int .i64 _ = _
    first
    | (rw [zaB, if_pos (by simpa using h1)]; done)
    | (rw [zaB, if_neg (by simpa using h2), if_pos (by omega)]; done)
    | (rw [zaB, if_neg (by simpa using h2), if_neg (by omega)]; simp_all; done)
   ·try simp at h6
    refine zi ?_
    refine zd ?_
    refine zf ?_
    refine za ?_
    refine dq (zb zb5 rfl ty3 (by decide) rfl) ?_
    refine dq (zc ty3 rfl rfl rfl) ?_
    refine dq (zj zcI rfl (WeakL.refl _) zaC) ?_
    refine dmv rfl ?_
    refine dg rfl rfl (fun hc => ⟨_, OpenTo.refl _, zb zb5 rfl ty3 (by decide) rfl⟩) ?_
    refine dg rfl rfl (fun hc => ⟨_, OpenTo.upd (t := 24) rfl (by first | exact hc | simp_all) (OpenTo.refl _), zc ty3 rfl rfl rfl⟩) ?_
    refine dg rfl rfl (fun hc => ⟨_, OpenTo.upd (t := 25) rfl (by first | exact hc | simp_all) (OpenTo.refl _), zj zcI rfl (WeakL.refl _) zaC⟩) ?_
    refine dq (zw rfl (.inl rfl) (.inr ⟨_, rfl, fun h => by simp_all⟩)) ?_
    refine dmv rfl ?_
    refine dg rfl rfl (fun hc => ⟨_, OpenTo.refl _, zb zb5 rfl ty3 (by decide) rfl⟩) ?_
    refine dg rfl rfl (fun hc => ⟨_, OpenTo.upd (t := 29) rfl (by first | exact hc | simp_all) (OpenTo.refl _), zc ty3 rfl rfl rfl⟩) ?_
    refine dg rfl rfl (fun hc => ⟨_, OpenTo.upd (t := 30) rfl (by first | exact hc | simp_all) (OpenTo.refl _), zj zcI rfl (WeakL.refl _) zaC⟩) ?_
    refine dq (zw rfl (.inl rfl) (.inr ⟨_, rfl, fun h => by simp_all⟩)) ?_
    refine dmv rfl ?_
    refine dg rfl rfl (fun hc => ⟨_, OpenTo.refl _, zb zb5 rfl ty3 (by decide) rfl⟩) ?_
    refine dg rfl rfl (fun hc => ⟨_, OpenTo.upd (t := 34) rfl (by first | exact hc | simp_all) (OpenTo.refl _), zc ty3 rfl rfl rfl⟩) ?_
    refine dg rfl rfl (fun hc => ⟨_, OpenTo.refl _, zb zb5 rfl ty3 (by decide) rfl⟩) ?_
    refine dg rfl rfl (fun hc => ⟨_, OpenTo.upd (t := 36) rfl (by first | exact hc | simp_all) (OpenTo.refl _), zc ty3 rfl rfl rfl⟩) ?_
    refine dg rfl rfl (fun hc => ⟨_, OpenTo.upd (t := 37) rfl (by first | exact hc | simp_all) (OpenTo.upd (t := 35) rfl (by first | exact hc | simp_all) (OpenTo.refl _)), zj zcI rfl (WeakL.refl _) zaC⟩) ?_
    refine dq (zw rfl (.inl rfl) (.inr ⟨_, rfl, fun h => by simp_all⟩)) ?_
    refine dmv rfl ?_
    refine dg rfl rfl (fun hc => ⟨_, OpenTo.refl _, zb zb5 rfl ty3 (by decide) rfl⟩) ?_
    refine dg rfl rfl (fun hc => ⟨_, OpenTo.upd (t := 41) rfl (by first | exact hc | simp_all) (OpenTo.refl _), zc ty3 rfl rfl rfl⟩) ?_
    refine dg rfl rfl (fun hc => ⟨_, OpenTo.upd (t := 42) rfl (by first | exact hc | simp_all) (OpenTo.refl _), z6 rfl rfl⟩) ?_
    refine dq (zw rfl (.inl rfl) (.inr ⟨_, rfl, fun h => by simp_all⟩)) ?_
    refine dn ?_
    refine ze rfl (fun h7 => ?_) (fun h8 => ?_)
    ·try simp at h7
     refine za ?_
     refine das rfl ?_
     refine dn ?_
     refine zg ?_
     refine zm rfl ?_
     show HVal.int .i64 _ = _
     first
     | (rw [zaB, if_pos (by simpa using h1)]; done)
     | (rw [zaB, if_neg (by simpa using h2), if_pos (by omega)]; done)
     | (rw [zaB, if_neg (by simpa using h2), if_neg (by omega)]; simp_all; done)
    ·try simp at h8
     refine zi ?_
     refine zd ?_
     refine za ?_
     refine das rfl ?_
     refine dn ?_
     refine zg ?_
     refine zm rfl ?_
     show HVal.int .i64 _ = _
     first
     | (rw [zaB, if_pos (by simpa using h1)]; done)
     | (rw [zaB, if_neg (by simpa using h2), if_pos (by omega)]; done)
     | (rw [zaB, if_neg (by simpa using h2), if_neg (by omega)]; simp_all; done)

/-- benchwarmer/trade.within$1 -/
theorem zjW [Tracks] {m : MarketS} {o : List OwnerS} {L : zcs} {t : Str} (hL : ∀ t, lkI L t = .int .i64 (zb9 o t)) : ConP Tryz.prog 87 [.str t, .vptr [hsm L] 0, .vptr [.vptr (zl (zca m)) 0] 0] (.bool (out (zb9 o t) m.Least m.Most)) := by
 refine Con.of_body Tryz.func87 rfl Tryz.ntmps87 rfl rfl ?_
 refine za ?_
 refine das rfl ?_
 refine dn ?_
 refine zaF (fun _ => True) [] mixed ?_
 refine ahp 0 rfl rfl (by kernel_rfl) (by kernel_rfl) (zc zdl rfl rfl rfl) ?_
 refine ahp 1 rfl rfl (by kernel_rfl) (by kernel_rfl) (zh rfl) ?_
 refine ahp 2 rfl rfl (by kernel_rfl) (by kernel_rfl) (ze6 (ziD zdl ty9 ty3 rfl rfl) (show _ = _ from hL t)) ?_
 refine ahp 3 rfl rfl (by kernel_rfl) (by kernel_rfl) (zc zpg rfl rfl rfl) ?_
 refine ahp 4 rfl rfl (by kernel_rfl) (by kernel_rfl) ((by first | exact zac rfl | exact zP rfl)) ?_
 refine ahp 5 rfl rfl (by kernel_rfl) (by kernel_rfl) (zb zb5 rfl ty3 (by decide) rfl) ?_
 refine ahp 6 rfl rfl (by kernel_rfl) (by kernel_rfl) (zc ty3 rfl rfl rfl) ?_
 refine ahp 7 rfl rfl (by kernel_rfl) (by kernel_rfl) (zc zpg rfl rfl rfl) ?_
 refine ahp 8 rfl rfl (by kernel_rfl) (by kernel_rfl) ((by first | exact zac rfl | exact zP rfl)) ?_
 refine ahp 9 rfl rfl (by kernel_rfl) (by kernel_rfl) (zb zb5 rfl ty3 (by decide) rfl) ?_
 refine ahp 10 rfl rfl (by kernel_rfl) (by kernel_rfl) (zc ty3 rfl rfl rfl) ?_
 refine ahp 11 rfl rfl (by kernel_rfl) (by kernel_rfl) (zj zcI rfl (WeakL.refl _) zaC) ?_
 refine ahp 12 rfl rfl (by kernel_rfl) (by kernel_rfl) (zaJ rfl) ?_
 refine ahz (by kernel_rfl) ?_
 refine zg ?_
 refine zm rfl ?_
 rfl

/-- benchwarmer/trade.within -/
theorem zg0 [Tracks] {m : MarketS} {o : List OwnerS} (ht : m.Teams.length ≤ 1000000) (ho : o.length ≤ 1000000) : ConP Tryz.prog 46 [.vptr (zl (zca m)) 0, zcD o] (.bool (zep m o)) := by
 refine Con.of_body Tryz.func46 rfl Tryz.ntmps46 rfl rfl ?_
 refine za ?_
 refine dq (zam rfl rfl) ?_
 refine das rfl ?_
 refine dn ?_
 refine za ?_
 refine de rfl (za4 fun m8 => ?_)
 refine de rfl (zO zdl rfl fun b5 => ?_)
 refine de0 (zR zdl rfl rfl rfl rfl rfl ?_)
 refine dn ?_
 refine zF (Ghost.fc0 5 rfl) ?_
 refine zf ?_
 refine za ?_
 refine dmv rfl ?_
 refine dq (zv zcC rfl) ?_
 refine dmv rfl ?_
 refine dn ?_
 refine zk ?_
 refine zaS [7, 11, 12, 13, 14, 15, 16, 17, 18, 19, 20] (fun (k : Nat) (L : zcs) => [(11, .int .i64 k)]) (fun (k : Nat) (L : zcs) => [.map m8 (sk L)]) (fun (k : Nat) (L : zcs) => k ≤ o.length ∧ (∀ t, lkI L t = .int .i64 (zb9 (o.take k) t))) (fun (k : Nat) (L : zcs) => o.length - k) (0) ([]) ?_ ?_ ?_ ?_
 ·exact ⟨Nat.zero_le _, fun t => by simp [lkI, zaa, zb9]⟩
 ·exact ⟨rfl, trivial⟩
 ·exact zU rfl
 ·intro k L hinv
  obtain ⟨hk, hL⟩ := hinv
  refine za ?_
  refine dq (zK rfl rfl) ?_
  refine dn ?_
  refine zf ?_
  refine ze rfl (fun h1 => ?_) (fun h2 => ?_)
  ·try simp at h1
   obtain ⟨x, hx⟩ : ∃ x, o[k]? = some x := ⟨_, List.getElem?_eq_getElem h1⟩
   have hdx := zI hx
   have hcb := zso (o.take k) x.Team
   rw [List.length_take] at hcb
   refine zi ?_
   refine zd ?_
   refine zf ?_
   refine zk ?_
   refine za ?_
   refine dq (zH zcC za1 rfl rfl rfl (by first | assumption | simp_all)) ?_
   refine dq (zB za1 rfl rfl rfl rfl) ?_
   refine de rfl (zO za1 rfl fun b7 => ?_)
   refine de0 (zR za1 rfl rfl rfl rfl rfl ?_)
   refine dn ?_
   refine zF (Ghost.fc0 7 rfl) ?_
   refine zy ?_
   refine dq (zc zdl rfl rfl rfl) ?_
   refine dq (zb za1 rfl ty9 (by decide) rfl) ?_
   refine dq (zc ty9 rfl rfl rfl) ?_
   refine de rfl (zod (i := 0) zdl ty9 ty3 rfl rfl rfl (hL x.Team) ?_)
   refine dq (zx rfl rfl (by omega) (by omega)) ?_
   refine de0 (zfk (i := 0) zdl ty9 rfl rfl rfl rfl ?_)
   refine dn ?_
   refine zu ?_
   refine zd ?_
   refine zy ?_
   refine dq (zx rfl rfl (by omega) (by omega)) ?_
   refine dmv rfl ?_
   refine dn ?_
   refine ⟨k + 1, _, ?_, ?_, ⟨rfl, trivial⟩, (by repeat (first | exact zo | refine zt rfl ?_ | refine zp rfl rfl ?_)), zU rfl⟩
   ·refine ⟨by omega, fun t => ?_⟩
    rw [zlf, zq1 o t k x hx]
    by_cases e : t = x.Team
    ·rw [if_pos e, if_pos e.symm, e]
    ·rw [if_neg e, if_neg (fun q => e q.symm), hL t, Int.add_zero]
   ·dsimp only; omega
  ·try simp at h2
   have hnk : o.length ≤ k := by omega
   obtain rfl : k = o.length := by omega
   rw [List.take_length] at hL
   refine zL ?_
   refine zS ?_
   refine za8 ?_
   refine zD ?_
   refine zd ?_
   refine za ?_
   refine dq (zc zpg rfl rfl rfl) ?_
   refine dq ((by first | exact zac rfl | exact zP rfl)) ?_
   refine dq (zb zb5 rfl zA (by decide) rfl) ?_
   refine dq (zc zA rfl rfl rfl) ?_
   refine dq (zew rfl rfl) ?_
   refine de rfl (zgg (hs' := [eSs m.Teams, .fn (.func 87) [] [.vptr [hsm L] 0, .vptr [.vptr (zl (zca m)) 0] 0]]) ca86 rfl ⟨.refl, .fnL ⟨.vptrL ⟨.map (i := 0) rfl, trivial⟩, .refl, trivial⟩, trivial⟩ (zdI (p := fun t => out (zb9 o t) m.Least m.Most) ca87 (fun _ => zjW hL) ht) rfl ?_)
   refine dq (zW rfl) ?_
   refine das rfl ?_
   refine dn ?_
   refine zg ?_
   refine za2 Ghost.clear rfl ⟨?_, rfl⟩
   show HVal.bool _ = _
   rw [← zqe]

/-- benchwarmer/trade.CheckOwners -/
theorem zeI [Tracks] {m : MarketS} {o : List OwnerS} (ht : m.Teams.length ≤ 1000000) (ho : o.length ≤ 1000000) : ConP Tryz.prog 15 [zca m, zcD o] (.int .i64 (zbu m o)) := by
 refine Con.of_body Tryz.func15 rfl Tryz.ntmps15 rfl rfl ?_
 refine za ?_
 refine dq (zam rfl rfl) ?_
 refine das rfl ?_
 refine dn ?_
 refine zf ?_
 refine za ?_
 refine dq (zB zb5 rfl rfl rfl rfl) ?_
 refine dq (zj ca43 rfl (WeakL.refl _) (zeH (by first | assumption | omega | (simp; omega) | simp_all))) ?_
 refine das rfl ?_
 refine dn ?_
 refine za ?_
 refine dmv rfl ?_
 refine dq (zah rfl rfl) ?_
 refine dn ?_
 refine ze rfl (fun h1 => ?_) (fun h2 => ?_)
 ·try simp at h1
  refine za ?_
  refine dmv rfl ?_
  refine das rfl ?_
  refine dn ?_
  refine zg ?_
  refine zm rfl ?_
  show HVal.int .i64 _ = _
  first
  | (rw [zbu, if_pos (by simpa using h1)]; done)
  | (rw [hE]; exact congrArg _ (zeX (by omega)))
  | (rw [hE, ← zeU (by omega) hg]; simp_all; done)
  | (rw [hE]
     refine congrArg _ (zbO (e := 5) (by omega) hg (by decide) ?_)
     rw [zaW, if_pos]
     simp_all
     done)
  | (rw [hE]
     refine congrArg _ (zbO (e := 8) (by omega) hg (by decide) ?_)
     rw [zaW, if_neg, if_pos]
     all_goals simp_all
     done)
  | (rw [hE]
     refine congrArg _ (zeV (by omega) hg ?_ ?_ ?_)
     ·rw [zaW, if_neg, if_neg] <;> simp_all
     ·simp_all
     ·simp_all)
 ·try simp at h2
  refine zi ?_
  refine zd ?_
  refine zf ?_
  have hz : zaB m = 0 := by simpa using h2
  have hm := zkA hz
  have ht20 := hm.len
  have hE : zbu m o = zbN m o := by rw [zbu, if_neg (by simp [hz])]
  refine za ?_
  refine dmv rfl ?_
  refine dq (zv zcC rfl) ?_
  refine dq (z6 rfl rfl) ?_
  refine dn ?_
  refine ze rfl (fun h3 => ?_) (fun h4 => ?_)
  ·try simp at h3
   refine za ?_
   refine das rfl ?_
   refine dn ?_
   refine zg ?_
   refine zm rfl ?_
   show HVal.int .i64 _ = _
   first
   | (rw [zbu, if_pos (by simpa using h1)]; done)
   | (rw [hE]; exact congrArg _ (zeX (by omega)))
   | (rw [hE, ← zeU (by omega) hg]; simp_all; done)
   | (rw [hE]
      refine congrArg _ (zbO (e := 5) (by omega) hg (by decide) ?_)
      rw [zaW, if_pos]
      simp_all
      done)
   | (rw [hE]
      refine congrArg _ (zbO (e := 8) (by omega) hg (by decide) ?_)
      rw [zaW, if_neg, if_pos]
      all_goals simp_all
      done)
   | (rw [hE]
      refine congrArg _ (zeV (by omega) hg ?_ ?_ ?_)
      ·rw [zaW, if_neg, if_neg] <;> simp_all
      ·simp_all
      ·simp_all)
  ·try simp at h4
   refine zi ?_
   refine zd ?_
   refine zf ?_
   refine za ?_
   refine dmv rfl ?_
   refine dq (zv zcC rfl) ?_
   refine dmv rfl ?_
   refine dn ?_
   refine zk ?_
   refine zab [4, 6, 7, 18, 19, 20, 21, 22, 23, 24, 25, 26, 27, 28, 29, 30, 31, 32, 33, 34, 35, 36, 37, 38, 39, 40, 41, 42, 43, 44, 45, 46, 47] (fun (k : Nat) => [(18, .int .i64 k)]) (fun (k : Nat) => []) (fun (k : Nat) => k ≤ o.length ∧ (zcz m o = zas (zaW m) zaR zbB o k (o.drop k))) (fun (k : Nat) => o.length - k) (0) ?_ ?_ ?_ ?_
   ·exact ⟨Nat.zero_le _, rfl⟩
   ·exact ⟨rfl, trivial⟩
   ·exact List.Perm.refl _
   ·intro k hinv
    obtain ⟨hk, hg⟩ := hinv
    refine za ?_
    refine dq (zK rfl rfl) ?_
    refine dn ?_
    refine zf ?_
    refine ze rfl (fun h5 => ?_) (fun h6 => ?_)
    ·try simp at h5
     obtain ⟨x, hx⟩ : ∃ x, o[k]? = some x := ⟨_, List.getElem?_eq_getElem h5⟩
     have hdx := zI hx
     rw [hdx] at hg
     refine zi ?_
     refine zd ?_
     refine zf ?_
     refine zk ?_
     refine za ?_
     refine dmv rfl ?_
     refine dq (zH zcC za1 rfl rfl rfl (by first | assumption | simp_all)) ?_
     refine dq (zB za1 rfl rfl rfl rfl) ?_
     refine de rfl (zO za1 rfl fun b7 => ?_)
     refine das rfl ?_
     refine de0 (zR za1 rfl rfl rfl rfl rfl ?_)
     refine dn ?_
     refine zF (Ghost.fc0 7 rfl) ?_
     refine zk ?_
     refine za ?_
     refine dq (zb za1 rfl ty9 (by decide) rfl) ?_
     refine dq (zc ty9 rfl rfl rfl) ?_
     refine dq (zj zeQ rfl (WeakL.refl _) zbk) ?_
     refine dq (zW rfl) ?_
     refine das rfl ?_
     refine dn ?_
     refine ze rfl (fun h7 => ?_) (fun h8 => ?_)
     ·try simp at h7
      refine za ?_
      refine das rfl ?_
      refine dn ?_
      refine zg ?_
      refine zm rfl ?_
      show HVal.int .i64 _ = _
      first
      | (rw [zbu, if_pos (by simpa using h1)]; done)
      | (rw [hE]; exact congrArg _ (zeX (by omega)))
      | (rw [hE, ← zeU (by omega) hg]; simp_all; done)
      | (rw [hE]
         refine congrArg _ (zbO (e := 5) (by omega) hg (by decide) ?_)
         rw [zaW, if_pos]
         simp_all
         done)
      | (rw [hE]
         refine congrArg _ (zbO (e := 8) (by omega) hg (by decide) ?_)
         rw [zaW, if_neg, if_pos]
         all_goals simp_all
         done)
      | (rw [hE]
         refine congrArg _ (zeV (by omega) hg ?_ ?_ ?_)
         ·rw [zaW, if_neg, if_neg] <;> simp_all
         ·simp_all
         ·simp_all)
     ·try simp at h8
      refine za ?_
      refine dq (zb za1 rfl ty9 (by decide) rfl) ?_
      refine dq (zc ty9 rfl rfl rfl) ?_
      refine dq (zj zpv rfl (WeakL.refl _) (zdO hm)) ?_
      refine dq (zW rfl) ?_
      refine das rfl ?_
      refine dn ?_
      refine ze rfl (fun h9 => ?_) (fun h10 => ?_)
      ·try simp at h9
       refine za ?_
       refine das rfl ?_
       refine dn ?_
       refine zg ?_
       refine zm rfl ?_
       show HVal.int .i64 _ = _
       first
       | (rw [zbu, if_pos (by simpa using h1)]; done)
       | (rw [hE]; exact congrArg _ (zeX (by omega)))
       | (rw [hE, ← zeU (by omega) hg]; simp_all; done)
       | (rw [hE]
          refine congrArg _ (zbO (e := 5) (by omega) hg (by decide) ?_)
          rw [zaW, if_pos]
          simp_all
          done)
       | (rw [hE]
          refine congrArg _ (zbO (e := 8) (by omega) hg (by decide) ?_)
          rw [zaW, if_neg, if_pos]
          all_goals simp_all
          done)
       | (rw [hE]
          refine congrArg _ (zeV (by omega) hg ?_ ?_ ?_)
          ·rw [zaW, if_neg, if_neg] <;> simp_all
          ·simp_all
          ·simp_all)
      ·try simp at h10
       refine zaF (fun _ => True) [] mixed ?_
       refine ahp 0 rfl rfl (by kernel_rfl) (by kernel_rfl) (zh rfl) ?_
       refine ahp 1 rfl rfl (by kernel_rfl) (by kernel_rfl) (z6 rfl rfl) ?_
       refine ahp 2 rfl rfl (by kernel_rfl) (by kernel_rfl) (zh rfl) ?_
       refine ahg 3 rfl rfl (by kernel_rfl) (by kernel_rfl) rfl (fun hc => ⟨_, OpenTo.refl _, zb za1 rfl ty9 (by decide) rfl⟩) ?_
       refine ahg 4 rfl rfl (by kernel_rfl) (by kernel_rfl) rfl (fun hc => ⟨_, OpenTo.upd (t := 37) rfl (by first | exact hc | simp_all) (OpenTo.refl _), zc ty9 rfl rfl rfl⟩) ?_
       refine ahg 5 rfl rfl (by kernel_rfl) (by kernel_rfl) rfl (fun hc => ⟨_, OpenTo.refl _, zh rfl⟩) ?_
       refine ahg 6 rfl rfl (by kernel_rfl) (by kernel_rfl) rfl (fun hc => ⟨_, OpenTo.refl _, zh rfl⟩) ?_
       refine ahg 7 rfl rfl (by kernel_rfl) (by kernel_rfl) rfl (fun hc => by have hq := hc; (try simp at hq); exact ⟨_, OpenTo.upd (t := 40) rfl (by first | exact hc | simp_all) (OpenTo.refl _), zal rfl rfl (by omega) (by omega)⟩) ?_
       refine ahg 8 rfl rfl (by kernel_rfl) (by kernel_rfl) rfl (fun hc => by have hq := hc; (try simp at hq); exact ⟨_, OpenTo.upd (t := 41) rfl (by first | exact hc | simp_all) (OpenTo.upd (t := 39) rfl (by first | exact hc | simp_all) (OpenTo.refl _)), zH (j := k - 1) (a := o.getD (k - 1) zbB) zcC za1 rfl rfl (by omega) (getD_some (by omega))⟩) ?_
       refine ahg 9 rfl rfl (by kernel_rfl) (by kernel_rfl) rfl (fun hc => ⟨_, OpenTo.upd (t := 42) rfl (by first | exact hc | simp_all) (OpenTo.refl _), zb za1 rfl ty9 (by decide) rfl⟩) ?_
       refine ahg 10 rfl rfl (by kernel_rfl) (by kernel_rfl) rfl (fun hc => ⟨_, OpenTo.upd (t := 43) rfl (by first | exact hc | simp_all) (OpenTo.refl _), zc ty9 rfl rfl rfl⟩) ?_
       refine ahg 11 rfl rfl (by kernel_rfl) (by kernel_rfl) rfl (fun hc => ⟨_, OpenTo.upd (t := 44) rfl (by first | exact hc | simp_all) (OpenTo.upd (t := 38) rfl (by first | exact hc | simp_all) (OpenTo.refl _)), zd9 rfl rfl⟩) ?_
       refine ahp 12 rfl rfl (by kernel_rfl) (by kernel_rfl) (zw rfl (.inr ⟨_, rfl, fun h => by simp_all⟩) (.inl rfl)) ?_
       refine ahp 13 rfl rfl (by kernel_rfl) (by kernel_rfl) (zaJ rfl) ?_
       refine ahz (by kernel_rfl) ?_
       refine ze rfl (fun h11 => ?_) (fun h12 => ?_)
       ·try simp at h11
        refine za ?_
        refine das rfl ?_
        refine dn ?_
        refine zg ?_
        refine zm rfl ?_
        show HVal.int .i64 _ = _
        first
        | (rw [zbu, if_pos (by simpa using h1)]; done)
        | (rw [hE]; exact congrArg _ (zeX (by omega)))
        | (rw [hE, ← zeU (by omega) hg]; simp_all; done)
        | (rw [hE]
           refine congrArg _ (zbO (e := 5) (by omega) hg (by decide) ?_)
           rw [zaW, if_pos]
           simp_all
           done)
        | (rw [hE]
           refine congrArg _ (zbO (e := 8) (by omega) hg (by decide) ?_)
           rw [zaW, if_neg, if_pos]
           all_goals simp_all
           done)
        | (rw [hE]
           refine congrArg _ (zeV (by omega) hg ?_ ?_ ?_)
           ·rw [zaW, if_neg, if_neg] <;> simp_all
           ·simp_all
           ·simp_all)
       ·try simp at h12
        refine zi ?_
        refine zu ?_
        refine zu ?_
        refine zd ?_
        refine zy ?_
        refine dq (zx rfl rfl (by omega) (by omega)) ?_
        refine dmv rfl ?_
        refine dn ?_
        refine ⟨k + 1, ?_, ?_, ⟨rfl, trivial⟩, (by repeat (first | exact zo | refine zt rfl ?_ | refine zp rfl rfl ?_)), List.Perm.refl _⟩
        ·refine ⟨by omega, ?_⟩
         rw [hg, zqL (by rw [zaW, if_neg (by simp_all), if_neg (by simp_all)]) (by intro hk0; simp_all)]
        ·dsimp only; omega
    ·try simp at h6
     have hnk : o.length ≤ k := by omega
     obtain rfl : k = o.length := by omega
     rw [zaq (Nat.le_refl _)] at hg
     refine zL ?_
     refine zS ?_
     refine zap ?_
     refine zD ?_
     refine zd ?_
     refine zf ?_
     refine za ?_
     refine dmv rfl ?_
     refine dq (zj ca46 rfl (WeakL.refl _) (zg0 (by first | assumption | omega | (simp; omega) | simp_all) (by first | assumption | omega | (simp; omega) | simp_all))) ?_
     refine dq (zW rfl) ?_
     refine dn ?_
     refine ze rfl (fun h13 => ?_) (fun h14 => ?_)
     ·try simp at h13
      refine za ?_
      refine das rfl ?_
      refine dn ?_
      refine zg ?_
      refine zm rfl ?_
      show HVal.int .i64 _ = _
      first
      | (rw [zbu, if_pos (by simpa using h1)]; done)
      | (rw [hE]; exact congrArg _ (zeX (by omega)))
      | (rw [hE, ← zeU (by omega) hg]; simp_all; done)
      | (rw [hE]
         refine congrArg _ (zbO (e := 5) (by omega) hg (by decide) ?_)
         rw [zaW, if_pos]
         simp_all
         done)
      | (rw [hE]
         refine congrArg _ (zbO (e := 8) (by omega) hg (by decide) ?_)
         rw [zaW, if_neg, if_pos]
         all_goals simp_all
         done)
      | (rw [hE]
         refine congrArg _ (zeV (by omega) hg ?_ ?_ ?_)
         ·rw [zaW, if_neg, if_neg] <;> simp_all
         ·simp_all
         ·simp_all)
     ·try simp at h14
      refine zi ?_
      refine zd ?_
      refine za ?_
      refine das rfl ?_
      refine dn ?_
      refine zg ?_
      refine zm rfl ?_
      show HVal.int .i64 _ = _
      first
      | (rw [zbu, if_pos (by simpa using h1)]; done)
      | (rw [hE]; exact congrArg _ (zeX (by omega)))
      | (rw [hE, ← zeU (by omega) hg]; simp_all; done)
      | (rw [hE]
         refine congrArg _ (zbO (e := 5) (by omega) hg (by decide) ?_)
         rw [zaW, if_pos]
         simp_all
         done)
      | (rw [hE]
         refine congrArg _ (zbO (e := 8) (by omega) hg (by decide) ?_)
         rw [zaW, if_neg, if_pos]
         all_goals simp_all
         done)
      | (rw [hE]
         refine congrArg _ (zeV (by omega) hg ?_ ?_ ?_)
         ·rw [zaW, if_neg, if_neg] <;> simp_all
         ·simp_all
         ·simp_all)

/-- benchwarmer/trade.givesFault -/
theorem ziI [Tracks] {m : MarketS} {l : List GiveS} (hm : MarketOk m) (hl : l.length ≤ 1000000) : ConP Tryz.prog 160 [.vptr (zl (zca m)) 0, znH l] (.int .i64 (zaM m l)) := by
 refine Con.of_body Tryz.func160 rfl Tryz.ntmps160 rfl rfl ?_
 refine za ?_
 refine das rfl ?_
 refine dn ?_
 refine zf ?_
 refine zk ?_
 refine za ?_
 refine dmv rfl ?_
 refine dq (zv zc0 rfl) ?_
 refine dq (zaz rfl rfl) ?_
 refine das rfl ?_
 refine dn ?_
 refine ze rfl (fun h1 => ?_) (fun h2 => ?_)
 ·try simp at h1
  refine za ?_
  refine das rfl ?_
  refine dn ?_
  refine zg ?_
  refine zm rfl ?_
  show HVal.int .i64 _ = _
  first
  | (rw [zaM, if_pos (by simpa using h1)]; done)
  | (rw [zaM, if_neg (by simpa using h2), if_pos (by omega)]; done)
  | (exact congrArg _ (zeO (by simpa using h2) (by omega) hg))
  | (refine congrArg _ (za5 (e := 5) (by simpa using h2) (by omega) hg (by decide) ?_)
     rw [zaG, if_pos]
     simp_all
     done)
  | (refine congrArg _ (za5 (e := 8) (by simpa using h2) (by omega) hg (by decide) ?_)
     rw [zaG, if_neg, if_pos]
     all_goals simp_all
     done)
  | (refine congrArg _ (za5 (e := 16) (by simpa using h2) (by omega) hg (by decide) ?_)
     rw [zaG, if_neg, if_neg, if_pos]
     all_goals simp_all
     done)
  | (refine congrArg _ (ze2 (by simpa using h2) (by omega) hg ?_ ?_ ?_)
     ·rw [zaG, if_neg, if_neg, if_neg] <;> simp_all
     ·simp_all
     ·simp_all)
 ·try simp at h2
  refine za ?_
  refine dmv rfl ?_
  refine dq (zv zc0 rfl) ?_
  refine dq (z6 rfl rfl) ?_
  refine das rfl ?_
  refine dn ?_
  refine ze rfl (fun h3 => ?_) (fun h4 => ?_)
  ·try simp at h3
   refine za ?_
   refine das rfl ?_
   refine dn ?_
   refine zg ?_
   refine zm rfl ?_
   show HVal.int .i64 _ = _
   first
   | (rw [zaM, if_pos (by simpa using h1)]; done)
   | (rw [zaM, if_neg (by simpa using h2), if_pos (by omega)]; done)
   | (exact congrArg _ (zeO (by simpa using h2) (by omega) hg))
   | (refine congrArg _ (za5 (e := 5) (by simpa using h2) (by omega) hg (by decide) ?_)
      rw [zaG, if_pos]
      simp_all
      done)
   | (refine congrArg _ (za5 (e := 8) (by simpa using h2) (by omega) hg (by decide) ?_)
      rw [zaG, if_neg, if_pos]
      all_goals simp_all
      done)
   | (refine congrArg _ (za5 (e := 16) (by simpa using h2) (by omega) hg (by decide) ?_)
      rw [zaG, if_neg, if_neg, if_pos]
      all_goals simp_all
      done)
   | (refine congrArg _ (ze2 (by simpa using h2) (by omega) hg ?_ ?_ ?_)
      ·rw [zaG, if_neg, if_neg, if_neg] <;> simp_all
      ·simp_all
      ·simp_all)
  ·try simp at h4
   refine zi ?_
   refine zu ?_
   refine zd ?_
   refine zf ?_
   refine za ?_
   refine dmv rfl ?_
   refine dq (zv zc0 rfl) ?_
   refine dmv rfl ?_
   refine dn ?_
   refine zk ?_
   refine zab [4, 5, 6, 17, 18, 19, 20, 21, 22, 23, 24, 25, 26, 27, 28, 29, 30, 31, 32, 33, 34, 35, 36, 37, 38, 39, 40, 41, 42, 43, 44, 45, 46, 47, 48, 49, 50, 51, 52, 53, 54, 55, 56, 57, 58, 59, 60] (fun (k : Nat) => [(17, .int .i64 k)]) (fun (k : Nat) => []) (fun (k : Nat) => k ≤ l.length ∧ (zas (zaG m) zd7 zcQ l 0 l = zas (zaG m) zd7 zcQ l k (l.drop k))) (fun (k : Nat) => l.length - k) (0) ?_ ?_ ?_ ?_
   ·exact ⟨Nat.zero_le _, rfl⟩
   ·exact ⟨rfl, trivial⟩
   ·exact List.Perm.refl _
   ·intro k hinv
    obtain ⟨hk, hg⟩ := hinv
    refine za ?_
    refine dq (zK rfl rfl) ?_
    refine dn ?_
    refine zf ?_
    refine ze rfl (fun h5 => ?_) (fun h6 => ?_)
    ·try simp at h5
     obtain ⟨x, hx⟩ : ∃ x, l[k]? = some x := ⟨_, List.getElem?_eq_getElem h5⟩
     have hdx := zI hx
     rw [hdx] at hg
     refine zi ?_
     refine zd ?_
     refine zf ?_
     refine zk ?_
     refine za ?_
     refine dmv rfl ?_
     refine dq (zH zc0 zbp rfl rfl rfl (by first | assumption | simp_all)) ?_
     refine dq (zB zbp rfl rfl rfl rfl) ?_
     refine de rfl (zO zbp rfl fun b6 => ?_)
     refine das rfl ?_
     refine de0 (zR zbp rfl rfl rfl rfl rfl ?_)
     refine dn ?_
     refine zF (Ghost.fc0 6 rfl) ?_
     refine zk ?_
     refine za ?_
     refine dq (zb zbp rfl ty9 (by decide) rfl) ?_
     refine dq (zc ty9 rfl rfl rfl) ?_
     refine dq (zj zeQ rfl (WeakL.refl _) zbk) ?_
     refine dq (zW rfl) ?_
     refine das rfl ?_
     refine dn ?_
     refine ze rfl (fun h7 => ?_) (fun h8 => ?_)
     ·try simp at h7
      refine za ?_
      refine das rfl ?_
      refine dn ?_
      refine zg ?_
      refine zm rfl ?_
      show HVal.int .i64 _ = _
      first
      | (rw [zaM, if_pos (by simpa using h1)]; done)
      | (rw [zaM, if_neg (by simpa using h2), if_pos (by omega)]; done)
      | (exact congrArg _ (zeO (by simpa using h2) (by omega) hg))
      | (refine congrArg _ (za5 (e := 5) (by simpa using h2) (by omega) hg (by decide) ?_)
         rw [zaG, if_pos]
         simp_all
         done)
      | (refine congrArg _ (za5 (e := 8) (by simpa using h2) (by omega) hg (by decide) ?_)
         rw [zaG, if_neg, if_pos]
         all_goals simp_all
         done)
      | (refine congrArg _ (za5 (e := 16) (by simpa using h2) (by omega) hg (by decide) ?_)
         rw [zaG, if_neg, if_neg, if_pos]
         all_goals simp_all
         done)
      | (refine congrArg _ (ze2 (by simpa using h2) (by omega) hg ?_ ?_ ?_)
         ·rw [zaG, if_neg, if_neg, if_neg] <;> simp_all
         ·simp_all
         ·simp_all)
     ·try simp at h8
      refine za ?_
      refine dmv rfl ?_
      refine dq (zb zbp rfl ty9 (by decide) rfl) ?_
      refine dq (zc ty9 rfl rfl rfl) ?_
      refine dq (zj zpv rfl (WeakL.refl _) (zdO hm)) ?_
      refine dq (zW rfl) ?_
      refine dmv rfl ?_
      refine dg rfl rfl (fun hc => ⟨_, OpenTo.refl _, zh rfl⟩) ?_
      refine dg rfl rfl (fun hc => ⟨_, OpenTo.refl _, zb zbp rfl ty9 (by decide) rfl⟩) ?_
      refine dg rfl rfl (fun hc => ⟨_, OpenTo.upd (t := 35) rfl (by first | exact hc | simp_all) (OpenTo.refl _), zc ty9 rfl rfl rfl⟩) ?_
      refine dg rfl rfl (fun hc => ⟨_, OpenTo.upd (t := 36) rfl (by first | exact hc | simp_all) (OpenTo.upd (t := 34) rfl (by first | exact hc | simp_all) (OpenTo.refl _)), zj zpv rfl (WeakL.refl _) (zdO hm)⟩) ?_
      refine dg rfl rfl (fun hc => ⟨_, OpenTo.upd (t := 37) rfl (by first | exact hc | simp_all) (OpenTo.refl _), zW rfl⟩) ?_
      refine dq (zw rfl (.inl rfl) (.inr ⟨_, rfl, fun h => by simp_all⟩)) ?_
      refine das rfl ?_
      refine dn ?_
      refine ze rfl (fun h9 => ?_) (fun h10 => ?_)
      ·try simp at h9
       refine za ?_
       refine das rfl ?_
       refine dn ?_
       refine zg ?_
       refine zm rfl ?_
       show HVal.int .i64 _ = _
       first
       | (rw [zaM, if_pos (by simpa using h1)]; done)
       | (rw [zaM, if_neg (by simpa using h2), if_pos (by omega)]; done)
       | (exact congrArg _ (zeO (by simpa using h2) (by omega) hg))
       | (refine congrArg _ (za5 (e := 5) (by simpa using h2) (by omega) hg (by decide) ?_)
          rw [zaG, if_pos]
          simp_all
          done)
       | (refine congrArg _ (za5 (e := 8) (by simpa using h2) (by omega) hg (by decide) ?_)
          rw [zaG, if_neg, if_pos]
          all_goals simp_all
          done)
       | (refine congrArg _ (za5 (e := 16) (by simpa using h2) (by omega) hg (by decide) ?_)
          rw [zaG, if_neg, if_neg, if_pos]
          all_goals simp_all
          done)
       | (refine congrArg _ (ze2 (by simpa using h2) (by omega) hg ?_ ?_ ?_)
          ·rw [zaG, if_neg, if_neg, if_neg] <;> simp_all
          ·simp_all
          ·simp_all)
      ·try simp at h10
       refine za ?_
       refine dq (zb zbp rfl ty9 (by decide) rfl) ?_
       refine dq (zc ty9 rfl rfl rfl) ?_
       refine dq (zb zbp rfl ty9 (by decide) rfl) ?_
       refine dq (zc ty9 rfl rfl rfl) ?_
       refine dq (zbh rfl rfl) ?_
       refine das rfl ?_
       refine dn ?_
       refine ze rfl (fun h11 => ?_) (fun h12 => ?_)
       ·try simp at h11
        refine za ?_
        refine das rfl ?_
        refine dn ?_
        refine zg ?_
        refine zm rfl ?_
        show HVal.int .i64 _ = _
        first
        | (rw [zaM, if_pos (by simpa using h1)]; done)
        | (rw [zaM, if_neg (by simpa using h2), if_pos (by omega)]; done)
        | (exact congrArg _ (zeO (by simpa using h2) (by omega) hg))
        | (refine congrArg _ (za5 (e := 5) (by simpa using h2) (by omega) hg (by decide) ?_)
           rw [zaG, if_pos]
           simp_all
           done)
        | (refine congrArg _ (za5 (e := 8) (by simpa using h2) (by omega) hg (by decide) ?_)
           rw [zaG, if_neg, if_pos]
           all_goals simp_all
           done)
        | (refine congrArg _ (za5 (e := 16) (by simpa using h2) (by omega) hg (by decide) ?_)
           rw [zaG, if_neg, if_neg, if_pos]
           all_goals simp_all
           done)
        | (refine congrArg _ (ze2 (by simpa using h2) (by omega) hg ?_ ?_ ?_)
           ·rw [zaG, if_neg, if_neg, if_neg] <;> simp_all
           ·simp_all
           ·simp_all)
       ·try simp at h12
        refine zaF (fun _ => True) [] mixed ?_
        refine ahp 0 rfl rfl (by kernel_rfl) (by kernel_rfl) (zh rfl) ?_
        refine ahp 1 rfl rfl (by kernel_rfl) (by kernel_rfl) (z6 rfl rfl) ?_
        refine ahp 2 rfl rfl (by kernel_rfl) (by kernel_rfl) (zh rfl) ?_
        refine ahg 3 rfl rfl (by kernel_rfl) (by kernel_rfl) rfl (fun hc => ⟨_, OpenTo.refl _, zb zbp rfl ty9 (by decide) rfl⟩) ?_
        refine ahg 4 rfl rfl (by kernel_rfl) (by kernel_rfl) rfl (fun hc => ⟨_, OpenTo.upd (t := 50) rfl (by first | exact hc | simp_all) (OpenTo.refl _), zc ty9 rfl rfl rfl⟩) ?_
        refine ahg 5 rfl rfl (by kernel_rfl) (by kernel_rfl) rfl (fun hc => ⟨_, OpenTo.refl _, zh rfl⟩) ?_
        refine ahg 6 rfl rfl (by kernel_rfl) (by kernel_rfl) rfl (fun hc => ⟨_, OpenTo.refl _, zh rfl⟩) ?_
        refine ahg 7 rfl rfl (by kernel_rfl) (by kernel_rfl) rfl (fun hc => by have hq := hc; (try simp at hq); exact ⟨_, OpenTo.upd (t := 53) rfl (by first | exact hc | simp_all) (OpenTo.refl _), zal rfl rfl (by omega) (by omega)⟩) ?_
        refine ahg 8 rfl rfl (by kernel_rfl) (by kernel_rfl) rfl (fun hc => by have hq := hc; (try simp at hq); exact ⟨_, OpenTo.upd (t := 54) rfl (by first | exact hc | simp_all) (OpenTo.upd (t := 52) rfl (by first | exact hc | simp_all) (OpenTo.refl _)), zH (j := k - 1) (a := l.getD (k - 1) zcQ) zc0 zbp rfl rfl (by omega) (getD_some (by omega))⟩) ?_
        refine ahg 9 rfl rfl (by kernel_rfl) (by kernel_rfl) rfl (fun hc => ⟨_, OpenTo.upd (t := 55) rfl (by first | exact hc | simp_all) (OpenTo.refl _), zb zbp rfl ty9 (by decide) rfl⟩) ?_
        refine ahg 10 rfl rfl (by kernel_rfl) (by kernel_rfl) rfl (fun hc => ⟨_, OpenTo.upd (t := 56) rfl (by first | exact hc | simp_all) (OpenTo.refl _), zc ty9 rfl rfl rfl⟩) ?_
        refine ahg 11 rfl rfl (by kernel_rfl) (by kernel_rfl) rfl (fun hc => ⟨_, OpenTo.upd (t := 57) rfl (by first | exact hc | simp_all) (OpenTo.upd (t := 51) rfl (by first | exact hc | simp_all) (OpenTo.refl _)), zd9 rfl rfl⟩) ?_
        refine ahp 12 rfl rfl (by kernel_rfl) (by kernel_rfl) (zw rfl (.inr ⟨_, rfl, fun h => by simp_all⟩) (.inl rfl)) ?_
        refine ahp 13 rfl rfl (by kernel_rfl) (by kernel_rfl) (zaJ rfl) ?_
        refine ahz (by kernel_rfl) ?_
        refine ze rfl (fun h13 => ?_) (fun h14 => ?_)
        ·try simp at h13
         refine za ?_
         refine das rfl ?_
         refine dn ?_
         refine zg ?_
         refine zm rfl ?_
         show HVal.int .i64 _ = _
         first
         | (rw [zaM, if_pos (by simpa using h1)]; done)
         | (rw [zaM, if_neg (by simpa using h2), if_pos (by omega)]; done)
         | (exact congrArg _ (zeO (by simpa using h2) (by omega) hg))
         | (refine congrArg _ (za5 (e := 5) (by simpa using h2) (by omega) hg (by decide) ?_)
            rw [zaG, if_pos]
            simp_all
            done)
         | (refine congrArg _ (za5 (e := 8) (by simpa using h2) (by omega) hg (by decide) ?_)
            rw [zaG, if_neg, if_pos]
            all_goals simp_all
            done)
         | (refine congrArg _ (za5 (e := 16) (by simpa using h2) (by omega) hg (by decide) ?_)
            rw [zaG, if_neg, if_neg, if_pos]
            all_goals simp_all
            done)
         | (refine congrArg _ (ze2 (by simpa using h2) (by omega) hg ?_ ?_ ?_)
            ·rw [zaG, if_neg, if_neg, if_neg] <;> simp_all
            ·simp_all
            ·simp_all)
        ·try simp at h14
         refine zi ?_
         refine zu ?_
         refine zu ?_
         refine zd ?_
         refine zy ?_
         refine dq (zx rfl rfl (by omega) (by omega)) ?_
         refine dmv rfl ?_
         refine dn ?_
         refine ⟨k + 1, ?_, ?_, ⟨rfl, trivial⟩, (by repeat (first | exact zo | refine zt rfl ?_ | refine zp rfl rfl ?_)), List.Perm.refl _⟩
         ·refine ⟨by omega, ?_⟩
          rw [hg, zra (by rw [zaG, if_neg (by simp_all), if_neg (by simp_all), if_neg (by simp_all)]) (by intro hk0; simp_all)]
         ·dsimp only; omega
    ·try simp at h6
     have hnk : l.length ≤ k := by omega
     obtain rfl : k = l.length := by omega
     rw [zaq (Nat.le_refl _)] at hg
     refine zL ?_
     refine zS ?_
     refine zap ?_
     refine zD ?_
     refine zd ?_
     refine za ?_
     refine das rfl ?_
     refine dn ?_
     refine zg ?_
     refine zm rfl ?_
     show HVal.int .i64 _ = _
     first
     | (rw [zaM, if_pos (by simpa using h1)]; done)
     | (rw [zaM, if_neg (by simpa using h2), if_pos (by omega)]; done)
     | (exact congrArg _ (zeO (by simpa using h2) (by omega) hg))
     | (refine congrArg _ (za5 (e := 5) (by simpa using h2) (by omega) hg (by decide) ?_)
        rw [zaG, if_pos]
        simp_all
        done)
     | (refine congrArg _ (za5 (e := 8) (by simpa using h2) (by omega) hg (by decide) ?_)
        rw [zaG, if_neg, if_pos]
        all_goals simp_all
        done)
     | (refine congrArg _ (za5 (e := 16) (by simpa using h2) (by omega) hg (by decide) ?_)
        rw [zaG, if_neg, if_neg, if_pos]
        all_goals simp_all
        done)
     | (refine congrArg _ (ze2 (by simpa using h2) (by omega) hg ?_ ?_ ?_)
        ·rw [zaG, if_neg, if_neg, if_neg] <;> simp_all
        ·simp_all
        ·simp_all)

/-- benchwarmer/trade.concerned -/
theorem zji [Tracks] {x : DealS} (hx : x.Gives.length ≤ 1000) : ConP Tryz.prog 161 [zi6 x] (eSs (zdM x.Gives)) := by
 refine Con.of_body Tryz.func161 rfl Tryz.ntmps161 rfl rfl ?_
 refine za ?_
 refine dq (zam rfl rfl) ?_
 refine das rfl ?_
 refine dn ?_
 refine za ?_
 refine das rfl ?_
 refine dn ?_
 refine zF (Ghost.arr_nil 1) ?_
 refine zf ?_
 refine za ?_
 refine dq ((by first | exact zb zbS rfl zc0 (by decide) rfl | exact zq zbS rfl zc0 (by decide) rfl)) ?_
 refine dq (zc zc0 rfl rfl rfl) ?_
 refine dq (zv zc0 rfl) ?_
 refine dmv rfl ?_
 refine dn ?_
 refine zk ?_
 refine zaS [3, 5, 9, 10, 11, 12, 13, 14, 15, 16, 17, 18, 19, 20] (fun (k : Nat) (u : Value) => [(9, .int .i64 k), (3, .raw u)]) (fun (k : Nat) (u : Value) => [.arr u 1 ((zc8 (x.Gives.take k)).map .str)]) (fun (k : Nat) (u : Value) => k ≤ x.Gives.length ∧ (True)) (fun (k : Nat) (u : Value) => x.Gives.length - k) (0) (.slice none 0 0) ?_ ?_ ?_ ?_
 ·exact ⟨Nat.zero_le _, trivial⟩
 ·exact ⟨rfl, rfl, trivial⟩
 ·exact zU (by simp [zc8])
 ·intro k u hinv
  obtain ⟨hk, -⟩ := hinv
  refine za ?_
  refine dq (zK rfl rfl) ?_
  refine dn ?_
  refine zf ?_
  refine ze rfl (fun h1 => ?_) (fun h2 => ?_)
  ·try simp at h1
   obtain ⟨g, hg⟩ : ∃ g, x.Gives[k]? = some g := ⟨_, List.getElem?_eq_getElem h1⟩
   have hdg := zI hg
   refine zi ?_
   refine zd ?_
   refine zf ?_
   refine zk ?_
   refine za ?_
   refine dq (zH zc0 zbp rfl rfl rfl (by first | assumption | simp_all)) ?_
   refine dq (zB zbp rfl rfl rfl rfl) ?_
   refine de rfl (zO zbp rfl fun b5 => ?_)
   refine de0 (zR zbp rfl rfl rfl rfl rfl ?_)
   refine dn ?_
   refine zF (Ghost.fc0 5 rfl) ?_
   refine zy ?_
   refine dmv rfl ?_
   refine dq ((by first | exact zb zbp rfl ty9 (by decide) rfl | exact zq zbp rfl ty9 (by decide) rfl)) ?_
   refine dq (zc ty9 rfl rfl rfl) ?_
   refine dq ((by first | exact zb zbp rfl ty9 (by decide) rfl | exact zq zbp rfl ty9 (by decide) rfl)) ?_
   refine dq (zc ty9 rfl rfl rfl) ?_
   refine dq (zG (hs := [_, _]) zA ty9 rfl rfl (by decide) (by decide) rfl) ?_
   refine de rfl (zaO (i := 0) zA ty9 rfl rfl rfl rfl rfl (by simp [za6, zl]) (by have := zft (x.Gives.take k); simp only [List.length_map, List.length_cons, List.length_nil, List.length_take] at *; omega) fun v19 => ?_)
   refine das rfl ?_
   refine dn ?_
   refine zu ?_
   refine zd ?_
   refine zy ?_
   refine dq (zx rfl rfl (by omega) (by omega)) ?_
   refine dmv rfl ?_
   refine dn ?_
   exact ⟨k + 1, v19, ⟨by omega, trivial⟩, by dsimp only; omega, ⟨rfl, rfl, trivial⟩, (by repeat (first | exact zo | refine zt rfl ?_ | refine zp rfl rfl ?_)), zU (by dsimp only; rw [zoe hg]; simp)⟩
  ·try simp at h2
   have hnk : x.Gives.length ≤ k := by omega
   obtain rfl : k = x.Gives.length := by omega
   rw [List.take_length]
   refine zL ?_
   refine zS ?_
   refine za8 ?_
   refine zD ?_
   refine zd ?_
   refine za ?_
   refine dmv rfl ?_
   refine de rfl (zaK (M1 := [_]) (R := []) ca35 rfl (WeakL.refl _) (List.Perm.refl _) (zhJ (l := zc8 x.Gives) (by rw [zft]; omega)) ?_)
   rintro _ _ ⟨rfl, rfl⟩
   refine dn ?_
   refine za ?_
   refine dmv rfl ?_
   refine de rfl (zaK (M1 := [_]) (R := []) ztR rfl (WeakL.refl _) (List.Perm.refl _) (zjN (l := zar (zc8 x.Gives)) (by rw [zch, zft]; omega)) ?_)
   rintro _ _ ⟨u24, rfl, rfl⟩
   refine das rfl ?_
   refine dn ?_
   refine zg ?_
   exact zgU (M := []) 2 rfl rfl rfl

/-- benchwarmer/trade.offerFault -/
theorem zh7 [Tracks] {m : MarketS} {x : DealS} (hm : MarketOk m) (hx : x.Gives.length ≤ 1000000) : ConP Tryz.prog 127 [.vptr (zl (zca m)) 0, zi6 x] (.int .i64 (zbs m x)) := by
 refine Con.of_body Tryz.func127 rfl Tryz.ntmps127 rfl rfl ?_
 refine za ?_
 refine dq (zam rfl rfl) ?_
 refine das rfl ?_
 refine dn ?_
 refine zf ?_
 refine zk ?_
 refine za ?_
 refine dq (zb zbS rfl ty9 (by decide) rfl) ?_
 refine dq (zc ty9 rfl rfl rfl) ?_
 refine dq (zj zeQ rfl (WeakL.refl _) zbk) ?_
 refine dq (zW rfl) ?_
 refine das rfl ?_
 refine dn ?_
 refine ze rfl (fun h1 => ?_) (fun h2 => ?_)
 ·try simp at h1
  refine za ?_
  refine das rfl ?_
  refine dn ?_
  refine zg ?_
  refine zm rfl ?_
  show HVal.int .i64 _ = _
  simp_all [zbs]
 ·try simp at h2
  refine za ?_
  refine dmv rfl ?_
  refine dq (zb zbS rfl ty9 (by decide) rfl) ?_
  refine dq (zc ty9 rfl rfl rfl) ?_
  refine dq (zj zpv rfl (WeakL.refl _) (zdO hm)) ?_
  refine dq (zW rfl) ?_
  refine das rfl ?_
  refine dn ?_
  refine ze rfl (fun h3 => ?_) (fun h4 => ?_)
  ·try simp at h3
   refine za ?_
   refine das rfl ?_
   refine dn ?_
   refine zg ?_
   refine zm rfl ?_
   show HVal.int .i64 _ = _
   simp_all [zbs]
  ·try simp at h4
   refine za ?_
   refine dq (zb zbS rfl ziG (by decide) rfl) ?_
   refine dq (zb ziG rfl ty3 (by decide) rfl) ?_
   refine dq (zc ty3 rfl rfl rfl) ?_
   refine dq (zj zcI rfl (WeakL.refl _) zaC) ?_
   refine dmv rfl ?_
   refine dg rfl rfl (fun hc => ⟨_, OpenTo.refl _, zb zbS rfl ziG (by decide) rfl⟩) ?_
   refine dg rfl rfl (fun hc => ⟨_, OpenTo.upd (t := 23) rfl (by first | exact hc | simp_all) (OpenTo.refl _), zb ziG rfl ty3 (by decide) rfl⟩) ?_
   refine dg rfl rfl (fun hc => ⟨_, OpenTo.upd (t := 24) rfl (by first | exact hc | simp_all) (OpenTo.refl _), zc ty3 rfl rfl rfl⟩) ?_
   refine dg rfl rfl (fun hc => ⟨_, OpenTo.refl _, zb zbS rfl ziG (by decide) rfl⟩) ?_
   refine dg rfl rfl (fun hc => ⟨_, OpenTo.upd (t := 26) rfl (by first | exact hc | simp_all) (OpenTo.refl _), zb ziG rfl ty3 (by decide) rfl⟩) ?_
   refine dg rfl rfl (fun hc => ⟨_, OpenTo.upd (t := 27) rfl (by first | exact hc | simp_all) (OpenTo.refl _), zc ty3 rfl rfl rfl⟩) ?_
   refine dg rfl rfl (fun hc => by
    have hxo := zdj (n := x.To) (lo := 1) (hi := 345686400000) (by simpa using hc)
    exact ⟨_, OpenTo.upd (t := 28) rfl (by first | exact hc | simp_all) (OpenTo.refl _), zal rfl rfl (by omega) (by omega)⟩) ?_
   refine dg rfl rfl (fun hc => ⟨_, OpenTo.upd (t := 29) rfl (by first | exact hc | simp_all) (OpenTo.upd (t := 25) rfl (by first | exact hc | simp_all) (OpenTo.refl _)), zj zcI rfl (WeakL.refl _) zaC⟩) ?_
   refine dq (zw rfl (.inl rfl) (.inr ⟨_, rfl, fun h => by simp_all⟩)) ?_
   refine das rfl ?_
   refine dn ?_
   refine ze rfl (fun h5 => ?_) (fun h6 => ?_)
   ·try simp at h5
    refine za ?_
    refine das rfl ?_
    refine dn ?_
    refine zg ?_
    refine zm rfl ?_
    show HVal.int .i64 _ = _
    simp_all [zbs]
   ·try simp at h6
    refine zi ?_
    refine zu ?_
    refine zd ?_
    refine zf ?_
    refine za ?_
    refine dmv rfl ?_
    refine dq (zb zbS rfl zc0 (by decide) rfl) ?_
    refine dq (zc zc0 rfl rfl rfl) ?_
    refine dq (zj zta rfl (WeakL.refl _) (ziI (by first | assumption | omega | (simp; omega) | simp_all) (by first | assumption | omega | (simp; omega) | simp_all))) ?_
    refine das rfl ?_
    refine dn ?_
    refine za ?_
    refine dmv rfl ?_
    refine dq (zah rfl rfl) ?_
    refine dn ?_
    refine ze rfl (fun h7 => ?_) (fun h8 => ?_)
    ·try simp at h7
     refine za ?_
     refine dmv rfl ?_
     refine das rfl ?_
     refine dn ?_
     refine zg ?_
     refine zm rfl ?_
     show HVal.int .i64 _ = _
     simp_all [zbs]
    ·try simp at h8
     refine zi ?_
     refine zd ?_
     refine zf ?_
     obtain ⟨hgo1, hgo2, _⟩ := zh4 (m := m) (l := x.Gives) (by simp_all)
     refine zaF (fun _ => True) [] mixed ?_
     refine ahp 0 rfl rfl (by kernel_rfl) (by kernel_rfl) (zB zbS rfl rfl rfl rfl) ?_
     refine ahp 1 rfl rfl (by kernel_rfl) (by kernel_rfl) (zj ztA rfl (WeakL.refl _) (zji (by first | assumption | omega | (simp; omega) | simp_all))) ?_
     refine ahp 2 rfl rfl (by kernel_rfl) (by kernel_rfl) (zb zbS rfl ty9 (by decide) rfl) ?_
     refine ahp 3 rfl rfl (by kernel_rfl) (by kernel_rfl) (zc ty9 rfl rfl rfl) ?_
     refine ahp 4 rfl rfl (by kernel_rfl) (by kernel_rfl) (zj zii rfl (WeakL.refl _) (zaj (l := zdM x.Gives) (s := x.By) (by have := zpK x.Gives; omega))) ?_
     refine ahp 5 rfl rfl (by kernel_rfl) (by kernel_rfl) (zW rfl) ?_
     refine ahz (by kernel_rfl) ?_
     refine ze rfl (fun h9 => ?_) (fun h10 => ?_)
     ·try simp at h9
      refine za ?_
      refine das rfl ?_
      refine dn ?_
      refine zg ?_
      refine zm rfl ?_
      show HVal.int .i64 _ = _
      simp_all [zbs]
     ·try simp at h10
      refine zi ?_
      refine zd ?_
      refine za ?_
      refine das rfl ?_
      refine dn ?_
      refine zg ?_
      refine zm rfl ?_
      show HVal.int .i64 _ = _
      simp_all [zbs]

/-- benchwarmer/trade.CheckOffers -/
theorem zhQ [Tracks] {m : MarketS} {l : List DealS} (ht : m.Teams.length ≤ 1000000) (hl : l.length ≤ 1000000) (hx : ∀ x ∈ l, x.Gives.length ≤ 1000000) : ConP Tryz.prog 78 [zca m, zs0 l] (.int .i64 (zcf m l)) := by
 refine Con.of_body Tryz.func78 rfl Tryz.ntmps78 rfl rfl ?_
 refine za ?_
 refine dq (zam rfl rfl) ?_
 refine das rfl ?_
 refine dn ?_
 refine zf ?_
 refine za ?_
 refine dq (zB zb5 rfl rfl rfl rfl) ?_
 refine dq (zj ca43 rfl (WeakL.refl _) (zeH (by first | assumption | omega | (simp; omega) | simp_all))) ?_
 refine das rfl ?_
 refine dn ?_
 refine za ?_
 refine dmv rfl ?_
 refine dq (zah rfl rfl) ?_
 refine dn ?_
 refine ze rfl (fun h1 => ?_) (fun h2 => ?_)
 ·try simp at h1
  refine za ?_
  refine dmv rfl ?_
  refine das rfl ?_
  refine dn ?_
  refine zg ?_
  refine zm rfl ?_
  show HVal.int .i64 _ = _
  first
  | (rw [zcf, if_pos (by simpa using h1)]; done)
  | (rw [hE]; exact congrArg _ (zfK (by omega)))
  | (rw [hE]; exact congrArg _ (zfV (by omega) hg))
  | (rw [hE]
     refine congrArg _ (zfG (by omega) hg ?_ rfl)
     simp_all
     done)
  | (rw [hE]
     refine congrArg _ (zfH (by omega) hg ?_ ?_ ?_)
     ·simp_all
     ·simp_all
     ·simp_all)
 ·try simp at h2
  refine zi ?_
  refine zd ?_
  refine zf ?_
  have hz : zaB m = 0 := by simpa using h2
  have hm := zkA hz
  have ht20 := hm.len
  have hE : zcf m l = zcl m l := by rw [zcf, if_neg (by simp [hz])]
  refine za ?_
  refine dmv rfl ?_
  refine dq (zv zkk rfl) ?_
  refine dq (z6 rfl rfl) ?_
  refine dn ?_
  refine ze rfl (fun h3 => ?_) (fun h4 => ?_)
  ·try simp at h3
   refine za ?_
   refine das rfl ?_
   refine dn ?_
   refine zg ?_
   refine zm rfl ?_
   show HVal.int .i64 _ = _
   first
   | (rw [zcf, if_pos (by simpa using h1)]; done)
   | (rw [hE]; exact congrArg _ (zfK (by omega)))
   | (rw [hE]; exact congrArg _ (zfV (by omega) hg))
   | (rw [hE]
      refine congrArg _ (zfG (by omega) hg ?_ rfl)
      simp_all
      done)
   | (rw [hE]
      refine congrArg _ (zfH (by omega) hg ?_ ?_ ?_)
      ·simp_all
      ·simp_all
      ·simp_all)
  ·try simp at h4
   refine zi ?_
   refine zd ?_
   refine zf ?_
   refine za ?_
   refine dmv rfl ?_
   refine dq (zv zkk rfl) ?_
   refine dmv rfl ?_
   refine dn ?_
   refine zk ?_
   refine zab [4, 6, 7, 8, 19, 20, 21, 22, 23, 24, 25, 26, 27, 28, 29, 30, 31, 32, 33, 34, 35, 36, 37, 38, 39, 40, 41, 42] (fun (k : Nat) => [(19, .int .i64 k)]) (fun (k : Nat) => []) (fun (k : Nat) => k ≤ l.length ∧ (zas (zbs m) zda zbQ l 0 l = zas (zbs m) zda zbQ l k (l.drop k))) (fun (k : Nat) => l.length - k) (0) ?_ ?_ ?_ ?_
   ·exact ⟨Nat.zero_le _, rfl⟩
   ·exact ⟨rfl, trivial⟩
   ·exact List.Perm.refl _
   ·intro k hinv
    obtain ⟨hk, hg⟩ := hinv
    refine za ?_
    refine dq (zK rfl rfl) ?_
    refine dn ?_
    refine zf ?_
    refine ze rfl (fun h5 => ?_) (fun h6 => ?_)
    ·try simp at h5
     obtain ⟨y, hy⟩ : ∃ y, l[k]? = some y := ⟨_, List.getElem?_eq_getElem h5⟩
     have hdy := zI hy
     rw [hdy] at hg
     refine zi ?_
     refine zd ?_
     refine zf ?_
     refine zk ?_
     refine za ?_
     refine dmv rfl ?_
     refine dq (zH zkk zbS rfl rfl rfl (by first | assumption | simp_all)) ?_
     refine dq (zB zbS rfl rfl rfl rfl) ?_
     refine de rfl (zO zbS rfl fun b7 => ?_)
     refine das rfl ?_
     refine de0 (zR zbS rfl rfl rfl rfl rfl ?_)
     refine dn ?_
     refine zF (Ghost.fc0 7 rfl) ?_
     refine zf ?_
     refine za ?_
     refine dq (zB zbS rfl rfl rfl rfl) ?_
     refine dq (zj ztG rfl (WeakL.refl _) (zh7 (x := y) hm (hx y (List.mem_of_getElem? hy)))) ?_
     refine das rfl ?_
     refine dn ?_
     refine za ?_
     refine dmv rfl ?_
     refine dq (zah rfl rfl) ?_
     refine dn ?_
     refine ze rfl (fun h7 => ?_) (fun h8 => ?_)
     ·try simp at h7
      refine za ?_
      refine dmv rfl ?_
      refine das rfl ?_
      refine dn ?_
      refine zg ?_
      refine zm rfl ?_
      show HVal.int .i64 _ = _
      first
      | (rw [zcf, if_pos (by simpa using h1)]; done)
      | (rw [hE]; exact congrArg _ (zfK (by omega)))
      | (rw [hE]; exact congrArg _ (zfV (by omega) hg))
      | (rw [hE]
         refine congrArg _ (zfG (by omega) hg ?_ rfl)
         simp_all
         done)
      | (rw [hE]
         refine congrArg _ (zfH (by omega) hg ?_ ?_ ?_)
         ·simp_all
         ·simp_all
         ·simp_all)
     ·try simp at h8
      refine zi ?_
      refine zd ?_
      refine zaF (fun _ => True) [] mixed ?_
      refine ahp 0 rfl rfl (by kernel_rfl) (by kernel_rfl) (zh rfl) ?_
      refine ahp 1 rfl rfl (by kernel_rfl) (by kernel_rfl) (z6 rfl rfl) ?_
      refine ahp 2 rfl rfl (by kernel_rfl) (by kernel_rfl) (zh rfl) ?_
      refine ahg 3 rfl rfl (by kernel_rfl) (by kernel_rfl) rfl (fun hc => ⟨_, OpenTo.refl _, zb zbS rfl ty9 (by decide) rfl⟩) ?_
      refine ahg 4 rfl rfl (by kernel_rfl) (by kernel_rfl) rfl (fun hc => ⟨_, OpenTo.upd (t := 32) rfl (by first | exact hc | simp_all) (OpenTo.refl _), zc ty9 rfl rfl rfl⟩) ?_
      refine ahg 5 rfl rfl (by kernel_rfl) (by kernel_rfl) rfl (fun hc => ⟨_, OpenTo.refl _, zh rfl⟩) ?_
      refine ahg 6 rfl rfl (by kernel_rfl) (by kernel_rfl) rfl (fun hc => ⟨_, OpenTo.refl _, zh rfl⟩) ?_
      refine ahg 7 rfl rfl (by kernel_rfl) (by kernel_rfl) rfl (fun hc => by have hq := hc; (try simp at hq); exact ⟨_, OpenTo.upd (t := 35) rfl (by first | exact hc | simp_all) (OpenTo.refl _), zal rfl rfl (by omega) (by omega)⟩) ?_
      refine ahg 8 rfl rfl (by kernel_rfl) (by kernel_rfl) rfl (fun hc => by have hq := hc; (try simp at hq); exact ⟨_, OpenTo.upd (t := 36) rfl (by first | exact hc | simp_all) (OpenTo.upd (t := 34) rfl (by first | exact hc | simp_all) (OpenTo.refl _)), zH (j := k - 1) (a := l.getD (k - 1) zbQ) zkk zbS rfl rfl (by omega) (getD_some (by omega))⟩) ?_
      refine ahg 9 rfl rfl (by kernel_rfl) (by kernel_rfl) rfl (fun hc => ⟨_, OpenTo.upd (t := 37) rfl (by first | exact hc | simp_all) (OpenTo.refl _), zb zbS rfl ty9 (by decide) rfl⟩) ?_
      refine ahg 10 rfl rfl (by kernel_rfl) (by kernel_rfl) rfl (fun hc => ⟨_, OpenTo.upd (t := 38) rfl (by first | exact hc | simp_all) (OpenTo.refl _), zc ty9 rfl rfl rfl⟩) ?_
      refine ahg 11 rfl rfl (by kernel_rfl) (by kernel_rfl) rfl (fun hc => ⟨_, OpenTo.upd (t := 39) rfl (by first | exact hc | simp_all) (OpenTo.upd (t := 33) rfl (by first | exact hc | simp_all) (OpenTo.refl _)), zd9 rfl rfl⟩) ?_
      refine ahp 12 rfl rfl (by kernel_rfl) (by kernel_rfl) (zw rfl (.inr ⟨_, rfl, fun h => by simp_all⟩) (.inl rfl)) ?_
      refine ahz (by kernel_rfl) ?_
      refine ze rfl (fun h9 => ?_) (fun h10 => ?_)
      ·try simp at h9
       refine za ?_
       refine das rfl ?_
       refine dn ?_
       refine zg ?_
       refine zm rfl ?_
       show HVal.int .i64 _ = _
       first
       | (rw [zcf, if_pos (by simpa using h1)]; done)
       | (rw [hE]; exact congrArg _ (zfK (by omega)))
       | (rw [hE]; exact congrArg _ (zfV (by omega) hg))
       | (rw [hE]
          refine congrArg _ (zfG (by omega) hg ?_ rfl)
          simp_all
          done)
       | (rw [hE]
          refine congrArg _ (zfH (by omega) hg ?_ ?_ ?_)
          ·simp_all
          ·simp_all
          ·simp_all)
      ·try simp at h10
       refine zi ?_
       refine zu ?_
       refine zd ?_
       refine zy ?_
       refine dq (zx rfl rfl (by omega) (by omega)) ?_
       refine dmv rfl ?_
       refine dn ?_
       refine ⟨k + 1, ?_, ?_, ⟨rfl, trivial⟩, (by repeat (first | exact zo | refine zt rfl ?_ | refine zp rfl rfl ?_)), List.Perm.refl _⟩
       ·refine ⟨by omega, ?_⟩
        rw [hg, zpL (by simp_all) (by intro hk0; simp_all)]
       ·dsimp only; omega
    ·try simp at h6
     have hnk : l.length ≤ k := by omega
     obtain rfl : k = l.length := by omega
     rw [zaq (Nat.le_refl _)] at hg
     refine zL ?_
     refine zS ?_
     refine zap ?_
     refine zD ?_
     refine zd ?_
     refine za ?_
     refine das rfl ?_
     refine dn ?_
     refine zg ?_
     refine zm rfl ?_
     show HVal.int .i64 _ = _
     first
     | (rw [zcf, if_pos (by simpa using h1)]; done)
     | (rw [hE]; exact congrArg _ (zfK (by omega)))
     | (rw [hE]; exact congrArg _ (zfV (by omega) hg))
     | (rw [hE]
        refine congrArg _ (zfG (by omega) hg ?_ rfl)
        simp_all
        done)
     | (rw [hE]
        refine congrArg _ (zfH (by omega) hg ?_ ?_ ?_)
        ·simp_all
        ·simp_all
        ·simp_all)
end
section
open Go.HL

end
section
open Go.HL
/-- slices.Clone[[]benchwarmer/api.Owner,benchwarmer/api.Owner] -/
theorem zdR [Tracks] {l : List OwnerS} (hl : l.length ≤ 1000000) : zpm Tryz.prog 79 [.slice 2 (l.map zaZ)] 2 (l.map zaZ) := by
 refine Con.of_body Tryz.func79 rfl Tryz.ntmps79 rfl rfl ?_
 refine za ?_
 refine das rfl ?_
 refine dn ?_
 refine zf ?_
 refine za ?_
 refine dmv rfl ?_
 refine de rfl (zlR zcC rfl rfl fun b4 hb4 => ?_)
 refine dn ?_
 refine ze rfl (fun h1 => ?_) (fun h2 => ?_)
 ·try simp at h1
  refine za ?_
  refine das rfl ?_
  refine dn ?_
  refine zg ?_
  first | exact zmp rfl rfl | exact za2 (Ghost.arr_nil 2) rfl ⟨_, rfl, by simp_all⟩
 ·try simp at h2
  refine zi ?_
  refine zd ?_
  refine za ?_
  refine de rfl (zoD zcC za1 fun v5 => ?_)
  refine dmv rfl ?_
  refine de rfl (zaO (i := 0) zcC za1 rfl rfl rfl rfl rfl (by simp [za6, zl]) (by first | omega | (simp; omega)) fun v7 => ?_)
  refine das rfl ?_
  refine dn ?_
  refine zg ?_
  first | exact zmp rfl rfl | exact za2 (Ghost.arr_nil 2) rfl ⟨_, rfl, by simp_all⟩

/-- slices.BinarySearchFunc[[]benchwarmer/api.Owner,benchwarmer/api.Owner,string] -/
theorem zen [Tracks] {l : List OwnerS} {s : Str} {fid : FuncId} (hca : Callable Tryz.prog fid) (hp : ∀ x : OwnerS, ConP Tryz.prog fid [zaZ x, .str s] (.int .i64 (zaH x.Player s))) (hl : l.length ≤ 1000000) (hs : SortedS (l.map (·.Player))) : ConP Tryz.prog 80 [zcD l, .str s, .fn (.func fid) [] []] (.tup [.int .i64 (zcR (l.map (·.Player)) s), .bool ((l.map (·.Player)).contains s)]) := by
 have hLl : (l.map (·.Player)).length = l.length := List.length_map _
 refine Con.of_body Tryz.func80 rfl Tryz.ntmps80 rfl rfl ?_
 refine za ?_
 refine das rfl ?_
 refine das rfl ?_
 refine dn ?_
 refine za ?_
 refine dmv rfl ?_
 refine dq (zv zcC rfl) ?_
 refine das rfl ?_
 refine dn ?_
 refine za ?_
 refine dmv rfl ?_
 refine das rfl ?_
 refine das rfl ?_
 refine dn ?_
 refine zf ?_
 refine zk ?_
 refine zaS [9, 10, 11, 15, 16, 17, 18, 19, 20, 21, 22, 23, 24, 25, 26, 27, 28, 29, 30, 31, 32, 33, 34] (fun (i : Nat) (j : Nat) => [(9, .int .i64 i), (10, .int .i64 j)]) (fun (i : Nat) (j : Nat) => []) (fun (i : Nat) (j : Nat) => i ≤ j ∧ j ≤ (l.map (·.Player)).length ∧ (∀ (k : Nat) (x : Str), k < i → (l.map (·.Player))[k]? = some x → Op.bytesLess x s = true) ∧ (∀ (k : Nat) (x : Str), j ≤ k → (l.map (·.Player))[k]? = some x → Op.bytesLess x s = false)) (fun (i : Nat) (j : Nat) => j - i) (0) (l.length) ?_ ?_ ?_ ?_
 ·exact ⟨Nat.zero_le _, by rw [hLl]; exact Nat.le_refl _, fun k x h => by omega, fun k x h1 h2 => by have := zC h2; omega⟩
 ·exact ⟨rfl, rfl, trivial⟩
 ·exact List.Perm.refl _
 ·intro i j hinv
  obtain ⟨hij, hjl, ha, hb⟩ := hinv
  rw [hLl] at hjl
  refine zf ?_
  refine za ?_
  refine dmv rfl ?_
  refine dmv rfl ?_
  refine dq (zK rfl rfl) ?_
  refine dn ?_
  refine ze rfl (fun h1 => ?_) (fun h2 => ?_)
  ·try simp at h1
   obtain ⟨x, hx⟩ : ∃ x, l[(i + j) / 2]? = some x := ⟨_, List.getElem?_eq_getElem (by omega)⟩
   have hxL : (l.map (·.Player))[(i + j) / 2]? = some x.Player := by rw [List.getElem?_map, hx]; rfl
   have hm : (i + j) / 2 < j ∧ i ≤ (i + j) / 2 := by omega
   refine zi ?_
   refine zd ?_
   refine zk ?_
   refine za ?_
   refine dmv rfl ?_
   refine dmv rfl ?_
   refine dq (zx rfl rfl (by omega) (by omega)) ?_
   refine dq (zcn ty3 ziX rfl) ?_
   refine dq (zoB rfl rfl (by omega)) ?_
   refine dq (ze6 (zcn ziX ty3 rfl) (zql (i := i) (j := j) (by omega))) ?_
   refine das rfl ?_
   refine dn ?_
   refine za ?_
   refine dmv rfl ?_
   refine dmv rfl ?_
   refine dmv rfl ?_
   refine dq (zH (j := (i + j) / 2) (a := x) zcC za1 rfl rfl rfl hx) ?_
   refine dq (zB za1 rfl rfl rfl rfl) ?_
   refine dmv rfl ?_
   refine dq (zej hca rfl rfl (WeakL.refl _) (hp _)) ?_
   refine dq (zK rfl rfl) ?_
   refine dn ?_
   refine ze rfl (fun h3 => ?_) (fun h4 => ?_)
   ·try simp at h3
    refine zy ?_
    refine dmv rfl ?_
    refine dq (zx rfl rfl (by omega) (by omega)) ?_
    refine das rfl ?_
    refine dn ?_
    refine zu ?_
    exact ⟨(i + j) / 2 + 1, j, ⟨by omega, by rw [hLl]; exact hjl, zrT hs hxL (zgP.1 h3), hb⟩, by dsimp only; omega, ⟨rfl, rfl, trivial⟩, (by repeat (first | exact zo | refine zt rfl ?_ | refine zp rfl rfl ?_)), List.Perm.refl _⟩
   ·try simp at h4
    refine zy ?_
    refine dmv rfl ?_
    refine das rfl ?_
    refine dn ?_
    refine zu ?_
    exact ⟨i, (i + j) / 2, ⟨by omega, by omega, ha, zrO hs hxL (by have q := fun e => (show ¬ zaH x.Player s < 0 by omega) (zgP.2 e); simpa using q)⟩, by dsimp only; omega, ⟨rfl, rfl, trivial⟩, (by repeat (first | exact zo | refine zt rfl ?_ | refine zp rfl rfl ?_)), List.Perm.refl _⟩
  ·try simp at h2
   obtain rfl : i = j := by omega
   have hjl2 : i ≤ (l.map (·.Player)).length := by rw [hLl]; exact hjl
   refine zL ?_
   refine zS ?_
   refine za8 ?_
   refine zD ?_
   refine zd ?_
   refine za ?_
   refine dmv rfl ?_
   refine dmv rfl ?_
   refine dmv rfl ?_
   refine dq (zK rfl rfl) ?_
   refine dmv rfl ?_
   refine dg rfl rfl (fun hc => ⟨_, OpenTo.refl _, zh rfl⟩) ?_
   refine dg rfl rfl (fun hc => ⟨_, OpenTo.refl _, zh rfl⟩) ?_
   refine dg rfl rfl (fun hc => ⟨_, OpenTo.refl _, zh rfl⟩) ?_
   refine dg rfl rfl (fun hc => by have hq := hc; (try simp at hq); exact ⟨_, OpenTo.upd (t := 42) rfl (by first | exact hc | simp_all) (OpenTo.upd (t := 41) rfl (by first | exact hc | simp_all) (OpenTo.refl _)), zH (j := i) (a := l.getD i zbB) zcC za1 rfl rfl rfl (getD_some (by omega))⟩) ?_
   refine dg rfl rfl (fun hc => ⟨_, OpenTo.upd (t := 43) rfl (by first | exact hc | simp_all) (OpenTo.refl _), zB za1 rfl rfl rfl rfl⟩) ?_
   refine dg rfl rfl (fun hc => ⟨_, OpenTo.refl _, zh rfl⟩) ?_
   refine dg rfl rfl (fun hc => ⟨_, OpenTo.upd (t := 45) rfl (by first | exact hc | simp_all) (OpenTo.upd (t := 44) rfl (by first | exact hc | simp_all) (OpenTo.upd (t := 40) rfl (by first | exact hc | simp_all) (OpenTo.refl _))), zej hca rfl rfl (WeakL.refl _) (hp _)⟩) ?_
   refine dg rfl rfl (fun hc => ⟨_, OpenTo.upd (t := 46) rfl (by first | exact hc | simp_all) (OpenTo.refl _), zaz rfl rfl⟩) ?_
   refine dq (zw rfl (.inr ⟨_, rfl, fun h => by simp_all⟩) (.inl rfl)) ?_
   refine das rfl ?_
   refine das rfl ?_
   refine dn ?_
   refine zg ?_
   refine zm rfl ?_
   rw [zlb hjl2 ha hb, ← znz hs hjl2 ha hb, ← zqo]

/-- benchwarmer/trade.did$1 -/
theorem zmc [Tracks] {x : OwnerS} {s : Str}  : ConP Tryz.prog 81 [zaZ x, .str s] (.int .i64 (zaH x.Player s)) := by
 refine Con.of_body Tryz.func81 rfl Tryz.ntmps81 rfl rfl ?_
 refine za ?_
 refine dq (zam rfl rfl) ?_
 refine das rfl ?_
 refine dn ?_
 refine za ?_
 refine dq (zb za1 rfl ty9 (by decide) rfl) ?_
 refine dq (zc ty9 rfl rfl rfl) ?_
 refine dmv rfl ?_
 refine dq (zj zlg rfl (WeakL.refl _) zbE) ?_
 refine das rfl ?_
 refine dn ?_
 refine zg ?_
 refine zm rfl ?_
 rfl

set_option maxHeartbeats 1000000 in
/-- benchwarmer/trade.did -/
theorem zn5 [Tracks] {m : MarketS} {o : List OwnerS} {x : DealS} (ht : m.Teams.length ≤ 1000000) (h0o : 0 < o.length) (ho : o.length ≤ 1000000) (hs : SortedS (o.map (·.Player))) (hx : x.Gives.length ≤ 1000000) : ConP Tryz.prog 41 [.vptr (zl (zca m)) 0, zcD o, zi6 x] (.tup [zcD (zeL o x.Gives), .bool (zea m o x.Gives)]) := by
 refine Con.of_body Tryz.func41 rfl Tryz.ntmps41 rfl rfl ?_
 refine za ?_
 refine dq (zam rfl rfl) ?_
 refine das rfl ?_
 refine das rfl ?_
 refine dn ?_
 refine za ?_
 refine dmv rfl ?_
 refine de rfl (zgd ca79 rfl (WeakL.refl _) (zdR (l := o) ho) fun v14 => ?_)
 refine das rfl ?_
 refine dn ?_
 refine zf ?_
 refine zi8 (i := 0) rfl (fun h0 he => ?_) (fun ob off cap hv hcap => ?_)
 ·exfalso; have := congrArg List.length he; simp at this; subst this; simp at h0o
 rw [List.length_map] at hv hcap
 subst hv
 refine za ?_
 refine dq ((by first | exact zb zbS rfl zc0 (by decide) rfl | exact zq zbS rfl zc0 (by decide) rfl)) ?_
 refine dq (zc zc0 rfl rfl rfl) ?_
 refine dq (zv zc0 rfl) ?_
 refine dmv rfl ?_
 refine dn ?_
 refine zk ?_
 refine zaS [6, 7, 10, 11, 12, 18, 19, 20, 21, 22, 23, 24, 25, 26, 27, 28, 29, 30, 31, 32, 33, 34, 35, 36, 37, 38, 39, 40, 41, 42, 43, 44, 45, 46, 47] (fun (k : Nat) (D : List OwnerS) => [(18, .int .i64 k)]) (fun (k : Nat) (D : List OwnerS) => [.arr (.slice (some ⟨ob, off, none⟩) o.length cap) 2 (D.map zaZ)]) (fun (k : Nat) (D : List OwnerS) => k ≤ x.Gives.length ∧ (zbl o x.Gives = zbl D (x.Gives.drop k) ∧ D.map (·.Player) = o.map (·.Player))) (fun (k : Nat) (D : List OwnerS) => x.Gives.length - k) (0) (o) ?_ ?_ ?_ ?_
 ·exact ⟨Nat.zero_le _, rfl, rfl⟩
 ·exact ⟨rfl, trivial⟩
 ·exact zU rfl
 ·intro k D hinv
  obtain ⟨hk, hf, hD⟩ := hinv
  have hDs : SortedS (D.map (·.Player)) := by rw [hD]; exact hs
  have hDl : D.length = o.length := by have := congrArg List.length hD; simpa using this
  refine za ?_
  refine dq (zK rfl rfl) ?_
  refine dn ?_
  refine zf ?_
  refine ze rfl (fun h1 => ?_) (fun h2 => ?_)
  ·try simp at h1
   obtain ⟨g, hg⟩ : ∃ g, x.Gives[k]? = some g := ⟨_, List.getElem?_eq_getElem h1⟩
   have hdg := zI hg
   rw [hdg] at hf
   refine zi ?_
   refine zd ?_
   refine zf ?_
   refine zk ?_
   refine za ?_
   refine dq (zH zc0 zbp rfl rfl rfl (by first | assumption | simp_all)) ?_
   refine dq (zB zbp rfl rfl rfl rfl) ?_
   refine de rfl (zO zbp rfl fun b10 => ?_)
   refine de0 (zR zbp rfl rfl rfl rfl rfl ?_)
   refine dn ?_
   refine zF (Ghost.fc0 10 rfl) ?_
   refine za ?_
   refine dmv rfl ?_
   refine dq ((by first | exact zb zbp rfl ty9 (by decide) rfl | exact zq zbp rfl ty9 (by decide) rfl)) ?_
   refine dq (zc ty9 rfl rfl rfl) ?_
   refine de rfl (zqy (hs' := [zcD D, .str g.Player, .fn (.func 81) [] []]) ca80 rfl ⟨.arr (i := 0) rfl, .weak (Weak.refl _), .weak (Weak.refl _), trivial⟩ (zen (l := D) (s := g.Player) ca81 (fun _ => zmc) (by omega) hDs) rfl ?_)
   refine dmv rfl ?_
   refine dq (zJ rfl rfl) ?_
   refine dq (zJ rfl rfl) ?_
   refine das rfl ?_
   refine das rfl ?_
   refine dn ?_
   refine zf ?_
   refine zaF (fun M => M = [.arr (.slice (some ⟨ob, off, none⟩) o.length cap) 2 (D.map zaZ)]) [7] mixed ?_
   refine ahp 0 rfl rfl (by kernel_rfl) (by kernel_rfl) (zh rfl) ?_
   refine ahp 1 rfl rfl (by kernel_rfl) (by kernel_rfl) (zW rfl) ?_
   refine ahp 2 rfl rfl (by kernel_rfl) (by kernel_rfl) (zh rfl) ?_
   refine ahg 3 rfl rfl (by kernel_rfl) (by kernel_rfl) rfl (fun hc => ⟨_, OpenTo.refl _, zh rfl⟩) ?_
   refine ahg 4 rfl rfl (by kernel_rfl) (by kernel_rfl) rfl (fun hc => ⟨_, OpenTo.refl _, zh rfl⟩) ?_
   refine ahg 5 rfl rfl (by kernel_rfl) (by kernel_rfl) rfl (fun hc => by
    obtain ⟨hql, hq1, hq2, hq3⟩ := ziN hDs (by simpa using hc)
    exact ⟨_, OpenTo.upd (t := 33) rfl (by first | exact hc | simp_all) (OpenTo.upd (t := 32) rfl (by first | exact hc | simp_all) (OpenTo.refl _)), zbj (j := (zcR (D.map (·.Player)) g.Player)) zcC za1 rfl rfl rfl (by omega)⟩) ?_
   refine ahg 6 rfl rfl (by kernel_rfl) (by kernel_rfl) rfl (fun hc => ⟨_, OpenTo.upd (t := 34) rfl (by first | exact hc | simp_all) (OpenTo.refl _), (by first | exact zb za1 rfl ty9 (by decide) rfl | exact zq za1 rfl ty9 (by decide) rfl)⟩) ?_
   refine zqO 7 rfl rfl (by kernel_rfl) (by kernel_rfl) (by simp) rfl rfl (fun hc => ⟨_, OpenTo.upd (t := 35) rfl (by first | exact hc | simp_all) (OpenTo.refl _), fun M hM => by
    obtain ⟨hql, hq1, hq2, hq3⟩ := ziN hDs (by simpa using hc); subst hM; exact zn3 (i := 0) (j := (zcR (D.map (·.Player)) g.Player)) 1 ty9 rfl (by omega) rfl hq1 rfl rfl ⟨rfl, rfl⟩
    ⟩) ?_
   refine ahg 8 rfl rfl (by kernel_rfl) (by kernel_rfl) rfl (fun hc => ⟨_, OpenTo.refl _, (by first | exact zb zbp rfl ty9 (by decide) rfl | exact zq zbp rfl ty9 (by decide) rfl)⟩) ?_
   refine ahg 9 rfl rfl (by kernel_rfl) (by kernel_rfl) rfl (fun hc => ⟨_, OpenTo.upd (t := 37) rfl (by first | exact hc | simp_all) (OpenTo.refl _), zc ty9 rfl rfl rfl⟩) ?_
   refine ahg 10 rfl rfl (by kernel_rfl) (by kernel_rfl) rfl (fun hc => ⟨_, OpenTo.upd (t := 38) rfl (by first | exact hc | simp_all) (OpenTo.upd (t := 36) rfl (by first | exact hc | simp_all) (OpenTo.refl _)), zef rfl rfl⟩) ?_
   refine ahp 11 rfl rfl (by kernel_rfl) (by kernel_rfl) (zw rfl (.inl rfl) (.inr ⟨_, rfl, fun h => by simp_all⟩)) ?_
   refine ahz (by kernel_rfl) ?_
   refine ze rfl (fun h3 => ?_) (fun h4 => ?_)
   ·try simp at h3
    refine za ?_
    refine das rfl ?_
    refine das rfl ?_
    refine dn ?_
    refine zg ?_
    first
    | (refine zm rfl ?_
       rw [e1, e2])
    | (have hno : zbl o x.Gives = none := by
        by_cases hco : (D.map (·.Player)).contains g.Player = true
        ·obtain ⟨hql, hq1, hq2, hq3⟩ := ziN hDs hco
         exact zkU hf hq1 hq2 hq3 (by simpa using h3.resolve_left fun q => q _ (List.mem_of_getElem? hq1) hq2)
        ·exact zlw hf (zqa (by simpa using hco))
       obtain ⟨e1, e2⟩ := zlN (m := m) hno
       exact ⟨_, [], Ghost.clear, _, _, rfl, zbn (by rw [e2]; exact zaV 2) (by rw [e1]; exact Weak.refl _), rfl, rfl⟩)
   ·try simp at h4
    refine zi ?_
    refine zd ?_
    have hco : (D.map (·.Player)).contains g.Player = true := by simpa using h4.1
    obtain ⟨hql, hq1, hq2, hq3⟩ := ziN hDs hco
    refine zy ?_
    refine dmv rfl ?_
    refine dmv rfl ?_
    refine dq ((by first | exact zb zbp rfl ty9 (by decide) rfl | exact zq zbp rfl ty9 (by decide) rfl)) ?_
    refine dq (zc ty9 rfl rfl rfl) ?_
    refine dq (zbj (j := (zcR (D.map (·.Player)) g.Player)) zcC za1 rfl rfl rfl (by omega)) ?_
    refine dq ((by first | exact zb za1 rfl ty9 (by decide) rfl | exact zq za1 rfl ty9 (by decide) rfl)) ?_
    refine de0 (zd5 (i := 0) (j := (zcR (D.map (·.Player)) g.Player)) (f := 1) (y := zaZ (D.getD (zcR (D.map (·.Player)) g.Player) zbB)) (y' := zaZ ⟨(D.getD (zcR (D.map (·.Player)) g.Player) zbB).Player, g.To⟩) ty9 rfl (by omega) rfl rfl (zsy hq1) rfl rfl (by simp [zl]) rfl ?_)
    refine dn ?_
    refine zu ?_
    refine zd ?_
    refine zy ?_
    refine dq (zx rfl rfl (by omega) (by omega)) ?_
    refine dmv rfl ?_
    refine dn ?_
    exact ⟨k + 1, _, ⟨by omega, zqC hf hq1 hq2 hq3 (by simpa using h4.2), by rw [zkC hq1, hD]⟩, by dsimp only; omega, ⟨rfl, trivial⟩, (by repeat (first | exact zo | refine zt rfl ?_ | refine zp rfl rfl ?_)), zU (by dsimp only; rw [List.map_set]; rfl)⟩
  ·try simp at h2
   have hnk : x.Gives.length ≤ k := by omega
   obtain rfl : k = x.Gives.length := by omega
   rw [zaq (Nat.le_refl _), zbl] at hf
   refine zL ?_
   refine zS ?_
   refine za8 ?_
   refine zD ?_
   refine zd ?_
   refine zF (Ghost.fa 8 (i := 0) rfl rfl) ?_
   obtain ⟨e1, e2⟩ := zlG (m := m) hf
   refine za ?_
   refine dmv rfl ?_
   refine dmv rfl ?_
   refine dmv rfl ?_
   refine dq (zj ca46 rfl (WeakL.refl _) (zg0 (by first | assumption | omega | (simp; omega) | simp_all) (by first | assumption | omega | (simp; omega) | simp_all))) ?_
   refine das rfl ?_
   refine das rfl ?_
   refine dn ?_
   refine zg ?_
   first
   | (refine zm rfl ?_
      rw [e1, e2])
   | (have hno : zbl o x.Gives = none := by
       by_cases hco : (D.map (·.Player)).contains g.Player = true
       ·obtain ⟨hql, hq1, hq2, hq3⟩ := ziN hDs hco
        exact zkU hf hq1 hq2 hq3 (by simpa using h3.resolve_left fun q => q _ (List.mem_of_getElem? hq1) hq2)
       ·exact zlw hf (zqa (by simpa using hco))
      obtain ⟨e1, e2⟩ := zlN (m := m) hno
      exact ⟨_, [], Ghost.clear, _, _, rfl, zbn (by rw [e2]; exact zaV 2) (by rw [e1]; exact Weak.refl _), rfl, rfl⟩)
end
section
open Go.HL
/-- benchwarmer/trade.tradeFault -/
theorem zia [Tracks] {m : MarketS} {o : List OwnerS} {x : DealS} (ht : m.Teams.length ≤ 1000000) (ho : o.length ≤ 1000000) (hx : x.Gives.length ≤ 1000000) : ConP Tryz.prog 40 [zca m, zcD o, zi6 x] (.int .i64 (zcj m o x)) := by
 refine Con.of_body Tryz.func40 rfl Tryz.ntmps40 rfl rfl ?_
 refine za ?_
 refine dq (zam rfl rfl) ?_
 refine dq (zam rfl rfl) ?_
 refine das rfl ?_
 refine dn ?_
 refine zaF (fun _ => True) [] mixed ?_
 refine ahp 0 rfl rfl (by kernel_rfl) (by kernel_rfl) (zB zb5 rfl rfl rfl rfl) ?_
 refine ahp 1 rfl rfl (by kernel_rfl) (by kernel_rfl) (zh rfl) ?_
 refine ahp 2 rfl rfl (by kernel_rfl) (by kernel_rfl) (zj ca15 rfl (WeakL.refl _) (zeI (by first | assumption | omega | (simp; omega) | simp_all) (by first | assumption | omega | (simp; omega) | simp_all))) ?_
 refine ahp 3 rfl rfl (by kernel_rfl) (by kernel_rfl) (zB zb5 rfl rfl rfl rfl) ?_
 refine ahp 4 rfl rfl (by kernel_rfl) (by kernel_rfl) (zB zbS rfl rfl rfl rfl) ?_
 refine ahp 5 rfl rfl (by kernel_rfl) (by kernel_rfl) (zG (hs := [_]) zkk zbS rfl rfl (by decide) (by decide) rfl) ?_
 refine ahp 6 rfl rfl (by kernel_rfl) (by kernel_rfl) (zj ca78 rfl (WeakL.refl _) (zhQ (l := [x]) ht (by simp) (by simpa using hx))) ?_
 refine ahp 7 rfl rfl (by kernel_rfl) (by kernel_rfl) (zG (hs := [_, _]) zjb zlc rfl rfl (by decide) (by decide) rfl) ?_
 refine ahp 8 rfl rfl (by kernel_rfl) (by kernel_rfl) (zj zpq rfl (WeakL.refl _) (zey (l := [_, _]) (by simp))) ?_
 refine ahp 9 rfl rfl (by kernel_rfl) (by kernel_rfl) (zaJ rfl) ?_
 refine ahz (by kernel_rfl) ?_
 refine zg ?_
 refine zm rfl ?_
 rfl

/-- benchwarmer/trade.Did -/
theorem znV [Tracks] {m : MarketS} {o : List OwnerS} {x : DealS} (ht : m.Teams.length ≤ 1000000) (h0o : 0 < o.length) (ho : o.length ≤ 1000000) (hx : x.Gives.length ≤ 1000000) : ConP Tryz.prog 13 [zca m, zcD o, zi6 x] (.tup [zcD (zeT m o x), .int .i64 (ziM m o x)]) := by
 refine Con.of_body Tryz.func13 rfl Tryz.ntmps13 rfl rfl ?_
 refine za ?_
 refine dq (zam rfl rfl) ?_
 refine dq (zam rfl rfl) ?_
 refine das rfl ?_
 refine das rfl ?_
 refine dn ?_
 refine zf ?_
 refine za ?_
 refine dq (zB zb5 rfl rfl rfl rfl) ?_
 refine dmv rfl ?_
 refine dq (zB zbS rfl rfl rfl rfl) ?_
 refine dq (zj ca40 rfl (WeakL.refl _) (zia (by first | assumption | omega | (simp; omega) | simp_all) (by first | assumption | omega | (simp; omega) | simp_all) (by first | assumption | omega | (simp; omega) | simp_all))) ?_
 refine das rfl ?_
 refine dn ?_
 refine za ?_
 refine dmv rfl ?_
 refine dq (zah rfl rfl) ?_
 refine dn ?_
 refine ze rfl (fun h1 => ?_) (fun h2 => ?_)
 ·try simp at h1
  refine za ?_
  refine dmv rfl ?_
  refine das rfl ?_
  refine das rfl ?_
  refine dn ?_
  refine zg ?_
  first
  | (refine ze4 rfl ?_
     obtain ⟨e1, e2⟩ := zj1 (m := m) (o := o) (x := x) (by simpa using h1)
     rw [e1, e2]
     exact zbn (zaV 2) (Weak.refl _))
  | (refine ze4 rfl ?_
     obtain ⟨e1, e2⟩ := zk8 hz (by simpa using h3)
     rw [e1, e2]
     exact zbn (zaV 2) (Weak.refl _))
  | (refine zm rfl ?_
     obtain ⟨e1, e2⟩ := zhy hz (by simpa using h4)
     rw [e1, e2]; rfl)
 ·try simp at h2
  refine zi ?_
  refine zd ?_
  have hz : zcj m o x = 0 := by simpa using h2
  obtain ⟨hso, hx40⟩ := zrr hz
  refine za ?_
  refine dmv rfl ?_
  refine dq (zB zbS rfl rfl rfl rfl) ?_
  refine dq (zj ca41 rfl (WeakL.refl _) (zn5 (m := m) (o := o) (x := x) ht h0o ho hso hx)) ?_
  refine dmv rfl ?_
  refine dq (zJ rfl rfl) ?_
  refine dq (zJ rfl rfl) ?_
  refine das rfl ?_
  refine das rfl ?_
  refine dn ?_
  refine zf ?_
  refine za ?_
  refine dmv rfl ?_
  refine dq (zW rfl) ?_
  refine dn ?_
  refine ze rfl (fun h3 => ?_) (fun h4 => ?_)
  ·try simp at h3
   refine za ?_
   refine das rfl ?_
   refine das rfl ?_
   refine dn ?_
   refine zg ?_
   first
   | (refine ze4 rfl ?_
      obtain ⟨e1, e2⟩ := zj1 (m := m) (o := o) (x := x) (by simpa using h1)
      rw [e1, e2]
      exact zbn (zaV 2) (Weak.refl _))
   | (refine ze4 rfl ?_
      obtain ⟨e1, e2⟩ := zk8 hz (by simpa using h3)
      rw [e1, e2]
      exact zbn (zaV 2) (Weak.refl _))
   | (refine zm rfl ?_
      obtain ⟨e1, e2⟩ := zhy hz (by simpa using h4)
      rw [e1, e2]; rfl)
  ·try simp at h4
   refine zi ?_
   refine zd ?_
   refine za ?_
   refine dmv rfl ?_
   refine das rfl ?_
   refine das rfl ?_
   refine dn ?_
   refine zg ?_
   first
   | (refine ze4 rfl ?_
      obtain ⟨e1, e2⟩ := zj1 (m := m) (o := o) (x := x) (by simpa using h1)
      rw [e1, e2]
      exact zbn (zaV 2) (Weak.refl _))
   | (refine ze4 rfl ?_
      obtain ⟨e1, e2⟩ := zk8 hz (by simpa using h3)
      rw [e1, e2]
      exact zbn (zaV 2) (Weak.refl _))
   | (refine zm rfl ?_
      obtain ⟨e1, e2⟩ := zhy hz (by simpa using h4)
      rw [e1, e2]; rfl)
end
end Go.Proofs.YtkcnenknbbcoiaaGreatDoor
namespace Go.HL
section
section
variable {P : Program} {e : Env} {dst : Option Tmp} {ty : TypeId} {pos : String} {af : Array Edge} {g : Option (Nat × Bool)} {M : List MObj} {K : HVal → List MObj → Prop}
end
end
section
open Go.Proofs Go.RowKit Go.Maps Go.Sort Go.Shelf
section
variable {P : Program} {ρ : Ren}
/-- The iterator value gives the list l to any body that keeps what lay below the world w. -/
def zmR (F : Fence) (n : Nat) (P : Program) (g : Nat) (lb : Array Value) (l : List (List UInt8)) (w : World) : Prop :=
 ∀ (i : Nat) (J : List (List UInt8) → World → Prop) (W : World), Below w.heap.size w W → AbidesFrom W.heap.size J → (∀ pre W1, J pre W1 → Below w.heap.size w W1) →
  (∀ pre x W1, J pre W1 → pre.length < l.length → YieldAt F (n - 1) P i #[encStr x] W1 fun e W' => e = .returned (.bool true) ∧ J (pre ++ [x]) W' ∧ KeepsWalks W1 W') →
  J [] W → CallsIn F n P g (#[.func (.yield i) #[] #[]] ++ lb) W fun e W' => (∃ v, e = .returned v) ∧ J l W'
set_option maxRecDepth 100000 in
set_option maxHeartbeats 2000000 in
theorem zpu (L : SlLaysZ.n11 P ρ) (F : Fence) (n : Nat) (h11 : F.fn (ρ.f 11)) (hro : F.round = none) (hn : 2 ≤ n) (g : Nat) (lb : Array Value) (hFg : F.fn g) (eg : ∀ args w, (callFunc g args).run P w = .ok (.enter g args) w)
 (l : List (List UInt8)) (hN : l.length ≤ maxLen) (hNb : l.length * 16 ≤ 140737488355328) (w : World) (hseq : zmR F (n - 1) P g lb l w) :
 CallsIn F n P (ρ.f 11) #[.slice none 0 0, .func (.func g) #[] lb] w fun e w' => ∃ v : Value, e = .returned v ∧ w'.ownsRow w.heap.size (ρ.t 26) 1 v l.length (l.map encStr) ∧ (v = .slice none 0 0 ↔ l = []) ∧ Below w.heap.size w w' := by
 have h1 : 1 ≤ n := by omega
 have mixed := L.mixed; have t0 := L.t0; have a0 := L.a0; have z0 := L.z0; have v0 := L.v0; have t24 := L.t24; have a24 := L.a24; have z24 := L.z24; have v24 := L.v24; have t26 := L.t26; have a26 := L.a26; have z26 := L.z26; have v26 := L.v26; have t28 := L.t28; have a28 := L.a28; have z28 := L.z28; have v28 := L.v28
 have hne : ρ.t 24 ≠ ρ.t 26 := fun e => by have h := L.t24; rw [e, L.t26] at h; cases h
 have u0 := run_underlying L.t0; have u24 := run_underlying L.t24; have u26 := run_underlying L.t26; have u28 := run_underlying L.t28
 obtain ⟨_, _, FG⟩ := L.f11
 refine callsIn_of_wp_marks FG rfl h11 ?_ hro
 simp only [SlBodyZ.n11_ntmps ρ, List.size_toArray, List.length_cons, List.length_nil, Nat.reduceAdd, Nat.reduceSub, Array.replicate_succ, Array.replicate_zero, List.push_toArray, List.append_toArray, List.nil_append, List.cons_append]
 gi_wp2
 refine wpIn_rangeFunc ?_
 intro fn hfn
 rw [hro]
 obtain ⟨W0, hW0⟩ : ∃ W0, w.alloc (.cells #[.slice none 0 0] (ρ.t 24)) = W0 := ⟨_, rfl⟩
 have hs0 : W0.heap.size = w.heap.size + 1 := by rw [← hW0]; simp
 have hv0 : W0.heap[w.heap.size]? = some (.cells #[.slice none 0 0] (ρ.t 24) (0, 0)) := by rw [← hW0]; exact World.alloc_heap_new w _
 have hb0 : Below w.heap.size w W0 := by rw [← hW0]; exact (Below.refl _ w).alloc (Nat.le_refl _) _
 rw [hW0]
 obtain ⟨W1, hW1⟩ : ∃ W1, (W0.alloc (.deferred (some []))).alloc (.loop (AnyZ.apRec ρ fn (.func (.func g) #[] lb) w.heap.size W0.heap.size .ready none)) = W1 := ⟨_, rfl⟩
 have hold : ∀ k, k < W0.heap.size → W1.heap[k]? = W0.heap[k]? := fun k hk => by
  rw [← hW1]; exact (Below.heap_alloc _ _ k (by simp; omega)).trans (Below.heap_alloc _ _ k hk)
 have hb1 : Below w.heap.size w W1 := by rw [← hW1]; exact (hb0.alloc hb0.size _).alloc (by have := hb0.size; simp; omega) _
 have hs1 : W1.heap.size = W0.heap.size + 2 := by rw [← hW1]; simp
 have hM : AnyZ.ApAt ρ w fn (.func (.func g) #[] lb) w.heap.size (W0.heap.size + 1) W0.heap.size [] W1 :=
  ⟨⟨_, (hold w.heap.size (by omega)).trans hv0, ⟨rfl, .inl ⟨rfl, rfl⟩⟩, by simp⟩,
   by rw [← hW1]; have := World.alloc_heap_new (W0.alloc (.deferred (some []))) (.loop (AnyZ.apRec ρ fn (.func (.func g) #[] lb) w.heap.size W0.heap.size .ready none)); rwa [World.size_alloc] at this,
   by rw [← hW1]; exact (Below.heap_alloc _ _ _ (by simp)).trans (World.alloc_heap_new W0 _), hb1⟩
 refine ⟨W0.heap.size + 1, [{ target := .collected W0.heap.size, args := #[] }], W1, { target := .fn (.func g) lb, args := #[.func (.yield (W0.heap.size + 1)) #[] #[]] }, W1, g, #[.func (.yield (W0.heap.size + 1)) #[] #[]] ++ lb, W1, ?_, ?_, ?_, ?_, fun _ => h1, ?_⟩
 ·rw [← hW1]; exact run_enterLoop_outer _ _ _ _ _
 ·simp [resolve, go_sem]
 ·intro f' hf'; simp [Target.leads] at hf'; subst hf'; exact hFg
 ·simp [invoke, go_sem, eg]
 ·refine (hseq (W0.heap.size + 1) (AnyZ.ApAt ρ w fn (.func (.func g) #[] lb) w.heap.size (W0.heap.size + 1) W0.heap.size) W1 hb1 (AnyZ.ap_abides ρ _ _ _ _ _ _ _ hb1.size) (fun _ _ h => h.below)
   (fun pre x W hJ hl => AnyZ.apYield { L with } F (n - 1 - 1) w fn hfn _ w.heap.size (W0.heap.size + 1) W0.heap.size (by omega) (by omega) (by omega) (Nat.le_refl _) (by omega) l.length hN hNb pre x W hJ hl) hM).mono ?_
  rintro e W2 ⟨⟨v0, rfl⟩, h2⟩
  obtain ⟨v, hv, hrow, hnil⟩ := h2.box
  have hend := run_endLoop (P := P) h2.L (by simp [AnyZ.apRec])
  obtain ⟨W3, hW3⟩ : ∃ W3, W2.putObj (W0.heap.size + 1) (.loop { AnyZ.apRec ρ fn (.func (.func g) #[] lb) w.heap.size W0.heap.size .ready none with state := .exhausted }) = W3 := ⟨_, rfl⟩
  rw [hW3] at hend
  have hg3 : W2.grownBy W3 (some (W0.heap.size + 1)) := by rw [← hW3]; exact grownBy_putObj_a _ _ _
  have hv3 : W3.heap[w.heap.size]? = some (.cells #[v] (ρ.t 24) (0, 0)) := by rw [← hW3]; exact (World.putObj_heap_other (by omega)).trans hv
  have hK3 : W3.heap[W0.heap.size]? = some (.deferred (some [])) := by rw [← hW3]; exact (World.putObj_heap_other (by omega)).trans h2.K
  have hrow3 := hrow.kept hg3 (ownsRow_ne_a hrow h2.L (fun cur e => by first | cases e | exact hne (Obj.cells.inj e).2.1))
  have hb3 : Below w.heap.size w W3 := h2.below.grown hg3 h2.below.size (fun k e => by cases e; omega)
  obtain ⟨hc3, hf3⟩ := cell_of_box_a hv3
  clear hW3
  refine ⟨none, W3, hend, ?_⟩
  gi_wp2
  rw [← hs0]
  refine ⟨by simp, .inl ⟨_, _, rfl, run_takeDeferred hK3, ?_⟩⟩
  exact ⟨_, results_tmp rfl _ _ _, v, rfl, hrow3.kept (grownBy_putObj_a _ _ _) (ownsRow_ne_a hrow3 hK3 (fun cur e => by first | cases e | exact hne (Obj.cells.inj e).2.1)), hnil, hb3.grown (grownBy_putObj_a _ _ _) hb3.size (fun k e => by cases e; omega)⟩
theorem zqT (L : SlLaysZ.n8 P ρ) (F : Fence) (n : Nat) (h8 : F.fn (ρ.f 8)) (h11 : F.fn (ρ.f 11)) (hro : F.round = none) (hn : 3 ≤ n) (g : Nat) (lb : Array Value) (hFg : F.fn g) (eg : ∀ args w, (callFunc g args).run P w = .ok (.enter g args) w)
 (l : List (List UInt8)) (hN : l.length ≤ maxLen) (hNb : l.length * 16 ≤ 140737488355328) (w : World) (hseq : zmR F (n - 1 - 1) P g lb l w) :
 CallsIn F n P (ρ.f 8) #[.func (.func g) #[] lb] w fun e w' => ∃ v : Value, e = .returned v ∧ w'.ownsRow w.heap.size (ρ.t 26) 1 v l.length (l.map encStr) ∧ (v = .slice none 0 0 ↔ l = []) ∧ Below w.heap.size w w' := by
 have h1 : 1 ≤ n := by omega
 have e11 : ∀ args w, (callFunc (ρ.f 11) args).run P w = .ok (.enter (ρ.f 11) args) w := L.f11.enters rfl
 have mixed := L.mixed; have t0 := L.t0; have a0 := L.a0; have z0 := L.z0; have v0 := L.v0; have t24 := L.t24; have a24 := L.a24; have z24 := L.z24; have v24 := L.v24; have t26 := L.t26; have a26 := L.a26; have z26 := L.z26; have v26 := L.v26; have t28 := L.t28; have a28 := L.a28; have z28 := L.z28; have v28 := L.v28
 have u0 := run_underlying L.t0; have u24 := run_underlying L.t24; have u26 := run_underlying L.t26; have u28 := run_underlying L.t28
 obtain ⟨_, _, FG⟩ := L.f8
 refine callsIn_of_wp FG rfl h8 ?_ hro
 simp only [SlBodyZ.n8_ntmps ρ, List.size_toArray, List.length_cons, List.length_nil, Nat.reduceAdd, Nat.reduceSub, Array.replicate_succ, Array.replicate_zero, List.push_toArray, List.append_toArray, List.nil_append, List.cons_append]
 gi_wp2_with (gi_at_fn (ρ.f 11); refine (zpu { L with } F (n - 1) h11 hro (by omega) g lb hFg eg l hN hNb _ hseq).mono ?_; rintro e w' ⟨v, rfl, hrow, hnil, hb⟩)
 go_ret
 exact ⟨v, rfl, hrow, hnil, hb⟩
set_option maxRecDepth 100000 in
set_option maxHeartbeats 2000000 in
theorem zss (L : SlLaysZ.n6 P ρ) (F : Fence) (n : Nat) (h6 : F.fn (ρ.f 6)) (h8 : F.fn (ρ.f 8)) (h9 : F.fn (ρ.f 9)) (h11 : F.fn (ρ.f 11)) (hro : F.round = none) (hn : 4 ≤ n) (hsort : AnyZ.SortsIn P ρ F (n - 1)) (e9 : ∀ args w, (callFunc (ρ.f 9) args).run P w = .ok (.enter (ρ.f 9) args) w) (g : Nat) (lb : Array Value) (hFg : F.fn g) (eg : ∀ args w, (callFunc g args).run P w = .ok (.enter g args) w)
 (l : List (List UInt8)) (hN : l.length ≤ maxLen) (hNb : l.length * 16 ≤ 140737488355328) (w : World) (hseq : zmR F (n - 1 - 1 - 1) P g lb l w) :
 CallsIn F n P (ρ.f 6) #[.func (.func g) #[] lb] w fun e w' => ∃ v : Value, e = .returned v ∧ w'.ownsRow w.heap.size (ρ.t 26) 1 v l.length ((l.mergeSort (fun x y => decide (x ≤ y))).map encStr) ∧ Below w.heap.size w w' := by
 have h1 : 1 ≤ n := by omega
 have e8 : ∀ args w, (callFunc (ρ.f 8) args).run P w = .ok (.enter (ρ.f 8) args) w := L.f8.enters rfl
 have mixed := L.mixed; have t0 := L.t0; have a0 := L.a0; have z0 := L.z0; have v0 := L.v0; have t24 := L.t24; have a24 := L.a24; have z24 := L.z24; have v24 := L.v24; have t26 := L.t26; have a26 := L.a26; have z26 := L.z26; have v26 := L.v26; have t28 := L.t28; have a28 := L.a28; have z28 := L.z28; have v28 := L.v28
 have u0 := run_underlying L.t0; have u24 := run_underlying L.t24; have u26 := run_underlying L.t26; have u28 := run_underlying L.t28
 obtain ⟨_, _, FG⟩ := L.f6
 refine callsIn_of_wp FG rfl h6 ?_ hro
 simp only [SlBodyZ.n6_ntmps ρ, List.size_toArray, List.length_cons, List.length_nil, Nat.reduceAdd, Nat.reduceSub, Array.replicate_succ, Array.replicate_zero, List.push_toArray, List.append_toArray, List.nil_append, List.cons_append]
 gi_wp2_with (gi_at_fn (ρ.f 8); refine (zqT { L with } F (n - 1) h8 h11 hro (by omega) g lb hFg eg l hN hNb _ hseq).mono ?_; rintro e W ⟨v, rfl, hrow, hnil, hb⟩)
 rcases hrow.2 with ⟨rfl, hz⟩ | ⟨gb, cap, cur, rfl, hbase, hgb, r1, r2, r3, r4⟩
 ·have hss : l = [] := List.eq_nil_of_length_eq_zero hz
  subst hss
  gi_wp2_with (gi_at_fn (ρ.f 9); refine (hsort.2 none 0 W).mono ?_; rintro e w' ⟨rfl, rfl⟩)
  go_ret
  exact ⟨.slice none 0 0, rfl, by simpa using hrow, hb⟩
 ·have hH : Holds encStr W gb 0 l.toArray := holds_of_block hgb (by simpa using r4)
  have hgl : gb < W.heap.size := (Array.getElem?_eq_some_iff.1 hgb).1
  have hsz : l.length < 4611686018427387904 := by omega
  have cS := hsort.1 gb 0 cap l W hH hgl hsz
  gi_wp2_with (gi_at_fn (ρ.f 9); refine cS.mono ?_; rintro e w' ⟨rfl, nn, os, rfl⟩)
  go_ret
  exact ⟨_, rfl, ownsRow_sorted (by simp) hbase hgb r1 r2 r3, hb.grown (grownBy_sorted _) hb.size (fun j hj => by cases hj; exact hbase)⟩
end
end
section
open Go.Proofs Go.RowKit Go.Maps Go.Sort Go.Shelf
/-- The slice value sv holds the strings l. -/
def zmW (w : World) (sv : Value) (l : List (List UInt8)) : Prop :=
 (∃ a cap, sv = .slice a 0 cap ∧ l = []) ∨ ∃ b off cap, sv = .slice (some ⟨b, off, none⟩) l.length cap ∧ b < w.heap.size ∧ ∀ j, j < l.length → w.cell? ⟨b, off + j, none⟩ = some (encStr (l[j]?.getD []))
section
variable {P : Program}
theorem zqg [Tracks] {I : Imm} {w : World} {M : List MObj} (hs : Sat P I M w) {l : List Str} {sv : Value} (hv : V I (.slice 1 (l.map .str)) sv) : zmW w sv l := by
 generalize hc : HVal.slice 1 (l.map .str) = c at hv
 cases hv with
 | slice0 sz a cap =>
   have : l = [] := by injection hc with _ h2; simpa using h2
   exact .inl ⟨a, cap, rfl, this⟩
 | slice hI hsz hcap hb hV =>
   injection hc with h1 h2
   subst h1 h2
   rename_i b off cap rc el fr
   have hw := hs.imm _ _ hI
   refine .inr ⟨b, off, cap, by rw [List.length_map], (Array.getElem?_eq_some_iff.1 hw).1, fun j hj => ?_⟩
   rw [List.length_map] at hb
   have hj2 : off + j < rc.size := by omega
   have h3 := hV j 0 (.str l[j]) (.str l[j]) rc[off + j] (by rw [List.getElem?_map, List.getElem?_eq_getElem hj]; rfl) rfl (by simp [Array.getElem?_eq_getElem hj2])
   cases hr : rc[off + j] with
   | _ => rw [hr] at h3; cases h3 <;> simp [World.cell?, hw, Array.getElem?_eq_getElem hj2, hr, List.getElem?_eq_getElem hj, encStr]
 | raw v h1 => cases hc
 | _ => cases hc
theorem zn8 [Tracks] (hT : Tracks.on = false) {ρ : Ren} (L : SlLaysZ.n6 P ρ) (hsort : ∀ m, AnyZ.SortsIn P ρ Fence.wide m) {g : Nat}
 (e9 : ∀ args w, (callFunc (ρ.f 9) args).run P w = .ok (.enter (ρ.f 9) args) w) (eg : ∀ args w, (callFunc g args).run P w = .ok (.enter g args) w)
 {l : List Str} (hl : l.length ≤ 1000000) {bx : Nat}
 (hseq : ∀ (sv : Value) (w : World), bx < w.heap.size → w.cell? ⟨bx, 0, none⟩ = some sv → zmW w sv l → zmR Fence.wide 2 P g #[.pointer (some ⟨bx, 0, none⟩)] l w) :
 Con P (ρ.f 6) [.fn (.func g) [] [.raw (.pointer (some ⟨bx, 0, none⟩))]] [.cells bx [.slice 1 (l.map .str)]] fun x M' => ∃ v, x = .raw v ∧ M' = [.arr v 1 ((zar l).map .str)] := by
 intro I F w args ha hsat
 obtain ⟨u, rfl, hu⟩ := ha.one
 obtain ⟨v1, v2, rfl, hv1, hv2, hc⟩ : ∃ v1 v2, u = .func (.func g) v1 v2 ∧ v1 = #[] ∧ v2.size = 1 ∧ ∀ (j : Nat) (c : HVal) (v : Value), [HVal.raw (.pointer (some ⟨bx, 0, none⟩))][j]? = some c → v2[j]? = some v → V I c v := by
  cases hu with
  | fn h1 h2 h3 h4 => exact ⟨_, _, rfl, Array.eq_empty_of_size_eq_zero (by simpa using h1), by simpa using h2, h4⟩
 subst hv1
 obtain rfl : v2 = #[.pointer (some ⟨bx, 0, none⟩)] := by
  match v2, hv2 with
  | ⟨[y]⟩, _ => have := (hc 0 _ y rfl rfl).raw_inv; rw [this]
 obtain ⟨rc, el, fr, c1, c2, c3⟩ := hsat.obj (.cells bx [.slice 1 (l.map .str)]) (by simp)
 have hbx : bx < w.heap.size := (Array.getElem?_eq_some_iff.1 c1).1
 obtain ⟨sv, hsv, hcell⟩ : ∃ sv, V I (.slice 1 (l.map .str)) sv ∧ w.cell? ⟨bx, 0, none⟩ = some sv := by
  have := c3.1
  match rc, this, c1, c3 with
  | ⟨[y]⟩, _, c1, c3 => exact ⟨y, c3.head, by simp [World.cell?, c1]⟩
 have hstr := zqg hsat hsv
 have cS := zss L Fence.wide 5 trivial trivial trivial trivial rfl (by omega) (hsort _) e9 g #[.pointer (some ⟨bx, 0, none⟩)] trivial eg l (Nat.le_trans hl (by decide)) (by omega) w (hseq sv w hbx hcell hstr)
 refine ((callsIn_wide (n := 5)).1 cS).mono ?_
 rintro e w' ⟨v, rfl, hrow, hb⟩
 have hss : (l.mergeSort fun x y => decide (x ≤ y)) = zar l := mergeSort_of_perm (List.Perm.refl _)
 rw [hss] at hrow
 have hlen : l.length = (zar l).length := (zch _).symm
 have hmem : MSat I w' (.arr v 1 ((zar l).map .str)) := by
  rcases hrow.2 with ⟨rfl, hz⟩ | ⟨gb, cap, cur, rfl, hbase, hgb, r1, r2, r3, r4⟩
  ·refine .inl ⟨rfl, ?_⟩
   have : zar l = [] := List.length_eq_zero_iff.1 (by omega)
   rw [this]; rfl
  ·refine .inr ⟨gb, 0, cap, cur, _, _, by rw [List.length_map, ← hlen], hgb, Free.zero _, fun e he => ?_, ⟨by rw [List.length_map]; omega, Nat.le_trans r2 (by decide)⟩, by omega, fun i j e c y h1 h2 h3 => ?_⟩
   ·obtain ⟨s, _, rfl⟩ := List.mem_map.1 he; rfl
   ·rw [List.getElem?_map] at h1
    cases hq : (zar l)[i]? with
    | none => rw [hq] at h1; cases h1
    | some s =>
      rw [hq] at h1
      simp only [Option.map_some, Option.some.injEq] at h1
      subst h1
      have hj : j = 0 := by
       cases j with
       | zero => rfl
       | succ j => simp [zl] at h2
      subst hj
      simp only [zl, List.getElem?_cons_zero, Option.some.injEq] at h2
      subst h2
      have hi := zC hq
      have h4 : (cur.toList.take (l.length * 1))[i]? = some (encStr s) := by rw [r4, List.getElem?_map, hq]; rfl
      rw [List.getElem?_take_of_lt (by omega), Array.getElem?_toList] at h4
      have e0 : 0 + i * 1 + 0 = i := by omega
      rw [e0, h4] at h3
      cases h3
      exact .str s
 refine ⟨v, .raw v, _, I, rfl, .refl I, ⟨v, rfl, rfl⟩, ?_, ?_⟩
 ·rcases hrow.2 with ⟨rfl, _⟩ | ⟨gb, cap, cur, rfl, _⟩
  ·exact .raw _ rfl
  ·exact .raw _ rfl
 ·refine hsat.change (m' := .arr v 1 _) (fun k hk _ => hb.block k hk) (fun k hk => .inr ?_) ?_ hmem hb.os hb.output hb.tape (fun ht => by rw [hT] at ht; cases ht)
  ·rcases hrow.2 with ⟨rfl, _⟩ | ⟨gb, cap, cur, rfl, hbase, _⟩
   ·simp [MObj.blocks] at hk
   ·simp [MObj.blocks] at hk; omega
  ·rcases hrow.2 with ⟨rfl, _⟩ | ⟨gb, cap, cur, rfl, hbase, _⟩ <;> simp [MObj.blocks]
end
end
section
section
variable {r : Room} {k : List Keep} {s : List Swap} {l : List Pick} {w : List Wish} {n : Int}
def fiL (r : Room) (k : List Keep) (s : List Swap) (l : List Pick) (w : List Wish) : List Pick := if zbc r k s l w != 0 then [] else zjR r k s w l
end
end
section
section
variable {r : Room} {k : List Keep} {s : List Swap} {l : List Pick}
def nxB (r : Room) (k : List Keep) (s : List Swap) (l : List Pick) : Bool := if zaf r k s l != 0 then false else decide (l.length < (zX r k s).length)
def leA (r : Room) (k : List Keep) (s : List Swap) (l : List Pick) : List Str := if zaf r k s l != 0 then [] else zi2 r k l
def zfo (A : List Pick) (p : Pick) : List Pick := A.set p.No.toNat p
def zdh (A l : List Pick) : List Pick := l.foldl zfo A
def zqb (r : Room) (A : List Pick) : List Wish := r.Teams.map fun t => ⟨t, (A.filter fun p => p.Team == t && !(p.Player == [])).map (·.Player)⟩
def zkN (r : Room) (A : List Pick) : List Wish := r.Teams.map fun t => ⟨t, (A.filter fun p => p.Team == t).map (·.Player)⟩
def teA (r : Room) (k : List Keep) (s : List Swap) (l : List Pick) : List Wish := if zaf r k s l != 0 then [] else zqb r (zdh (z8 r k s) l)
theorem zsV (h : zaf r k s l = 0) : leA r k s l = zi2 r k l := by simp [leA, h]
def NoInc (A : List Pick) : Prop := ∀ (i : Nat) (p : Pick), A[i]? = some p → p.No = (i : Int)
theorem zjF : ∀ (t : List Turn) (i j : Nat) (p : Pick), (zak r k i t)[j]? = some p → p.No = ((i + j : Nat) : Int)
 | [], i, j, p, h => by simp [zak] at h
 | x :: t, i, 0, p, h => by
   simp only [zak, List.getElem?_cons_zero, Option.some.injEq] at h
   subst h; rw [(zg4 r x k _).1]; rfl
 | x :: t, i, j + 1, p, h => by
   simp only [zak, List.getElem?_cons_succ] at h
   rw [zjF t (i + 1) j p h]; congr 1; omega
theorem zli : NoInc (z8 r k s) := fun i p h => by
 have := zjF _ 0 i p h
 rw [this]; congr 1; omega
theorem NoInc.pw {A : List Pick} (h : NoInc A) : A.Pairwise fun a b => a.No < b.No :=
 List.pairwise_iff_getElem.2 fun i j hi hj hij => by
  rw [h i _ (List.getElem?_eq_getElem hi), h j _ (List.getElem?_eq_getElem hj)]; omega
theorem NoInc.put {A : List Pick} (h : NoInc A) {p : Pick} (hp : 0 ≤ p.No) : NoInc (zfo A p) := fun i x hx => by
 unfold zfo at hx
 by_cases e : p.No.toNat = i
 ·subst e
  have hlt := zC hx
  rw [List.length_set] at hlt
  rw [List.getElem?_set_self hlt] at hx; cases hx; omega
 ·rw [List.getElem?_set_ne e] at hx; exact h i x hx
theorem zkG {α : Type} (q : α → Bool) {x y : α} (hx : q x = true) (hy : q y = false) : ∀ {A : List α} {j : Nat}, A[j]? = some y → ((A.set j x).filter q).Perm (A.filter q ++ [x])
 | [], j, h => by simp at h
 | a :: A, 0, h => by
   simp at h; subst h
   simp only [List.set_cons_zero, List.filter_cons, hx, hy, if_true, Bool.false_eq_true, if_false]
   exact (List.perm_append_comm (l₁ := [x]))
 | a :: A, j + 1, h => by
   simp only [List.getElem?_cons_succ] at h
   have := zkG q hx hy h
   simp only [List.set_cons_succ, List.filter_cons]
   split
   ·exact this.cons a
   ·exact this
def isP (p : Pick) : Bool := !(p.Player == [])
structure AllOk (r : Room) (k : List Keep) (s : List Swap) (l : List Pick) (i : Nat) (A : List Pick) : Prop where
 inc : NoInc A
 len : A.length = (z8 r k s).length
 free : ∀ (j : Nat) (p : Pick), i ≤ j → (zX r k s)[j]? = some p → A[p.No.toNat]? = some p
 perm : (A.filter isP).Perm ((z8 r k s).filter isP ++ l.take i)
theorem znF {j : Nat} {p : Pick} (h : (zX r k s)[j]? = some p) : p ∈ z8 r k s ∧ p.Player = [] := by
 have := List.mem_filter.1 (List.mem_of_getElem? h)
 exact ⟨this.1, by simpa using this.2⟩
theorem zoh {j : Nat} {p : Pick} (h : (zX r k s)[j]? = some p) : 0 ≤ p.No ∧ (z8 r k s)[p.No.toNat]? = some p := by
 obtain ⟨m, hm⟩ := List.getElem?_of_mem (znF h).1
 have := zli m p hm
 exact ⟨by omega, by rw [this]; simpa using hm⟩
theorem zpR : AllOk r k s l 0 (z8 r k s) := ⟨zli, rfl, fun j p _ h => (zoh h).2, by simp⟩
theorem zsE (h : zaf r k s l = 0) {i : Nat} {x : Pick} (hx : l[i]? = some x) : ∃ p, (zX r k s)[i]? = some p ∧ x.No = p.No ∧ x.Player ≠ [] := by
 obtain ⟨h1, h2, h3⟩ := zbF h
 have hi := zC hx
 obtain ⟨_, a2, _, a4, _⟩ := zhV (zed l 0 rfl h3 i x (Nat.zero_le _) hx)
 have hg := getD_some (d := za3) (show i < (zX r k s).length by omega)
 refine ⟨_, hg, ?_, (zcE (zaQ h1).1).ne _ a4⟩
 rw [a2]; congr 2; simp; omega
theorem AllOk.step (h : zaf r k s l = 0) {i : Nat} {x : Pick} (hx : l[i]? = some x) {A : List Pick} (ok : AllOk r k s l i A) : AllOk r k s l (i + 1) (zfo A x) ∧ 0 ≤ x.No ∧ x.No.toNat < A.length ∧ ∃ y, A[x.No.toNat]? = some y := by
 obtain ⟨p, hp, hn, hpl⟩ := zsE h hx
 obtain ⟨n0, _⟩ := zoh hp
 have hA := ok.free i p (Nat.le_refl _) hp
 have hlt := zC hA
 refine ⟨⟨ok.inc.put (by omega), by unfold zfo; rw [List.length_set]; exact ok.len, fun j q hj hq => ?_, ?_⟩, by omega, by rw [hn]; exact hlt, p, by rw [hn]; exact hA⟩
 ·have hq1 := ok.free j q (by omega) hq
  have hne : p.No < q.No := by
   have hpw : (zX r k s).Pairwise fun a b => a.No < b.No := (zli (r := r) (k := k) (s := s)).pw.sublist List.filter_sublist
   obtain ⟨hi', e1⟩ := List.getElem?_eq_some_iff.1 hp
   obtain ⟨hj', e2⟩ := List.getElem?_eq_some_iff.1 hq
   have := List.pairwise_iff_getElem.1 hpw i j hi' hj' (by omega)
   rw [e1, e2] at this; exact this
  unfold zfo
  rw [List.getElem?_set_ne (by omega)]; exact hq1
 ·have hf := zkG isP (x := x) (y := p) (by unfold isP; simpa using hpl) (by unfold isP; simp [(znF hp).2]) hA
  unfold zfo
  rw [hn, zae hx, ← List.append_assoc]
  exact hf.trans (ok.perm.append_right _)
theorem zlQ {A : List Pick} {i : Nat} {x : Pick} (hx : l[i]? = some x) : zdh A (l.take (i + 1)) = zfo (zdh A (l.take i)) x := by
 unfold zdh; rw [zae hx, List.foldl_append]; rfl
theorem zif (h : zaf r k s l = 0) : ∀ i, i ≤ l.length → AllOk r k s l i (zdh (z8 r k s) (l.take i))
 | 0, _ => by simpa [zdh] using zpR
 | i + 1, hi => by
   have hx := List.getElem?_eq_getElem (l := l) (i := i) (by omega)
   rw [zlQ hx]
   exact ((zif h i (by omega)).step h hx).1
end
end
section
theorem znG {r : Room} {k : List Keep} {fr l : List Pick} : ∀ (t : List Pick) (i : Nat), l.drop i = t → (∀ (j : Nat) (p : Pick), i ≤ j → l[j]? = some p → pkF r k fr (l.take j) p = 0) → zd6 r k fr l i t = 0
 | [], _, _, _ => rfl
 | x :: t, i, hd, h => by
   have hx : l[i]? = some x := by
    have := congrArg (fun q => q[0]?) hd
    simpa [List.getElem?_drop] using this
   have hd' : l.drop (i + 1) = t := by
    have := zI hx
    rw [hd] at this
    exact (List.cons.inj this).2.symm
   rw [zoZ (h i x (Nat.le_refl _) hx)]
   exact znG t (i + 1) hd' fun j p hj hp => h j p (by omega) hp
section
variable {r : Room} {k : List Keep} {s : List Swap} {l : List Pick} {w : List Wish}
theorem zoT (h : zaf r k s l = 0) (hl : l.length < (zX r k s).length) {p : Pick} (hp : pkF r k (zX r k s) l p = 0) : zaf r k s (l ++ [p]) = 0 := by
 obtain ⟨h1, h2, h3⟩ := zbF h
 unfold zaf zhs
 rw [if_neg (by simp [h1]), if_neg (by simp; omega)]
 refine znG _ 0 rfl fun j q _ hq => ?_
 rcases Nat.lt_or_ge j l.length with hj | hj
 ·rw [List.getElem?_append_left hj] at hq
  rw [List.take_append_of_le_length (Nat.le_of_lt hj)]
  exact zed l 0 rfl h3 j q (Nat.zero_le _) hq
 ·have hlt := zC hq
  rw [List.length_append, List.length_singleton] at hlt
  have e : j = l.length := by omega
  subst e
  simp only [List.getElem?_concat_length, Option.some.injEq] at hq
  rw [List.take_left' rfl, ← hq]; exact hp
theorem ziK {g : Str → Bool} {t : Str} : ∀ {w : List Wish} {x : Str}, zbo g t w = some x → (∃ y ∈ w, x ∈ y.Players) ∧ g x = false
 | [], x, h => by simp [zbo] at h
 | y :: w, x, h => by
   unfold zbo at h
   by_cases e : y.Team = t
   ·rw [if_pos e] at h
    cases hf : y.Players.find? (fun s => !(g s)) with
    | some z =>
      rw [hf] at h
      simp only [Option.some.injEq] at h
      subst h
      obtain ⟨a, b⟩ := zna hf
      exact ⟨⟨y, List.mem_cons_self, a⟩, by simpa using b⟩
    | none =>
      rw [hf] at h
      obtain ⟨⟨y', a, b⟩, c⟩ := ziK h
      exact ⟨⟨y', List.mem_cons_of_mem _ a, b⟩, c⟩
   ·rw [if_neg e] at h
    obtain ⟨⟨y', a, b⟩, c⟩ := ziK h
    exact ⟨⟨y', List.mem_cons_of_mem _ a, b⟩, c⟩
theorem zsx (h : openFault r k s = 0) (hl : l.length < (zX r k s).length) (hw : ∀ y ∈ w, ∀ x ∈ y.Players, x ∈ r.Players) (t : Str) : zbG r (zba k l) w t ∈ r.Players ∧ zba k l (zbG r (zba k l) w t) = false := by
 unfold zbG
 cases hg : zbo (zba k l) t w with
 | some x =>
   obtain ⟨⟨y, a, b⟩, c⟩ := ziK hg
   exact ⟨hw y a x b, c⟩
 | none =>
   have h0 := zos h hl
   obtain ⟨x, hx⟩ := List.exists_mem_of_length_pos h0
   obtain ⟨h1, h2⟩ := List.mem_filter.1 hx
   cases hf : r.Players.find? (fun s => !(zba k l s)) with
   | none => exact absurd h2 (by simpa using List.find?_eq_none.1 hf x h1)
   | some z =>
     obtain ⟨a, b⟩ := zna hf
     exact ⟨a, by simpa using b⟩
theorem zl6 (h : zaf r k s l = 0) (hl : l.length < (zX r k s).length) (hw : ∀ y ∈ w, ∀ x ∈ y.Players, x ∈ r.Players) {n : Int} (hm : zaL n = true) (hn : za9 r l ≤ n) : zaf r k s (l ++ [zhn r k (zX r k s) w l n]) = 0 := by
 obtain ⟨a, b⟩ := zsx (t := ((zX r k s).getD l.length za3).Team) (zbF h).1 hl hw
 exact zoT h hl (pf0 hm rfl rfl a b (by show ¬ n < za9 r l; omega))
theorem zqG (hw : ∀ y ∈ w, ∀ x ∈ y.Players, x ∈ r.Players) : ∀ (n : Nat) (l : List Pick), zaf r k s l = 0 → l.length + n = (zX r k s).length → zaf r k s (zeu r k (zX r k s) w n l) = 0 ∧ (zeu r k (zX r k s) w n l).length = (zX r k s).length
 | 0, l, h, hl => ⟨h, by simpa [zeu] using hl⟩
 | n + 1, l, h, hl => by
   rw [zeu]
   exact zqG hw n _ (zl6 h (by omega) hw (zn1 h) (Int.le_refl _)) (by simp; omega)
theorem zol (h : zaf r k s l = 0) (hw : ∀ y ∈ w, ∀ x ∈ y.Players, x ∈ r.Players) : zaf r k s (zjR r k s w l) = 0 ∧ (zjR r k s w l).length = (zX r k s).length :=
 zqG hw _ l h (by have := (zbF h).2.1; omega)
/-- What picks by lists have been so far. -/
structure AutOk (r : Room) (k : List Keep) (s : List Swap) (w : List Wish) (at' : Int) (l : List Pick) : Prop where
 ok : zaf r k s l = 0
 auto : ∀ p ∈ l, p.Auto = true ∧ p.At ≤ at'
 reg : ∀ (j : Nat) (p : Pick), l[j]? = some p → p.Player = zbG r (zba k (l.take j)) w p.Team
theorem AutOk.step {at' : Int} (h : AutOk r k s w at' l) (hl : l.length < (zX r k s).length) (hw : ∀ y ∈ w, ∀ x ∈ y.Players, x ∈ r.Players) (hc : 0 ≤ r.Clock) (hd : zpk r l at' = true) : AutOk r k s w at' (l ++ [zhn r k (zX r k s) w l (za9 r l + r.Clock)]) := by
 simp only [zpk, Bool.and_eq_true, decide_eq_true_eq] at hd
 refine ⟨zl6 h.ok hl hw hd.1 (by omega), fun p hp => ?_, fun j p hp => ?_⟩
 ·rcases List.mem_append.1 hp with hp | hp
  ·exact h.auto p hp
  ·rw [List.mem_singleton.1 hp]; exact ⟨rfl, hd.2⟩
 ·rcases Nat.lt_or_ge j l.length with hj | hj
  ·rw [List.getElem?_append_left hj] at hp
   rw [List.take_append_of_le_length (Nat.le_of_lt hj)]
   exact h.reg j p hp
  ·have hlt := zC hp
   rw [List.length_append, List.length_singleton] at hlt
   have e : j = l.length := by omega
   subst e
   simp only [List.getElem?_concat_length, Option.some.injEq] at hp
   rw [List.take_left' rfl, ← hp]; rfl
end
end
end Go.HL
