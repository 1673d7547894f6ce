/- The contract of the law's errs: what is no matrix is told so. -/
import Derived.Test.YtiianhlppkocgaaMatMul
import Derived.Test.YtiianhlppkocgaaMatPick
import Derived.Test.YtiianhlppkocgaaMatInvert
import Derived.Test.YtiianhlppkocgaaMatRank
namespace Go.Proofs.Ytiianhlppkocgaa
open Go.RowKit

set_option maxRecDepth 100000 in
theorem errs_yes (fb : Nat) (w : World) (A : Option Addr) (n c : Nat) (a : Gm.L) (hf : FieldAt w fb) (ha : Mx w A n c a) (h : ¬ Gm.right a) :
    Calls Try.prog 11 #[.pointer (some ⟨fb, 0, none⟩), .slice A n c] w fun e w' => e = .returned (.bool true) ∧ Ext w w' := by
  have h1 := mul_any3 fb w A A n c n c a a hf ha ha
  rw [if_neg (show ¬ fit a a from fun q => h q.1), if_neg (show ¬ fit a a from fun q => h q.1)] at h1
  have h2 := fun (W : World) (hW : Ext w W) => pick_any3 (W.alloc (.cells #[.int .i64 0] 3)) A n c a (ha.ext (hW.thenAlloc _)) (some ⟨W.heap.size, 0, none⟩) 1 1 [0] (is_one W _ 0 rfl)
  have e2 : pickE a [0] = 30 := by unfold pickE; rw [if_neg h]
  rw [e2] at h2
  have h3 := fun (W : World) (hW : Ext w W) => invert_any3 fb W A n c a (hf.ext hW) (ha.ext hW)
  have e3 : invE a = 30 := by unfold invE; rw [if_neg (fun q => h q.1)]
  rw [e3] at h3
  have h4 := fun (W : World) (hW : Ext w W) => matRight_any W A n c a (ha.ext hW)
  rw [decide_eq_false h] at h4
  have h5 := fun (W : World) (hW : Ext w W) => rank_any3 fb W A n c a (hf.ext hW) (ha.ext hW)
  rw [if_neg h] at h5
  have H1 := Lib.hid h1
  have H2 := Lib.hid h2
  have H3 := Lib.hid h3
  have H4 := Lib.hid h4
  have H5 := Lib.hid h5
  clear h1 h2 h3 h4 h5 e2 e3 h hf ha
  go_enter Try.func11, Try.ntmps11
  go_wp2_with (fail)
  refine H1.out.mono ?_
  rintro e w1 ⟨v1, _, rfl, _, x1⟩
  go_wp2_with (fail)
  refine (H2.out w1 x1).mono ?_
  rintro e w2 ⟨v2, _, rfl, _, x2⟩
  have y2 := (x1.thenAlloc (.cells #[.int .i64 0] 3)).trans x2
  go_wp2_with (fail)
  refine (H3.out w2 y2).mono ?_
  rintro e w3 ⟨v3, _, rfl, _, x3⟩
  have y3 := y2.trans x3
  go_wp2_with (fail)
  refine (H4.out w3 y3).mono ?_
  rintro e w4 ⟨rfl, x4⟩
  have y4 := y3.trans x4
  go_wp2_with (fail)
  refine (H5.out w4 y4).mono ?_
  rintro e w5 ⟨rfl, x5⟩
  go_wp2_with (fail)
  go_ret
  exact ⟨rfl, y4.trans x5⟩
end Go.Proofs.Ytiianhlppkocgaa
