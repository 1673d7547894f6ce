/- The contract of matrix.Mul, whatever the shapes. -/
import Derived.Test.YtiianhlppkocgaaMatMulOk
namespace Go.Proofs.Ytiianhlppkocgaa
open Go.RowKit

/-- May there be a product? -/
def fit (a b : Gm.L) : Prop := Gm.right a ∧ Gm.right b ∧ Gm.cols a = b.length
instance (a b : Gm.L) : Decidable (fit a b) := by unfold fit; infer_instance
set_option maxRecDepth 100000 in
set_option maxHeartbeats 2000000 in
theorem mul_no (fb : Nat) (w : World) (A B : Option Addr) (n ca k cb : Nat) (a b : Gm.L) (hf : FieldAt w fb) (ha : Mx w A n ca a) (hb : Mx w B k cb b) (h : ¬ fit a b) :
    Calls Try.prog 14 #[.pointer (some ⟨fb, 0, none⟩), .slice A n ca, .slice B k cb] w (GivesQE [] 30 w) := by
  have hRa := matRight_any w A n ca a ha
  have HN := Lib.hid (none_any fb w hf)
  have hl1 := ha.max
  have hl2 := ha.le
  have hl3 := hb.max
  have hl4 := hb.le
  by_cases ra : Gm.right a
  · rw [decide_eq_true ra] at hRa
    have HRA := Lib.hid hRa
    have hRb := fun (W : World) (h : Ext w W) => matRight_any W B k cb b (hb.ext h)
    by_cases rb : Gm.right b
    · rw [decide_eq_true rb] at hRb
      have HRB := Lib.hid hRb
      have hna := ha.len
      have hkb := hb.len
      have hn1 : 1 ≤ n := by have := ra.1; omega
      have hne : Gm.cols a ≠ k := fun e => h ⟨ra, rb, by rw [hkb]; exact e⟩
      obtain ⟨ba, oa, A0, n0, c0, rfl, h0, hb0⟩ := ha.at_ (show 0 < n by omega)
      rw [Nat.add_zero] at h0
      have e0 : n0 = Gm.cols a := by rw [← hb0.len]; rfl
      have mm1 := hb0.max
      have mm3 := hb0.le
      have e1 : ((n0 : Int) != (k : Int)) = true := by rw [bne_iff_ne]; omega
      have i1 : (0 : Int) < n := by omega
      clear hb0 e0 hne ra rb h hna hkb hRa hRb
      go_enter Try.func14, Try.ntmps14
      try dsimp only [List.append]
      go_wp2_with (fail)
      refine HN.out.mono ?_
      rintro e w' ⟨rfl, rfl⟩
      go_wp2_with (fail)
      refine HRA.out.mono ?_
      rintro e w1 ⟨rfl, x1⟩
      go_wp2_with (fail)
      refine (HRB.out w1 x1).mono ?_
      rintro e w2 ⟨rfl, x2⟩
      have h2 := (x1.trans x2).cell h0
      go_wp2_with (fail)
      go_ret2
      exact GivesQE.none 30 (x1.trans x2)
    · rw [decide_eq_false rb] at hRb
      have HRB := Lib.hid hRb
      clear ra rb h hRa hRb
      go_enter Try.func14, Try.ntmps14
      try dsimp only [List.append]
      go_wp2_with (fail)
      refine HN.out.mono ?_
      rintro e w' ⟨rfl, rfl⟩
      go_wp2_with (fail)
      refine HRA.out.mono ?_
      rintro e w1 ⟨rfl, x1⟩
      go_wp2_with (fail)
      refine (HRB.out w1 x1).mono ?_
      rintro e w2 ⟨rfl, x2⟩
      go_wp2_with (fail)
      go_ret2
      exact GivesQE.none 30 (x1.trans x2)
  · rw [decide_eq_false ra] at hRa
    have HRA := Lib.hid hRa
    clear ra h hRa
    go_enter Try.func14, Try.ntmps14
    try dsimp only [List.append]
    go_wp2_with (fail)
    refine HN.out.mono ?_
    rintro e w' ⟨rfl, rfl⟩
    go_wp2_with (fail)
    refine HRA.out.mono ?_
    rintro e w1 ⟨rfl, x1⟩
    go_wp2_with (fail)
    go_ret2
    exact GivesQE.none 30 x1
theorem mul_any3 (fb : Nat) (w : World) (A B : Option Addr) (n ca k cb : Nat) (a b : Gm.L) (hf : FieldAt w fb) (ha : Mx w A n ca a) (hb : Mx w B k cb b) :
    Calls Try.prog 14 #[.pointer (some ⟨fb, 0, none⟩), .slice A n ca, .slice B k cb] w (GivesQE (if fit a b then Gm.mulL a b else []) (if fit a b then 0 else 30) w) := by
  by_cases h : fit a b
  · rw [if_pos h, if_pos h]
    exact mul_ok fb w A B n ca k cb a b hf ha hb h.1 h.2.1 h.2.2
  · rw [if_neg h, if_neg h]
    exact mul_no fb w A B n ca k cb a b hf ha hb h
end Go.Proofs.Ytiianhlppkocgaa
