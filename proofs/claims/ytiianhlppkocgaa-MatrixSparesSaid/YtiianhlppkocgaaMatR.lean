/- The contracts of package matrix for matrices that fit, as the laws use them. No statement of the seat is proved here. -/
import Derived.Test.YtiianhlppkocgaaMatLit
import Derived.Test.YtiianhlppkocgaaGr
namespace Go.Proofs.Ytiianhlppkocgaa
open Go.RowKit

/-- A matrix of n rows is handed back, with an error. -/
def GivesR (m : Gm.L) (n : Nat) (er : Int) (w : World) (e : Ending) (w' : World) : Prop := ∃ A c, e = .returned (.tuple #[.slice A n c, .int .i64 er]) ∧ Mx w' A n c m ∧ Ext w w'
def GivesR1 (m : Gm.L) (n : Nat) (w : World) (e : Ending) (w' : World) : Prop := ∃ A c, e = .returned (.slice A n c) ∧ Mx w' A n c m ∧ Ext w w'
theorem GivesQE.r {m : Gm.L} {er : Int} {w w' : World} {e : Ending} (h : GivesQE m er w e w') {m' : Gm.L} {n : Nat} {er' : Int} (hm : m = m') (hn : m'.length = n) (he : er = er') : GivesR m' n er' w e w' := by
  subst hm hn he
  obtain ⟨v, cs, rfl, hq, hx⟩ := h
  obtain ⟨A, c, rfl, hm⟩ := hq.mx
  exact ⟨A, c, rfl, hm, hx⟩
theorem square_r (w : World) (n : Nat) (B : Option Addr) (k cB : Nat) (b : List UInt8) (hB : Bs w B k cB b) (hn : n ≤ 255) :
    Calls Try.prog 31 #[.int .i64 (n : Int), .slice B k cB] w (GivesR1 (squareL n b) n w) :=
  (square_any w n B k cB b hB hn).mono fun e w' h => by
    obtain ⟨v, cs, rfl, hq, hx⟩ := h
    obtain ⟨A, c, rfl, hm⟩ := hq.mx
    rw [(square_rect n b).len] at hm ⊢
    exact ⟨A, c, rfl, hm, hx⟩
theorem unit_r (w : World) (n : Nat) (h1 : 1 ≤ n) (h2 : n ≤ 255) : Calls Try.prog 12 #[.int .i64 (n : Int)] w (GivesR (Gm.unit n) n 0 w) :=
  (unit_ok w n h1 h2).mono fun _ _ h => h.r rfl (Gm.unit_rect n).len rfl
theorem mul_r (fb : Nat) (w : World) (A B : Option Addr) (n ca k cb c : Nat) (a b : Gm.L) (hf : FieldAt w fb) (ha : Mx w A n ca a) (hb : Mx w B k cb b) (ra : Gm.Rect n k a) (rb : Gm.Rect k c b) (hn : 1 ≤ n ∧ n ≤ 255) (hk : 1 ≤ k ∧ k ≤ 255) (hc : 1 ≤ c ∧ c ≤ 255) :
    Calls Try.prog 14 #[.pointer (some ⟨fb, 0, none⟩), .slice A n ca, .slice B k cb] w (GivesR (Gm.mulL a b) n 0 w) := by
  have hfit : fit a b := ⟨ra.right hn.1 hn.2 hk.1 hk.2, rb.right hk.1 hk.2 hc.1 hc.2, by rw [ra.cols hn.1, rb.len]⟩
  have h := mul_any3 fb w A B n ca k cb a b hf ha hb
  rw [if_pos hfit, if_pos hfit] at h
  exact h.mono fun _ _ h => h.r rfl (Gm.mulL_rect' ra rb hk.1).len rfl
theorem square_of {n : Nat} {m : Gm.L} (h : Gm.Rect n n m) (hn : 1 ≤ n ∧ n ≤ 255) : square m := ⟨h.right hn.1 hn.2 hn.1 hn.2, by rw [h.cols hn.1, h.len]⟩
theorem invert_r (fb : Nat) (w : World) (A : Option Addr) (n ca : Nat) (a : Gm.L) (hf : FieldAt w fb) (ha : Mx w A n ca a) (ra : Gm.Rect n n a) (hn : 1 ≤ n ∧ n ≤ 255) (hr : Gm.rank a = n) :
    Calls Try.prog 15 #[.pointer (some ⟨fb, 0, none⟩), .slice A n ca] w (GivesR (Gm.invert a) n 0 w) :=
  (invert_any3 fb w A n ca a hf ha).mono fun _ _ h => h.r (by unfold invM; rw [if_pos (square_of ra hn), if_neg (by rw [ra.len]; omega)]) (Gm.inv_rect ra hn.1 hr).len (by unfold invE; rw [if_pos (square_of ra hn), if_neg (by rw [ra.len]; omega)])
theorem invert_s (fb : Nat) (w : World) (A : Option Addr) (n ca : Nat) (a : Gm.L) (hf : FieldAt w fb) (ha : Mx w A n ca a) (ra : Gm.Rect n n a) (hn : 1 ≤ n ∧ n ≤ 255) (hr : Gm.rank a ≠ n) :
    Calls Try.prog 15 #[.pointer (some ⟨fb, 0, none⟩), .slice A n ca] w (GivesR [] 0 31 w) := by
  have := Gm.rank_le ra hn.1
  exact (invert_any3 fb w A n ca a hf ha).mono fun _ _ h => h.r (by unfold invM; rw [if_pos (square_of ra hn), if_pos (by rw [ra.len]; omega)]) rfl (by unfold invE; rw [if_pos (square_of ra hn), if_pos (by rw [ra.len]; omega)])
theorem rank_r (fb : Nat) (w : World) (A : Option Addr) (n ca c : Nat) (a : Gm.L) (hf : FieldAt w fb) (ha : Mx w A n ca a) (ra : Gm.Rect n c a) (hn : 1 ≤ n ∧ n ≤ 255) (hc : 1 ≤ c ∧ c ≤ 255) (r : Nat) (hr : Gm.rank a = r) :
    Calls Try.prog 17 #[.pointer (some ⟨fb, 0, none⟩), .slice A n ca] w fun e w' => e = .returned (.int .i64 (r : Int)) ∧ Ext w w' := by
  have h := rank_any3 fb w A n ca a hf ha
  rw [if_pos (ra.right hn.1 hn.2 hc.1 hc.2), hr] at h
  exact h
theorem same_r (w : World) (A A' : Option Addr) (n c m c' : Nat) (a b : Gm.L) (ha : Mx w A n c a) (hb : Mx w A' m c' b) (h : a = b) :
    Calls Try.prog 24 #[.slice A n c, .slice A' m c'] w fun e w' => e = .returned (.bool true) ∧ Ext w w' := by
  have := sameMatrix_any w A A' n c m c' a b ha hb
  rwa [decide_eq_true h] at this
end Go.Proofs.Ytiianhlppkocgaa
