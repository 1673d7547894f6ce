/- Pairs of contracts, the program's and the document's, that hand back the same. -/
import Derived.Test.YtiianhlppkocgaaRef3Invert
import Derived.Test.YtiianhlppkocgaaRef3Rank
import Derived.Test.YtiianhlppkocgaaRef3Mul
import Derived.Test.YtiianhlppkocgaaRef3Pick
import Derived.Test.YtiianhlppkocgaaMatCopy
import Derived.Test.YtiianhlppkocgaaMatAwake
import Derived.Test.YtiianhlppkocgaaMxOpen
namespace Go.Proofs.Ytiianhlppkocgaa
open Go.RowKit

def mulM (a b : Gm.L) : Gm.L := if fit a b then Gm.mulL a b else []
def mulE (a b : Gm.L) : Int := if fit a b then 0 else 30
def unM (n : Int) : Gm.L := if 1 ≤ n ∧ n ≤ 255 then Gm.unit n.toNat else []
def unE (n : Int) : Int := if 1 ≤ n ∧ n ≤ 255 then 0 else 2
def caM (r c : Int) : Gm.L := if r < 1 ∨ c < 1 ∨ 256 < r ∨ 256 - r < c then [] else Gm.cauchy r.toNat c.toNat
def caE (r c : Int) : Int := if r < 1 ∨ c < 1 ∨ 256 < r ∨ 256 - r < c then 2 else 0
theorem mul_p (fb : Nat) (w : World) (A B : Option Addr) (n ca k cb : Nat) (a b : Gm.L) (hf : FieldAt w fb) (ha : Mx w A n ca a) (hb : Mx w B k cb b) :
    Calls Try.prog 14 #[.pointer (some ⟨fb, 0, none⟩), .slice A n ca, .slice B k cb] w (GivesME (mulM a b) (mulE a b) w) := by
  unfold mulM mulE
  exact (mul_any3 fb w A B n ca k cb a b hf ha hb).mono fun e w' h => gives_mx h
theorem mul_d (w : World) (A B : Option Addr) (n ca k cb : Nat) (a b : Gm.L) (ha : Mx w A n ca a) (hb : Mx w B k cb b) :
    Calls Try.prog 21 #[.slice A n ca, .slice B k cb] w (GivesME (mulM a b) (mulE a b) w) := by
  unfold mulM mulE
  by_cases h : fit a b
  · rw [if_pos h, if_pos h]
    exact (ref3Mul_ok w A B n ca k cb a b ha hb h).mono fun e w' h => gives_mx h
  · rw [if_neg h, if_neg h]
    exact (ref3Mul_no w A B n ca k cb a b ha hb h).mono fun e w' h => gives_mx h
theorem unit_p (w : World) (n : Int) : Calls Try.prog 12 #[.int .i64 n] w (GivesME (unM n) (unE n) w) := by
  unfold unM unE
  by_cases h : 1 ≤ n ∧ n ≤ 255
  · rw [if_pos h, if_pos h]
    obtain ⟨t, rfl⟩ := Int.eq_ofNat_of_zero_le (show 0 ≤ n by omega)
    exact (unit_ok w t (by omega) (by omega)).mono fun e w' h => gives_mx h
  · rw [if_neg h, if_neg h]
    exact (unit_no w n (by omega)).mono fun e w' h => gives_mx h
theorem unit_d (w : World) (n : Int) : Calls Try.prog 28 #[.int .i64 n] w (GivesME (unM n) (unE n) w) := by
  unfold unM unE
  by_cases h : 1 ≤ n ∧ n ≤ 255
  · rw [if_pos h, if_pos h]
    obtain ⟨t, rfl⟩ := Int.eq_ofNat_of_zero_le (show 0 ≤ n by omega)
    exact (ref3Unit_ok w t (by omega) (by omega)).mono fun e w' h => gives_mx h
  · rw [if_neg h, if_neg h]
    exact (ref3Unit_no w n (by omega)).mono fun e w' h => gives_mx h
theorem cauchy_p (fb : Nat) (w : World) (r c : Int) (hf : FieldAt w fb) : Calls Try.prog 13 #[.pointer (some ⟨fb, 0, none⟩), .int .i64 r, .int .i64 c] w (GivesME (caM r c) (caE r c) w) := by
  unfold caM caE
  by_cases h : r < 1 ∨ c < 1 ∨ 256 < r ∨ 256 - r < c
  · rw [if_pos h, if_pos h]
    exact (cauchy_no fb w r c hf h).mono fun e w' h => gives_mx h
  · rw [if_neg h, if_neg h]
    obtain ⟨t, rfl⟩ := Int.eq_ofNat_of_zero_le (show 0 ≤ r by omega)
    obtain ⟨u, rfl⟩ := Int.eq_ofNat_of_zero_le (show 0 ≤ c by omega)
    exact (cauchy_ok fb w t u hf (by omega) (by omega) (by omega)).mono fun e w' h => gives_mx h
theorem cauchy_d (w : World) (r c : Int) : Calls Try.prog 29 #[.int .i64 r, .int .i64 c] w (GivesME (caM r c) (caE r c) w) := by
  unfold caM caE
  by_cases h : r < 1 ∨ c < 1 ∨ 256 < r ∨ 256 - r < c
  · rw [if_pos h, if_pos h]
    exact (ref3Cauchy_no w r c h).mono fun e w' h => gives_mx h
  · rw [if_neg h, if_neg h]
    obtain ⟨t, rfl⟩ := Int.eq_ofNat_of_zero_le (show 0 ≤ r by omega)
    obtain ⟨u, rfl⟩ := Int.eq_ofNat_of_zero_le (show 0 ≤ c by omega)
    exact (ref3Cauchy_ok w t u (by omega) (by omega) (by omega)).mono fun e w' h => gives_mx h
theorem same_p (w : World) (A B : Option Addr) (n c m c' : Nat) (a b : Gm.L) (ha : Mx w A n c a) (hb : Mx w B m c' b) (h : a = b) :
    Calls Try.prog 24 #[.slice A n c, .slice B m c'] w fun e w' => e = .returned (.bool true) ∧ Ext w w' := by
  have := sameMatrix_any w A B n c m c' a b ha hb
  rw [decide_eq_true h] at this
  exact this
end Go.Proofs.Ytiianhlppkocgaa
