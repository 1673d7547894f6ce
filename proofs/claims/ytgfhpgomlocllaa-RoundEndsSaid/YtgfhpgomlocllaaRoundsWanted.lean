/- What is wanted is wanted of each index once, rising; till a round is at its end. Plain words, no program in sight. -/
import Derived.Test.YtgfhpgomlocllaaRoundsTwice
namespace Rounds
open Il (get)

def pget (l : List (Int × Int)) (k : Nat) : Int × Int := l.getD k (0, 0)
theorem pget_append_lt {a b : List (Int × Int)} {j : Nat} (h : j < a.length) : pget (a ++ b) j = pget a j := by
  unfold pget; simp [List.getD_eq_getElem?_getD, List.getElem?_append_left h]
theorem pget_append_last {a : List (Int × Int)} {x : Int × Int} : pget (a ++ [x]) a.length = x := by
  unfold pget; simp [List.getD_eq_getElem?_getD]
/-- Rising, within bounds. -/
structure Rising (k : Nat) (l : List (Int × Int)) : Prop where
  bound : ∀ j, j < l.length → 0 ≤ (pget l j).1 ∧ (pget l j).1 < k ∧ 1 ≤ (pget l j).2 ∧ (pget l j).2 ≤ 3
  step : ∀ j, j + 1 < l.length → (pget l j).1 < (pget l (j + 1)).1
theorem rising_of (p : Int) (m : List Int) (k : Nat) : Rising k (wantsOf p m k) := by
  induction k with
  | zero =>
    have e : wantsOf p m 0 = [] := rfl
    rw [e]
    exact ⟨fun j hj => absurd hj (Nat.not_lt_zero _), fun j hj => absurd hj (Nat.not_lt_zero _)⟩
  | succ k ih =>
    rw [wantsOf_succ]
    generalize wantsOf p m k = a at *
    by_cases h : want p (get m k) ≠ 0
    · rw [if_pos h]
      have hw := want_range p (get m k)
      refine ⟨fun j hj => ?_, fun j hj => ?_⟩
      · rw [List.length_append] at hj
        simp only [List.length_singleton] at hj
        by_cases hl : j < a.length
        · rw [pget_append_lt hl]
          have := ih.bound j hl
          omega
        · have e : j = a.length := by omega
          subst e
          rw [pget_append_last]
          simp only
          omega
      · rw [List.length_append] at hj
        simp only [List.length_singleton] at hj
        by_cases hl : j + 1 < a.length
        · rw [pget_append_lt hl, pget_append_lt (by omega)]
          exact ih.step j hl
        · have e : j + 1 = a.length := by omega
          rw [e, pget_append_last, pget_append_lt (by omega)]
          have := ih.bound j (by omega)
          simp only
          omega
    · rw [if_neg h, List.append_nil]
      exact ⟨fun j hj => by have := ih.bound j hj; omega, ih.step⟩
theorem wants_rising (r : R) : Rising r.marks.length (wants r) := by
  unfold wants
  split
  · exact rising_of _ _ _
  · exact ⟨fun j hj => absurd hj (Nat.not_lt_zero _), fun j hj => absurd hj (Nat.not_lt_zero _)⟩
theorem some_other {l : List Int} {x : Int} (h : many l x < l.length) : ∃ j, j < l.length ∧ get l j ≠ x := by
  apply Classical.byContradiction
  intro hn
  have hall : ∀ j, j < l.length → get l j = x := fun j hj => Classical.byContradiction fun h => hn ⟨j, hj, h⟩
  have : ∀ k, k ≤ l.length → manyTo l x k = k := by
    intro k hk
    induction k with
    | zero => rfl
    | succ k ih =>
      have e : manyTo l x (k + 1) = manyTo l x k + if get l k = x then 1 else 0 := rfl
      rw [e, ih (by omega), if_pos (hall k (by omega))]
  rw [manyTo_all, this l.length (Nat.le_refl _)] at h
  omega
theorem wants_some {r : R} (h : Right r) {j : Nat} (hj : j < r.marks.length) (hw : want r.phase (get r.marks j) ≠ 0) : (wants r).length ≠ 0 := by
  unfold wants
  rw [if_pos h]
  intro e
  have e' := List.eq_nil_of_length_eq_zero e
  have : ((j : Int), want r.phase (get r.marks j)) ∈ wantsOf r.phase r.marks r.marks.length := by
    unfold wantsOf
    rw [List.mem_map]
    exact ⟨j, by simp [hj, hw], rfl⟩
  rw [e'] at this
  exact absurd this (by simp)
theorem wants_end {r : R} (h : Right r) : (r.phase = 4 ∨ r.phase = 6 → (wants r).length = 0) ∧ (r.phase = 3 ∨ r.phase = 5 → (wants r).length ≠ 0) := by
  refine ⟨fun hp => ?_, fun hp => ?_⟩
  · unfold wants
    rw [if_pos h]
    unfold wantsOf
    rw [List.length_map, List.length_eq_zero_iff, List.filter_eq_nil_iff]
    intro i _
    have : want r.phase (get r.marks i) = 0 := by
      unfold want
      rw [if_neg (by omega), if_neg (by omega), if_neg (by omega)]
    simp [this]
  · obtain ⟨s, v, d, p, l⟩ := r
    simp only at hp
    have hg := (good_iff l).1 h.2.1
    rcases hp with rfl | rfl
    · have h3 := (phaseOk3 ..).1 h.2.2
      obtain ⟨j, hj, hne⟩ := some_other h3.2
      refine wants_some h hj ?_
      have hgj := good_get hg hj
      have h4 : get l j ≠ 4 := fun e => by have := many_pos hj e; omega
      show want 3 (get l j) ≠ 0
      unfold want
      split
      · omega
      · split
        · omega
        · omega
    · have h3 := (phaseOk5 ..).1 h.2.2
      obtain ⟨j, hj, hne⟩ := some_other h3.2
      refine wants_some h hj ?_
      show want 5 (get l j) ≠ 0
      unfold want
      rw [if_neg (by omega), if_neg (by omega), if_pos ⟨rfl, hne⟩]
      omega
/-- The index before. -/
def lastOf (l : List (Int × Int)) (k : Nat) : Int := if k = 0 then -1 else (pget l (k - 1)).1
theorem rising_last {n : Nat} {l : List (Int × Int)} (h : Rising n l) {k : Nat} (hk : k < l.length) : lastOf l k < (pget l k).1 ∧ lastOf l (k + 1) = (pget l k).1 := by
  refine ⟨?_, rfl⟩
  unfold lastOf
  by_cases h0 : k = 0
  · rw [if_pos h0]
    have := h.bound k hk
    omega
  · rw [if_neg h0]
    have := h.step (k - 1) (by omega)
    rw [show k - 1 + 1 = k by omega] at this
    exact this
end Rounds
