/- Right rounds stay right: plain words. No program in sight. -/
import Derived.Test.YtgfhpgomlocllaaRounds3
namespace Rounds
open Il (get)

theorem many_cons (x : Int) (l : List Int) (k : Int) : many (x :: l) k = many l k + if x = k then 1 else 0 := by
  unfold many
  by_cases h : x = k
  · subst h; simp
  · have : (x == k) = false := by rw [beq_eq_false_iff_ne]; exact h
    simp [h, this]
theorem many_set {l : List Int} {i : Nat} (x k : Int) (h : i < l.length) : many (l.set i x) k + (if get l i = k then 1 else 0) = many l k + if x = k then 1 else 0 := by
  induction l generalizing i with
  | nil => exact absurd h (Nat.not_lt_zero _)
  | cons y l ih =>
    cases i with
    | zero =>
      show many (x :: l) k + (if y = k then 1 else 0) = many (y :: l) k + _
      rw [many_cons, many_cons]
      omega
    | succ i =>
      have := ih (i := i) (by simpa using h)
      show many (y :: l.set i x) k + (if get l i = k then 1 else 0) = many (y :: l) k + _
      rw [many_cons, many_cons]
      omega
theorem many_pos {l : List Int} {k : Int} {i : Nat} (h : i < l.length) (e : get l i = k) : 1 ≤ many l k := by
  have h1 := many_set (l := l) (i := i) (k + 1) k h
  have h2 := many_ge (l.set i (k + 1)) k
  rw [if_pos e, if_neg (by omega)] at h1
  omega
def Good (l : List Int) : Prop := ∀ m, m ∈ l → 0 ≤ m ∧ m ≤ 4
theorem good_iff (l : List Int) : count l [0, 1, 2, 3, 4] = l.length ↔ Good l := by
  rw [count_all]
  unfold Good
  constructor
  · intro h m hm
    have := h m hm
    simp at this
    omega
  · intro h m hm
    have := h m hm
    simp
    omega
theorem good_get {l : List Int} {i : Nat} (h : Good l) (hi : i < l.length) : 0 ≤ get l i ∧ get l i ≤ 4 := h _ (Il.get_mem hi)
theorem good_set {l : List Int} {i : Nat} {x : Int} (h : Good l) (hx : 0 ≤ x ∧ x ≤ 4) : Good (l.set i x) := by
  intro m hm
  rcases List.mem_or_eq_of_mem_set hm with h1 | h1
  · exact h m h1
  · rw [h1]; exact hx
theorem marked_good (p m o e : Int) (h : 0 ≤ m ∧ m ≤ 4) : 0 ≤ marked p m o e ∧ marked p m o e ≤ 4 := by
  unfold marked
  repeat' split
  all_goals omega
theorem right_phase {r : R} (h : Right r) : 1 ≤ r.phase ∧ r.phase ≤ 6 := by
  have := h.2.2
  unfold phaseOk at this
  repeat' split at this
  all_goals omega
/-- What an answer does to a mark, phase by phase. -/
theorem marked12 {p m o e : Int} (hp : p = 1 ∨ p = 2) : marked p m o e = 1 ∨ (m = 0 ∧ marked p m o e = 3) ∨ marked p m o e = m := by
  unfold marked
  rw [if_pos hp]
  repeat' split
  all_goals omega
theorem marked3 {m o e : Int} : marked 3 m o e = 0 ∨ marked 3 m o e = 1 ∨ marked 3 m o e = 2 ∨ marked 3 m o e = 3 ∨ marked 3 m o e = m := by
  unfold marked
  rw [if_neg (by omega), if_pos rfl]
  repeat' split
  all_goals omega
theorem marked5 {m o e : Int} : marked 5 m o e = 1 ∨ marked 5 m o e = 4 ∨ marked 5 m o e = m := by
  unfold marked
  rw [if_neg (by omega), if_neg (by omega), if_pos rfl]
  repeat' split
  all_goals omega
theorem marked46 {p m o e : Int} (hp : p = 4 ∨ p = 6) : marked p m o e = m := by
  unfold marked
  rw [if_neg (by omega), if_neg (by omega), if_neg (by omega)]
theorem right_told1 {r : R} {i : Nat} (o e : Int) (h : Right r) (hi : i < r.marks.length) : Right (told1 r i o e) := by
  obtain ⟨s, v, d, p, l⟩ := r
  obtain ⟨h1, h2, h3⟩ := h
  simp only at h1 h2 hi
  have hg := (good_iff l).1 h2
  have hm := good_get hg hi
  have hx := marked_good p (get l i) o e hm
  have hg' := good_set (i := i) hg hx
  have hlen : (l.set i (marked p (get l i) o e)).length = l.length := List.length_set
  have m1 := many_set (l := l) (i := i) (marked p (get l i) o e) 1 hi
  have m2 := many_set (l := l) (i := i) (marked p (get l i) o e) 2 hi
  have m4 := many_set (l := l) (i := i) (marked p (get l i) o e) 4 hi
  have g2 := many_ge (l.set i (marked p (get l i) o e)) 2
  have g4 := many_ge (l.set i (marked p (get l i) o e)) 4
  have k2 := many_le (l.set i (marked p (get l i) o e)) 2
  have k4 := many_le (l.set i (marked p (get l i) o e)) 4
  have q2 : get l i = 2 → 1 ≤ many l 2 := many_pos hi
  have q4 : get l i = 4 → 1 ≤ many l 4 := many_pos hi
  have z2 := many_ge l 2
  have z4 := many_ge l 4
  have hpp := right_phase (r := ⟨s, v, d, p, l⟩) ⟨h1, h2, h3⟩
  simp only at hpp
  unfold named at h1
  have base : ∀ q, phaseOk ⟨s, v, d, q, l.set i (marked p (get l i) o e)⟩ → Right ⟨s, v, d, q, l.set i (marked p (get l i) o e)⟩ := fun q hq =>
    ⟨by unfold named; rw [hlen]; exact h1, (good_iff _).2 hg', hq⟩
  show Right (next ⟨s, v, d, p, l.set i (marked p (get l i) o e)⟩)
  rw [hlen] at k2 k4
  have hp : p = 1 ∨ p = 2 ∨ p = 3 ∨ p = 4 ∨ p = 5 ∨ p = 6 := by omega
  rcases hp with rfl | rfl | rfl | rfl | rfl | rfl
  · rw [phaseOk1] at h3
    have hc := marked12 (p := 1) (m := get l i) (o := o) (e := e) (.inl rfl)
    generalize hmk : marked 1 (get l i) o e = mk at *
    have e24 : many (l.set i mk) 2 + many (l.set i mk) 4 = 0 := by
      split at m2 <;> split at m2 <;> split at m4 <;> split at m4 <;> omega
    by_cases a1 : d ≤ many (l.set i mk) 1
    · rw [next_ready a1]
      exact base 2 ((phaseOk2 ..).2 ⟨e24, a1⟩)
    · by_cases a2 : ((l.set i mk).length : Int) - d < many (l.set i mk) 3
      · rw [next_given a1 a2]
        exact base 5 ((phaseOk5 ..).2 ⟨by omega, by rw [hlen]; omega⟩)
      · rw [next_1 a1 a2]
        exact base 1 ((phaseOk1 ..).2 ⟨e24, by omega, by omega⟩)
  · rw [phaseOk2] at h3
    have hc := marked12 (p := 2) (m := get l i) (o := o) (e := e) (.inr rfl)
    generalize hmk : marked 2 (get l i) o e = mk at *
    have e24 : many (l.set i mk) 2 + many (l.set i mk) 4 = 0 := by
      split at m2 <;> split at m2 <;> split at m4 <;> split at m4 <;> omega
    rw [next_other (by omega) (by omega) (by omega)]
    exact base 2 ((phaseOk2 ..).2 ⟨e24, by split at m1 <;> split at m1 <;> omega⟩)
  · rw [phaseOk3] at h3
    have hc := marked3 (m := get l i) (o := o) (e := e)
    generalize hmk : marked 3 (get l i) o e = mk at *
    have e4 : many (l.set i mk) 4 = 0 := by split at m4 <;> split at m4 <;> omega
    by_cases a1 : many (l.set i mk) 2 = (l.set i mk).length
    · rw [next_done a1]
      exact base 4 ((phaseOk4 ..).2 a1)
    · rw [next_3 a1]
      exact base 3 ((phaseOk3 ..).2 ⟨e4, by rw [hlen] at *; omega⟩)
  · rw [phaseOk4] at h3
    have hc := marked46 (p := 4) (m := get l i) (o := o) (e := e) (.inl rfl)
    rw [next_other (by omega) (by omega) (by omega)]
    rw [hc] at m2 ⊢
    exact ⟨by unfold named; rw [List.length_set]; exact h1, (good_iff _).2 (good_set hg hm), (phaseOk4 ..).2 (by rw [List.length_set]; omega)⟩
  · rw [phaseOk5] at h3
    have hc := marked5 (m := get l i) (o := o) (e := e)
    generalize hmk : marked 5 (get l i) o e = mk at *
    have e2 : many (l.set i mk) 2 = 0 := by split at m2 <;> split at m2 <;> omega
    by_cases a1 : many (l.set i mk) 4 = (l.set i mk).length
    · rw [next_gone a1]
      exact base 6 ((phaseOk6 ..).2 a1)
    · rw [next_5 a1]
      exact base 5 ((phaseOk5 ..).2 ⟨e2, by rw [hlen] at *; omega⟩)
  · rw [phaseOk6] at h3
    have hc := marked46 (p := 6) (m := get l i) (o := o) (e := e) (.inr rfl)
    rw [next_other (by omega) (by omega) (by omega)]
    rw [hc] at m4 ⊢
    exact ⟨by unfold named; rw [List.length_set]; exact h1, (good_iff _).2 (good_set hg hm), (phaseOk6 ..).2 (by rw [List.length_set]; omega)⟩
theorem right_told {r : R} (i o e : Int) (h : Right r) : Right (told r i o e) := by
  unfold told
  split
  · rename_i hr
    exact right_told1 o e h (by have := hr.2.2; have := hr.2.1; omega)
  · exact h
end Rounds
