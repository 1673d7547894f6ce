/- If every want is met with OK a round comes to its end. Plain words, no program in sight. -/
import Derived.Test.YtgfhpgomlocllaaRoundsWanted
namespace Rounds
open Il (get)

/-- What is left to do. -/
def left_ (r : R) : Int := if r.phase = 4 ∨ r.phase = 6 then 0 else if r.phase = 5 then r.marks.length - many r.marks 4 else 2 * (many r.marks 0 + many r.marks 3) + many r.marks 1
theorem left_range {r : R} (h : Right r) : 0 ≤ left_ r ∧ left_ r ≤ 2 * r.marks.length := by
  have hp := many_parts ((good_iff r.marks).1 h.2.1)
  have g0 := many_ge r.marks 0
  have g1 := many_ge r.marks 1
  have g2 := many_ge r.marks 2
  have g3 := many_ge r.marks 3
  have g4 := many_ge r.marks 4
  have k4 := many_le r.marks 4
  unfold left_
  split
  · omega
  · split <;> omega
theorem left_give {r : R} (h : Right r) (hp : r.phase = 1 ∨ r.phase = 2) : left_ (give r) ≤ left_ r := by
  have hpt := many_parts ((good_iff r.marks).1 h.2.1)
  obtain ⟨s, v, d, p, l⟩ := r
  rw [give_12 h hp]
  simp only at hp hpt
  have g0 := many_ge l 0
  have g1 := many_ge l 1
  have g2 := many_ge l 2
  have g3 := many_ge l 3
  have g4 := many_ge l 4
  have h24 : many l 2 + many l 4 = 0 := by
    rcases hp with rfl | rfl
    · exact ((phaseOk1 ..).1 h.2.2).1
    · exact ((phaseOk2 ..).1 h.2.2).1
  have e1 : left_ ⟨s, v, d, 5, l⟩ = l.length - many l 4 := by simp [left_]
  have e2 : left_ ⟨s, v, d, p, l⟩ = 2 * (many l 0 + many l 3) + many l 1 := by
    unfold left_
    simp only
    rw [if_neg (by omega), if_neg (by omega)]
  rw [e1, e2]
  omega
theorem left_publish {r : R} (h : Right r) (hp : r.phase = 2) : left_ (publish r) = left_ r := by
  obtain ⟨s, v, d, p, l⟩ := r
  simp only at hp
  subst hp
  rw [publish_2 h]
  simp [left_]
/-- A round that asks wants something. -/
theorem asks {r : R} (h : Right r) (hp : r.phase = 1) : (wants r).length ≠ 0 := by
  obtain ⟨s, v, d, p, l⟩ := r
  simp only at hp
  subst hp
  have h3 := (phaseOk1 ..).1 h.2.2
  have hpt := many_parts ((good_iff l).1 h.2.1)
  have g2 := many_ge l 2
  have g4 := many_ge l 4
  have h0 : 1 ≤ many l 0 := by omega
  have : ∃ j, j < l.length ∧ get l j = 0 := by
    apply Classical.byContradiction
    intro hn
    have hz : ∀ k, k ≤ l.length → manyTo l 0 k = 0 := by
      intro k hk
      induction k with
      | zero => rfl
      | succ k ih =>
        have e : manyTo l 0 (k + 1) = manyTo l 0 k + if get l k = 0 then 1 else 0 := rfl
        rw [e, ih (by omega), if_neg (fun e => hn ⟨k, by omega, e⟩)]
    rw [manyTo_all, hz l.length (Nat.le_refl _)] at h0
    omega
  obtain ⟨j, hj, hg⟩ := this
  refine wants_some h hj ?_
  show want 1 (get l j) ≠ 0
  unfold want
  rw [if_pos (.inl ⟨.inl rfl, hg⟩)]
  omega
/-- What is wanted, one by one. -/
theorem wanted_at (r : R) {k : Nat} (hk : k < (wants r).length) : Right r ∧ ∃ i, i < r.marks.length ∧ pget (wants r) k = ((i : Int), want r.phase (get r.marks i)) ∧ want r.phase (get r.marks i) ≠ 0 := by
  have hr : Right r := by
    apply Classical.byContradiction
    intro hn
    unfold wants at hk
    rw [if_neg hn] at hk
    exact absurd hk (Nat.not_lt_zero _)
  refine ⟨hr, ?_⟩
  unfold wants at hk ⊢
  rw [if_pos hr] at hk ⊢
  have hm : pget (wantsOf r.phase r.marks r.marks.length) k ∈ wantsOf r.phase r.marks r.marks.length := by
    unfold pget
    rw [List.getD_eq_getElem?_getD, List.getElem?_eq_getElem hk, Option.getD_some]
    exact List.getElem_mem hk
  generalize hx : pget (wantsOf r.phase r.marks r.marks.length) k = x at *
  unfold wantsOf at hm
  rw [List.mem_map] at hm
  obtain ⟨i, hi, rfl⟩ := hm
  rw [List.mem_filter, List.mem_range] at hi
  exact ⟨i, hi.1, rfl, by simpa using hi.2⟩
/-- A want that is met with OK. -/
theorem met {r : R} (h : Right r) (hp2 : r.phase ≠ 2) {i : Nat} (hi : i < r.marks.length) (hw : want r.phase (get r.marks i) ≠ 0) :
    toldE r (i : Int) = 0 ∧ Right (told r (i : Int) (want r.phase (get r.marks i)) 0) ∧ left_ (told r (i : Int) (want r.phase (get r.marks i)) 0) + 1 ≤ left_ r ∧ told r (i : Int) (want r.phase (get r.marks i)) 0 ≠ r := by
  have hin : InRange r (i : Int) := ⟨h, by omega, by omega⟩
  have hrt := right_told (i : Int) (want r.phase (get r.marks i)) 0 h
  have e0 : told r (i : Int) (want r.phase (get r.marks i)) 0 = told1 r i (want r.phase (get r.marks i)) 0 := by unfold told; rw [if_pos hin, Int.toNat_natCast]
  rw [e0] at hrt ⊢
  refine ⟨by unfold toldE; rw [if_pos hin], hrt, ?_⟩
  have key : left_ (told1 r i (want r.phase (get r.marks i)) 0) + 1 ≤ left_ r := by
    have hpp := right_phase h
    obtain ⟨s, v, d, p, l⟩ := r
    simp only at hp2 hi hw hpp
    have hg := (good_iff l).1 h.2.1
    have hgi := good_get hg hi
    have hpt := many_parts hg
    have hto : ∀ o, told1 ⟨s, v, d, p, l⟩ i o 0 = next ⟨s, v, d, p, l.set i (marked p (get l i) o 0)⟩ := fun o => rfl
    have s0 := fun x => many_set (l := l) (i := i) x 0 hi
    have s1 := fun x => many_set (l := l) (i := i) x 1 hi
    have s2 := fun x => many_set (l := l) (i := i) x 2 hi
    have s3 := fun x => many_set (l := l) (i := i) x 3 hi
    have s4 := fun x => many_set (l := l) (i := i) x 4 hi
    have ll : ∀ x, (l.set i x).length = l.length := fun x => List.length_set
    have g0 := fun x => many_ge (l.set i x) 0
    have g1 := fun x => many_ge (l.set i x) 1
    have g3 := fun x => many_ge (l.set i x) 3
    have k4 := fun x => many_le (l.set i x) 4
    have z0 := many_ge l 0
    have z1 := many_ge l 1
    have z2 := many_ge l 2
    have z3 := many_ge l 3
    have z4 := many_ge l 4
    simp only
    have hps : p = 1 ∨ p = 3 ∨ p = 4 ∨ p = 5 ∨ p = 6 := by omega
    rcases hps with rfl | rfl | rfl | rfl | rfl
    · have h3 := (phaseOk1 ..).1 h.2.2
      have hm0 : get l i = 0 := by
        apply Classical.byContradiction
        intro hne
        apply hw
        unfold want
        rw [if_neg (by omega), if_neg (by omega), if_neg (by omega)]
      rw [hm0] at hw ⊢
      have ew : want 1 0 = 1 := by decide
      have em : marked 1 0 1 0 = 1 := by decide
      rw [hto, ew, hm0, em]
      have a0 := s0 1
      have a1 := s1 1
      have a3 := s3 1
      rw [hm0] at a0 a1 a3
      simp at a0 a1 a3
      have e2 : left_ ⟨s, v, d, 1, l⟩ = 2 * (many l 0 + many l 3) + many l 1 := by simp [left_]
      have e3 : ∀ q, q = 1 ∨ q = 2 → left_ ⟨s, v, d, q, l.set i 1⟩ = 2 * (many (l.set i 1) 0 + many (l.set i 1) 3) + many (l.set i 1) 1 := by
        intro q hq
        unfold left_
        simp only
        rw [if_neg (by omega), if_neg (by omega)]
      by_cases y : d ≤ many (l.set i 1) 1
      · rw [next_ready y, e2, e3 2 (.inr rfl)]; omega
      · rw [next_1 y (by rw [ll]; omega), e2, e3 1 (.inl rfl)]; omega
    · have h3 := (phaseOk3 ..).1 h.2.2
      have e2 : left_ ⟨s, v, d, 3, l⟩ = 2 * (many l 0 + many l 3) + many l 1 := by simp [left_]
      have hc : get l i = 0 ∨ get l i = 1 ∨ get l i = 2 ∨ get l i = 3 ∨ get l i = 4 := by omega
      have fin : ∀ x, 2 * (many (l.set i x) 0 + many (l.set i x) 3) + many (l.set i x) 1 + 1 ≤ 2 * (many l 0 + many l 3) + many l 1 → left_ (next ⟨s, v, d, 3, l.set i x⟩) + 1 ≤ left_ ⟨s, v, d, 3, l⟩ := by
        intro x hx
        have q0 := g0 x
        have q1 := g1 x
        have q3 := g3 x
        by_cases y : many (l.set i x) 2 = (l.set i x).length
        · rw [next_done y, e2]
          have : left_ ⟨s, v, d, 4, l.set i x⟩ = 0 := by simp [left_]
          omega
        · rw [next_3 y, e2]
          have : left_ ⟨s, v, d, 3, l.set i x⟩ = 2 * (many (l.set i x) 0 + many (l.set i x) 3) + many (l.set i x) 1 := by simp [left_]
          omega
      rcases hc with hm | hm | hm | hm | hm
      · rw [hto, hm, show want 3 0 = 1 by decide, show marked 3 0 1 0 = 1 by decide]
        have a0 := s0 1
        have a1 := s1 1
        have a3 := s3 1
        rw [hm] at a0 a1 a3
        simp at a0 a1 a3
        exact fin 1 (by omega)
      · rw [hto, hm, show want 3 1 = 2 by decide, show marked 3 1 2 0 = 2 by decide]
        have a0 := s0 2
        have a1 := s1 2
        have a3 := s3 2
        rw [hm] at a0 a1 a3
        simp at a0 a1 a3
        exact fin 2 (by omega)
      · rw [hm] at hw; exact absurd (by decide) hw
      · rw [hto, hm, show want 3 3 = 1 by decide, show marked 3 3 1 0 = 1 by decide]
        have a0 := s0 1
        have a1 := s1 1
        have a3 := s3 1
        rw [hm] at a0 a1 a3
        simp at a0 a1 a3
        exact fin 1 (by omega)
      · rw [hm] at hw; exact absurd (by decide) hw
    · exact absurd (by unfold want; rw [if_neg (by omega), if_neg (by omega), if_neg (by omega)]) hw
    · have h3 := (phaseOk5 ..).1 h.2.2
      have e2 : left_ ⟨s, v, d, 5, l⟩ = l.length - many l 4 := by simp [left_]
      have hm4 : get l i ≠ 4 := by
        intro e
        rw [e] at hw
        exact absurd (by decide) hw
      have ew : want 5 (get l i) = 3 := by
        unfold want
        rw [if_neg (by omega), if_neg (by omega), if_pos ⟨rfl, hm4⟩]
      have em : ∀ m, marked 5 m 3 0 = 4 := by
        intro m
        unfold marked
        rw [if_neg (by omega), if_neg (by omega), if_pos rfl, if_neg (by omega), if_pos (by omega)]
      rw [hto, ew, em]
      have a4 := s4 4
      rw [if_neg hm4] at a4
      simp at a4
      have q4 := k4 4
      rw [ll] at q4
      by_cases y : many (l.set i 4) 4 = (l.set i 4).length
      · rw [next_gone y, e2]
        have : left_ ⟨s, v, d, 6, l.set i 4⟩ = 0 := by simp [left_]
        rw [ll] at y
        omega
      · rw [next_5 y, e2]
        have : left_ ⟨s, v, d, 5, l.set i 4⟩ = (l.set i 4).length - many (l.set i 4) 4 := by simp [left_]
        rw [this, ll]
        omega
    · exact absurd (by unfold want; rw [if_neg (by omega), if_neg (by omega), if_neg (by omega)]) hw
  refine ⟨key, fun e => ?_⟩
  rw [e] at key
  omega
end Rounds
