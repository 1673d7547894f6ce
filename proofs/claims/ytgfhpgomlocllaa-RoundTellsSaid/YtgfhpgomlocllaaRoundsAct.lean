/- An act upon a round: what it keeps, and how its phase goes. Plain words, no program in sight. -/
import Derived.Test.YtgfhpgomlocllaaRoundsKeep
namespace Rounds
open Il (get)

theorem many_parts {l : List Int} (h : Good l) : many l 0 + many l 1 + many l 2 + many l 3 + many l 4 = l.length := by
  induction l with
  | nil => rfl
  | cons x l ih =>
    have h1 := ih (fun m hm => h m (List.mem_cons_of_mem _ hm))
    have hx := h x (List.mem_cons_self ..)
    have e0 := many_cons x l 0
    have e1 := many_cons x l 1
    have e2 := many_cons x l 2
    have e3 := many_cons x l 3
    have e4 := many_cons x l 4
    have el : (((x :: l).length : Nat) : Int) = (l.length : Int) + 1 := by simp
    have hc : x = 0 ∨ x = 1 ∨ x = 2 ∨ x = 3 ∨ x = 4 := by omega
    rw [el]
    rcases hc with rfl | rfl | rfl | rfl | rfl <;> simp at e0 e1 e2 e3 e4 <;> omega
/-- What is kept of a round whatever is done. -/
structure Kept (r q : R) : Prop where
  stripe : q.stripe = r.stripe
  version : q.version = r.version
  need : q.need = r.need
  len : q.marks.length = r.marks.length
theorem Kept.refl (r : R) : Kept r r := ⟨rfl, rfl, rfl, rfl⟩
theorem kept_told (r : R) (i o e : Int) : Kept r (told r i o e) := by
  unfold told
  split
  · exact ⟨rfl, rfl, rfl, List.length_set⟩
  · exact .refl r
theorem kept_lose (r : R) (i : Int) : Kept r (lose r i) := by
  unfold lose
  split
  · split
    · exact .refl r
    · unfold fallen
      split <;> exact ⟨rfl, rfl, rfl, List.length_set⟩
  · exact .refl r
theorem kept_turned (r : R) (t : Int) (f : List Int) : Kept r (turned r t f) := by
  unfold turned
  split
  · exact ⟨rfl, rfl, rfl, rfl⟩
  · exact .refl r
/-- One act. -/
def act (r : R) (k i o e : Int) : R := if k = 7 then publish r else if k = 8 then give r else if k = 9 then lose r i else told r i o e
def actE (r : R) (k i : Int) : Int := if k = 7 then turnedE r [2] else if k = 8 then turnedE r [1, 2] else toldE r i
theorem kept_act (r : R) (k i o e : Int) : Kept r (act r k i o e) := by
  unfold act
  split
  · exact kept_turned ..
  · split
    · exact kept_turned ..
    · split
      · exact kept_lose ..
      · exact kept_told ..
theorem act_bad {r : R} {k i : Int} (o e : Int) (h : actE r k i ≠ 0) : act r k i o e = r := by
  unfold actE at h
  unfold act
  have ht : ∀ t f, turnedE r f ≠ 0 → turned r t f = r := by
    intro t f hf
    unfold turnedE at hf
    unfold turned
    apply if_neg
    rintro ⟨h1, h2⟩
    rw [if_pos h1, if_pos h2] at hf
    exact hf rfl
  have hr : toldE r i ≠ 0 → ¬ InRange r i := by
    intro hf hi
    unfold toldE at hf
    rw [if_pos hi] at hf
    exact hf rfl
  by_cases h7 : k = 7
  · rw [if_pos h7] at h ⊢
    exact ht _ _ h
  · rw [if_neg h7] at h ⊢
    by_cases h8 : k = 8
    · rw [if_pos h8] at h ⊢
      exact ht _ _ h
    · rw [if_neg h8] at h ⊢
      split
      · exact if_neg (hr h)
      · exact if_neg (hr h)
theorem act_cases (r : R) (k i o e : Int) (hr : Right r) (h0 : 0 ≤ i ∧ i < r.marks.length) :
    (k = 7 ∧ act r k i o e = publish r) ∨ (k = 8 ∧ act r k i o e = give r) ∨ (k = 9 ∧ act r k i o e = lose1 r i.toNat) ∨ (k ≠ 7 ∧ k ≠ 8 ∧ k ≠ 9 ∧ act r k i o e = told1 r i.toNat o e) := by
  unfold act
  have hi : InRange r i := ⟨hr, h0.1, h0.2⟩
  by_cases h7 : k = 7
  · exact .inl ⟨h7, if_pos h7⟩
  · by_cases h8 : k = 8
    · exact .inr (.inl ⟨h8, by rw [if_neg h7, if_pos h8]⟩)
    · by_cases h9 : k = 9
      · refine .inr (.inr (.inl ⟨h9, ?_⟩))
        rw [if_neg h7, if_neg h8, if_pos h9]
        unfold lose
        rw [if_pos hi]; rfl
      · refine .inr (.inr (.inr ⟨h7, h8, h9, ?_⟩))
        rw [if_neg h7, if_neg h8, if_neg h9]
        unfold told
        rw [if_pos hi]
/-- Publish and Give, phase by phase. -/
theorem publish_2 {s v d : Int} {l : List Int} (h : Right ⟨s, v, d, 2, l⟩) : publish ⟨s, v, d, 2, l⟩ = ⟨s, v, d, 3, l⟩ := if_pos ⟨h, by simp⟩
theorem publish_else {r : R} (h : r.phase ≠ 2) : publish r = r := if_neg (fun hh => h (by simpa using hh.2))
theorem give_12 {s v d p : Int} {l : List Int} (h : Right ⟨s, v, d, p, l⟩) (hp : p = 1 ∨ p = 2) : give ⟨s, v, d, p, l⟩ = ⟨s, v, d, 5, l⟩ := if_pos ⟨h, by simpa using hp⟩
theorem give_else {r : R} (h : r.phase ≠ 1) (h2 : r.phase ≠ 2) : give r = r := if_neg (fun hh => by have := hh.2; simp at this; omega)
theorem right_len {r : R} (h : Right r) : 1 ≤ r.marks.length ∧ r.marks.length ≤ 255 := by
  have := h.1
  unfold named at this
  omega
theorem right_publish {r : R} (h : Right r) : Right (publish r) := by
  by_cases hp : r.phase = 2
  · obtain ⟨s, v, d, p, l⟩ := r
    simp only at hp
    subst hp
    rw [publish_2 h]
    have hl := right_len h
    simp only at hl
    have h3 := (phaseOk2 ..).1 h.2.2
    have g2 := many_ge l 2
    have g4 := many_ge l 4
    exact ⟨h.1, h.2.1, (phaseOk3 ..).2 ⟨by omega, by omega⟩⟩
  · rw [publish_else hp]; exact h
theorem right_give {r : R} (h : Right r) : Right (give r) := by
  by_cases hp : r.phase = 1 ∨ r.phase = 2
  · obtain ⟨s, v, d, p, l⟩ := r
    simp only at hp
    rw [give_12 h hp]
    have hl := right_len h
    simp only at hl
    have g2 := many_ge l 2
    have g4 := many_ge l 4
    have h3 : many l 2 + many l 4 = 0 := by
      rcases hp with rfl | rfl
      · exact ((phaseOk1 ..).1 h.2.2).1
      · exact ((phaseOk2 ..).1 h.2.2).1
    exact ⟨h.1, h.2.1, (phaseOk5 ..).2 ⟨by omega, by omega⟩⟩
  · rw [give_else (by omega) (by omega)]; exact h
theorem lose1_cases (r : R) (i : Nat) (h : Right r) (hi : i < r.marks.length) :
    Right (lose1 r i) ∧ ((lose1 r i).phase = r.phase ∨ (r.phase = 2 ∧ (lose1 r i).phase = 1)) ∧ ((r.phase = 4 ∨ r.phase = 6) ∧ lose1 r i = r ∨ (¬ (r.phase = 4 ∨ r.phase = 6) ∧ (lose1 r i).marks = r.marks.set i 0)) := by
  obtain ⟨s, v, d, p, l⟩ := r
  simp only at hi
  by_cases hp : p = 4 ∨ p = 6
  · have e : lose1 ⟨s, v, d, p, l⟩ i = ⟨s, v, d, p, l⟩ := if_pos hp
    rw [e]
    exact ⟨h, .inl rfl, .inl ⟨hp, rfl⟩⟩
  · rw [lose_else i hp]
    obtain ⟨h1, h2, h3⟩ := h
    simp only at h1 h2
    have hg := (good_iff l).1 h2
    have hm := good_get hg hi
    have hg' := good_set (i := i) hg (show (0 : Int) ≤ 0 ∧ (0 : Int) ≤ 4 by omega)
    have hlen : (l.set i 0).length = l.length := List.length_set
    have m1 := many_set (l := l) (i := i) 0 1 hi
    have m2 := many_set (l := l) (i := i) 0 2 hi
    have m3 := many_set (l := l) (i := i) 0 3 hi
    have m4 := many_set (l := l) (i := i) 0 4 hi
    have p0 := many_pos (l := l.set i 0) (k := 0) (i := i) (by rw [hlen]; exact hi) (by rw [Il.get_set 0 hi, if_pos rfl])
    have parts := many_parts hg'
    rw [hlen] at parts
    simp only [show ¬ (0 : Int) = 1 by omega, show ¬ (0 : Int) = 2 by omega, show ¬ (0 : Int) = 3 by omega, show ¬ (0 : Int) = 4 by omega, if_false, Int.add_zero] at m1 m2 m3 m4
    have g1 := many_ge (l.set i 0) 1
    have g2 := many_ge (l.set i 0) 2
    have g3 := many_ge (l.set i 0) 3
    have g4 := many_ge (l.set i 0) 4
    have hpp := right_phase (r := ⟨s, v, d, p, l⟩) ⟨h1, h2, h3⟩
    simp only at hpp
    unfold named at h1
    have base : ∀ q, phaseOk ⟨s, v, d, q, l.set i 0⟩ → Right ⟨s, v, d, q, l.set i 0⟩ := fun q hq => ⟨by unfold named; rw [hlen]; exact h1, (good_iff _).2 hg', hq⟩
    have hps : p = 1 ∨ p = 2 ∨ p = 3 ∨ p = 5 := by omega
    rcases hps with rfl | rfl | rfl | rfl
    · rw [phaseOk1] at h3
      have e : fallen ⟨s, v, d, 1, l.set i 0⟩ = ⟨s, v, d, 1, l.set i 0⟩ := if_neg (fun hh => by have := hh.1; simp at this)
      rw [e]
      exact ⟨base 1 ((phaseOk1 ..).2 ⟨by split at m2 <;> split at m4 <;> omega, by split at m1 <;> omega, by rw [hlen]; split at m3 <;> omega⟩), .inl rfl, .inr ⟨hp, rfl⟩⟩
    · rw [phaseOk2] at h3
      have e24 : many (l.set i 0) 2 + many (l.set i 0) 4 = 0 := by split at m2 <;> split at m4 <;> omega
      by_cases hf : many (l.set i 0) 1 < d
      · have e : fallen ⟨s, v, d, 2, l.set i 0⟩ = ⟨s, v, d, 1, l.set i 0⟩ := if_pos ⟨rfl, hf⟩
        rw [e]
        exact ⟨base 1 ((phaseOk1 ..).2 ⟨e24, hf, by rw [hlen]; split at m1 <;> omega⟩), .inr ⟨rfl, rfl⟩, .inr ⟨hp, rfl⟩⟩
      · have e : fallen ⟨s, v, d, 2, l.set i 0⟩ = ⟨s, v, d, 2, l.set i 0⟩ := if_neg (fun hh => hf hh.2)
        rw [e]
        exact ⟨base 2 ((phaseOk2 ..).2 ⟨e24, by omega⟩), .inl rfl, .inr ⟨hp, rfl⟩⟩
    · rw [phaseOk3] at h3
      have e : fallen ⟨s, v, d, 3, l.set i 0⟩ = ⟨s, v, d, 3, l.set i 0⟩ := if_neg (fun hh => by have := hh.1; simp at this)
      rw [e]
      exact ⟨base 3 ((phaseOk3 ..).2 ⟨by split at m4 <;> omega, by rw [hlen]; omega⟩), .inl rfl, .inr ⟨hp, rfl⟩⟩
    · rw [phaseOk5] at h3
      have e : fallen ⟨s, v, d, 5, l.set i 0⟩ = ⟨s, v, d, 5, l.set i 0⟩ := if_neg (fun hh => by have := hh.1; simp at this)
      rw [e]
      exact ⟨base 5 ((phaseOk5 ..).2 ⟨by split at m2 <;> omega, by rw [hlen]; omega⟩), .inl rfl, .inr ⟨hp, rfl⟩⟩
theorem right_lose {r : R} (i : Int) (h : Right r) : Right (lose r i) := by
  unfold lose
  split
  · rename_i hr
    exact (lose1_cases r i.toNat h (by have := hr.2.2; have := hr.2.1; omega)).1
  · exact h
theorem right_act {r : R} (k i o e : Int) (h : Right r) : Right (act r k i o e) := by
  unfold act
  split
  · exact right_publish h
  · split
    · exact right_give h
    · split
      · exact right_lose i h
      · exact right_told i o e h
/-- How an answer turns the phase. -/
theorem told1_phase (r : R) (i : Nat) (o e : Int) :
    (told1 r i o e).marks = r.marks.set i (marked r.phase (get r.marks i) o e) ∧
    ((told1 r i o e).phase = r.phase ∨ (r.phase = 1 ∧ ((told1 r i o e).phase = 2 ∨ (told1 r i o e).phase = 5)) ∨ (r.phase = 3 ∧ (told1 r i o e).phase = 4) ∨ (r.phase = 5 ∧ (told1 r i o e).phase = 6)) := by
  refine ⟨rfl, ?_⟩
  show nextPhase (setMark r i _) = r.phase ∨ _
  have e : ∀ q : R, nextPhase q = q.phase ∨ (q.phase = 1 ∧ (nextPhase q = 2 ∨ nextPhase q = 5)) ∨ (q.phase = 3 ∧ nextPhase q = 4) ∨ (q.phase = 5 ∧ nextPhase q = 6) := by
    intro q
    unfold nextPhase
    split
    · rename_i h; exact .inr (.inl ⟨h.1, .inl rfl⟩)
    · split
      · rename_i h; exact .inr (.inl ⟨h.1, .inr rfl⟩)
      · split
        · rename_i h; exact .inr (.inr (.inl ⟨h.1, rfl⟩))
        · split
          · rename_i h; exact .inr (.inr (.inr ⟨h.1, rfl⟩))
          · exact .inl rfl
  exact e (setMark r i _)
end Rounds
