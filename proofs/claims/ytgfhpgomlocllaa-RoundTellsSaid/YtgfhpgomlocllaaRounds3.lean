/- The phase behind an answer, case by case: plain words. -/
import Derived.Test.YtgfhpgomlocllaaRounds2
namespace Rounds
def lose1 (r : R) (i : Nat) : R := if r.phase = 4 ∨ r.phase = 6 then r else fallen (setMark r i 0)
section
variable {s v d p : Int} {l : List Int}
theorem next_ready (h : d ≤ many l 1) : next ⟨s, v, d, 1, l⟩ = ⟨s, v, d, 2, l⟩ := by simp [next, nextPhase, h]
theorem next_given (h : ¬ d ≤ many l 1) (h2 : (l.length : Int) - d < many l 3) : next ⟨s, v, d, 1, l⟩ = ⟨s, v, d, 5, l⟩ := by simp [next, nextPhase, h, h2]
theorem next_1 (h : ¬ d ≤ many l 1) (h2 : ¬ (l.length : Int) - d < many l 3) : next ⟨s, v, d, 1, l⟩ = ⟨s, v, d, 1, l⟩ := by simp [next, nextPhase, h, h2]
theorem next_done (h : many l 2 = l.length) : next ⟨s, v, d, 3, l⟩ = ⟨s, v, d, 4, l⟩ := by simp [next, nextPhase, h]
theorem next_3 (h : ¬ many l 2 = l.length) : next ⟨s, v, d, 3, l⟩ = ⟨s, v, d, 3, l⟩ := by simp [next, nextPhase, h]
theorem next_gone (h : many l 4 = l.length) : next ⟨s, v, d, 5, l⟩ = ⟨s, v, d, 6, l⟩ := by simp [next, nextPhase, h]
theorem next_5 (h : ¬ many l 4 = l.length) : next ⟨s, v, d, 5, l⟩ = ⟨s, v, d, 5, l⟩ := by simp [next, nextPhase, h]
theorem next_other (h1 : p ≠ 1) (h3 : p ≠ 3) (h5 : p ≠ 5) : next ⟨s, v, d, p, l⟩ = ⟨s, v, d, p, l⟩ := by simp [next, nextPhase, h1, h3, h5]
theorem lose_4 (i : Nat) : lose1 ⟨s, v, d, 4, l⟩ i = ⟨s, v, d, 4, l⟩ := if_pos (Or.inl rfl)
theorem lose_6 (i : Nat) : lose1 ⟨s, v, d, 6, l⟩ i = ⟨s, v, d, 6, l⟩ := if_pos (Or.inr rfl)
theorem lose_else (i : Nat) (h : ¬ (p = 4 ∨ p = 6)) : lose1 ⟨s, v, d, p, l⟩ i = fallen ⟨s, v, d, p, l.set i 0⟩ := if_neg h
end
end Rounds
