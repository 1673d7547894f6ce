/- An answer that comes twice is as if it came once. Plain words, no program in sight. -/
import Derived.Test.YtgfhpgomlocllaaRoundsSafe
namespace Rounds
open Il (get)

theorem next_right {r : R} (h : Right r) : next r = r := by
  have hp := right_phase h
  have hl := right_len h
  obtain ⟨s, v, d, p, l⟩ := r
  have h3 := h.2.2
  simp only at hp hl
  have hps : p = 1 ∨ p = 2 ∨ p = 3 ∨ p = 4 ∨ p = 5 ∨ p = 6 := by omega
  rcases hps with rfl | rfl | rfl | rfl | rfl | rfl
  · rw [phaseOk1] at h3
    exact next_1 (by omega) (by omega)
  · exact next_other (by omega) (by omega) (by omega)
  · rw [phaseOk3] at h3
    exact next_3 (by omega)
  · exact next_other (by omega) (by omega) (by omega)
  · rw [phaseOk5] at h3
    exact next_5 (by omega)
  · exact next_other (by omega) (by omega) (by omega)
theorem marked_twice {p q m o e : Int} (h : q = p ∨ (p = 1 ∧ (q = 2 ∨ q = 5)) ∨ (p = 3 ∧ q = 4) ∨ (p = 5 ∧ q = 6)) (hm : marked p m o e ≠ m) : marked q (marked p m o e) o e = marked p m o e := by
  have h46 : ∀ {p m : Int}, p = 4 ∨ p = 6 → marked p m o e = m := fun hp => marked46 hp
  have key : ∀ mk, marked p m o e = mk → marked q mk o e = mk := by
    intro mk hk
    by_cases hq : q = 4 ∨ q = 6
    · exact h46 hq
    · rw [hk] at hm
      unfold marked at hk ⊢
      by_cases p12 : p = 1 ∨ p = 2
      · rw [if_pos p12] at hk
        have hqq : q = 1 ∨ q = 2 ∨ q = 5 := by omega
        by_cases c1 : o = 1 ∧ e = 0
        · rw [if_pos c1] at hk
          obtain ⟨rfl, rfl⟩ := c1
          subst hk
          rcases hqq with rfl | rfl | rfl <;> simp
        · rw [if_neg c1] at hk
          by_cases c2 : o = 1 ∧ m = 0
          · rw [if_pos c2] at hk
            obtain ⟨rfl, rfl⟩ := c2
            subst hk
            have he : e ≠ 0 := fun h => c1 ⟨rfl, h⟩
            rcases hqq with rfl | rfl | rfl <;> simp [he]
          · rw [if_neg c2] at hk
            exact absurd hk.symm hm
      · rw [if_neg p12] at hk
        by_cases p3 : p = 3
        · rw [if_pos p3] at hk
          have hqq : q = 3 := by omega
          subst hqq
          rw [if_neg (by omega), if_pos rfl]
          repeat' split at hk
          all_goals (repeat' split)
          all_goals omega
        · rw [if_neg p3] at hk
          by_cases p5 : p = 5
          · rw [if_pos p5] at hk
            have hqq : q = 5 := by omega
            subst hqq
            rw [if_neg (by omega), if_neg (by omega), if_pos rfl]
            repeat' split at hk
            all_goals (repeat' split)
            all_goals omega
          · rw [if_neg p5] at hk
            exact absurd hk.symm hm
  exact key _ rfl
theorem told1_twice {r : R} {i : Nat} (o e : Int) (h : Right r) (hi : i < r.marks.length) : told1 (told1 r i o e) i o e = told1 r i o e := by
  have hr := right_told1 o e h hi
  obtain ⟨hm, hph⟩ := told1_phase r i o e
  by_cases hmk : marked r.phase (get r.marks i) o e = get r.marks i
  · have e1 : told1 r i o e = r := by
      have : told1 r i o e = next ⟨r.stripe, r.version, r.need, r.phase, r.marks.set i (marked r.phase (get r.marks i) o e)⟩ := rfl
      rw [this, hmk, set_get hi]
      exact next_right h
    rw [e1, e1]
  · have ht := marked_twice hph hmk
    generalize hR : told1 r i o e = q at *
    have hl : q.marks.length = r.marks.length := by rw [hm, List.length_set]
    have hg : get q.marks i = marked r.phase (get r.marks i) o e := by rw [hm, Il.get_set _ hi, if_pos rfl]
    have : told1 q i o e = next ⟨q.stripe, q.version, q.need, q.phase, q.marks.set i (marked q.phase (get q.marks i) o e)⟩ := rfl
    rw [this, hg, ht, ← hg, set_get (by omega)]
    exact next_right hr
theorem fallen_right {r : R} (h : Right r) : fallen r = r := by
  unfold fallen
  apply if_neg
  rintro ⟨h1, h2⟩
  obtain ⟨s, v, d, p, l⟩ := r
  simp only at h1 h2
  subst h1
  have h3 := (phaseOk2 ..).1 h.2.2
  omega
theorem lose1_twice {r : R} {i : Nat} (h : Right r) (hi : i < r.marks.length) : lose1 (lose1 r i) i = lose1 r i := by
  obtain ⟨hr, hph, hst⟩ := lose1_cases r i h hi
  rcases hst with ⟨_, h6⟩ | ⟨h5, h6⟩
  · rw [h6, h6]
  · generalize hR : lose1 r i = q at *
    have hl : q.marks.length = r.marks.length := by rw [h6, List.length_set]
    have hg : get q.marks i = 0 := by rw [h6, Il.get_set _ hi, if_pos rfl]
    have hq : ¬ (q.phase = 4 ∨ q.phase = 6) := by omega
    have : lose1 q i = fallen ⟨q.stripe, q.version, q.need, q.phase, q.marks.set i 0⟩ := if_neg hq
    have e0 : q.marks.set i 0 = q.marks := by
      have := set_get (l := q.marks) (i := i) (by omega)
      rw [hg] at this
      exact this
    rw [this, e0]
    exact fallen_right hr
theorem act_twice {r : R} {k i o e : Int} (h7 : k ≠ 7) (h8 : k ≠ 8) (hE : actE r k i = 0) : actE (act r k i o e) k i = 0 ∧ act (act r k i o e) k i o e = act r k i o e := by
  have hin : InRange r i := by
    unfold actE toldE at hE
    rw [if_neg h7, if_neg h8] at hE
    by_cases h : InRange r i
    · exact h
    · rw [if_neg h] at hE; omega
  have hi : i.toNat < r.marks.length := by have := hin.2.1; have := hin.2.2; omega
  have hin2 : InRange (act r k i o e) i := ⟨right_act k i o e hin.1, hin.2.1, by rw [(kept_act r k i o e).len]; exact hin.2.2⟩
  refine ⟨by unfold actE toldE; rw [if_neg h7, if_neg h8, if_pos hin2], ?_⟩
  have c1 := act_cases r k i o e hin.1 hin.2
  have c2 := act_cases (act r k i o e) k i o e hin2.1 hin2.2
  rcases c1 with ⟨h, _⟩ | ⟨h, _⟩ | ⟨h9, e1⟩ | ⟨_, _, h9, e1⟩
  · exact absurd h h7
  · exact absurd h h8
  · rcases c2 with ⟨h, _⟩ | ⟨h, _⟩ | ⟨_, e2⟩ | ⟨_, _, h, _⟩
    · exact absurd h h7
    · exact absurd h h8
    · rw [e2, e1]; exact lose1_twice hin.1 hi
    · exact absurd h9 h
  · rcases c2 with ⟨h, _⟩ | ⟨h, _⟩ | ⟨h, _⟩ | ⟨_, _, _, e2⟩
    · exact absurd h h7
    · exact absurd h h8
    · exact absurd h h9
    · rw [e2, e1]; exact told1_twice o e hin.1 hi
end Rounds
