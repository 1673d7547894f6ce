/- Answers to prepare, one of each index, in whatever order: plain words. No program in sight. -/
import Derived.Test.YtgfhpgomlocllaaRoundsKeep
namespace Rounds
open Il (get)

theorem many_zero {l : List Int} {k : Int} (h : ∀ j, j < l.length → get l j ≠ k) : many l k = 0 := by
  unfold many
  have : l.filter (fun m => m == k) = [] := by
    rw [List.filter_eq_nil_iff]
    intro m hm e
    obtain ⟨j, hj, ej⟩ := Il.mem_get hm
    exact h j hj (by rw [ej]; simpa using e)
  rw [this]; rfl
theorem many_replicate_zero (n : Nat) (k : Int) (hk : k ≠ 0) : many (List.replicate n 0) k = 0 := many_zero fun j hj => by
  rw [Il.get_of_lt hj]
  simp
  exact fun e => hk e.symm
/-- The round behind the first k answers. -/
def seq (r : R) (f : Nat → Nat) (E : Nat → Int) : Nat → R
  | 0 => r
  | k + 1 => told (seq r f E k) ((f k : Nat) : Int) 1 (E (f k))
def fineTo (f : Nat → Nat) (E : Nat → Int) : Nat → Int
  | 0 => 0
  | k + 1 => fineTo f E k + if E (f k) = 0 then 1 else 0
def illTo (f : Nat → Nat) (E : Nat → Int) : Nat → Int
  | 0 => 0
  | k + 1 => illTo f E k + if E (f k) = 0 then 0 else 1
theorem fine_ill (f : Nat → Nat) (E : Nat → Int) (k : Nat) : fineTo f E k + illTo f E k = k := by
  induction k with
  | zero => rfl
  | succ k ih => unfold fineTo illTo; split <;> omega
/-- What holds behind k answers. -/
structure Inv (f : Nat → Nat) (E : Nat → Int) (N : Nat) (d : Int) (k : Nat) (r : R) : Prop where
  right : Right r
  need : r.need = d
  len : r.marks.length = N
  fresh : ∀ j, j < N → (∀ i, i < k → f i ≠ j) → get r.marks j = 0
  fine : ∀ i, i < k → E (f i) = 0 → get r.marks (f i) = 1
  ill : ∀ i, i < k → E (f i) ≠ 0 → r.phase ≠ 5 → get r.marks (f i) = 3
  four : ∀ j, j < N → get r.marks j ≠ 4
  phase : (r.phase = 1 ∧ many r.marks 1 = fineTo f E k ∧ many r.marks 3 = illTo f E k ∧ fineTo f E k < d ∧ illTo f E k ≤ N - d) ∨ (r.phase = 2 ∧ d ≤ fineTo f E k) ∨ (r.phase = 5 ∧ N - d < illTo f E k)
theorem inv_zero (f : Nat → Nat) (E : Nat → Int) (N : Nat) (d : Int) (hN : 1 ≤ N ∧ N ≤ 255) (hd : 1 ≤ d ∧ d ≤ N) : Inv f E N d 0 (begun 5 9 d N) := by
  have g : ∀ j, j < N → get (List.replicate N 0) j = 0 := fun j hj => by rw [Il.get_of_lt (by simpa using hj)]; simp
  have m1 := many_replicate_zero N 1 (by omega)
  have m2 := many_replicate_zero N 2 (by omega)
  have m3 := many_replicate_zero N 3 (by omega)
  have m4 := many_replicate_zero N 4 (by omega)
  refine ⟨⟨by unfold named begun; simp; omega, (good_iff _).2 ?_, (phaseOk1 ..).2 ⟨by omega, by omega, by simp; omega⟩⟩, rfl, by simp [begun], fun j hj _ => g j hj, fun i hi => absurd hi (Nat.not_lt_zero _), fun i hi => absurd hi (Nat.not_lt_zero _), fun j hj => by show get (List.replicate N 0) j ≠ 4; rw [g j hj]; omega, .inl ⟨rfl, m1, m3, ?_, ?_⟩⟩
  · intro m hm
    have : m = 0 := (List.mem_replicate.1 hm).2
    omega
  · show (0 : Int) < d; omega
  · show (0 : Int) ≤ N - d; omega
theorem inv_step {f : Nat → Nat} {E : Nat → Int} {N : Nat} {d : Int} {k : Nat} {r : R} (h : Inv f E N d k r) (hk : f k < N) (hf : ∀ i, i < k → f i ≠ f k) : Inv f E N d (k + 1) (told r ((f k : Nat) : Int) 1 (E (f k))) ∧ toldE r ((f k : Nat) : Int) = 0 := by
  have hin : InRange r ((f k : Nat) : Int) := ⟨h.right, by omega, by rw [h.len]; omega⟩
  have h0 : get r.marks (f k) = 0 := h.fresh _ hk hf
  refine ⟨?_, by unfold toldE; rw [if_pos hin]⟩
  have hrt := right_told ((f k : Nat) : Int) 1 (E (f k)) h.right
  have e0 : told r ((f k : Nat) : Int) 1 (E (f k)) = told1 r (f k) 1 (E (f k)) := by unfold told; rw [if_pos hin, Int.toNat_natCast]
  rw [e0] at hrt ⊢
  obtain ⟨hr, hn, hl, hfr, hfi, hil, hfo, hph⟩ := h
  obtain ⟨s, v, d', p, l⟩ := r
  simp only at hn hl hfr hfi hil hfo hph h0
  subst hn
  have hlt : f k < l.length := by rw [hl]; exact hk
  -- the mark
  obtain ⟨mk, hmk, hmk1, hmk2, hmk4⟩ : ∃ mk, marked p (get l (f k)) 1 (E (f k)) = mk ∧ (E (f k) = 0 → mk = 1) ∧ (E (f k) ≠ 0 → p ≠ 5 → mk = 3) ∧ (mk = 0 ∨ mk = 1 ∨ mk = 3) := by
    refine ⟨_, rfl, ?_, ?_, ?_⟩ <;> (rw [h0]; rcases hph with ⟨rfl, _⟩ | ⟨rfl, _⟩ | ⟨rfl, _⟩ <;> unfold marked <;> by_cases he : E (f k) = 0 <;> simp [he])
  have hto : told1 ⟨s, v, d', p, l⟩ (f k) 1 (E (f k)) = next ⟨s, v, d', p, l.set (f k) mk⟩ := by unfold told1 setMark; rw [← hmk]
  rw [hto] at hrt ⊢
  have m1 := many_set (l := l) mk 1 hlt
  have m3 := many_set (l := l) mk 3 hlt
  rw [h0, if_neg (by omega)] at m1 m3
  have hll : (l.set (f k) mk).length = N := by rw [List.length_set]; exact hl
  have f4 : ∀ j, j < N → get (l.set (f k) mk) j ≠ 4 := by
    intro j hj
    rw [Il.get_set mk hlt]
    split
    · omega
    · exact hfo j hj
  have m4 : many (l.set (f k) mk) 4 = 0 := many_zero fun j hj => f4 j (by rw [← hll]; exact hj)
  have hfi' : ∀ i, i < k + 1 → E (f i) = 0 → get (l.set (f k) mk) (f i) = 1 := by
    intro i hi he
    rw [Il.get_set mk hlt]
    by_cases e : f k = f i
    · rw [if_pos e]; exact hmk1 (by rw [e]; exact he)
    · rw [if_neg e]
      have : i ≠ k := fun e' => e (by rw [e'])
      exact hfi i (by omega) he
  have hfr' : ∀ j, j < N → (∀ i, i < k + 1 → f i ≠ j) → get (l.set (f k) mk) j = 0 := by
    intro j hj hi
    rw [Il.get_set mk hlt, if_neg (hi k (by omega))]
    exact hfr j hj fun i hi' => hi i (by omega)
  have hil' : p ≠ 5 → ∀ i, i < k + 1 → E (f i) ≠ 0 → get (l.set (f k) mk) (f i) = 3 := by
    intro hp i hi he
    rw [Il.get_set mk hlt]
    by_cases e : f k = f i
    · rw [if_pos e]; exact hmk2 (by rw [e]; exact he) hp
    · rw [if_neg e]
      have : i ≠ k := fun e' => e (by rw [e'])
      exact hil i (by omega) he hp
  have f1 : fineTo f E (k + 1) = fineTo f E k + if E (f k) = 0 then 1 else 0 := rfl
  have f2 : illTo f E (k + 1) = illTo f E k + if E (f k) = 0 then 0 else 1 := rfl
  have mk13 : ∀ q, q ≠ 5 → p = q → (if mk = 1 then (1 : Int) else 0) = (if E (f k) = 0 then 1 else 0) ∧ (if mk = 3 then (1 : Int) else 0) = (if E (f k) = 0 then 0 else 1) := by
    intro q hq hpq
    by_cases he : E (f k) = 0
    · rw [hmk1 he, if_pos he, if_pos he]; exact ⟨rfl, rfl⟩
    · rw [hmk2 he (by omega), if_neg he, if_neg he]; exact ⟨rfl, rfl⟩
  rcases hph with ⟨rfl, a1, a3, a4, a5⟩ | ⟨rfl, a1⟩ | ⟨rfl, a1⟩
  · obtain ⟨c1, c3⟩ := mk13 1 (by omega) rfl
    rw [c1] at m1
    rw [c3] at m3
    by_cases y : d' ≤ many (l.set (f k) mk) 1
    · rw [next_ready y] at hrt ⊢
      exact ⟨hrt, rfl, hll, hfr', hfi', fun i hi he _ => hil' (by omega) i hi he, f4, .inr (.inl ⟨rfl, by rw [f1]; omega⟩)⟩
    · by_cases z : ((l.set (f k) mk).length : Int) - d' < many (l.set (f k) mk) 3
      · rw [next_given y z] at hrt ⊢
        exact ⟨hrt, rfl, hll, hfr', hfi', fun i hi he _ => hil' (by omega) i hi he, f4, .inr (.inr ⟨rfl, by rw [f2]; rw [hll] at z; omega⟩)⟩
      · rw [next_1 y z] at hrt ⊢
        rw [hll] at z
        exact ⟨hrt, rfl, hll, hfr', hfi', fun i hi he _ => hil' (by omega) i hi he, f4, .inl ⟨rfl, by show many (l.set (f k) mk) 1 = _; rw [f1]; omega, by show many (l.set (f k) mk) 3 = _; rw [f2]; omega, by rw [f1]; omega, by rw [f2]; omega⟩⟩
  · rw [next_other (by omega) (by omega) (by omega)] at hrt ⊢
    exact ⟨hrt, rfl, hll, hfr', hfi', fun i hi he _ => hil' (by omega) i hi he, f4, .inr (.inl ⟨rfl, by rw [f1]; split <;> omega⟩)⟩
  · have hn5 : ¬ many (l.set (f k) mk) 4 = (l.set (f k) mk).length := by rw [m4, hll]; omega
    rw [next_5 hn5] at hrt ⊢
    exact ⟨hrt, rfl, hll, hfr', hfi', fun i hi he hp => absurd rfl hp, f4, .inr (.inr ⟨rfl, by rw [f2]; split <;> omega⟩)⟩
theorem inv_all {f : Nat → Nat} {E : Nat → Int} {N : Nat} {d : Int} (hN : 1 ≤ N ∧ N ≤ 255) (hd : 1 ≤ d ∧ d ≤ N) (hf : ∀ i, i < N → f i < N) (hinj : ∀ i j, i < j → j < N → f i ≠ f j) (k : Nat) (hk : k ≤ N) :
    Inv f E N d k (seq (begun 5 9 d N) f E k) := by
  induction k with
  | zero => exact inv_zero f E N d hN hd
  | succ k ih => exact (inv_step (ih (by omega)) (hf k (by omega)) (fun i hi => hinj i k hi (by omega))).1
theorem inv_phase {f : Nat → Nat} {E : Nat → Int} {N : Nat} {d : Int} {r : R} (h : Inv f E N d N r) : (r.phase = 2 ↔ d ≤ fineTo f E N) ∧ (r.phase = 2 ∨ r.phase = 5) := by
  have hs := fine_ill f E N
  rcases h.phase with ⟨h1, _, _, h4, h5⟩ | ⟨h1, h2⟩ | ⟨h1, h2⟩
  · omega
  · exact ⟨⟨fun _ => h2, fun _ => h1⟩, .inl h1⟩
  · exact ⟨⟨fun h => by omega, fun h => by omega⟩, .inr h1⟩
end Rounds
