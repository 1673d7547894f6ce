/- What is published was prepared by Need indexes at least: plain words, no program in sight. -/
import Derived.Test.YtgfhpgomlocllaaRoundsAct
namespace Rounds
open Il (get)

theorem set_get {l : List Int} {i : Nat} (h : i < l.length) : l.set i (get l i) = l := Il.ext_get List.length_set fun k hk => by
  rw [Il.get_set _ h]
  split
  · rename_i e; rw [e]
  · rfl
def sget (S : List Bool) (j : Nat) : Bool := S.getD j false
theorem sget_set {S : List Bool} {i : Nat} (b : Bool) (h : i < S.length) (j : Nat) : sget (S.set i b) j = if i = j then b else sget S j := by
  unfold sget
  simp only [List.getD_eq_getElem?_getD, List.getElem?_set]
  by_cases e : i = j
  · subst e; simp [h]
  · simp [e]
/-- How many of the first k have said so. -/
def saidTo (S : List Bool) : Nat → Nat
  | 0 => 0
  | k + 1 => saidTo S k + if sget S k = true then 1 else 0
theorem saidTo_le (S : List Bool) (k : Nat) : saidTo S k ≤ k := by
  induction k with
  | zero => exact Nat.le_refl _
  | succ k ih => unfold saidTo; split <;> omega
/-- How many of the first k marks are of a kind. -/
def manyTo (l : List Int) (x : Int) : Nat → Nat
  | 0 => 0
  | k + 1 => manyTo l x k + if get l k = x then 1 else 0
theorem manyTo_le (l : List Int) (x : Int) (k : Nat) : manyTo l x k ≤ k := by
  induction k with
  | zero => exact Nat.le_refl _
  | succ k ih => unfold manyTo; split <;> omega
theorem manyTo_take (l : List Int) (x : Int) (k : Nat) (hk : k ≤ l.length) : many (l.take k) x = manyTo l x k := by
  induction k with
  | zero => rfl
  | succ k ih =>
    have e : manyTo l x (k + 1) = manyTo l x k + if get l k = x then 1 else 0 := rfl
    rw [take_snoc (by omega), many_snoc, ih (by omega), e]
    by_cases h : get l k = x <;> simp [h]
theorem manyTo_all (l : List Int) (x : Int) : many l x = manyTo l x l.length := by
  rw [← manyTo_take l x l.length (Nat.le_refl _), List.take_length]
theorem many_said {l : List Int} {S : List Bool} (k : Nat) (h : ∀ j, j < k → get l j = 1 → sget S j = true) : manyTo l 1 k ≤ saidTo S k := by
  induction k with
  | zero => exact Nat.le_refl _
  | succ k ih =>
    have h1 := ih (fun j hj => h j (by omega))
    unfold manyTo saidTo
    by_cases e : get l k = 1
    · rw [if_pos e, if_pos (h k (by omega) e)]; omega
    · rw [if_neg e]; omega
/-- What an act makes of who has said so. -/
def saidStep (S : List Bool) (k : Int) (i : Nat) (o e : Int) : List Bool :=
  if k = 9 then S.set i false else if k ≠ 7 ∧ k ≠ 8 ∧ o = 1 ∧ e = 0 then S.set i true else S
theorem saidStep_length (S : List Bool) (k : Int) (i : Nat) (o e : Int) : (saidStep S k i o e).length = S.length := by
  unfold saidStep
  split
  · simp
  · split <;> simp
structure Safe (N : Nat) (r : R) (S : List Bool) : Prop where
  right : Right r
  len : r.marks.length = N
  slen : S.length = N
  said : r.phase = 1 ∨ r.phase = 2 → ∀ j, j < N → get r.marks j = 1 → sget S j = true
theorem many_none {l : List Int} {k j : Int} (h : many l k = l.length) (hj : j ≠ k) (hg : Good l) (hr : 0 ≤ j ∧ j ≤ 4 ∧ 0 ≤ k ∧ k ≤ 4) : many l j = 0 := by
  have hp := many_parts hg
  have g0 := many_ge l 0
  have g1 := many_ge l 1
  have g2 := many_ge l 2
  have g3 := many_ge l 3
  have g4 := many_ge l 4
  have hk : k = 0 ∨ k = 1 ∨ k = 2 ∨ k = 3 ∨ k = 4 := by omega
  have hjj : j = 0 ∨ j = 1 ∨ j = 2 ∨ j = 3 ∨ j = 4 := by omega
  rcases hk with rfl | rfl | rfl | rfl | rfl <;> rcases hjj with rfl | rfl | rfl | rfl | rfl <;> omega
/-- Nothing is committed of what is not published; nothing gone of what is not given up. -/
theorem right_none {r : R} (h : Right r) : (¬ (r.phase = 3 ∨ r.phase = 4) → many r.marks 2 = 0) ∧ (¬ (r.phase = 5 ∨ r.phase = 6) → many r.marks 4 = 0) := by
  have hp := right_phase h
  obtain ⟨s, v, d, p, l⟩ := r
  obtain ⟨h1, h2, h3⟩ := h
  have hg := (good_iff l).1 h2
  simp only at hp ⊢
  have g2 := many_ge l 2
  have g4 := many_ge l 4
  have hps : p = 1 ∨ p = 2 ∨ p = 3 ∨ p = 4 ∨ p = 5 ∨ p = 6 := by omega
  rcases hps with rfl | rfl | rfl | rfl | rfl | rfl
  · have := (phaseOk1 ..).1 h3; exact ⟨fun _ => by omega, fun _ => by omega⟩
  · have := (phaseOk2 ..).1 h3; exact ⟨fun _ => by omega, fun _ => by omega⟩
  · have := (phaseOk3 ..).1 h3; exact ⟨fun hh => by omega, fun _ => by omega⟩
  · have := (phaseOk4 ..).1 h3; exact ⟨fun hh => by omega, fun _ => many_none this (by omega) hg (by omega)⟩
  · have := (phaseOk5 ..).1 h3; exact ⟨fun _ => by omega, fun hh => by omega⟩
  · have := (phaseOk6 ..).1 h3; exact ⟨fun _ => many_none this (by omega) hg (by omega), fun hh => by omega⟩
/-- How an act turns the phase. -/
structure Way (r q : R) (k : Int) : Prop where
  pub : q.phase = 3 → r.phase ≠ 3 → r.phase = 2 ∧ k = 7 ∧ q.marks = r.marks
  up : r.phase = 3 ∨ r.phase = 4 → q.phase = 3 ∨ q.phase = 4
  done : q.phase = 4 → r.phase = 3 ∨ r.phase = 4
  given : r.phase = 5 ∨ r.phase = 6 → q.phase = 5 ∨ q.phase = 6
  gone : q.phase = 6 → r.phase = 5 ∨ r.phase = 6
  stay : r.phase = 4 ∨ r.phase = 6 → q = r
theorem way_same (r : R) (k : Int) : Way r r k := ⟨fun h h2 => absurd h h2, fun h => h, fun h => .inr h, fun h => h, fun h => .inr h, fun _ => rfl⟩
theorem way_act {r : R} {k i o e : Int} (hr : Right r) (h0 : 0 ≤ i ∧ i < r.marks.length) : Way r (act r k i o e) k := by
  have hi : i.toNat < r.marks.length := by omega
  have hpp := right_phase hr
  rcases act_cases r k i o e hr h0 with ⟨hk, h⟩ | ⟨hk, h⟩ | ⟨hk, h⟩ | ⟨_, _, _, h⟩
  · rw [h]
    by_cases hp : r.phase = 2
    · obtain ⟨s, v, d, p, l⟩ := r
      simp only at hp
      subst hp
      rw [publish_2 hr]
      exact ⟨fun _ _ => ⟨rfl, hk, rfl⟩, fun _ => .inl rfl, fun h => by simp at h, fun h => by simp at h, fun h => by simp at h, fun h => by simp at h⟩
    · rw [publish_else hp]; exact way_same r k
  · rw [h]
    by_cases hp : r.phase = 1 ∨ r.phase = 2
    · obtain ⟨s, v, d, p, l⟩ := r
      rw [give_12 hr hp]
      simp only at hp
      exact ⟨fun h => by simp at h, fun h => by simp only at h; omega, fun h => by simp at h, fun _ => .inl rfl, fun h => by simp at h, fun h => by simp only at h; omega⟩
    · rw [give_else (by omega) (by omega)]; exact way_same r k
  · rw [h]
    obtain ⟨_, hph, hst⟩ := lose1_cases r i.toNat hr hi
    generalize lose1 r i.toNat = q at *
    exact ⟨fun _ _ => by omega, fun _ => by omega, fun _ => by omega, fun _ => by omega, fun _ => by omega, fun h4 => by
      rcases hst with ⟨_, h5⟩ | ⟨h5, _⟩
      · exact h5
      · exact absurd h4 h5⟩
  · rw [h]
    obtain ⟨hm, hph⟩ := told1_phase r i.toNat o e
    refine ⟨fun _ _ => by omega, fun _ => by omega, fun _ => by omega, fun _ => by omega, fun _ => by omega, fun h4 => ?_⟩
    have e1 := marked46 (m := get r.marks i.toNat) (o := o) (e := e) h4
    obtain ⟨s, v, d, p, l⟩ := r
    simp only at hi e1 h4
    show next ⟨s, v, d, p, l.set i.toNat (marked p (get l i.toNat) o e)⟩ = _
    rw [e1, next_other (by omega) (by omega) (by omega), set_get hi]
theorem safe_act {N : Nat} {r : R} {S : List Bool} {k i o e : Int} (h : Safe N r S) (h0 : 0 ≤ i ∧ i < N) : Safe N (act r k i o e) (saidStep S k i.toNat o e) := by
  obtain ⟨hr, hl, hs, hsd⟩ := h
  have h0' : 0 ≤ i ∧ i < r.marks.length := by omega
  have hi : i.toNat < r.marks.length := by omega
  refine ⟨right_act k i o e hr, by rw [(kept_act r k i o e).len, hl], by rw [saidStep_length, hs], ?_⟩
  intro hp j hj hg
  rcases act_cases r k i o e hr h0' with ⟨hk, h⟩ | ⟨hk, h⟩ | ⟨hk, h⟩ | ⟨h7, h8, h9, h⟩
  · rw [h] at hp hg
    have hst : saidStep S k i.toNat o e = S := by unfold saidStep; rw [if_neg (by omega), if_neg (by omega)]
    rw [hst]
    by_cases hp2 : r.phase = 2
    · obtain ⟨s, v, d, p, l⟩ := r
      simp only at hp2
      subst hp2
      rw [publish_2 hr] at hp
      simp at hp
    · rw [publish_else hp2] at hp hg
      exact hsd hp j hj hg
  · rw [h] at hp hg
    have hst : saidStep S k i.toNat o e = S := by unfold saidStep; rw [if_neg (by omega), if_neg (by omega)]
    rw [hst]
    by_cases hp2 : r.phase = 1 ∨ r.phase = 2
    · obtain ⟨s, v, d, p, l⟩ := r
      rw [give_12 hr hp2] at hp
      simp at hp
    · rw [give_else (by omega) (by omega)] at hp hg
      exact hsd hp j hj hg
  · rw [h] at hp hg
    have hst : saidStep S k i.toNat o e = S.set i.toNat false := if_pos hk
    rw [hst, sget_set false (by omega)]
    obtain ⟨_, hph, hst⟩ := lose1_cases r i.toNat hr hi
    rcases hst with ⟨h5, h6⟩ | ⟨_, h6⟩
    · rw [h6] at hp; omega
    · rw [h6, Il.get_set 0 hi] at hg
      by_cases e1 : i.toNat = j
      · rw [if_pos e1] at hg; omega
      · rw [if_neg e1] at hg ⊢
        exact hsd (by omega) j hj hg
  · rw [h] at hp hg
    obtain ⟨hm, hph⟩ := told1_phase r i.toNat o e
    rw [hm, Il.get_set _ hi] at hg
    have hp' : r.phase = 1 ∨ r.phase = 2 := by omega
    unfold saidStep
    rw [if_neg h9]
    by_cases ho : o = 1 ∧ e = 0
    · rw [if_pos ⟨h7, h8, ho.1, ho.2⟩, sget_set true (by omega)]
      by_cases e1 : i.toNat = j
      · rw [if_pos e1]
      · rw [if_neg e1] at hg ⊢
        exact hsd hp' j hj hg
    · rw [if_neg (fun hh => ho hh.2.2)]
      by_cases e1 : i.toNat = j
      · subst e1
        rw [if_pos rfl] at hg
        refine hsd hp' _ (by omega) ?_
        unfold marked at hg
        rw [if_pos hp', if_neg ho] at hg
        split at hg
        · omega
        · exact hg
      · rw [if_neg e1] at hg
        exact hsd hp' j hj hg
/-- What is published has Need prepares, of which each was said. -/
theorem safe_pub {N : Nat} {r : R} {S : List Bool} (h : Safe N r S) (hp : r.phase = 2) : r.need ≤ many r.marks 1 ∧ many r.marks 1 ≤ saidTo S N := by
  obtain ⟨s, v, d, p, l⟩ := r
  simp only at hp
  subst hp
  have h3 := (phaseOk2 ..).1 h.right.2.2
  refine ⟨h3.2, ?_⟩
  have hl : l.length = N := h.len
  have := many_said (l := l) (S := S) N (fun j hj hg => h.said (.inr rfl) j hj hg)
  rw [manyTo_all, hl]
  show ((manyTo l 1 N : Nat) : Int) ≤ _
  omega
theorem safe_begun (N : Nat) (d : Int) (hN : 1 ≤ N ∧ N ≤ 255) (hd : 1 ≤ d ∧ d ≤ N) : Safe N (begun 5 9 d N) (List.replicate N false) := by
  have g : ∀ j, j < N → get (List.replicate N 0) j = 0 := fun j hj => by rw [Il.get_of_lt (by simpa using hj)]; simp
  have z : ∀ k : Int, k ≠ 0 → many (List.replicate N 0) k = 0 := by
    intro k hk
    rw [manyTo_all]
    have : ∀ t, t ≤ N → manyTo (List.replicate N 0) k t = 0 := by
      intro t ht
      induction t with
      | zero => rfl
      | succ t ih => unfold manyTo; rw [ih (by omega), g t (by omega), if_neg (fun e => hk e.symm)]
    rw [List.length_replicate, this N (Nat.le_refl _)]; rfl
  have m1 := z 1 (by omega)
  have m2 := z 2 (by omega)
  have m3 := z 3 (by omega)
  have m4 := z 4 (by omega)
  refine ⟨⟨by unfold named begun; simp; omega, (good_iff _).2 ?_, (phaseOk1 ..).2 ⟨by omega, by omega, by simp; omega⟩⟩, by simp [begun], by simp, fun _ j hj hg => ?_⟩
  · intro m hm
    have : m = 0 := (List.mem_replicate.1 hm).2
    omega
  · have : get (begun 5 9 d N).marks j = 0 := g j hj
    omega
end Rounds
