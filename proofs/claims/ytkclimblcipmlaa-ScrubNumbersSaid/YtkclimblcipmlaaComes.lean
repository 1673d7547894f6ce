/- The ring of the stripes: each one comes, in plain words. No program in sight. -/
import Derived.Test.YtkclimblcipmlaaScQ
import Derived.Test.YtkclimblcipmlaaScRight2
namespace Scrubs
open Il

theorem urge_keeps (s : S) (n : Int) : (urgeS s n).cur = s.cur ∧ (urgeS s n).queue = s.queue ∧ (urgeS s n).busy = s.busy := by
  unfold urgeS
  split <;> exact ⟨rfl, rfl, rfl⟩
/-- Where the cursor's next one lies. -/
def next (c : Int) (l : List Int) : Nat := l.findIdx (fun x => decide (c < x)) % l.length
theorem next_lt (c : Int) {l : List Int} (h : l ≠ []) : next c l < l.length := Nat.mod_lt _ (List.length_pos_iff.2 h)
theorem next_get {l : List Int} (hp : l.Pairwise (· < ·)) {i : Nat} (hi : i < l.length) : next (get l i) l = (i + 1) % l.length := by
  unfold next
  have hmono : ∀ a b, (hab : a < b) → (hb : b < l.length) → l[a]'(Nat.lt_trans hab hb) < l[b] := fun a b hab hb => (List.pairwise_iff_getElem.1 hp) a b (by omega) hb hab
  by_cases h : i + 1 < l.length
  · rw [(List.findIdx_eq h).2 ⟨?_, ?_⟩]
    · rw [get_of_lt hi]; simpa using hmono i (i + 1) (by omega) h
    · intro j hj
      rw [get_of_lt hi]
      have : l[j]'(by omega) ≤ l[i] := by
        by_cases hji : j = i
        · subst hji; exact Int.le_refl _
        · exact Int.le_of_lt (hmono j i (by omega) hi)
      simpa using this
  · have : i + 1 = l.length := by omega
    rw [this]
    have hn : l.findIdx (fun x => decide (get l i < x)) = l.length := by
      rw [List.findIdx_eq_length]
      intro x hx
      obtain ⟨k, hk, rfl⟩ := mem_get hx
      rw [get_of_lt hi, get_of_lt hk]
      have : l[k] ≤ l[i] := by
        by_cases hki : k = i
        · subst hki; exact Int.le_refl _
        · exact Int.le_of_lt (hmono k i (by omega) hi)
      simpa using this
    rw [hn]
theorem free_none {s : S} (h : s.busy = []) (x : Int) : free s x = true := by unfold free; rw [h]; rfl
theorem fromC_next {s : S} (h : s.busy = []) {l : List Int} (hl : l ≠ []) : fromC s l = (next s.cur l : Int) := by
  have h0 : 0 < l.length := List.length_pos_iff.2 hl
  have ha : ahead s l = idxf l (fun n => decide (s.cur < n)) := by
    unfold ahead
    congr 1
    funext n
    rw [free_none h, Bool.and_true]
  have hf : idxf l (free s) = 0 := idxf_found (k := 0) h0 (free_none h _) (fun j hj => absurd hj (Nat.not_lt_zero _))
  unfold fromC next
  rw [ha, hf]
  unfold idxf
  by_cases hi : l.findIdx (fun n => decide (s.cur < n)) < l.length
  · rw [if_pos hi, if_neg (by omega), Nat.mod_eq_of_lt hi]
  · have : l.findIdx (fun n => decide (s.cur < n)) = l.length := by have := List.findIdx_le_length (xs := l) (p := fun n => decide (s.cur < n)); omega
    rw [if_neg hi, if_pos (by decide), this, Nat.mod_self]; rfl
/-- One take, and its end. -/
def after (s : S) (l : List Int) : S := overS (takeS s l) (takeN s l)
theorem round {s : S} (h : right s) (hb : s.busy = []) {l : List Int} (hl : Strs l) (hne : l ≠ []) :
    takeE s l = 0 ∧ overE (takeS s l) (takeN s l) = 0 ∧ right (after s l) ∧ (after s l).busy = [] ∧
    ((s.queue = true ∧ (after s l).queue = false ∧ (after s l).cur = s.cur) ∨ (takeN s l = get l (next s.cur l) ∧ (after s l).cur = get l (next s.cur l) ∧ (after s l).queue = true)) := by
  have hc := fromC_next hb hne
  have e := takeE_ok h hl.rising (by rw [hb]; decide) (l := l) (fun q => by omega)
  have tf := take_facts e
  obtain ⟨e1, e2⟩ := take_ok e
  have hbz : (takeS s l).busy = [takeN s l] := by
    rw [e1, takenS_busy, hb, e2]
    simp [srt]
  have ho : overOk (takeS s l) (takeN s l) := ⟨tf.2.2.2.2.1, by rw [hbz]; simp⟩
  obtain ⟨o1, o2⟩ := over_ok (i := 0) ho (idx_found (k := 0) (by rw [hbz]; simp) (by rw [hbz]; rfl) (fun j hj => absurd hj (Nat.not_lt_zero _)))
  have ha : after s l = { takeS s l with busy := [] } := by
    unfold after
    rw [o1, hbz]
    rfl
  refine ⟨e, o2, right_over tf.2.2.2.2.1 _, by rw [ha], ?_⟩
  rw [ha, e2, e1]
  by_cases hv : viaQ s l
  · obtain ⟨i, hq⟩ : ∃ i : Nat, fromQ s = (i : Int) := ⟨(fromQ s).toNat, by have := hv.1; omega⟩
    obtain ⟨e3, e4⟩ := takenS_q hv hq
    rw [e3]
    refine .inl ⟨?_, rfl, rfl⟩
    rcases hv.2 with h2 | h2
    · exact h2
    · omega
  · obtain ⟨e3, e4⟩ := takenS_c hv hc
    rw [e3, e4]
    exact .inr ⟨rfl, rfl, rfl⟩
/-- How far it is behind k takes: which ones have come. -/
def Seen (l : List Int) (p0 k : Nat) (s : S) (C : Int → Prop) : Prop := ∃ t, next s.cur l = (p0 + t) % l.length ∧ (∀ j, j < t → C (get l ((p0 + j) % l.length))) ∧ k ≤ 2 * t + (if s.queue then 0 else 1)
theorem Seen.start (l : List Int) (s : S) (C : Int → Prop) : Seen l (next s.cur l) 0 s C := ⟨0, by unfold next; rw [Nat.add_zero, Nat.mod_mod], fun j hj => absurd hj (Nat.not_lt_zero _), Nat.zero_le _⟩
theorem Seen.urge {l : List Int} {p0 k : Nat} {s : S} {C : Int → Prop} (h : Seen l p0 k s C) (n : Int) : Seen l p0 k (urgeS s n) C := by
  unfold Seen
  rw [(urge_keeps s n).1, (urge_keeps s n).2.1]
  exact h
theorem Seen.round {l : List Int} {p0 k : Nat} {s : S} {C D : Int → Prop} (h : Seen l p0 k s C) (hr : right s) (hb : s.busy = []) (hl : Strs l) (hne : l ≠ []) (hC : ∀ x, C x → D x) (hD : D (takeN s l)) : Seen l p0 (k + 1) (after s l) D := by
  obtain ⟨t, h1, h2, h3⟩ := h
  obtain ⟨_, _, _, _, h4⟩ := Scrubs.round hr hb hl hne
  rcases h4 with ⟨q1, q2, q3⟩ | ⟨q1, q2, q3⟩
  · refine ⟨t, by rw [q3]; exact h1, fun j hj => hC _ (h2 j hj), ?_⟩
    rw [q2]
    rw [q1] at h3
    simp at h3 ⊢
    omega
  · refine ⟨t + 1, ?_, fun j hj => ?_, ?_⟩
    · rw [q2, next_get hl.pw (next_lt _ hne), h1, Nat.mod_add_mod, Nat.add_assoc]
    · by_cases hjt : j < t
      · exact hC _ (h2 j hjt)
      · have : j = t := by omega
        subst this
        rw [← h1, ← q1]
        exact hD
    · rw [q3]
      have : (if s.queue then 0 else 1 : Nat) ≤ 1 := by split <;> omega
      simp
      omega
theorem Seen.all {l : List Int} {p0 : Nat} {s : S} {C : Int → Prop} (h : Seen l p0 (2 * l.length) s C) {x : Int} (hx : x ∈ l) : C x := by
  obtain ⟨t, h1, h2, h3⟩ := h
  obtain ⟨i, hi, rfl⟩ := mem_get hx
  have ht : l.length ≤ t := by
    have : (if s.queue then 0 else 1 : Nat) ≤ 1 := by split <;> omega
    omega
  have hp : p0 % l.length < l.length := Nat.mod_lt _ (by omega)
  have hj : (i + (l.length - p0 % l.length)) % l.length < l.length := Nat.mod_lt _ (by omega)
  have := h2 ((i + (l.length - p0 % l.length)) % l.length) (by omega)
  have e : (p0 + (i + (l.length - p0 % l.length)) % l.length) % l.length = i := by
    rw [Nat.add_mod_mod]
    have h5 := Nat.div_add_mod p0 l.length
    rw [show p0 + (i + (l.length - p0 % l.length)) = i + l.length + l.length * (p0 / l.length) by omega, Nat.add_mul_mod_self_left, Nat.add_mod_right, Nat.mod_eq_of_lt hi]
  rwa [e] at this
/-- The first one that is mended is over. -/
theorem over_first {s : S} (h : right s) (hb : 0 < s.busy.length) : overE s (get s.busy 0) = 0 ∧ overS s (get s.busy 0) = { s with busy := s.busy.eraseIdx 0 } ∧ right { s with busy := s.busy.eraseIdx 0 } := by
  have ho : overOk s (get s.busy 0) := ⟨h, get_mem hb⟩
  obtain ⟨o1, o2⟩ := over_ok (i := 0) ho (idx_found (k := 0) hb rfl (fun j hj => absurd hj (Nat.not_lt_zero _)))
  exact ⟨o2, o1, by have := right_over h (get s.busy 0); rwa [o1] at this⟩
end Scrubs
