/- Full queues and full hands, in plain words. No program in sight. -/
import Derived.Test.YtkclimblcipmlaaComes
namespace Scrubs
open Il

theorem bad_all {s : S} (h : ¬ right s) (n : Int) (l : List Int) : (urgeE s n = 165 ∧ urgeS s n = s) ∧ (takeE s l = 165 ∧ takeS s l = s ∧ takeN s l = 0) ∧ overE s n = 165 ∧ overS s n = s := by
  obtain ⟨a1, a2⟩ := urge_bad (s := s) (n := n) (fun q => h q.1)
  have b1 := takeE_right (l := l) h
  obtain ⟨b2, b3⟩ := take_err (s := s) (l := l) (by rw [b1]; decide)
  obtain ⟨c1, c2⟩ := over_bad (s := s) (n := n) (fun q => h q.1)
  exact ⟨⟨a2, a1⟩, ⟨b1, b2, b3⟩, c2, c1⟩
theorem not_stripe {n : Int} (h : n < 0 ∨ great < n) (s : S) : urgeE s n = 165 ∧ urgeS s n = s := by
  obtain ⟨a1, a2⟩ := urge_bad (s := s) (n := n) (fun q => by have := q.2.1; have := q.2.2; omega)
  exact ⟨a2, a1⟩
theorem not_strs {s : S} (h : right s) {l : List Int} (hl : ¬ rising 0 great l) : takeE s l = 2 ∧ takeS s l = s ∧ takeN s l = 0 := by
  have b1 := takeE_rising h hl
  obtain ⟨b2, b3⟩ := take_err (s := s) (l := l) (by rw [b1]; decide)
  exact ⟨b1, b2, b3⟩
theorem new_right : right ⟨-1, true, [], []⟩ := right_iff.2 (by decide)
theorem new_idle : takeE ⟨-1, true, [], []⟩ [] = 166 ∧ takeS ⟨-1, true, [], []⟩ [] = ⟨-1, true, [], []⟩ ∧ takeN ⟨-1, true, [], []⟩ [] = 0 := by
  have b1 := takeE_idle (s := ⟨-1, true, [], []⟩) (l := []) new_right (by decide) (by decide) (by decide)
  obtain ⟨b2, b3⟩ := take_err (s := ⟨-1, true, [], []⟩) (l := []) (by rw [b1]; decide)
  exact ⟨b1, b2, b3⟩
theorem new_over (n : Int) : overE ⟨-1, true, [], []⟩ n = 165 ∧ overS ⟨-1, true, [], []⟩ n = ⟨-1, true, [], []⟩ := by
  obtain ⟨c1, c2⟩ := over_bad (s := ⟨-1, true, [], []⟩) (n := n) (fun q => by cases q.2)
  exact ⟨c2, c1⟩
/-- The first of the numbers that are urged. -/
def urg (i : Nat) : List Int := (List.range i).map (fun j : Nat => great - (j : Int))
theorem urg_succ (i : Nat) : urg (i + 1) = urg i ++ [great - (i : Int)] := by simp [urg, List.range_succ]
theorem urg_length (i : Nat) : (urg i).length = i := by simp [urg]
theorem urg_mem {i : Nat} {x : Int} : x ∈ urg i ↔ ∃ j : Nat, j < i ∧ great - (j : Int) = x := by simp [urg]
theorem urg_nodup (i : Nat) : (urg i).Nodup := by
  unfold urg
  rw [List.nodup_iff_pairwise_ne, List.pairwise_map]
  exact List.nodup_range.imp (fun h e => h (by omega))
theorem urg_right {i : Nat} (hi : i ≤ 1000) : right ⟨-1, true, urg i, []⟩ := right_iff.2 ⟨.inl rfl, by rw [urg_length]; exact hi, by show (0 : Nat) ≤ 1000; omega, by show rising 0 great []; decide, fun x hx => by
  obtain ⟨j, hj, rfl⟩ := urg_mem.1 hx
  have : great = 1099511627776 := rfl
  omega, urg_nodup i⟩
theorem urg_step {i : Nat} (hi : i < 1000) : urgeE ⟨-1, true, urg i, []⟩ (great - (i : Int)) = 0 ∧ urgeS ⟨-1, true, urg i, []⟩ (great - (i : Int)) = ⟨-1, true, urg (i + 1), []⟩ := by
  obtain ⟨h1, h2⟩ := urge_new (s := ⟨-1, true, urg i, []⟩) (n := great - (i : Int)) ⟨urg_right (by omega), by unfold stripe; have : great = 1099511627776 := rfl; omega⟩ (fun hm => by
    obtain ⟨j, hj, e⟩ := urg_mem.1 hm
    omega) (by show ¬ 1000 ≤ (urg i).length; rw [urg_length]; omega)
  exact ⟨h2, by rw [h1, urg_succ]⟩
theorem urg_full {i : Nat} (hi : i = 1000) : urgeE ⟨-1, true, urg i, []⟩ 5 = 5 ∧ urgeS ⟨-1, true, urg i, []⟩ 5 = ⟨-1, true, urg i, []⟩ := by
  obtain ⟨h1, h2⟩ := urge_full (s := ⟨-1, true, urg i, []⟩) (n := 5) ⟨urg_right (by omega), by decide⟩ (fun hm => by
    obtain ⟨j, hj, e⟩ := urg_mem.1 hm
    have : great = 1099511627776 := rfl
    omega) (by show 1000 ≤ (urg i).length; rw [urg_length]; omega)
  exact ⟨h2, h1⟩
theorem urg_there {i : Nat} (hi : i = 1000) : urgeE ⟨-1, true, urg i, []⟩ great = 0 ∧ urgeS ⟨-1, true, urg i, []⟩ great = ⟨-1, true, urg i, []⟩ := by
  obtain ⟨h1, h2⟩ := urge_there (s := ⟨-1, true, urg i, []⟩) (n := great) ⟨urg_right (by omega), by decide⟩ (urg_mem.2 ⟨0, by omega, by simp⟩)
  exact ⟨h2, h1⟩
/-- What is left of them behind so many takes. -/
def urfN (m i : Nat) : List Int := (List.range (m - i)).map (fun j : Nat => great - ((i + j : Nat) : Int))
theorem urf_zero (i : Nat) : urfN i 0 = urg i := by
  unfold urfN urg
  rw [Nat.sub_zero]
  congr 1
  funext j
  rw [Nat.zero_add]
theorem shift_map (f g : Nat → Int) (h : ∀ j, f (j + 1) = g j) (k : Nat) : (List.range (k + 1)).map f = f 0 :: (List.range k).map g := by
  rw [List.range_succ_eq_map, List.map_cons, List.map_map]
  have : f ∘ Nat.succ = g := funext h
  rw [this]
theorem urf_cons {m i : Nat} (hi : i < m) : urfN m i = (great - (i : Int)) :: urfN m (i + 1) := by
  unfold urfN
  obtain ⟨k, hk⟩ : ∃ k, m - i = k + 1 := ⟨m - (i + 1), by omega⟩
  have hk' : m - (i + 1) = k := by omega
  generalize great = G
  rw [hk, hk']
  refine (shift_map _ (fun j : Nat => G - ((i + 1 + j : Nat) : Int)) (fun j => ?_) k).trans ?_
  · show G - ((i + (j + 1) : Nat) : Int) = G - ((i + 1 + j : Nat) : Int)
    rw [show i + (j + 1) = i + 1 + j by omega]
  · rw [Nat.add_zero]
structure Tk (m i : Nat) (s : S) : Prop where
  all : m = 1000
  r : right s
  u : s.urged = urfN m i
  len : s.busy.length = i
  far : ∀ x ∈ s.busy, great - (i : Int) < x
theorem Tk.start {i : Nat} (hi : i = 1000) : Tk i 0 ⟨-1, true, urg i, []⟩ := ⟨hi, urg_right (by omega), (urf_zero i).symm, rfl, fun x hx => by cases hx⟩
theorem Tk.step {m i : Nat} {s : S} (h : Tk m i s) (hi : i < m) : takeE s [] = 0 ∧ takeN s [] = great - (i : Int) ∧ Tk m (i + 1) (takeS s []) := by
  have hu := h.u
  have hm := h.all
  rw [urf_cons hi] at hu
  have hq : fromQ s = ((0 : Nat) : Int) := by
    unfold fromQ
    rw [hu]
    refine idxf_head ?_
    unfold free
    rw [decide_eq_false (fun hm => by have := h.far _ hm; omega)]
    rfl
  have hc : fromC s [] < 0 := by unfold fromC ahead; rw [idxf_nil, idxf_nil]; decide
  have hv : viaQ s [] := ⟨by rw [hq]; omega, .inr hc⟩
  have e := takeE_ok h.r (l := []) (by decide) (by rw [h.len]; omega) (fun q => by rw [hq] at q; omega)
  have tf := take_facts e
  obtain ⟨e1, e2⟩ := take_ok e
  obtain ⟨e3, e4⟩ := takenS_q hv hq
  have e5 : taken s [] = great - (i : Int) := by rw [e4, hu]; rfl
  refine ⟨e, e2.trans e5, hm, tf.2.2.2.2.1, ?_, by rw [tf.2.2.2.1, h.len], ?_⟩
  · rw [e1, e3, hu]; rfl
  · rw [e1, takenS_busy, e5]
    intro x hx
    rcases List.mem_append.1 (srt_mem.1 hx) with hx | hx
    · have := h.far x hx; omega
    · simp at hx; omega
theorem Tk.full {m : Nat} {s : S} (h : Tk m m s) : takeE s [1] = 5 ∧ takeS s [1] = s ∧ takeN s [1] = 0 := by
  have b1 := takeE_full h.r (l := [1]) (by decide) (by rw [h.len, h.all]; exact Nat.le_refl _)
  obtain ⟨b2, b3⟩ := take_err (s := s) (l := [1]) (by rw [b1]; decide)
  exact ⟨b1, b2, b3⟩
end Scrubs
