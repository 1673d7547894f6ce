/- The queue of a scrubbing, in plain words. No program in sight. -/
import Derived.Test.YtkclimblcipmlaaScAwake
namespace Scrubs
open Il

/-- Nothing is mended; the queue has numbers from 1000 on, none twice. -/
structure Calm (s : S) : Prop where
  cur : s.cur = -1 ∨ stripe s.cur
  busy : s.busy = []
  nod : s.urged.Nodup
  rng : ∀ x ∈ s.urged, 1000 ≤ x ∧ x ≤ 1255
  len : s.urged.length ≤ 20
theorem Calm.right {s : S} (h : Calm s) : right s := right_iff.2 ⟨h.cur, by have := h.len; omega, by rw [h.busy]; decide, by rw [h.busy]; decide, fun x hx => by have := h.rng x hx; exact ⟨by omega, by show x ≤ 1099511627776; omega⟩, h.nod⟩
theorem Calm.urge {s : S} (h : Calm s) {n : Int} (hn : 1000 ≤ n ∧ n ≤ 1255) (hl : s.urged.length < 20) :
    urgeE s n = 0 ∧ urgeS s n = { s with urged := if n ∈ s.urged then s.urged else s.urged ++ [n] } ∧ Calm (urgeS s n) ∧ n ∈ (urgeS s n).urged := by
  have hok : urgeOk s n := ⟨h.right, by omega, by show n ≤ 1099511627776; omega⟩
  by_cases hm : n ∈ s.urged
  · obtain ⟨e1, e2⟩ := urge_there hok hm
    rw [e1, if_pos hm]
    exact ⟨e2, rfl, h, hm⟩
  · obtain ⟨e1, e2⟩ := urge_new hok hm (by omega)
    rw [e1, if_neg hm]
    refine ⟨e2, rfl, ⟨h.cur, h.busy, ?_, fun x hx => ?_, ?_⟩, ?_⟩
    · show (s.urged ++ [n]).Nodup
      rw [List.nodup_append]
      refine ⟨h.nod, List.pairwise_singleton _ _, fun a ha b hb => ?_⟩
      simp at hb
      rw [hb]
      exact fun e => hm (e ▸ ha)
    · rcases List.mem_append.1 hx with hx | hx
      · exact h.rng x hx
      · simp at hx; omega
    · show (s.urged ++ [n]).length ≤ 20
      simp; omega
    · show n ∈ s.urged ++ [n]
      simp
theorem Calm.again {s : S} (h : Calm s) {n : Int} (hn : 1000 ≤ n ∧ n ≤ 1255) (hm : n ∈ s.urged) : urgeE s n = 0 ∧ urgeS s n = s := by
  obtain ⟨e1, e2⟩ := urge_there (s := s) (n := n) ⟨h.right, by omega, by show n ≤ 1099511627776; omega⟩ hm
  exact ⟨e2, e1⟩
theorem free_calm {s : S} (h : Calm s) (x : Int) : free s x = true := by unfold free; rw [h.busy]; rfl
theorem idxf_head {p : Int → Bool} {x : Int} {l : List Int} (hp : p x = true) : idxf (x :: l) p = 0 :=
  idxf_found (k := 0) (by simp) hp (fun j hj => absurd hj (Nat.not_lt_zero _))
theorem idxf_nil (p : Int → Bool) : idxf [] p = -1 := idxf_none (fun j hj => absurd hj (Nat.not_lt_zero _))
/-- The stripes that there are. -/
structure Strs (l : List Int) : Prop where
  rng : ∀ x ∈ l, 0 ≤ x ∧ x < 1000
  pw : l.Pairwise (· < ·)
theorem Strs.rising {l : List Int} (h : Strs l) : rising 0 great l := rising_iff.2 ⟨fun x hx => by have := h.rng x hx; exact ⟨this.1, by show x ≤ 1099511627776; omega⟩, h.pw⟩
theorem fromC_calm {s : S} (h : Calm s) {l : List Int} (hl : l ≠ []) : 0 ≤ fromC s l := by
  unfold fromC
  split
  · rcases idxf_cases l (free s) with ⟨k, _, e, _⟩ | ⟨_, hno⟩
    · rw [e]; omega
    · have := hno 0 (List.length_pos_iff.2 hl)
      rw [free_calm h] at this
      cases this
  · omega
/-- A take out of the queue, and its end. -/
theorem Calm.head {s : S} (h : Calm s) {l : List Int} (hl : Strs l) {x : Int} {us : List Int} (hu : s.urged = x :: us) (hq : s.queue = true ∨ l = []) :
    takeE s l = 0 ∧ takeN s l = x ∧ overE (takeS s l) x = 0 ∧ overS (takeS s l) x = ⟨s.cur, false, us, []⟩ ∧ Calm ⟨s.cur, false, us, []⟩ := by
  have hc : Calm ⟨s.cur, false, us, []⟩ := ⟨h.cur, rfl, by have := h.nod; rw [hu] at this; exact (List.nodup_cons.1 this).2, fun y hy => h.rng y (by rw [hu]; exact List.mem_cons_of_mem _ hy), by have := h.len; rw [hu] at this; simp at this; show us.length ≤ 20; omega⟩
  have hx := h.rng x (by rw [hu]; exact List.mem_cons_self)
  have hfq : fromQ s = ((0 : Nat) : Int) := by unfold fromQ; rw [hu]; exact idxf_head (free_calm h x)
  have hfc : s.queue = true ∨ fromC s l < 0 := by
    rcases hq with h1 | rfl
    · exact .inl h1
    · refine .inr ?_
      unfold fromC ahead
      rw [idxf_nil, idxf_nil]
      decide
  have hv : viaQ s l := ⟨by rw [hfq]; omega, hfc⟩
  have e := takeE_ok h.right hl.rising (by rw [h.busy]; decide) (l := l) (fun q => by rw [hfq] at q; omega)
  obtain ⟨e1, e2⟩ := take_ok e
  obtain ⟨e3, e4⟩ := takenS_q hv hfq
  have e5 : taken s l = x := by rw [e4, hu]; rfl
  have e6 : takeS s l = ⟨s.cur, false, us, [x]⟩ := by
    rw [e1, e3, e5, h.busy, hu]
    simp [srt]
  have hr : Scrubs.right ⟨s.cur, false, us, [x]⟩ := right_iff.2 ⟨h.cur, by have := hc.len; show us.length ≤ 1000; have : us.length ≤ 20 := hc.len; omega, by simp, by
    refine rising_iff.2 ⟨fun y hy => ?_, List.pairwise_singleton _ _⟩
    simp at hy
    subst hy
    exact ⟨by omega, by show y ≤ 1099511627776; omega⟩, fun y hy => by have := hc.rng y hy; exact ⟨by omega, by show y ≤ 1099511627776; omega⟩, hc.nod⟩
  obtain ⟨o1, o2⟩ := over_ok (s := ⟨s.cur, false, us, [x]⟩) (n := x) (i := 0) ⟨hr, by simp⟩ (idx_found (k := 0) (by simp) rfl (fun j hj => absurd hj (Nat.not_lt_zero _)))
  rw [e6]
  exact ⟨e, e2.trans e5, o2, o1.trans (by simp), hc⟩
/-- A take of the cursor's, and its end. -/
theorem Calm.ring {s : S} (h : Calm s) {l : List Int} (hl : Strs l) (hne : l ≠ []) (hq : s.queue = false ∨ s.urged = []) :
    ∃ x, x ∈ l ∧ takeE s l = 0 ∧ takeN s l = x ∧ overE (takeS s l) x = 0 ∧ overS (takeS s l) x = ⟨x, true, s.urged, []⟩ ∧ Calm ⟨x, true, s.urged, []⟩ := by
  have hf0 := fromC_calm h hne
  obtain ⟨i, hi⟩ : ∃ i : Nat, fromC s l = (i : Int) := ⟨(fromC s l).toNat, by omega⟩
  have hil : i < l.length := by have := fromC_lt s l; omega
  have hv : ¬ viaQ s l := by
    rintro ⟨h1, h2⟩
    rcases hq with hq | hq
    · rcases h2 with h2 | h2
      · rw [hq] at h2; cases h2
      · omega
    · unfold fromQ at h1
      rw [hq, idxf_nil] at h1
      omega
  have e := takeE_ok h.right hl.rising (by rw [h.busy]; decide) (l := l) (fun q => by omega)
  obtain ⟨e1, e2⟩ := take_ok e
  obtain ⟨e3, e4⟩ := takenS_c hv hi
  obtain ⟨x, hx⟩ : ∃ x, get l i = x := ⟨_, rfl⟩
  have hxl : x ∈ l := by rw [← hx]; exact get_mem hil
  have hxr := hl.rng x hxl
  rw [hx] at e3 e4
  have e6 : takeS s l = ⟨x, true, s.urged, [x]⟩ := by
    rw [e1, e3, e4, h.busy]
    simp [srt]
  have hs : stripe x := ⟨hxr.1, by show x ≤ 1099511627776; omega⟩
  have hc : Calm ⟨x, true, s.urged, []⟩ := ⟨.inr hs, rfl, h.nod, h.rng, h.len⟩
  have hr : Scrubs.right ⟨x, true, s.urged, [x]⟩ := right_iff.2 ⟨.inr hs, by have := h.len; show s.urged.length ≤ 1000; omega, by simp, by
    refine rising_iff.2 ⟨fun y hy => ?_, List.pairwise_singleton _ _⟩
    simp at hy
    subst hy
    exact hs, fun y hy => by have := h.rng y hy; exact ⟨by omega, by show y ≤ 1099511627776; omega⟩, h.nod⟩
  obtain ⟨o1, o2⟩ := over_ok (s := ⟨x, true, s.urged, [x]⟩) (n := x) (i := 0) ⟨hr, by simp⟩ (idx_found (k := 0) (by simp) rfl (fun j hj => absurd hj (Nat.not_lt_zero _)))
  refine ⟨x, hxl, e, e2.trans e4, ?_⟩
  rw [e6]
  exact ⟨o2, o1.trans (by simp), hc⟩
theorem Calm.idle {s : S} (h : Calm s) (hu : s.urged = []) : takeE s [] = 166 := by
  refine takeE_idle h.right (by decide) (by rw [h.busy]; decide) ⟨?_, ?_⟩
  · unfold fromQ; rw [hu, idxf_nil]; decide
  · unfold fromC ahead; rw [idxf_nil, idxf_nil]; decide
end Scrubs
