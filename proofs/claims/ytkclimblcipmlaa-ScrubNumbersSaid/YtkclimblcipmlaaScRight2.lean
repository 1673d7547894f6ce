/- Right scrubbings stay right; what a take takes. No program in sight. -/
import Derived.Test.YtkclimblcipmlaaScQ
import Derived.Test.YtkclimblcipmlaaScDoes
namespace Scrubs
open Il

theorem rising_erase {lo hi : Int} {l : List Int} (h : rising lo hi l) (i : Nat) : rising lo hi (l.eraseIdx i) := by
  obtain ⟨h1, h2⟩ := rising_iff.1 h
  exact rising_iff.2 ⟨fun x hx => h1 x (List.mem_of_mem_eraseIdx hx), h2.sublist (List.eraseIdx_sublist l i)⟩
theorem right_urge {s : S} (h : right s) (n : Int) : right (urgeS s n) := by
  unfold urgeS
  split
  · rename_i q
    obtain ⟨h1, h2, h3, h4, h5, h6⟩ := right_iff.1 h
    refine right_iff.2 ⟨h1, by have := q.2.2; simp; omega, h3, h4, fun x hx => ?_, ?_⟩
    · rcases List.mem_append.1 hx with hx | hx
      · exact h5 x hx
      · simp at hx; subst hx; exact q.1.2
    · show (s.urged ++ [n]).Nodup
      rw [List.nodup_append]
      refine ⟨h6, List.pairwise_singleton _ _, fun a ha b hb => ?_⟩
      simp at hb
      rw [hb]
      exact fun e => q.2.1 (e ▸ ha)
  · exact h
theorem right_over {s : S} (h : right s) (n : Int) : right (overS s n) := by
  unfold overS
  split
  · obtain ⟨h1, h2, h3, h4, h5, h6⟩ := right_iff.1 h
    refine right_iff.2 ⟨h1, h2, ?_, rising_erase h4 _, h5, h6⟩
    have := (List.eraseIdx_sublist s.busy (idx s.busy n).toNat).length_le
    show (s.busy.eraseIdx _).length ≤ 1000
    omega
  · exact h
theorem idxf_free {l : List Int} {p : Int → Bool} {i : Nat} (h : idxf l p = (i : Int)) : i < l.length ∧ p (get l i) = true := by
  rcases idxf_cases l p with ⟨k, hk, e, hp, _⟩ | ⟨e, _⟩
  · rw [e] at h
    have : k = i := by omega
    subst this
    exact ⟨hk, hp⟩
  · rw [e] at h; omega
theorem fromC_free {s : S} {l : List Int} {i : Nat} (h : fromC s l = (i : Int)) : i < l.length ∧ free s (get l i) = true := by
  unfold fromC at h
  split at h
  · exact idxf_free h
  · obtain ⟨h1, h2⟩ := idxf_free h
    simp only [Bool.and_eq_true] at h2
    exact ⟨h1, h2.2⟩
/-- What a take takes, and what it leaves. -/
theorem take_facts {s : S} {l : List Int} (h : takeE s l = 0) :
    takeN s l ∉ s.busy ∧ (takeN s l ∈ l ∨ takeN s l ∈ s.urged) ∧ takeN s l ∈ (takeS s l).busy ∧ (takeS s l).busy.length = s.busy.length + 1 ∧ right (takeS s l) ∧ stripe (takeN s l) := by
  have hr : right s := by
    by_cases hr : right s
    · exact hr
    · rw [takeE_right hr] at h; cases h
  have hl : rising 0 great l := by
    by_cases hl : rising 0 great l
    · exact hl
    · rw [takeE_rising hr hl] at h; cases h
  have hb : ¬ 1000 ≤ s.busy.length := by
    intro hb
    rw [takeE_full hr hl hb] at h; cases h
  have hi : ¬ (fromQ s < 0 ∧ fromC s l < 0) := by
    intro hi
    rw [takeE_idle hr hl hb hi] at h; cases h
  obtain ⟨e1, e2⟩ := take_ok h
  obtain ⟨h1, h2, h3, h4, h5, h6⟩ := right_iff.1 hr
  obtain ⟨x, hx⟩ : ∃ x, taken s l = x := ⟨_, rfl⟩
  have hfacts : x ∉ s.busy ∧ (x ∈ l ∨ x ∈ s.urged) ∧ stripe x ∧ ((takenS s l).cur = -1 ∨ stripe (takenS s l).cur) ∧ (takenS s l).urged.Sublist s.urged := by
    have hfr : ∀ y, free s y = true → y ∉ s.busy := fun y hy hm => by
      unfold free at hy
      rw [decide_eq_true hm] at hy
      cases hy
    by_cases hv : viaQ s l
    · obtain ⟨i, hq⟩ : ∃ i : Nat, fromQ s = (i : Int) := ⟨(fromQ s).toNat, by have := hv.1; omega⟩
      obtain ⟨e3, e4⟩ := takenS_q hv hq
      obtain ⟨h7, h8⟩ := idxf_free hq
      rw [hx] at e4
      rw [← e4] at h8
      have hm : x ∈ s.urged := by rw [e4]; exact get_mem h7
      exact ⟨hfr x h8, .inr hm, h5 x hm, by rw [e3]; exact h1, by rw [e3]; exact List.eraseIdx_sublist _ _⟩
    · have hf0 : 0 ≤ fromC s l := by
        by_cases hf : fromC s l < 0
        · by_cases hq : fromQ s < 0
          · exact absurd ⟨hq, hf⟩ hi
          · exact absurd ⟨by omega, .inr hf⟩ hv
        · omega
      obtain ⟨i, hq⟩ : ∃ i : Nat, fromC s l = (i : Int) := ⟨(fromC s l).toNat, by omega⟩
      obtain ⟨e3, e4⟩ := takenS_c hv hq
      obtain ⟨h7, h8⟩ := fromC_free hq
      rw [hx] at e4
      rw [← e4] at h8
      have hm : x ∈ l := by rw [e4]; exact get_mem h7
      have hsx : stripe x := (rising_iff.1 hl).1 x hm
      exact ⟨hfr x h8, .inl hm, hsx, by rw [e3]; exact .inr (by show stripe (get l i); rw [← e4]; exact hsx), by rw [e3]; exact List.Sublist.refl _⟩
  obtain ⟨f1, f2, f3, f4, f5⟩ := hfacts
  have hbusy : (takenS s l).busy = srt (s.busy ++ [x]) := by rw [takenS_busy, hx]
  rw [e2, e1, hx]
  refine ⟨f1, f2, ?_, ?_, right_iff.2 ⟨f4, Nat.le_trans f5.length_le h2, ?_, ?_, fun y hy => h5 y (f5.subset hy), h6.sublist f5⟩, f3⟩
  · rw [hbusy, srt_mem]; simp
  · rw [hbusy, srt_length]; simp
  · rw [hbusy, srt_length]; simp; omega
  · rw [hbusy, rising_srt]
    refine ⟨fun y hy => ?_, ?_⟩
    · rcases List.mem_append.1 hy with hy | hy
      · exact (rising_iff.1 h4).1 y hy
      · simp at hy; subst hy; exact f3
    · rw [List.nodup_append]
      refine ⟨rising_nodup h4, List.pairwise_singleton _ _, fun a ha b hb' => ?_⟩
      simp at hb'
      rw [hb']
      exact fun e => f1 (e ▸ ha)
theorem right_take {s : S} (h : right s) (l : List Int) : right (takeS s l) := by
  by_cases he : takeE s l = 0
  · exact (take_facts he).2.2.2.2.1
  · rw [(take_err he).1]; exact h
theorem right_does {s : S} (h : right s) (k n : Int) (l : List Int) : right (doesS s k n l) := by
  unfold doesS
  split
  · exact right_urge h _
  · split
    · exact right_take h _
    · split
      · exact right_over h _
      · exact h
/-- What an op takes. -/
theorem does_facts {s : S} {k n : Int} {l : List Int} (h : 0 ≤ doesN s k l) :
    doesN s k l ∉ s.busy ∧ (doesN s k l ∈ l ∨ doesN s k l ∈ s.urged) ∧ doesN s k l ∈ (doesS s k n l).busy ∧ (doesS s k n l).busy.length = s.busy.length + 1 := by
  unfold doesN at h ⊢
  split at h
  · rename_i q
    rw [if_pos q]
    unfold doesS
    rw [if_neg (by omega), if_pos q.2.1]
    obtain ⟨h1, h2, h3, h4, _⟩ := take_facts q.2.2
    exact ⟨h1, h2, h3, h4⟩
  · omega
end Scrubs
