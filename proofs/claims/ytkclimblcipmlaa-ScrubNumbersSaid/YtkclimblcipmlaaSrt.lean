/- Lists of whole numbers, laid rising. No program in sight. -/
import Derived.Test.YtkclimblcipmlaaIl

/-- The list, rising. -/
def Il.srt (l : List Int) : List Int := l.mergeSort fun x y => decide (x ≤ y)
namespace Il
theorem srt_length (l : List Int) : (srt l).length = l.length := by simp [srt]
theorem srt_perm (l : List Int) : (srt l).Perm l := List.mergeSort_perm _ _
theorem srt_mem {l : List Int} {x : Int} : x ∈ srt l ↔ x ∈ l := (srt_perm l).mem_iff
theorem srt_pairwise (l : List Int) : (srt l).Pairwise (· ≤ ·) := by
  have h := List.pairwise_mergeSort (le := fun x y : Int => decide (x ≤ y)) (fun a b c h1 h2 => by simp at *; omega) (fun a b => by simp; omega) l
  exact h.imp (fun h => by simpa using h)
theorem srt_nodup {l : List Int} : (srt l).Nodup ↔ l.Nodup := (srt_perm l).nodup_iff
/-- Rising, none twice, each between two bounds. -/
def rising (lo hi : Int) (l : List Int) : Prop := ∀ i, i < l.length → (lo ≤ get l i ∧ get l i ≤ hi) ∧ (0 < i → get l (i - 1) < get l i)
instance (lo hi : Int) (l : List Int) : Decidable (rising lo hi l) := by unfold rising; infer_instance
theorem rising_iff {lo hi : Int} {l : List Int} : rising lo hi l ↔ (∀ x ∈ l, lo ≤ x ∧ x ≤ hi) ∧ l.Pairwise (· < ·) := by
  constructor
  · intro h
    refine ⟨fun x hx => ?_, ?_⟩
    · obtain ⟨k, hk, rfl⟩ := mem_get hx
      exact (h k hk).1
    · rw [List.pairwise_iff_getElem]
      intro i j hi hj hij
      have : ∀ d, i + d + 1 < l.length → get l i < get l (i + d + 1) := by
        intro d
        induction d with
        | zero => intro hd; exact (h (i + 1) hd).2 (by omega)
        | succ d ih => intro hd; exact Int.lt_trans (ih (by omega)) ((h (i + (d + 1) + 1) hd).2 (by omega))
      have h1 := this (j - i - 1) (by omega)
      rw [show i + (j - i - 1) + 1 = j by omega, get_of_lt hi, get_of_lt hj] at h1
      exact h1
  · rintro ⟨h1, h2⟩ i hi
    refine ⟨h1 _ (get_mem hi), fun h0 => ?_⟩
    rw [get_of_lt (by omega), get_of_lt hi]
    exact (List.pairwise_iff_getElem.1 h2) (i - 1) i (by omega) hi (by omega)
theorem rising_nodup {lo hi : Int} {l : List Int} (h : rising lo hi l) : l.Nodup := by
  have h2 := (rising_iff.1 h).2
  exact h2.imp (fun h => by omega)
theorem rising_srt {lo hi : Int} {l : List Int} : rising lo hi (srt l) ↔ (∀ x ∈ l, lo ≤ x ∧ x ≤ hi) ∧ l.Nodup := by
  rw [rising_iff]
  constructor
  · rintro ⟨h1, h2⟩
    exact ⟨fun x hx => h1 x (srt_mem.2 hx), srt_nodup.1 (h2.imp (fun h => by omega))⟩
  · rintro ⟨h1, h2⟩
    refine ⟨fun x hx => h1 x (srt_mem.1 hx), ?_⟩
    have h3 := srt_pairwise l
    have h4 := srt_nodup.2 h2
    rw [List.Nodup] at h4
    exact (h3.and h4).imp (fun h => by have := h.1; have := h.2; omega)
/-- Where the first one is that is so; less than nought where there is none. -/
def idxf (l : List Int) (p : Int → Bool) : Int := if l.findIdx p < l.length then (l.findIdx p : Int) else -1
theorem idxf_found {l : List Int} {p : Int → Bool} {k : Nat} (hk : k < l.length) (he : p (get l k) = true) (hno : ∀ j, j < k → p (get l j) = false) : idxf l p = (k : Int) := by
  have h : l.findIdx p = k := by
    rw [List.findIdx_eq hk]
    refine ⟨by rw [← get_of_lt hk]; exact he, fun j hj => ?_⟩
    have := hno j hj
    rwa [get_of_lt (by omega)] at this
  unfold idxf
  rw [h, if_pos hk]
theorem idxf_none {l : List Int} {p : Int → Bool} (hno : ∀ j, j < l.length → p (get l j) = false) : idxf l p = -1 := by
  unfold idxf
  rw [if_neg]
  intro h
  have h1 := List.findIdx_getElem (w := h)
  have h2 := hno _ h
  rw [get_of_lt h] at h2
  rw [h2] at h1
  cases h1
theorem idxf_cases (l : List Int) (p : Int → Bool) : (∃ k, k < l.length ∧ idxf l p = (k : Int) ∧ p (get l k) = true ∧ ∀ j, j < k → p (get l j) = false) ∨ (idxf l p = -1 ∧ ∀ j, j < l.length → p (get l j) = false) := by
  by_cases h : l.findIdx p < l.length
  · refine .inl ⟨_, h, ?_, ?_, fun j hj => ?_⟩
    · unfold idxf; rw [if_pos h]
    · rw [get_of_lt h]; exact List.findIdx_getElem (w := h)
    · have h2 := List.not_of_lt_findIdx hj
      rw [get_of_lt (by omega)]
      simpa using h2
  · refine .inr ⟨?_, fun j hj => ?_⟩
    · unfold idxf; rw [if_neg h]
    · rcases hp : p (get l j) with _ | _
      · rfl
      · exact absurd (List.findIdx_lt_length.2 ⟨get l j, get_mem hj, hp⟩) h
theorem idxf_ge (l : List Int) (p : Int → Bool) : -1 ≤ idxf l p := by
  rcases idxf_cases l p with ⟨k, hk, h, _⟩ | ⟨h, _⟩ <;> rw [h] <;> omega
theorem idxf_lt (l : List Int) (p : Int → Bool) : idxf l p < l.length := by
  rcases idxf_cases l p with ⟨k, hk, h, _⟩ | ⟨h, _⟩ <;> rw [h] <;> omega
end Il
