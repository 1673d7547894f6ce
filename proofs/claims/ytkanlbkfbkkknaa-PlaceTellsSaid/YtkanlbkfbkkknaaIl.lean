/- Lists of whole numbers, in plain words. No program in sight. -/
namespace Il

/-- The number at a place; nought where there is none. -/
def get (l : List Int) (k : Nat) : Int := l.getD k 0
theorem get_of_lt {l : List Int} {k : Nat} (h : k < l.length) : get l k = l[k] := by simp [get, h]
theorem get_of_ge {l : List Int} {k : Nat} (h : l.length ≤ k) : get l k = 0 := by simp [get, h]
theorem ext_get {l m : List Int} (hl : l.length = m.length) (h : ∀ k, k < l.length → get l k = get m k) : l = m := by
  apply List.ext_getElem hl
  intro i h1 h2
  have := h i h1
  rwa [get_of_lt h1, get_of_lt h2] at this
theorem get_map_range {n k : Nat} (f : Nat → Int) (h : k < n) : get ((List.range n).map f) k = f k := by simp [get, h]
theorem get_set {l : List Int} {k i : Nat} (v : Int) (hk : k < l.length) : get (l.set k v) i = if k = i then v else get l i := by
  unfold get
  rw [List.getD_eq_getElem?_getD, List.getD_eq_getElem?_getD, List.getElem?_set]
  by_cases e : k = i
  · rw [if_pos e, if_pos e, if_pos hk]; rfl
  · rw [if_neg e, if_neg e]
theorem get_mem {l : List Int} {k : Nat} (h : k < l.length) : get l k ∈ l := by rw [get_of_lt h]; exact List.getElem_mem h
theorem mem_get {l : List Int} {x : Int} (h : x ∈ l) : ∃ k, k < l.length ∧ get l k = x := by
  obtain ⟨k, hk, e⟩ := List.mem_iff_getElem.1 h
  exact ⟨k, hk, by rw [get_of_lt hk, e]⟩
theorem get_take {l : List Int} {n k : Nat} (h : k < n) : get (l.take n) k = get l k := by
  unfold get
  rw [List.getD_eq_getElem?_getD, List.getD_eq_getElem?_getD, List.getElem?_take, if_pos h]

/-- Where a number first is; less than nought where it is not. -/
def idx (l : List Int) (v : Int) : Int := if l.findIdx (· == v) < l.length then (l.findIdx (· == v) : Int) else -1
theorem idx_found {l : List Int} {v : Int} {k : Nat} (hk : k < l.length) (he : get l k = v) (hno : ∀ j, j < k → get l j ≠ v) : idx l v = (k : Int) := by
  have h : l.findIdx (· == v) = k := by
    rw [List.findIdx_eq hk]
    refine ⟨?_, fun j hj => ?_⟩
    · rw [← get_of_lt hk, he]; simp
    · have := hno j hj
      rw [get_of_lt (by omega)] at this
      simpa using this
  unfold idx
  rw [h, if_pos hk]
theorem idx_none {l : List Int} {v : Int} (hno : ∀ j, j < l.length → get l j ≠ v) : idx l v = -1 := by
  unfold idx
  rw [if_neg]
  intro h
  have h1 := List.findIdx_getElem (w := h)
  have h2 := hno _ h
  rw [get_of_lt h] at h2
  simp only [beq_iff_eq] at h1
  exact h2 h1
theorem idx_cases (l : List Int) (v : Int) : (∃ k, k < l.length ∧ idx l v = (k : Int) ∧ get l k = v ∧ ∀ j, j < k → get l j ≠ v) ∨ (idx l v = -1 ∧ ∀ j, j < l.length → get l j ≠ v) := by
  by_cases h : l.findIdx (· == v) < l.length
  · refine .inl ⟨_, h, ?_, ?_, fun j hj e => ?_⟩
    · unfold idx; rw [if_pos h]
    · have h1 := List.findIdx_getElem (w := h)
      rw [get_of_lt h]
      simpa using h1
    · have h2 := List.not_of_lt_findIdx hj
      rw [get_of_lt (by omega)] at e
      rw [e] at h2
      simp at h2
  · refine .inr ⟨?_, fun j hj e => ?_⟩
    · unfold idx; rw [if_neg h]
    · apply h
      have hm : ∃ x ∈ l, (x == v) = true := ⟨get l j, get_mem hj, by rw [e]; simp⟩
      exact List.findIdx_lt_length.2 hm
theorem idx_lt (l : List Int) (v : Int) : idx l v < l.length := by
  rcases idx_cases l v with ⟨k, hk, h, _⟩ | ⟨h, _⟩ <;> rw [h] <;> omega
theorem idx_ge (l : List Int) (v : Int) : -1 ≤ idx l v := by
  rcases idx_cases l v with ⟨k, hk, h, _⟩ | ⟨h, _⟩ <;> rw [h] <;> omega
theorem idx_mem (l : List Int) (v : Int) : (0 ≤ idx l v) ↔ v ∈ l := by
  rcases idx_cases l v with ⟨k, hk, h, e, _⟩ | ⟨h, e⟩
  · rw [h]
    exact ⟨fun _ => by rw [← e]; exact get_mem hk, fun _ => by omega⟩
  · rw [h]
    refine ⟨fun h => by omega, fun hm => ?_⟩
    obtain ⟨k, hk, e'⟩ := mem_get hm
    exact absurd e' (e k hk)
end Il
