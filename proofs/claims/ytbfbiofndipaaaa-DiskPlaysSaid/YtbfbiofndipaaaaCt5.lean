/- Several texts in one: Lists of whole numbers, in plain words. No program in sight. Slices of int: how they read. -/
import Derived.Test.YtbfbiofndipaaaaCt1
namespace Il

/-- The number at a place; nought where there is none. -/
def get (l : List Int) (k : Nat) : Int := l.getD k 0
theorem get_of_lt {l : List Int} {k : Nat} (h : k < l.length) : get l k = l[k] := by simp [get, h]
theorem get_of_ge {l : List Int} {k : Nat} (h : l.length ≤ k) : get l k = 0 := by simp [get, h]
theorem ext_get {l m : List Int} (hl : l.length = m.length) (h : ∀ k, k < l.length → get l k = get m k) : l = m := by
  apply List.ext_getElem hl
  intro i h1 h2
  have := h i h1
  rwa [get_of_lt h1, get_of_lt h2] at this
theorem get_map_range {n k : Nat} (f : Nat → Int) (h : k < n) : get ((List.range n).map f) k = f k := by simp [get, h]
theorem get_set {l : List Int} {k i : Nat} (v : Int) (hk : k < l.length) : get (l.set k v) i = if k = i then v else get l i := by
  unfold get
  rw [List.getD_eq_getElem?_getD, List.getD_eq_getElem?_getD, List.getElem?_set]
  by_cases e : k = i
  · rw [if_pos e, if_pos e, if_pos hk]; rfl
  · rw [if_neg e, if_neg e]
theorem get_mem {l : List Int} {k : Nat} (h : k < l.length) : get l k ∈ l := by rw [get_of_lt h]; exact List.getElem_mem h
theorem mem_get {l : List Int} {x : Int} (h : x ∈ l) : ∃ k, k < l.length ∧ get l k = x := by
  obtain ⟨k, hk, e⟩ := List.mem_iff_getElem.1 h
  exact ⟨k, hk, by rw [get_of_lt hk, e]⟩
theorem get_take {l : List Int} {n k : Nat} (h : k < n) : get (l.take n) k = get l k := by
  unfold get
  rw [List.getD_eq_getElem?_getD, List.getD_eq_getElem?_getD, List.getElem?_take, if_pos h]

/-- Where a number first is; less than nought where it is not. -/
def idx (l : List Int) (v : Int) : Int := if l.findIdx (· == v) < l.length then (l.findIdx (· == v) : Int) else -1
theorem idx_found {l : List Int} {v : Int} {k : Nat} (hk : k < l.length) (he : get l k = v) (hno : ∀ j, j < k → get l j ≠ v) : idx l v = (k : Int) := by
  have h : l.findIdx (· == v) = k := by
    rw [List.findIdx_eq hk]
    refine ⟨?_, fun j hj => ?_⟩
    · rw [← get_of_lt hk, he]; simp
    · have := hno j hj
      rw [get_of_lt (by omega)] at this
      simpa using this
  unfold idx
  rw [h, if_pos hk]
theorem idx_none {l : List Int} {v : Int} (hno : ∀ j, j < l.length → get l j ≠ v) : idx l v = -1 := by
  unfold idx
  rw [if_neg]
  intro h
  have h1 := List.findIdx_getElem (w := h)
  have h2 := hno _ h
  rw [get_of_lt h] at h2
  simp only [beq_iff_eq] at h1
  exact h2 h1
theorem idx_cases (l : List Int) (v : Int) : (∃ k, k < l.length ∧ idx l v = (k : Int) ∧ get l k = v ∧ ∀ j, j < k → get l j ≠ v) ∨ (idx l v = -1 ∧ ∀ j, j < l.length → get l j ≠ v) := by
  by_cases h : l.findIdx (· == v) < l.length
  · refine .inl ⟨_, h, ?_, ?_, fun j hj e => ?_⟩
    · unfold idx; rw [if_pos h]
    · have h1 := List.findIdx_getElem (w := h)
      rw [get_of_lt h]
      simpa using h1
    · have h2 := List.not_of_lt_findIdx hj
      rw [get_of_lt (by omega)] at e
      rw [e] at h2
      simp at h2
  · refine .inr ⟨?_, fun j hj e => ?_⟩
    · unfold idx; rw [if_neg h]
    · apply h
      have hm : ∃ x ∈ l, (x == v) = true := ⟨get l j, get_mem hj, by rw [e]; simp⟩
      exact List.findIdx_lt_length.2 hm
theorem idx_lt (l : List Int) (v : Int) : idx l v < l.length := by
  rcases idx_cases l v with ⟨k, hk, h, _⟩ | ⟨h, _⟩ <;> rw [h] <;> omega
theorem idx_ge (l : List Int) (v : Int) : -1 ≤ idx l v := by
  rcases idx_cases l v with ⟨k, hk, h, _⟩ | ⟨h, _⟩ <;> rw [h] <;> omega
theorem idx_mem (l : List Int) (v : Int) : (0 ≤ idx l v) ↔ v ∈ l := by
  rcases idx_cases l v with ⟨k, hk, h, e, _⟩ | ⟨h, e⟩
  · rw [h]
    exact ⟨fun _ => by rw [← e]; exact get_mem hk, fun _ => by omega⟩
  · rw [h]
    refine ⟨fun h => by omega, fun hm => ?_⟩
    obtain ⟨k, hk, e'⟩ := mem_get hm
    exact absurd e' (e k hk)
end Il
namespace Go.Proofs.Ytbfbiofndipaaaa
open Go.RowKit

/-- Whole numbers as cells. -/
def icells (l : List Int) : List Value := l.map fun x => .int .i64 x
theorem icells_length (l : List Int) : (icells l).length = l.length := by simp [icells]
theorem icells_append (l m : List Int) : icells (l ++ m) = icells l ++ icells m := by simp [icells]
theorem icells_set (l : List Int) (k : Nat) (x : Int) : icells (l.set k x) = (icells l).set k (.int .i64 x) := by simp [icells, List.map_set]
theorem icells_get {l : List Int} {k : Nat} (h : k < l.length) : (icells l)[k]? = some (.int .i64 (Il.get l k)) := by simp [icells, Il.get, h]
theorem icells_one (l : List Int) : ∀ u ∈ icells l, u.oneCell' = true := by
  intro u hu
  simp only [icells, List.mem_map] at hu
  obtain ⟨x, _, rfl⟩ := hu
  rfl
theorem Rd.intAt {w : World} {n : Nat} {A : Option Addr} {l : List Int} (h : Rd w 1 A n (icells l)) {k : Nat} (hk : k < n) :
    ∃ b off, A = some ⟨b, off, none⟩ ∧ w.cell? ⟨b, off + k, none⟩ = some (.int .i64 (Il.get l k)) := by
  obtain ⟨b, off, u, e, hu, hc⟩ := h.at_ hk
  refine ⟨b, off, e, ?_⟩
  rw [hc]
  simp only [icells, List.getElem?_map, Option.map_eq_some_iff] at hu
  obtain ⟨x, hx, rfl⟩ := hu
  simp [Il.get, hx]
/-- A slice of int. -/
structure Is (w : World) (A : Option Addr) (n c : Nat) (l : List Int) : Prop where
  len : l.length = n
  le : n ≤ c
  max : c ≤ 9223372036854775807
  rd : Rd w 1 A n (icells l)
theorem Is.ext {w w' : World} {A : Option Addr} {n c : Nat} {l : List Int} (h : Is w A n c l) (hx : Ext w w') : Is w' A n c l := ⟨h.len, h.le, h.max, h.rd.ext hx⟩
theorem Is.take {w : World} {A : Option Addr} {n c k : Nat} {l : List Int} (h : Is w A n c l) (hk : k ≤ n) : Is w A k c (l.take k) := by
  refine ⟨by rw [List.length_take, h.len]; omega, by have := h.le; omega, h.max, ?_, fun h0 => ?_⟩
  · rw [icells_length, List.length_take, h.len]; omega
  · obtain ⟨b, off, e, hc⟩ := h.rd.2 (by omega)
    refine ⟨b, off, e, fun j u hu => hc j u ?_⟩
    simp only [icells, List.getElem?_map, List.getElem?_take] at hu ⊢
    split at hu
    · exact hu
    · simp at hu
theorem Is.none (w : World) : Is w none 0 0 [] := ⟨rfl, Nat.le_refl _, by omega, Rd.nil _ _ _⟩
theorem Is.nil_of_none {w : World} {n c : Nat} {l : List Int} (h : Is w .none n c l) : l = [] := by
  rcases Nat.eq_zero_or_pos n with h0 | h0
  · exact List.eq_nil_of_length_eq_zero (by rw [h.len]; exact h0)
  · obtain ⟨b, off, h, _⟩ := h.rd.2 h0
    cases h
theorem Is.lit (w : World) (g : Nat) (hg : w.heap.size = g) (l : List Int) (cs : Array Value) (t : TypeId) (n : Nat) (hn : l.length = n) (h : cs.toList = icells l) (hl : n ≤ 1000) : Is (w.alloc (.cells cs t)) (some ⟨g, 0, .none⟩) n n l := by
  subst hn
  subst hg
  have hs : cs.size = l.length := by rw [← Array.length_toList, h, icells_length]
  refine ⟨rfl, Nat.le_refl _, by omega, ?_⟩
  have := Rd.lit w cs t
  rwa [h, hs] at this

theorem int_info : (Try.prog.info? 3).map (fun i => (i.zero, i.size, i.bytes)) = some (some (.int .i64 0), 1, 8) := by kernel_rfl
/-- A list of int handed back in memory of the call's own. -/
structure NewInts (w w' : World) (v : Value) (l : List Int) : Prop where
  own : w'.ownsRow w.heap.size 3 1 v l.length (icells l)
  ext : Ext w w'
theorem Own.ints {base n c : Nat} {w : World} {e : TypeId} {A : Option Addr} {l : List Int} (h : Own base w e 1 A n c (icells l)) : Is w A n c l :=
  ⟨by have := h.own.1; rw [icells_length] at this; omega, h.caps.1, h.caps.2, h.rd⟩
theorem NewInts.is {w w' : World} {v : Value} {l : List Int} (h : NewInts w w' v l) : ∃ A c, v = .slice A l.length c ∧ Is w' A l.length c l := by
  obtain ⟨A, c, rfl, _, _⟩ := ownsRow_slice h.own
  exact ⟨A, c, rfl, (Own.mk (base := w.heap.size) (e := 3) h.own).ints⟩

end Go.Proofs.Ytbfbiofndipaaaa
