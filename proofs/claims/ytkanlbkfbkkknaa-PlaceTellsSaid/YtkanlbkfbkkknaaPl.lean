/- Placements, in plain words: which are right, what First, Of, Move and their bytes come to. No program in sight. -/
import Derived.Test.YtkanlbkfbkkknaaIl
namespace Pl
open Il (get idx)

/-- A placement: its epoch, its nodes. -/
abbrev P := Int × List Int
/-- The placement at a place. -/
def pget (l : List P) (k : Nat) : P := l.getD k (0, [])
theorem pget_of_lt {l : List P} {k : Nat} (h : k < l.length) : pget l k = l[k] := by simp [pget, h]
theorem pget_mem {l : List P} {k : Nat} (h : k < l.length) : pget l k ∈ l := by rw [pget_of_lt h]; exact List.getElem_mem h
theorem mem_pget {l : List P} {x : P} (h : x ∈ l) : ∃ k, k < l.length ∧ pget l k = x := by
  obtain ⟨k, hk, e⟩ := List.mem_iff_getElem.1 h
  exact ⟨k, hk, by rw [pget_of_lt hk, e]⟩
theorem ext_pget {l m : List P} (hl : l.length = m.length) (h : ∀ k, k < l.length → pget l k = pget m k) : l = m := by
  apply List.ext_getElem hl
  intro i h1 h2
  have := h i h1
  rwa [pget_of_lt h1, pget_of_lt h2] at this
theorem pget_map_range {n k : Nat} (f : Nat → P) (h : k < n) : pget ((List.range n).map f) k = f k := by simp [pget, h]
theorem pget_map {l : List P} {k : Nat} (f : P → P) (h : k < l.length) : pget (l.map f) k = f (pget l k) := by simp [pget, h]

/-- Is a placement right of so many nodes? -/
def Right (p : P) (nodes : Int) : Prop :=
  (1 ≤ nodes ∧ nodes ≤ 256 ∧ 1 ≤ p.1 ∧ p.1 ≤ 1099511627776 ∧ 1 ≤ p.2.length ∧ p.2.length ≤ 255) ∧
    ∀ i, i < p.2.length → 0 ≤ get p.2 i ∧ get p.2 i < nodes ∧ get p.2 i ∉ p.2.take i
instance (p : P) (nodes : Int) : Decidable (Right p nodes) := by unfold Right; infer_instance
/-- Are placements right? -/
def All (l : List P) : Prop := 1 ≤ l.length ∧ l.length ≤ 1000 ∧ ∀ p, p ∈ l → Right p 256
instance (l : List P) : Decidable (All l) := by unfold All; infer_instance

theorem any_right (l : List P) (h1 : 1 ≤ l.length) (h2 : l.length ≤ 1000) : (!l.any fun p => !decide (Right p 256)) = decide (All l) := by
  by_cases h : All l
  · rw [decide_eq_true h]
    have : (l.any fun p => !decide (Right p 256)) = false := by
      rw [List.any_eq_false]
      intro x hx
      simp [h.2.2 x hx]
    rw [this]; rfl
  · rw [decide_eq_false h]
    have : (l.any fun p => !decide (Right p 256)) = true := by
      rw [List.any_eq_true]
      refine Classical.byContradiction fun hn => h ⟨h1, h2, fun p hp => ?_⟩
      refine Classical.byContradiction fun hr => hn ⟨p, hp, ?_⟩
      simp [hr]
    rw [this]; rfl
theorem mem_take_get {l : List Int} {x : Int} {i : Nat} (h : x ∈ l.take i) : ∃ j, j < i ∧ j < l.length ∧ get l j = x := by
  obtain ⟨j, hj, e⟩ := Il.mem_get h
  rw [List.length_take] at hj
  exact ⟨j, by omega, by omega, by rw [← e, Il.get_take (by omega)]⟩
theorem get_mem_take {l : List Int} {i j : Nat} (hj : j < i) (hl : j < l.length) : get l j ∈ l.take i := by
  rw [← Il.get_take hj]
  exact Il.get_mem (by rw [List.length_take]; omega)
/-- The nodes of a right placement are apart. -/
theorem Right.apart {p : P} {n : Int} (h : Right p n) {i j : Nat} (hi : i < p.2.length) (hj : j < p.2.length) (e : get p.2 i = get p.2 j) : i = j := by
  rcases Nat.lt_trichotomy i j with hlt | heq | hlt
  · exact absurd (e ▸ get_mem_take hlt hi) (h.2 j hj).2.2
  · exact heq
  · exact absurd (e ▸ get_mem_take hlt hj) (h.2 i hi).2.2
theorem right_of {p : P} {n : Int} (h1 : 1 ≤ n ∧ n ≤ 256 ∧ 1 ≤ p.1 ∧ p.1 ≤ 1099511627776 ∧ 1 ≤ p.2.length ∧ p.2.length ≤ 255) (h2 : ∀ i, i < p.2.length → 0 ≤ get p.2 i ∧ get p.2 i < n)
    (h3 : ∀ i j, i < j → j < p.2.length → get p.2 i ≠ get p.2 j) : Right p n :=
  ⟨h1, fun i hi => ⟨(h2 i hi).1, (h2 i hi).2, fun hm => by
    obtain ⟨j, hj, hl, e⟩ := mem_take_get hm
    exact h3 j i hj hi e⟩⟩

/-- Placements of nodes that stand in a ring. -/
def firstNodes (nodes n g : Nat) : List Int := (List.range n).map fun i => (((g + i) % nodes : Nat) : Int)
def first (nodes n groups : Nat) : List P := (List.range groups).map fun g => (1, firstNodes nodes n g)
/-- May First be called so? -/
def FirstOk (nodes n groups : Int) : Prop := 1 ≤ nodes ∧ nodes ≤ 256 ∧ 1 ≤ n ∧ n ≤ 255 ∧ n ≤ nodes ∧ 1 ≤ groups ∧ groups ≤ 1000
instance (a b c : Int) : Decidable (FirstOk a b c) := by unfold FirstOk; infer_instance
theorem firstNodes_length (nodes n g : Nat) : (firstNodes nodes n g).length = n := by simp [firstNodes]
theorem first_length (nodes n groups : Nat) : (first nodes n groups).length = groups := by simp [first]
theorem first_get {nodes n groups g : Nat} (h : g < groups) : pget (first nodes n groups) g = (1, firstNodes nodes n g) := pget_map_range _ h
theorem firstNodes_get {nodes n g i : Nat} (h : i < n) : get (firstNodes nodes n g) i = (((g + i) % nodes : Nat) : Int) := Il.get_map_range _ h
theorem mod_apart {a i j m : Nat} (hij : i < j) (hj : j < m) (h : (a + i) % m = (a + j) % m) : False := by
  have h1 := Nat.div_add_mod (a + i) m
  have h2 := Nat.div_add_mod (a + j) m
  rw [h] at h1
  have hd : m * ((a + j) / m) - m * ((a + i) / m) = j - i := by omega
  rw [← Nat.mul_sub] at hd
  have hlt : m * ((a + j) / m - (a + i) / m) < m := by omega
  have h0 : (a + j) / m - (a + i) / m = 0 := by
    rcases Nat.eq_zero_or_pos ((a + j) / m - (a + i) / m) with h0 | h0
    · exact h0
    · have := Nat.mul_le_mul_left m h0
      omega
  rw [h0] at hd
  omega
theorem firstNodes_right {nodes n g : Nat} (h1 : 1 ≤ nodes) (h2 : nodes ≤ 256) (h3 : 1 ≤ n) (h4 : n ≤ 255) (h5 : n ≤ nodes) : Right (1, firstNodes nodes n g) nodes := by
  refine right_of ?_ (fun i hi => ?_) (fun i j hij hj => ?_)
  · simp only [firstNodes_length]; omega
  · simp only [firstNodes_length] at hi
    simp only [firstNodes_get hi]
    have := Nat.mod_lt (g + i) (show 0 < nodes by omega)
    omega
  · simp only [firstNodes_length] at hj
    simp only [firstNodes_get hj, firstNodes_get (show i < n by omega)]
    intro e
    exact mod_apart (a := g) hij (show j < nodes by omega) (by omega)
theorem Right.more {p : P} {n m : Int} (h : Right p n) (hn : n ≤ m) (hm : m ≤ 256) : Right p m :=
  ⟨by have := h.1; omega, fun i hi => by have := h.2 i hi; exact ⟨this.1, by omega, this.2.2⟩⟩
theorem first_all {nodes n groups : Nat} (h : FirstOk nodes n groups) : All (first nodes n groups) := by
  unfold FirstOk at h
  refine ⟨by rw [first_length]; omega, by rw [first_length]; omega, fun p hp => ?_⟩
  simp only [first, List.mem_map, List.mem_range] at hp
  obtain ⟨g, hg, rfl⟩ := hp
  exact (firstNodes_right (by omega) (by omega) (by omega) (by omega) (by omega)).more (by omega) (by omega)

/-- What bars a move. -/
def Hinders (a b : Int) (p : P) : Prop := a ∈ p.2 ∧ (b ∈ p.2 ∨ 1099511627776 ≤ p.1)
instance (a b : Int) (p : P) : Decidable (Hinders a b p) := by unfold Hinders; infer_instance
def MayMove (l : List P) (a b : Int) : Prop := (0 ≤ a ∧ a < 256) ∧ (0 ≤ b ∧ b < 256) ∧ a ≠ b ∧ ∀ p, p ∈ l → ¬ Hinders a b p
instance (l : List P) (a b : Int) : Decidable (MayMove l a b) := by unfold MayMove; infer_instance
def movedOne (a b : Int) (p : P) : P := if a ∈ p.2 then (p.1 + 1, p.2.set (idx p.2 a).toNat b) else p
def moved (l : List P) (a b : Int) : List P := l.map (movedOne a b)
/-- The groups that are moved, of the first k. -/
def groupsTo (l : List P) (a : Int) (k : Nat) : List Int := ((List.range k).filter fun g => decide (a ∈ (pget l g).2)).map fun (g : Nat) => (g : Int)
def groups (l : List P) (a : Int) : List Int := groupsTo l a l.length
theorem groupsTo_succ (l : List P) (a : Int) (k : Nat) : groupsTo l a (k + 1) = groupsTo l a k ++ (if a ∈ (pget l k).2 then [(k : Int)] else []) := by
  unfold groupsTo
  rw [List.range_succ, List.filter_append, List.map_append]
  by_cases h : a ∈ (pget l k).2 <;> simp [h]
theorem groupsTo_length (l : List P) (a : Int) (k : Nat) : (groupsTo l a k).length ≤ k := by
  unfold groupsTo
  rw [List.length_map]
  exact Nat.le_trans (List.length_filter_le _ _) (by simp)
/-- What the first k placements come to. -/
def movedTo (l : List P) (a b : Int) (k : Nat) : List P := (l.take k).map (movedOne a b)
theorem movedTo_length {l : List P} {a b : Int} {k : Nat} (h : k ≤ l.length) : (movedTo l a b k).length = k := by simp [movedTo, List.length_take, Nat.min_eq_left h]
theorem movedTo_all (l : List P) (a b : Int) : movedTo l a b l.length = moved l a b := by simp [movedTo, moved]
theorem movedTo_succ {l : List P} {a b : Int} {k : Nat} (h : k < l.length) : movedTo l a b (k + 1) = movedTo l a b k ++ [movedOne a b (pget l k)] := by
  unfold movedTo
  rw [List.take_succ_eq_append_getElem h, List.map_append, pget_of_lt h]; rfl
end Pl
