/- Several texts in one: What every statement's last step uses: how arguments that came in are opened. Lists of whole numbers, in plain words. No program in sight. -/
import Derived.Test.YtfpglkacjecoeaaRows
import Derived.Test.YtfpglkacjecoeaaCt1
import Derived.ProofKit
import Derived.OpenShut
import Derived.ShutString
import Derived.ChangeOld
namespace Go.Proofs.Ytfpglkacjecoeaa
open Go.ChangeShapes Go.WideShapes Go.ChangeAt Go.RowKit

/-- A slice of integers that came in: nil, or a row of 'cap' cells, the numbers 'zs' (the first 'len' are its elements). -/
def IsRow (k : IntKind) (w : World) (a : Option Addr) (len cap : Nat) (zs : List Int) : Prop :=
  (a = none ∧ len = 0 ∧ cap = 0 ∧ zs = []) ∨
  ∃ x, a = some x ∧ len ≤ cap ∧ cap ≤ maxLen ∧ zs.length = cap ∧ (∀ i, i < zs.length → w.cell? (x.add i) = some (.int k (zs.getD i 0))) ∧ ∀ n ∈ zs, (Lit.int k n).wf = true
theorem IsRow.of_trod {H : Type} {enc : TypeId × Value → H} {W : World} {t e : TypeId} {k : IntKind} {a : Option Addr} {len cap : Nat} {d : DataW H} {p : List MemPlace} (ht : Try.prog.underlying t = some (.slice e)) (he : Try.prog.underlying e = some (.int k)) (hc : Try.prog.cellsOf e = 1)
    (h : DataW.Trod enc Try.prog W 0 (fun _ => true) true t (.slice a len cap) d p) : ∃ zs, IsRow k W a len cap zs := by
  obtain ⟨fuel, hf⟩ := h
  rcases open_ints ht he hc hf with ⟨hcs, _⟩ | ⟨x, l, c, zs, hcs, _, hl, hm, hz, _, hcell, hwz⟩
  · simp [Value.cells] at hcs
    obtain ⟨rfl, rfl, rfl⟩ := hcs
    exact ⟨[], .inl ⟨rfl, rfl, rfl, rfl⟩⟩
  · simp [Value.cells] at hcs
    obtain ⟨rfl, rfl, rfl⟩ := hcs
    exact ⟨zs, .inr ⟨_, rfl, hl, hm, by simpa using hz, hcell, hwz⟩⟩
theorem wf_u8 {a : Int} (h : (Lit.int .u8 a).wf = true) : ∃ x : UInt8, a = (x.toNat : Int) := by
  have hb := bounds_u8 h
  refine ⟨UInt8.ofNat a.toNat, ?_⟩
  rw [UInt8.toNat_ofNat']
  omega
theorem IsRow.bytes {w : World} {a : Option Addr} {len cap : Nat} {zs : List Int} (h : IsRow .u8 w a len cap zs) : ∃ l, Bs w a len cap l := by
  rcases h with ⟨rfl, rfl, rfl, rfl⟩ | ⟨x, rfl, hl, hm, hz, hc, hw⟩
  · exact ⟨[], rfl, Nat.le_refl _, by omega, Rd.nil _ _ _⟩
  · refine ⟨(zs.take len).map fun n => UInt8.ofNat n.toNat, by simp; omega, hl, by unfold maxLen at hm; omega, by simp [bcells]; omega, fun hn => ?_⟩
    have h0 := hc 0 (by omega)
    obtain ⟨b, off, sp⟩ := x
    have hsp : sp = none := by
      cases sp with
      | none => rfl
      | some s =>
        have : (⟨b, off, some s⟩ : Addr).add 0 = ⟨b, off, some s⟩ := by unfold Addr.add; split <;> simp_all
        rw [this] at h0
        unfold World.cell? at h0
        split at h0 <;> simp at h0
    subst hsp
    refine ⟨b, off, rfl, fun j u hu => ?_⟩
    simp only [bcells, List.getElem?_map, Option.map_eq_some_iff] at hu
    obtain ⟨v, ⟨n, hn', rfl⟩, rfl⟩ := hu
    have hj : j < zs.length := by
      rcases Nat.lt_or_ge j zs.length with h | h
      · exact h
      · rw [List.getElem?_take] at hn'
        split at hn'
        · rw [List.getElem?_eq_none h] at hn'; cases hn'
        · cases hn'
    have hj' : zs[j]? = some n := by
      rw [List.getElem?_take] at hn'
      split at hn'
      · exact hn'
      · cases hn'
    have hcj := hc j hj
    rw [addr_add] at hcj
    rw [hcj]
    have hd : zs.getD j 0 = n := by simp [hj']
    have hwn := bounds_u8 (hw n (List.mem_of_getElem? hj'))
    rw [hd, UInt8.toNat_ofNat']
    congr 2
    omega
end Go.Proofs.Ytfpglkacjecoeaa
namespace Il

/-- The number at a place; nought where there is none. -/
def get (l : List Int) (k : Nat) : Int := l.getD k 0
theorem get_of_lt {l : List Int} {k : Nat} (h : k < l.length) : get l k = l[k] := by simp [get, h]
theorem get_of_ge {l : List Int} {k : Nat} (h : l.length ≤ k) : get l k = 0 := by simp [get, h]
theorem ext_get {l m : List Int} (hl : l.length = m.length) (h : ∀ k, k < l.length → get l k = get m k) : l = m := by
  apply List.ext_getElem hl
  intro i h1 h2
  have := h i h1
  rwa [get_of_lt h1, get_of_lt h2] at this
theorem get_map_range {n k : Nat} (f : Nat → Int) (h : k < n) : get ((List.range n).map f) k = f k := by simp [get, h]
theorem get_set {l : List Int} {k i : Nat} (v : Int) (hk : k < l.length) : get (l.set k v) i = if k = i then v else get l i := by
  unfold get
  rw [List.getD_eq_getElem?_getD, List.getD_eq_getElem?_getD, List.getElem?_set]
  by_cases e : k = i
  · rw [if_pos e, if_pos e, if_pos hk]; rfl
  · rw [if_neg e, if_neg e]
theorem get_mem {l : List Int} {k : Nat} (h : k < l.length) : get l k ∈ l := by rw [get_of_lt h]; exact List.getElem_mem h
theorem mem_get {l : List Int} {x : Int} (h : x ∈ l) : ∃ k, k < l.length ∧ get l k = x := by
  obtain ⟨k, hk, e⟩ := List.mem_iff_getElem.1 h
  exact ⟨k, hk, by rw [get_of_lt hk, e]⟩
theorem get_take {l : List Int} {n k : Nat} (h : k < n) : get (l.take n) k = get l k := by
  unfold get
  rw [List.getD_eq_getElem?_getD, List.getD_eq_getElem?_getD, List.getElem?_take, if_pos h]

/-- Where a number first is; less than nought where it is not. -/
def idx (l : List Int) (v : Int) : Int := if l.findIdx (· == v) < l.length then (l.findIdx (· == v) : Int) else -1
theorem idx_found {l : List Int} {v : Int} {k : Nat} (hk : k < l.length) (he : get l k = v) (hno : ∀ j, j < k → get l j ≠ v) : idx l v = (k : Int) := by
  have h : l.findIdx (· == v) = k := by
    rw [List.findIdx_eq hk]
    refine ⟨?_, fun j hj => ?_⟩
    · rw [← get_of_lt hk, he]; simp
    · have := hno j hj
      rw [get_of_lt (by omega)] at this
      simpa using this
  unfold idx
  rw [h, if_pos hk]
theorem idx_none {l : List Int} {v : Int} (hno : ∀ j, j < l.length → get l j ≠ v) : idx l v = -1 := by
  unfold idx
  rw [if_neg]
  intro h
  have h1 := List.findIdx_getElem (w := h)
  have h2 := hno _ h
  rw [get_of_lt h] at h2
  simp only [beq_iff_eq] at h1
  exact h2 h1
theorem idx_cases (l : List Int) (v : Int) : (∃ k, k < l.length ∧ idx l v = (k : Int) ∧ get l k = v ∧ ∀ j, j < k → get l j ≠ v) ∨ (idx l v = -1 ∧ ∀ j, j < l.length → get l j ≠ v) := by
  by_cases h : l.findIdx (· == v) < l.length
  · refine .inl ⟨_, h, ?_, ?_, fun j hj e => ?_⟩
    · unfold idx; rw [if_pos h]
    · have h1 := List.findIdx_getElem (w := h)
      rw [get_of_lt h]
      simpa using h1
    · have h2 := List.not_of_lt_findIdx hj
      rw [get_of_lt (by omega)] at e
      rw [e] at h2
      simp at h2
  · refine .inr ⟨?_, fun j hj e => ?_⟩
    · unfold idx; rw [if_neg h]
    · apply h
      have hm : ∃ x ∈ l, (x == v) = true := ⟨get l j, get_mem hj, by rw [e]; simp⟩
      exact List.findIdx_lt_length.2 hm
theorem idx_lt (l : List Int) (v : Int) : idx l v < l.length := by
  rcases idx_cases l v with ⟨k, hk, h, _⟩ | ⟨h, _⟩ <;> rw [h] <;> omega
theorem idx_ge (l : List Int) (v : Int) : -1 ≤ idx l v := by
  rcases idx_cases l v with ⟨k, hk, h, _⟩ | ⟨h, _⟩ <;> rw [h] <;> omega
theorem idx_mem (l : List Int) (v : Int) : (0 ≤ idx l v) ↔ v ∈ l := by
  rcases idx_cases l v with ⟨k, hk, h, e, _⟩ | ⟨h, e⟩
  · rw [h]
    exact ⟨fun _ => by rw [← e]; exact get_mem hk, fun _ => by omega⟩
  · rw [h]
    refine ⟨fun h => by omega, fun hm => ?_⟩
    obtain ⟨k, hk, e'⟩ := mem_get hm
    exact absurd e' (e k hk)
end Il
