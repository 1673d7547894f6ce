/- Columns in plain words: the first row with something in it. No program in sight. -/
import Derived.Test.YtfpcldkfmcnjkaaCt1
namespace Go.Proofs.Ytfpcldkfmcnjkaa

theorem col_full {a b : Gm.L} {l j : Nat} (h : l = a.length) : Gm.col a b l j = (a, b, l) := by
  unfold Gm.col
  have h0 : a.length - l = 0 := by omega
  rw [h0]
  simp only [Gm.seek, h, ↓reduceIte]
theorem elimTo_stays {a b : Gm.L} {j : Nat} (hl : (Gm.elimTo a b j).2.2 = (Gm.elimTo a b j).1.length) : ∀ k, Gm.elimTo a b (j + k) = Gm.elimTo a b j
  | 0 => rfl
  | k + 1 => by
    have ih := elimTo_stays hl k
    show Gm.col (Gm.elimTo a b (j + k)).1 (Gm.elimTo a b (j + k)).2.1 (Gm.elimTo a b (j + k)).2.2 (j + k) = _
    rw [ih, col_full hl]
theorem seek_is {p : Nat → Bool} {n k t : Nat} (h1 : k ≤ t) (h2 : t ≤ k + n) (h3 : ∀ i, k ≤ i → i < t → p i = false) (h4 : t < k + n → p t = true) : Gm.seek p n k = t := by
  obtain ⟨s1, s2, s3, s4⟩ := Gm.seek_spec p n k
  generalize Gm.seek p n k = s at *
  by_cases e : s < t
  · have := h3 s s1 e; rw [s4 (by omega)] at this; cases this
  · by_cases e2 : t < s
    · have := s3 t h1 e2; rw [h4 (by omega)] at this; cases this
    · omega
theorem seek_col {a : Gm.L} {n l j t : Nat} (ha : a.length = n) (h1 : l ≤ t) (h2 : t ≤ n) (h3 : ∀ i, l ≤ i → i < t → Gm.at_ a i j = 0) (h4 : t < n → Gm.at_ a t j ≠ 0) : Gm.seek (fun k => Gm.at_ a k j != 0) (a.length - l) l = t := by
  refine seek_is h1 (by omega) (fun i q1 q2 => by simp [h3 i q1 q2]) (fun h => by have := h4 (by omega); simpa using this)
theorem col_none {a b : Gm.L} {n l j : Nat} (ha : a.length = n) (h1 : l ≤ n) (h3 : ∀ i, l ≤ i → i < n → Gm.at_ a i j = 0) : Gm.col a b l j = (a, b, l) := by
  unfold Gm.col
  rw [seek_col ha h1 (Nat.le_refl _) h3 (fun h => absurd h (Nat.lt_irrefl _)), if_pos ha.symm]
theorem col_found {a b : Gm.L} {n l j t : Nat} (ha : a.length = n) (h1 : l ≤ t) (h2 : t < n) (h3 : ∀ i, l ≤ i → i < t → Gm.at_ a i j = 0) (h4 : Gm.at_ a t j ≠ 0) :
    Gm.col a b l j = (Gm.clearL (Gm.scaleL (Gm.swapL a t l) l (Gf.inv (Gm.at_ a t j))) l (fun k => Gm.at_ (Gm.scaleL (Gm.swapL a t l) l (Gf.inv (Gm.at_ a t j))) k j),
      Gm.clearL (Gm.scaleL (Gm.swapL b t l) l (Gf.inv (Gm.at_ a t j))) l (fun k => Gm.at_ (Gm.scaleL (Gm.swapL a t l) l (Gf.inv (Gm.at_ a t j))) k j), l + 1) := by
  unfold Gm.col
  rw [seek_col ha h1 (by omega) h3 (fun _ => h4), if_neg (by omega)]
theorem set_row_self {m : Gm.L} {k : Nat} (hk : k < m.length) : m.set k (Gm.row m k) = m := by
  rw [Gm.row_of_lt hk, List.set_getElem_self]
theorem clearTo_same {m : Gm.L} {p k : Nat} (d : Nat → UInt8) (hk : k < m.length) (h : k = p ∨ d k = 0) : Gm.clearTo m p d (k + 1) = Gm.clearTo m p d k := by
  rw [Gm.clearTo_succ d hk]
  by_cases e : k = p
  · rw [if_pos e]
  · rw [if_neg e, h.resolve_left e, Gf.lay_zero, set_row_self (by rw [Gm.clearTo_length]; exact hk)]
theorem clearTo_next {m : Gm.L} {p k : Nat} (d : Nat → UInt8) (hk : k < m.length) (hp : p < m.length) (h : k ≠ p) : (Gm.clearTo m p d k).set k (Gf.lay (Gm.row (Gm.clearTo m p d k) k) (d k) (Gm.row (Gm.clearTo m p d k) p)) = Gm.clearTo m p d (k + 1) := by
  rw [Gm.clearTo_succ d hk, if_neg h, Gm.clearTo_lead d k hp]
end Go.Proofs.Ytfpcldkfmcnjkaa
namespace Gm
open Gf
def scTo (r : List UInt8) (x : UInt8) (k : Nat) : List UInt8 := (List.range r.length).map fun i => if i < k then mul x (get r i) else get r i
theorem scTo_length (r : List UInt8) (x : UInt8) (k : Nat) : (scTo r x k).length = r.length := by simp [scTo]
theorem get_scTo {r : List UInt8} {x : UInt8} {k i : Nat} (h : i < r.length) : get (scTo r x k) i = if i < k then mul x (get r i) else get r i := get_map_range _ h
theorem scTo_zero (r : List UInt8) (x : UInt8) : scTo r x 0 = r := ext_get (scTo_length _ _ _) fun i hi => by
  rw [scTo_length] at hi
  rw [get_scTo hi, if_neg (Nat.not_lt_zero _)]
theorem scTo_full {r : List UInt8} (x : UInt8) {k : Nat} (h : r.length ≤ k) : scTo r x k = scaleRow r x := ext_get (by rw [scTo_length, scaleRow_length]) fun i hi => by
  rw [scTo_length] at hi
  rw [get_scTo hi, if_pos (by omega), get_scaleRow _ hi]
theorem scTo_succ {r : List UInt8} (x : UInt8) {k : Nat} (h : k < r.length) : (scTo r x k).set k (mul x (get r k)) = scTo r x (k + 1) := ext_get (by rw [List.length_set, scTo_length, scTo_length]) fun i hi => by
  rw [List.length_set, scTo_length] at hi
  rw [get_set _ (by rw [scTo_length]; exact h), get_scTo hi, get_scTo hi]
  by_cases e : k = i
  · subst e; rw [if_pos rfl, if_pos (by omega)]
  · rw [if_neg e]
    by_cases e2 : i < k
    · rw [if_pos e2, if_pos (by omega)]
    · rw [if_neg e2, if_neg (by omega)]
end Gm
