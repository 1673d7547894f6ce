/- Codes in plain words: the matrix of a code, what its rows tell of shards. No program in sight. -/
import Derived.Test.YtfpcldkfmcnjkaaGr
namespace Gm
open Gf
/-- The matrix of a code. -/
def gen (k n : Nat) : L := unit k ++ cauchy (n - k) k
theorem gen_length {k n : Nat} (h : k ≤ n) : (gen k n).length = n := by
  unfold gen
  rw [List.length_append, (unit_rect k).len, (cauchy_rect _ k).len]
  omega
theorem row_append {a b : L} (i : Nat) : row (a ++ b) i = if i < a.length then row a i else row b (i - a.length) := by
  unfold row
  rw [List.getD_eq_getElem?_getD]
  by_cases h : i < a.length
  · rw [if_pos h, List.getElem?_append_left h, List.getD_eq_getElem?_getD]
  · rw [if_neg h, List.getElem?_append_right (by omega), List.getD_eq_getElem?_getD]
theorem row_gen_low {k n i : Nat} (h : i < k) : row (gen k n) i = row (unit k) i := by
  unfold gen
  rw [row_append, (unit_rect k).len, if_pos h]
theorem row_gen_high {k n i : Nat} (h : k ≤ i) : row (gen k n) i = row (cauchy (n - k) k) (i - k) := by
  unfold gen
  rw [row_append, (unit_rect k).len, if_neg (by omega)]
theorem gen_rect {k n : Nat} (h : k ≤ n) : Rect n k (gen k n) :=
  ⟨gen_length h, fun i hi => by
    by_cases e : i < k
    · rw [row_gen_low e]; exact (unit_rect k).wid i e
    · rw [row_gen_high (by omega)]; exact (cauchy_rect _ k).wid _ (by omega)⟩
theorem gen_right {k n : Nat} (h1 : 1 ≤ k) (h : k ≤ n) (hn : n ≤ 255) : right (gen k n) := (gen_rect h).right (by omega) hn h1 (by omega)
/-- A row times shards. -/
def rowL (r : List UInt8) (s : L) : List UInt8 := (List.range (cols s)).map fun j => sum (fun t => mul (get r t) (at_ s t j)) s.length
theorem rowL_length (r : List UInt8) (s : L) : (rowL r s).length = cols s := by simp [rowL]
theorem get_rowL {r : List UInt8} {s : L} {j : Nat} (h : j < cols s) : get (rowL r s) j = sum (fun t => mul (get r t) (at_ s t j)) s.length := by
  unfold rowL
  rw [get_map_range _ h]
/-- The first t products of it, added. -/
def accL (r : List UInt8) (s : L) (t : Nat) : List UInt8 := (List.range (cols s)).map fun j => sum (fun t => mul (get r t) (at_ s t j)) t
theorem accL_length (r : List UInt8) (s : L) (t : Nat) : (accL r s t).length = cols s := by simp [accL]
theorem accL_zero (r : List UInt8) (s : L) : accL r s 0 = List.replicate (cols s) 0 := by
  refine ext_get (by simp [accL]) fun j hj => ?_
  rw [accL_length] at hj
  unfold accL
  rw [get_map_range _ hj, get_zeros]
  rfl
theorem accL_succ (r : List UInt8) (s : L) (k : Nat) : lay (accL r s k) (get r k) (row s k) = accL r s (k + 1) := by
  refine ext_get (by rw [lay_length, accL_length, accL_length]) fun j hj => ?_
  rw [lay_length] at hj
  rw [lay_get _ _ _ hj, layAt_all]
  rw [accL_length] at hj
  unfold accL
  rw [get_map_range _ hj, get_map_range _ hj]
  rfl
theorem accL_full {r : List UInt8} {s : L} {k : Nat} (h : k = s.length) : accL r s k = rowL r s := by subst h; rfl
theorem mulL_rows_of (a s : L) : mulL a s = a.map fun r => rowL r s := by
  refine List.ext_getElem (by simp [mulL]) fun i h1 h2 => ?_
  simp only [mulL, List.getElem_map, List.getElem_range, rowL]
  have hi : i < a.length := by simpa [mulL] using h1
  have : row a i = a[i] := row_of_lt hi
  rw [← this]
  rfl
theorem row_mulL {a s : L} {i : Nat} (h : i < a.length) : row (mulL a s) i = rowL (row a i) s := by
  rw [mulL_rows_of, row_of_lt (by simpa using h), row_of_lt h, List.getElem_map]
theorem mulL_length (a s : L) : (mulL a s).length = a.length := by rw [mulL_rows_of, List.length_map]
/-- So many shards, all of one length that may be. -/
def even (s : L) (n : Nat) : Prop := s.length = n ∧ 0 < n ∧ cols s ≤ 65536 ∧ ∀ i, i < n → (row s i).length = cols s
theorem even.rect {s : L} {n : Nat} (h : even s n) : Rect n (cols s) s := ⟨h.1, h.2.2.2⟩
/-- The first k rows of the code's shards are the data. -/
theorem encode_low {k n : Nat} {s : L} (hk : 0 < k) (hs : s.length = k) (hw : ∀ i, i < k → (row s i).length = cols s) (h : k ≤ n) {i : Nat} (hi : i < k) : row (mulL (gen k n) s) i = row s i := by
  rw [row_mulL (by rw [gen_length h]; omega), row_gen_low hi, ← row_mulL (by rw [(unit_rect k).len]; exact hi), unit_mulL (⟨hs, hw⟩ : Rect k (cols s) s) hk]
end Gm
