/- What CodeTells' walk uses of the code and of the document's code: the calls, in one form. -/
import Derived.Test.YtfpcldkfmcnjkaaLaw04
import Derived.Test.YtfpcldkfmcnjkaaCodeAwake
import Derived.Test.YtfpcldkfmcnjkaaCopyLists
import Derived.Test.YtfpcldkfmcnjkaaCodeReb
namespace Go.Proofs.Ytfpcldkfmcnjkaa
open Go.RowKit

/-- The law's case, in its box of nine cells. -/
structure Cb (w : World) (g : Nat) (cs : Array Value) : Prop where
  blk : w.heap[g]? = some (.cells cs 59 (0, 0))
section
variable {w : World} {g : Nat} {cs : Array Value}
theorem Cb.lt (h : Cb w g cs) : g < w.heap.size := (Array.getElem?_eq_some_iff.1 h.blk).1
theorem Cb.ext {w' : World} (h : Cb w g cs) (hx : Ext w w') : Cb w' g cs := ⟨(hx.block g h.lt).trans h.blk⟩
theorem Cb.cell (h : Cb w g cs) (j : Nat) {v : Value} (hv : cs[j]? = some v) : w.cell? ⟨g, j, none⟩ = some v := by rw [cell_of_row w _ _ _ _ _ h.blk]; exact hv
end
def splE (size : Int) : Int := if 1 ≤ size ∧ size ≤ 65536 then 0 else 2
def splS (l : List UInt8) (k : Nat) (size : Int) : List Gm.L := if 1 ≤ size ∧ size ≤ 65536 then stripesOf l k size.toNat else []
theorem many_le {n whole : Nat} (hw : 0 < whole) : manyOf n whole ≤ n := by
  rcases Nat.lt_or_ge n (manyOf n whole) with h | h
  · have := (many_lt hw).1 h
    exact absurd this (Nat.not_lt.2 (Nat.le_mul_of_pos_right n hw))
  · exact h
theorem splS_le {l : List UInt8} {k : Nat} {size : Int} (hk : 1 ≤ k) : (splS l k size).length ≤ l.length := by
  unfold splS
  split
  · rename_i h
    rw [stripesOf_length]
    exact many_le (Nat.mul_pos (by omega) (by omega))
  · simp
theorem split_p (w : World) (b fb k n : Nat) (hC : Cd w b fb k n) (A : Option Addr) (q c : Nat) (l : List UInt8) (hl : Bs w A q c l) (size : Int) (hq : q ≤ 100000) :
    Calls Try.prog 27 #[cptr b, .slice A q c, .int .i64 size] w (GivesSE (splS l k size) (splE size) w) := by
  unfold splS splE
  by_cases h : 1 ≤ size ∧ size ≤ 65536
  · obtain ⟨m, rfl⟩ : ∃ m : Nat, size = (m : Int) := ⟨size.toNat, by omega⟩
    rw [if_pos h, if_pos h]
    exact split_ok w b fb k n hC A q c l hl m (by omega) (by omega) hq
  · rw [if_neg h, if_neg h]
    exact split_arg w b fb k n hC A q c size (by omega)
theorem split_d (w : World) (k n : Nat) (B : Option Addr) (m : Nat) (k1 : 1 ≤ k) (k2 : k ≤ 255) (A : Option Addr) (q c : Nat) (l : List UInt8) (hl : Bs w A q c l) (size : Int) (hq : q ≤ 100000) :
    Calls Try.prog 37 #[cval k n B n m, .slice A q c, .int .i64 size] w (GivesSE (splS l k size) (splE size) w) := by
  unfold splS splE
  by_cases h : 1 ≤ size ∧ size ≤ 65536
  · obtain ⟨m', rfl⟩ : ∃ m' : Nat, size = (m' : Int) := ⟨size.toNat, by omega⟩
    rw [if_pos h, if_pos h]
    exact ref4Split_ok w k n B m k1 k2 A q c l hl m' (by omega) (by omega) hq
  · rw [if_neg h, if_neg h]
    exact ref4Split_arg w k n B m A q c size (by omega)
theorem same_p (w : World) (A A' : Option Addr) (n c c' : Nat) (a : Gm.L) (ha : Mx w A n c a) (hb : Mx w A' n c' a) :
    Calls Try.prog 22 #[.slice A n c, .slice A' n c'] w fun e w' => e = .returned (.bool true) ∧ Ext w w' := by
  have h := sameLists_any w A A' n c n c' a a ha hb
  rwa [decide_eq_true rfl] at h
theorem sameM_p (w : World) (A A' : Option Addr) (n c c' : Nat) (a : Gm.L) (ha : Mx w A n c a) (hb : Mx w A' n c' a) :
    Calls Try.prog 34 #[.slice A n c, .slice A' n c'] w fun e w' => e = .returned (.bool true) ∧ Ext w w' := by
  have h := sameMatrix_any w A A' n c n c' a a ha hb
  rwa [decide_eq_true rfl] at h
theorem sameB_p (w : World) (A A' : Option Addr) (n c c' : Nat) (x : List UInt8) (hx : Bs w A n c x) (hy : Bs w A' n c' x) :
    Calls Try.prog 15 #[.slice A n c, .slice A' n c'] w fun e w' => e = .returned (.bool true) ∧ w = w' := by
  have h := sameBytes_any w A A' n c n c' x x hx hy
  rwa [beq_self_eq_true] at h
theorem matrix_p (w : World) (b fb k n : Nat) (hC : Cd w b fb k n) : Calls Try.prog 35 #[cptr b] w fun e w' => ∃ A c, e = .returned (.slice A n c) ∧ Mx w' A n c (Gm.gen k n) ∧ Ext w w' := by
  refine (matrix_any w b fb k n hC).mono ?_
  intro e w' hg
  obtain ⟨A, c, rfl, hm, hx⟩ := gives_q hg
  rw [Gm.gen_length hC.kn] at hm
  exact ⟨A, c, by rw [Gm.gen_length hC.kn], hm, hx⟩
theorem copy_p (w : World) (A : Option Addr) (n c : Nat) (m : Gm.L) (hm : Mx w A n c m) (hn : small4 m) :
    Calls Try.prog 18 #[.slice A n c] w fun e w' => ∃ A' c', e = .returned (.slice A' n c') ∧ Mx w' A' n c' m ∧ Ext w w' := by
  refine (copyLists_any w A n c m hm (by have := hn.1; have := hm.len; omega) (fun i hi => by have := hn.2 i (by rw [hm.len]; exact hi); omega)).mono ?_
  intro e w' hg
  obtain ⟨A', c', rfl, h1, hx⟩ := gives_q hg
  rw [hm.len] at h1
  exact ⟨A', c', by rw [hm.len], h1, hx⟩
end Go.Proofs.Ytfpcldkfmcnjkaa
