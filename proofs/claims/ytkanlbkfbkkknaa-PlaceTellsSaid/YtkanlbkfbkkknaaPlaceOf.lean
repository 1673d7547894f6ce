/- The contract of place.Of. -/
import Derived.Test.YtkanlbkfbkkknaaPlaceOwn
namespace Go.Proofs.Ytkanlbkfbkkknaa
open Go.RowKit

theorem tmod_nat (n m : Nat) : (n : Int).tmod (m : Int) = ((n % m : Nat) : Int) := by
  rw [Int.tmod_eq_emod_of_nonneg (by omega)]; simp

set_option maxRecDepth 100000 in
set_option maxHeartbeats 1000000 in
theorem of_bad (w : World) (A : Option Addr) (n c : Nat) (s : Int) (h : n = 0 ∨ s < 0) (hn : n ≤ 9223372036854775807) :
    Calls Try.prog 17 #[.slice A n c, .int .i64 s] w fun r w' => r = .returned (.tuple #[.agg #[.int .i64 0, .slice none 0 0], .bool false]) ∧ Ext w w' := by
  by_cases h0 : n = 0
  · subst h0
    clear h
    go_enter Try.func17, Try.ntmps17
    go_wp2
    refine bodyPost_ret (v := .tuple #[.agg #[.int .i64 0, .slice none 0 0], .bool false]) (by simp [results, Try.results17, go_sem]) rfl ⟨rfl, ?_⟩
    exact Ext.alloc _ _
  · have h1 : s < 0 := by omega
    have h2 : ((n : Int) == 0) = false := by rw [beq_eq_false_iff_ne]; omega
    clear h h0
    go_enter Try.func17, Try.ntmps17
    go_wp2
    refine bodyPost_ret (v := .tuple #[.agg #[.int .i64 0, .slice none 0 0], .bool false]) (by simp [results, Try.results17, go_sem]) rfl ⟨rfl, ?_⟩
    exact Ext.alloc _ _

set_option maxRecDepth 100000 in
set_option maxHeartbeats 1000000 in
theorem of_ok (w : World) (A : Option Addr) (n c : Nat) (l : List Pl.P) (s : Nat) (hl : Ps w A n c l) (hn : 0 < n) (hn' : n ≤ 17592186044416) (hs : s ≤ 9223372036854775807) (hsm : (Pl.pget l (s % n)).2.length ≤ 17592186044416) :
    Calls Try.prog 17 #[.slice A n c, .int .i64 (s : Int)] w fun r w' => ∃ v, r = .returned (.tuple #[.agg #[.int .i64 (Pl.pget l (s % n)).1, v], .bool true]) ∧ NewInts w w' v (Pl.pget l (s % n)).2 := by
  have hlt : s % n < n := Nat.mod_lt _ hn
  have h2 : ((n : Int) == 0) = false := by rw [beq_eq_false_iff_ne]; omega
  have h3 : ¬ (s : Int) < 0 := by omega
  have hmod := tmod_nat s n
  obtain ⟨b, off, A', n', c', rfl, q1, q2, hi⟩ := hl.rd _ hlt
  generalize s % n = k at *
  have i1 : (k : Int) < n := by omega
  have hb := World.block_lt_of_cell? _ _ q1
  have hb' : b < w.heap.size := hb
  clear hl hb
  go_enter Try.func17, Try.ntmps17
  go_wp2_with (fail)
  have x0 : Ext w (w.alloc (.cells #[.int .i64 0, .slice none 0 0] 33)) := Ext.alloc _ _
  have b1 : (w.alloc (.cells #[.int .i64 0, .slice none 0 0] 33)).heap[w.heap.size]? = some (.cells #[.int .i64 0, .slice none 0 0] 33 (0, 0)) := heap_alloc_new w _
  have hsz : (w.alloc (.cells #[.int .i64 0, .slice none 0 0] 33)).heap.size = w.heap.size + 1 := by simp
  have hi1 := hi.ext x0
  generalize (w.alloc (.cells #[.int .i64 0, .slice none 0 0] 33)) = W at *
  refine (own_any W (Pl.pget l k).1 A' n' c' (Pl.pget l k).2 hi1 (by rw [← hi.len]; exact hsm)).mono ?_
  rintro r w1 ⟨v, rfl, hv⟩
  obtain ⟨own, x1⟩ := hv
  rw [hsz] at own
  have B1 := (x1.block w.heap.size (by omega)).trans b1
  have x2 := x0.trans x1
  clear x0 x1 b1 hsz hi1 hi q1 q2
  have c0 : w1.cell? ⟨w.heap.size, 0, none⟩ = some (.int .i64 0) := by rw [cell_of_row w1 _ _ _ _ _ B1]; rfl
  have c1 : w1.cell? ⟨w.heap.size, 1, none⟩ = some (.slice none 0 0) := by rw [cell_of_row w1 _ _ _ _ _ B1]; rfl
  have z0 : w1.frozen? ⟨w.heap.size, 0, none⟩ = false := frozen_of_row w1 _ _ _ _ B1
  have z1 : w1.frozen? ⟨w.heap.size, 1, none⟩ = false := frozen_of_row w1 _ _ _ _ B1
  obtain ⟨D, d, rfl, _, _⟩ := ownsRow_slice own
  have X := Lib.hid x2
  have O := Lib.hid own
  clear own x2 B1 hmod
  generalize hg : w.heap.size = g at *
  have G := Lib.hid hg
  clear hg
  go_wp2_with (fail)
  refine bodyPost_ret (v := .tuple #[.agg #[.int .i64 (Pl.pget l k).1, .slice D (Pl.pget l k).2.length d], .bool true]) (by simp [results, Try.results17, go_sem, c0, c1]) rfl ⟨_, rfl, ?_, ?_⟩
  · have O3 := ownsRow_far (ownsRow_far O.out (p := ⟨g, 0, none⟩) (by show g < g + 1; omega) (.int .i64 (Pl.pget l k).1)) (p := ⟨g, 1, none⟩) (by show g < g + 1; omega) (.slice D (Pl.pget l k).2.length d)
    exact ownsRow_base O3 (by rw [G.out]; omega)
  · refine (X.out.set_ ?_ _).set_ ?_ _
    · rw [G.out]; exact Nat.le_refl _
    · rw [G.out]; exact Nat.le_refl _
end Go.Proofs.Ytkanlbkfbkkknaa
