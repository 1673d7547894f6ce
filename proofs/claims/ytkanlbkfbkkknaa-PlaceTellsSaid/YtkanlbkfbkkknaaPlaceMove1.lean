/- The contracts of the two functions that Move makes. -/
import Derived.Test.YtkanlbkfbkkknaaPlaceFunc
namespace Go.Proofs.Ytkanlbkfbkkknaa
open Go.RowKit

theorem node_any (w : World) (n : Int) :
    Calls Try.prog 34 #[.int .i64 n] w fun r w' => r = .returned (.bool (decide (0 ≤ n ∧ n < 256))) ∧ w = w' := by
  by_cases h1 : 0 ≤ n
  · by_cases h2 : n < 256
    · have d : decide (0 ≤ n ∧ n < 256) = true := decide_eq_true ⟨h1, h2⟩
      rw [d]
      clear d
      go_enter Try.func34, Try.ntmps34
      go_wp2
      go_ret
      exact ⟨rfl, rfl⟩
    · have d : decide (0 ≤ n ∧ n < 256) = false := decide_eq_false (fun h => h2 h.2)
      rw [d]
      clear d
      go_enter Try.func34, Try.ntmps34
      go_wp2
      go_ret
      exact ⟨rfl, rfl⟩
  · have d : decide (0 ≤ n ∧ n < 256) = false := decide_eq_false (fun h => h1 h.1)
    rw [d]
    clear d
    go_enter Try.func34, Try.ntmps34
    go_wp2
    go_ret
    exact ⟨rfl, rfl⟩

set_option maxHeartbeats 1000000 in
theorem hinders_any (w : World) (e : Int) (A : Option Addr) (n c : Nat) (l : List Int) (hl : Is w A n c l) (bf bt : Nat) (a b : Int) (hf : w.cell? ⟨bf, 0, none⟩ = some (.int .i64 a)) (ht : w.cell? ⟨bt, 0, none⟩ = some (.int .i64 b)) :
    Calls Try.prog 35 #[.agg #[.int .i64 e, .slice A n c], .pointer (some ⟨bf, 0, none⟩), .pointer (some ⟨bt, 0, none⟩)] w fun r w' => r = .returned (.bool (decide (Pl.Hinders a b (e, l)))) ∧ Ext w w' := by
  have hb1 : bf < w.heap.size := World.block_lt_of_cell? _ _ hf
  have hb2 : bt < w.heap.size := World.block_lt_of_cell? _ _ ht
  have m1 := Il.idx_mem l a
  have m2 := Il.idx_mem l b
  by_cases h1 : 0 ≤ Il.idx l a
  · by_cases h2 : 0 ≤ Il.idx l b
    · have d : decide (Pl.Hinders a b (e, l)) = true := decide_eq_true ⟨m1.1 h1, .inl (m2.1 h2)⟩
      rw [d]
      clear d m1 m2
      go_enter Try.func35, Try.ntmps35
      go_wp2_with (fail)
      refine (pIndex_any _ e A n c l a (hl.ext (Ext.alloc _ _))).mono ?_
      rintro r w1 ⟨rfl, hx⟩
      have hx0 := (Ext.alloc w _).trans hx
      have q1 := hx0.cell ht
      have q2 : w1.cell? ⟨w.heap.size, 0, none⟩ = some (.int .i64 e) := hx.cell (by rw [World.cell?_alloc_new]; rfl)
      have q3 : w1.cell? ⟨w.heap.size, 1, none⟩ = some (.slice A n c) := hx.cell (by rw [World.cell?_alloc_new]; rfl)
      go_wp2_with (fail)
      refine (pIndex_any _ e A n c l b (hl.ext hx0)).mono ?_
      rintro r w2 ⟨rfl, hx2⟩
      have q4 := hx2.cell q2
      go_wp2_with (fail)
      go_ret
      exact ⟨rfl, hx0.trans hx2⟩
    · by_cases h3 : 1099511627776 ≤ e
      · have d : decide (Pl.Hinders a b (e, l)) = true := decide_eq_true ⟨m1.1 h1, .inr h3⟩
        rw [d]
        clear d m1 m2
        go_enter Try.func35, Try.ntmps35
        go_wp2_with (fail)
        refine (pIndex_any _ e A n c l a (hl.ext (Ext.alloc _ _))).mono ?_
        rintro r w1 ⟨rfl, hx⟩
        have hx0 := (Ext.alloc w _).trans hx
        have q1 := hx0.cell ht
        have q2 : w1.cell? ⟨w.heap.size, 0, none⟩ = some (.int .i64 e) := hx.cell (by rw [World.cell?_alloc_new]; rfl)
        have q3 : w1.cell? ⟨w.heap.size, 1, none⟩ = some (.slice A n c) := hx.cell (by rw [World.cell?_alloc_new]; rfl)
        go_wp2_with (fail)
        refine (pIndex_any _ e A n c l b (hl.ext hx0)).mono ?_
        rintro r w2 ⟨rfl, hx2⟩
        have q4 := hx2.cell q2
        go_wp2_with (fail)
        go_ret
        exact ⟨rfl, hx0.trans hx2⟩
      · have d : decide (Pl.Hinders a b (e, l)) = false := decide_eq_false (fun h => h.2.elim (fun h => h2 (m2.2 h)) h3)
        rw [d]
        clear d m1 m2
        go_enter Try.func35, Try.ntmps35
        go_wp2_with (fail)
        refine (pIndex_any _ e A n c l a (hl.ext (Ext.alloc _ _))).mono ?_
        rintro r w1 ⟨rfl, hx⟩
        have hx0 := (Ext.alloc w _).trans hx
        have q1 := hx0.cell ht
        have q2 : w1.cell? ⟨w.heap.size, 0, none⟩ = some (.int .i64 e) := hx.cell (by rw [World.cell?_alloc_new]; rfl)
        have q3 : w1.cell? ⟨w.heap.size, 1, none⟩ = some (.slice A n c) := hx.cell (by rw [World.cell?_alloc_new]; rfl)
        go_wp2_with (fail)
        refine (pIndex_any _ e A n c l b (hl.ext hx0)).mono ?_
        rintro r w2 ⟨rfl, hx2⟩
        have q4 := hx2.cell q2
        go_wp2_with (fail)
        go_ret
        exact ⟨ret_bool (show (decide (0 ≤ Il.idx l b) || decide (1099511627776 ≤ e)) = false by rw [decide_eq_false (show ¬ 0 ≤ Il.idx l b by omega), decide_eq_false (show ¬ 1099511627776 ≤ e by omega)]; rfl), hx0.trans hx2⟩
  · have d : decide (Pl.Hinders a b (e, l)) = false := decide_eq_false (fun h => h1 (m1.2 h.1))
    rw [d]
    clear d m1 m2
    go_enter Try.func35, Try.ntmps35
    go_wp2_with (fail)
    refine (pIndex_any _ e A n c l a (hl.ext (Ext.alloc _ _))).mono ?_
    rintro r w1 ⟨rfl, hx⟩
    have hx0 := (Ext.alloc w _).trans hx
    go_wp2_with (fail)
    go_ret
    exact ⟨rfl, hx0⟩
theorem hinders_asks (w : World) (bf bt : Nat) (a b : Int) (hf : w.cell? ⟨bf, 0, none⟩ = some (.int .i64 a)) (ht : w.cell? ⟨bt, 0, none⟩ = some (.int .i64 b)) :
    Asks w 35 #[.pointer (some ⟨bf, 0, none⟩), .pointer (some ⟨bt, 0, none⟩)] (fun p => decide (Pl.Hinders a b p)) :=
  fun W e A n c nodes hx hi => hinders_any W e A n c nodes hi bf bt a b (hx.cell hf) (hx.cell ht)
end Go.Proofs.Ytkanlbkfbkkknaa
