/- The contract of place.Move. -/
import Derived.Test.YtkanlbkfbkkknaaPlaceMove1
import Derived.Test.YtkanlbkfbkkknaaPlaceList
import Derived.Test.YtkanlbkfbkkknaaStep
namespace Go.Proofs.Ytkanlbkfbkkknaa
open Go.RowKit

theorem off_own {w : World} {v : Value} {g : Nat} {n : Nat} (h1 : g < w.heap.size) (h2 : v.ownBlock ≠ some g) : Off w v (some ⟨g, 0, none⟩) n := fun _ b hb => by
  injection hb with hb
  have hb' : g = b := hb
  subst hb'
  exact ⟨h1, h2⟩
theorem any_hinders (l : List Pl.P) (a b : Int) : (l.any fun p => decide (Pl.Hinders a b p)) = false ↔ ∀ p, p ∈ l → ¬ Pl.Hinders a b p := by
  simp [List.any_eq_false]

set_option maxRecDepth 100000 in
set_option maxHeartbeats 1000000 in
theorem move_arg (w : World) (A : Option Addr) (n c : Nat) (l : List Pl.P) (hl : Ps w A n c l) (a b : Int) (h : ¬ Pl.All l) :
    Calls Try.prog 12 #[.slice A n c, .int .i64 a, .int .i64 b] w fun r w' => r = .returned (.tuple #[.slice none 0 0, .slice none 0 0, .int .i64 2]) ∧ Ext w w' := by
  have d : decide (Pl.All l) = false := decide_eq_false h
  go_enter Try.func12, Try.ntmps12
  go_wp2_with (fail)
  have x0 : Ext w ((w.alloc (.cells #[.int .i64 a] 3)).alloc (.cells #[.int .i64 b] 3)) := (Ext.alloc _ _).thenAlloc _
  refine (all_any _ A n c l (hl.ext x0)).mono ?_
  rintro r w1 ⟨rfl, hx⟩
  rw [d]
  clear d
  go_wp2_with (fail)
  go_ret3
  exact ⟨rfl, x0.trans hx⟩

set_option maxRecDepth 100000 in
set_option maxHeartbeats 1000000 in
theorem move_no (w : World) (A : Option Addr) (n c : Nat) (l : List Pl.P) (hl : Ps w A n c l) (a b : Int) (h : Pl.All l) (hm : ¬ Pl.MayMove l a b) :
    Calls Try.prog 12 #[.slice A n c, .int .i64 a, .int .i64 b] w fun r w' => r = .returned (.tuple #[.slice none 0 0, .slice none 0 0, .int .i64 100]) ∧ Ext w w' := by
  have d : decide (Pl.All l) = true := decide_eq_true h
  go_enter Try.func12, Try.ntmps12
  go_wp2_with (fail)
  have x0 : Ext w ((w.alloc (.cells #[.int .i64 a] 3)).alloc (.cells #[.int .i64 b] 3)) := (Ext.alloc _ _).thenAlloc _
  have c0 : ((w.alloc (.cells #[.int .i64 a] 3)).alloc (.cells #[.int .i64 b] 3)).cell? ⟨w.heap.size, 0, none⟩ = some (.int .i64 a) := (Ext.alloc (w.alloc (.cells #[.int .i64 a] 3)) _).cell (by rw [World.cell?_alloc_new]; rfl)
  have c1 : ((w.alloc (.cells #[.int .i64 a] 3)).alloc (.cells #[.int .i64 b] 3)).cell? ⟨w.heap.size + 1, 0, none⟩ = some (.int .i64 b) := cell_two _ _ _ _ _
  refine (all_any _ A n c l (hl.ext x0)).mono ?_
  rintro r w1 ⟨rfl, hx⟩
  rw [d]
  clear d
  have y0 := hx.cell c0
  have y1 := hx.cell c1
  have x1 := x0.trans hx
  clear c0 c1 hx x0
  go_wp2_with (fail)
  refine (node_any _ a).mono ?_
  rintro r w' ⟨rfl, rfl⟩
  by_cases n1 : 0 ≤ a ∧ a < 256
  · rw [decide_eq_true n1]
    go_wp2_with (fail)
    refine (node_any _ b).mono ?_
    rintro r w' ⟨rfl, rfl⟩
    by_cases n2 : 0 ≤ b ∧ b < 256
    · rw [decide_eq_true n2]
      by_cases n3 : a = b
      · have e3 : (a == b) = true := by rw [n3]; simp
        clear n3
        go_wp2_with (fail)
        go_ret3
        exact ⟨rfl, x1⟩
      · have e3 : (a == b) = false := by rw [beq_eq_false_iff_ne]; exact n3
        have hq := hinders_asks w1 w.heap.size (w.heap.size + 1) a b y0 y1
        have hq2 : (l.any fun p => decide (Pl.Hinders a b p)) = true := by
          rcases Bool.eq_false_or_eq_true (l.any fun p => decide (Pl.Hinders a b p)) with e | e
          · exact e
          · exact absurd ⟨n1, n2, n3, (any_hinders l a b).1 e⟩ hm
        have HQ := Lib.hid hq2
        clear hq2 n3
        go_wp2_with (fail)
        refine (containsFunc_any _ A n c l (hl.ext x1) 35 _ _ (enters_of Try.func35 (by kernel_rfl) rfl) hq).mono ?_
        rintro r w2 ⟨rfl, hx2⟩
        rw [HQ.out]
        go_wp2_with (fail)
        go_ret3
        exact ⟨rfl, x1.trans hx2⟩
    · rw [decide_eq_false n2]
      go_wp2_with (fail)
      go_ret3
      exact ⟨rfl, x1⟩
  · rw [decide_eq_false n1]
    go_wp2_with (fail)
    go_ret3
    exact ⟨rfl, x1⟩
end Go.Proofs.Ytkanlbkfbkkknaa
