/- Steps by a run equation; whole small structs copied into a new variable. No statement of the seat is proved here. -/
import Derived.Test.YtkanlbkfbkkknaaMem
import Derived.Deep.MidRow
namespace Go.Proofs.Ytkanlbkfbkkknaa
open Go.RowKit

theorem wpList_valR {P : Program} {ops : Array Oper} {Q : Exit → Act → World → Prop} {rest : List Oper} {o : Oper} {a : Act} {w w' : World} (hgd : o.guard = none) (v : Value)
    (hrun : (execOp a.eval o).run P w = .ok (.value v) w') (h : wpList P ops Q rest (a.put o.dst v) w') : wpList P ops Q (o :: rest) a w :=
  wpList_plain hgd fun _ hK => by unfold Oper.wp; rw [hrun]; exact hK _ _ h
section
variable {P : Program} {ops : Array Oper} {Q : Exit → Act → World → Prop} {rest : List Oper} {o : Oper} {a : Act} {w w' : World}
/-- Is this the operation? (with_reducible.) -/
theorem opIs (o : Oper) (h : wpList P ops Q (o :: rest) a w) : wpList P ops Q (o :: rest) a w := h
theorem wpList_allocR (hgd : o.guard = none) (t : TypeId) (ho : o.op = .alloc t) (v : Value)
    (hr : (Instr.alloc t true (.tuple #[])).run P w = .ok v w') (h : wpList P ops Q rest (a.put o.dst v) w') : wpList P ops Q (o :: rest) a w :=
  wpList_valR hgd v (by unfold execOp; simp only [ho, Sem.run_bind, hr, Result.andThen_ok, Sem.run_pure]) h
theorem wpList_storeR (hgd : o.guard = none) (t : TypeId) (x y : Operand) (ho : o.op = .store t x y) {p v : Value} (hx : a.eval x = p) (hy : a.eval y = v)
    (hr : (Instr.storeAt t p v).run P w = .ok () w') (h : wpList P ops Q rest (a.put o.dst undef) w') : wpList P ops Q (o :: rest) a w :=
  wpList_plain hgd fun _ hK => by
    unfold Oper.wp execOp
    simp only [ho, hx, hy, Sem.run_bind, hr, Result.andThen_ok, Sem.run_pure]
    exact hK _ _ h
end
theorem below_setCellsS {B : Nat} {a : World} {k : Nat} (hk : B ≤ k) : ∀ (vs : List Value) (o : Nat) (w : World), Below B a w → Below B a (w.setCells k o vs)
  | [], _, _, h => h
  | v :: r, o, w, h => by
    rw [World.setCells]
    exact below_setCellsS hk r (o + 1) _ (Below.setCell h hk v)
def zplace : Obj := .cells #[.int .i64 0, .slice none 0 0] 33 (0, 0)
theorem run_alloc_place (w : World) : (Instr.alloc 33 true (.tuple #[])).run Try.prog w = .ok (.pointer (some ⟨w.heap.size, 0, none⟩)) (w.alloc zplace) := by kernel_rfl
theorem place_sizes : (Try.prog.info? 33).map (·.size) = some 2 := by kernel_rfl
/-- A new variable of a placement, written. -/
theorem place_copy (w : World) (e : Int) (A : Option Addr) (n c : Nat) : ∃ w', (Instr.storeAt 33 (.pointer (some ⟨w.heap.size, 0, none⟩)) (.agg #[.int .i64 e, .slice A n c])).run Try.prog (w.alloc zplace) = .ok () w' ∧ w'.cell? ⟨w.heap.size, 0, none⟩ = some (.int .i64 e) ∧ w'.cell? ⟨w.heap.size, 1, none⟩ = some (.slice A n c) ∧ Ext w w' := by
  have hb : (w.alloc zplace).heap[w.heap.size]? = some zplace := heap_alloc_new w _
  have hth : (w.alloc zplace).there w.heap.size 0 2 := fun j hj => ⟨by
    rw [cell_of_row _ _ _ _ _ _ hb]
    have hl : 0 + j < (#[.int .i64 0, .slice none 0 0] : Array Value).size := by show 0 + j < 2; omega
    rw [Array.getElem?_eq_getElem hl]; rfl, frozen_of_row _ _ _ _ _ hb⟩
  have hr := run_storeVar_mid (P := Try.prog) (w.alloc zplace) w.heap.size 0 33 #[.int .i64 e, .slice A n c] hth place_sizes (by simp [Value.oneCell'])
  have h1 := heap_setCell_same _ w.heap.size 0 _ _ (.int .i64 e) hb
  have h2 := heap_setCell_same _ w.heap.size 1 _ _ (.slice A n c) h1
  refine ⟨(w.alloc zplace).setCells w.heap.size 0 [.int .i64 e, .slice A n c], by simp only [Instr.storeAt, Instr.sureAddr, Sem.run_bind, Sem.run_pure, Result.andThen_ok, hr], ?_, ?_, below_setCellsS (Nat.le_refl _) _ _ _ (Ext.alloc w _)⟩
  · exact (cell_of_row _ _ _ _ _ _ h2).trans rfl
  · exact (cell_of_row _ _ _ _ _ _ h2).trans rfl
end Go.Proofs.Ytkanlbkfbkkknaa
