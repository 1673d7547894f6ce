/- An op is copied into a variable; what ops that came in lie away from. -/
import Derived.Test.YtbfbiofndipaaaaDiskDoes
namespace Go.Proofs.Ytbfbiofndipaaaa
open Go.RowKit Go.Maps Go.Sort Go.Shelf

theorem op_under : ∃ d, Try.prog.underlying 31 = some d ∧ d.isRow = true := ⟨_, Try.underlying31, rfl⟩
theorem op_info : (Try.prog.info? 31).map (·.size) = some 6 := by kernel_rfl
theorem op_loads {w : World} {p off : Nat} {o : Op05} (h : w.rangeAt p off (ocells o)) : (Instr.loadAt 31 (.pointer (some ⟨p, off, none⟩))).run Try.prog w = .ok (oval o) w := by
  obtain ⟨d, hd, hr⟩ := op_under
  have hi : (Try.prog.info? 31).map (·.size) = some (ocells o).length := op_info
  simp only [Instr.loadAt, Instr.sureAddr, Sem.run_bind, Sem.run_pure, Result.andThen_ok, run_loadVar_mid w p off 31 (ocells o) d h hd hr hi]
theorem six_range {w : World} {p off : Nat} {o : Op05} (c0 : w.cell? ⟨p, off, none⟩ = some (.int .i64 o.kind)) (c1 : w.cell? ⟨p, off + 1, none⟩ = some (.int .i64 o.i)) (c2 : w.cell? ⟨p, off + 2, none⟩ = some (.int .i64 o.at_)) (c3 : w.cell? ⟨p, off + 3, none⟩ = some (.int .i64 o.n)) (c4 : w.cell? ⟨p, off + 4, none⟩ = some (.int .u8 (o.b.toNat : Int))) (c5 : w.cell? ⟨p, off + 5, none⟩ = some (.slice o.A o.m o.c)) : w.rangeAt p off (ocells o) := fun j v hv => by
  match j with
  | 0 => injection hv with hv; rw [← hv]; exact c0
  | 1 => injection hv with hv; rw [← hv]; exact c1
  | 2 => injection hv with hv; rw [← hv]; exact c2
  | 3 => injection hv with hv; rw [← hv]; exact c3
  | 4 => injection hv with hv; rw [← hv]; exact c4
  | 5 => injection hv with hv; rw [← hv]; exact c5
  | j + 6 => cases hv
theorem Ob5.load {W : World} {p : Nat} {o : Op05} (h : Ob5 W p o) : (Instr.loadAt 31 (.pointer (some ⟨p, 0, none⟩))).run Try.prog W = .ok (oval o) W :=
  op_loads (six_range h.c0 h.c1 h.c2 h.c3 h.c4 h.c5)
/-- Number k of the ops is loaded. -/
theorem Os05.load {w : World} {A : Option Addr} {n c : Nat} {o : Nat → Op05} (h : Os05 w A n c o) {k : Nat} (hk : k < n) : ∃ b off, A = some ⟨b, off, none⟩ ∧ (Instr.loadAt 31 (.pointer (some ⟨b, off + k * 6, none⟩))).run Try.prog w = .ok (oval (o k)) w := by
  obtain ⟨b, off, e, c0, c1, c2, c3, c4, c5, _⟩ := h.at_ k hk
  exact ⟨b, off, e, op_loads (six_range c0 c1 c2 c3 c4 c5)⟩
theorem Os05.bls {w : World} {A : Option Addr} {n c : Nat} {o : Nat → Op05} (h : Os05 w A n c o) {k : Nat} (hk : k < n) : Bls w (o k).A (o k).m (o k).c (o k).l ∧ Ok05 (o k) := by
  obtain ⟨b, off, e, c0, c1, c2, c3, c4, c5, h6, h7⟩ := h.at_ k hk
  exact ⟨h6, h7⟩
def zop : Obj := .cells #[.int .i64 0, .int .i64 0, .int .i64 0, .int .i64 0, .int .u8 0, .slice none 0 0] 31 (0, 0)
theorem run_alloc_op (w : World) : (Instr.alloc 31 true (.tuple #[])).run Try.prog w = .ok (.pointer (some ⟨w.heap.size, 0, none⟩)) (w.alloc zop) := by kernel_rfl
theorem setCells_six {w : World} {p : Nat} {a b c d e f : Value} {T : TypeId} (h : w.heap[p]? = some (.cells #[a, b, c, d, e, f] T (0, 0))) (vs : List Value) (hv : vs.length = 6) : (w.setCells p 0 vs).heap[p]? = some (.cells vs.toArray T (0, 0)) := by
  match vs, hv with
  | [a', b', c', d', e', f'], _ =>
    have h1 := heap_setCell_same w p 0 _ _ a' h
    have h2 := heap_setCell_same _ p 1 _ _ b' h1
    have h3 := heap_setCell_same _ p 2 _ _ c' h2
    have h4 := heap_setCell_same _ p 3 _ _ d' h3
    have h5 := heap_setCell_same _ p 4 _ _ e' h4
    have h6 := heap_setCell_same _ p 5 _ _ f' h5
    exact h6
/-- A new variable of an op, written. -/
theorem op_copy (w : World) (o : Op05) : ∃ w', (Instr.storeAt 31 (.pointer (some ⟨w.heap.size, 0, none⟩)) (oval o)).run Try.prog (w.alloc zop) = .ok () w' ∧ Ob5 w' w.heap.size o ∧ Ext w w' := by
  have hb : (w.alloc zop).heap[w.heap.size]? = some zop := heap_alloc_new w _
  have hth : (w.alloc zop).there w.heap.size 0 6 := fun j hj => ⟨by
    rw [cell_of_row _ _ _ _ _ _ hb]
    have hl : 0 + j < (#[.int .i64 0, .int .i64 0, .int .i64 0, .int .i64 0, .int .u8 0, .slice none 0 0] : Array Value).size := by show 0 + j < 6; omega
    rw [Array.getElem?_eq_getElem hl]; rfl, frozen_of_row _ _ _ _ _ hb⟩
  have hi : (Try.prog.info? 31).map (·.size) = some (ocells o).toArray.size := op_info
  have hall : (ocells o).toArray.all (·.oneCell') = true := all_oneCell_toArray (fun v hv => by
    simp only [ocells, List.mem_cons, List.not_mem_nil, or_false] at hv
    rcases hv with rfl | rfl | rfl | rfl | rfl | rfl <;> rfl)
  have hr := run_storeVar_mid (P := Try.prog) (w.alloc zop) w.heap.size 0 31 (ocells o).toArray hth hi hall
  refine ⟨(w.alloc zop).setCells w.heap.size 0 (ocells o), by simp only [Instr.storeAt, Instr.sureAddr, Sem.run_bind, Sem.run_pure, Result.andThen_ok, hr], ⟨setCells_six hb _ rfl⟩, below_setCells (Nat.le_refl _) _ _ _ (Ext.alloc w _)⟩
theorem Ob5.set1 {W : World} {p : Nat} {o : Op05} (h : Ob5 W p o) (x : Int) : Ob5 (W.setCell ⟨p, 1, none⟩ (.int .i64 x)) p { o with i := x } := ⟨heap_setCell_same W p 1 _ _ (.int .i64 x) h.blk⟩
/-- What came in lies away from a younger disk. -/
theorem Bls.awy {w : World} {A : Option Addr} {n c : Nat} {l : List Bool} (h : Bls w A n c l) {g m b : Nat} (hg : w.heap.size ≤ g ∧ w.heap.size ≤ m ∧ w.heap.size ≤ b) : 0 < n → Awy g m b A := fun hn p hp => by
  obtain ⟨z, o, e, q⟩ := h.rd 0 hn
  rw [e] at hp
  injection hp with hp
  rw [← hp]
  have := World.block_lt_of_cell? _ _ q
  exact ⟨fun e => by have e : z = g := e; have : z < w.heap.size := this; omega, fun e => by have e : z = m := e; have : z < w.heap.size := this; omega, fun e => by have e : z = b := e; have : z < w.heap.size := this; omega⟩
theorem Ds.farC {w : World} {g m b N : Nat} {d : Disks.D} (h : Ds w g m b N d) {p : Addr} (h1 : p.block ≠ g) (h2 : p.block ≠ m) (h3 : p.block ≠ b) (u : Value) : Ds (w.setCell p u) g m b N d := by
  obtain ⟨n, D, hn, hd⟩ := h.ex
  exact ⟨⟨n, D, hn, hd.far h1 h2 h3 u⟩, h.ok⟩
theorem int_store (w : World) (p j : Nat) (x : Int) {v : Value} (hc : w.cell? ⟨p, j, none⟩ = some v) (hf : w.frozen? ⟨p, j, none⟩ = false) : (Instr.storeAt 3 (.pointer (some ⟨p, j, none⟩)) (.int .i64 x)).run Try.prog w = .ok () (w.setCell ⟨p, j, none⟩ (.int .i64 x)) := by
  simp [go_sem, hc, hf]
end Go.Proofs.Ytbfbiofndipaaaa
