/- Several texts in one: The contract of SameBytes; bytes made; bytes of one's own. What lies away from a disk. No statement of the seat is proved here. -/
import Derived.Test.YtaaegbccejjjcaaCt16
import Derived.Laws.MakeOwn
import Derived.Test.YtaaegbccejjjcaaCt15
namespace Go.Proofs.Ytaaegbccejjjcaa
open Go.RowKit Go.Maps Go.Sort Go.Shelf

theorem u8_info5 : (Try.prog.info? 5).map (fun i => (i.zero, i.size, i.bytes)) = some (some (.int .u8 0), 1, 1) := by kernel_rfl
def made5 (c : Nat) (z : Value) : Array Value := madeCells #[z] c
theorem made5_toList (c : Nat) (z : Value) : (made5 c z).toList = List.replicate c z := by
  unfold made5 madeCells
  rw [Array.toList_map]
  have h : ∀ x ∈ (Array.range c).toList, (fun j => #[z][j % #[z].size]!) x = z := fun x _ => by simp [Nat.mod_one]
  rw [List.map_congr_left h, List.map_const']
  simp
theorem run_make5 (W : World) (c : Nat) (hc : c ≤ 100000) : (Instr.makeSlice 32 (.int .i64 (c : Int)) (.int .i64 (c : Int))).run Try.prog W = .ok (.slice (some ⟨W.heap.size, 0, none⟩) c c) (W.alloc (.cells (made5 c (.int .u8 0)) 5)) := by
  obtain ⟨i, hi, hz, h1, h2⟩ := info_parts u8_info5
  have h := run_make (P := Try.prog) W 32 5 i _ Try.underlying32 hi hz .i64 .i64 (c : Int) (c : Int) (by omega) (Int.le_refl _) (by rw [h2]; omega) (by omega)
  rw [h1] at h
  simpa [made5, Value.cells] using h
theorem sameBytes5 (w : World) (A A' : Option Addr) (n c m c' : Nat) (x y : List UInt8) (hx : Bs w A n c x) (hy : Bs w A' m c' y) :
    Calls Try.prog 35 #[.slice A n c, .slice A' m c'] w fun e w' => e = .returned (.bool (x == y)) ∧ w = w' := by
  have h1 := run_text (P := Try.prog) w 32 9 5 Try.underlying32 Try.underlying5 Try.underlying9 A n c x hx
  have h2 := run_text (P := Try.prog) w 32 9 5 Try.underlying32 Try.underlying5 Try.underlying9 A' m c' y hy
  go_enter Try.func35, Try.ntmps35
  go_wp2
  go_ret
  exact ⟨ret_bool (text_eq x y), rfl⟩
/-- A list of bytes of one's own, whole in block p. -/
structure Ob (w w' : World) (p : Nat) (l : List UInt8) : Prop where
  ext : Ext w w'
  le : w.heap.size ≤ p
  blk : w'.heap[p]? = some (.cells (bcells l).toArray 5 (0, 0))
theorem Ob.bs {w w' : World} {p : Nat} {l : List UInt8} (h : Ob w w' p l) (hl : l.length < 2 ^ 62) {n : Nat} (hn : l.length = n) : Bs w' (some ⟨p, 0, none⟩) n n l := by
  subst hn
  refine ⟨rfl, Nat.le_refl _, by omega, by rw [bcells_len]; omega, fun _ => ⟨p, 0, rfl, fun j u hu => ?_⟩⟩
  rw [cell_of_row w' _ _ _ _ _ h.blk, Nat.zero_add]
  simpa using hu
theorem Ob.lt {w w' : World} {p : Nat} {l : List UInt8} (h : Ob w w' p l) : p < w'.heap.size := (Array.getElem?_eq_some_iff.1 h.blk).1
theorem Ob.then {w w' w'' : World} {p : Nat} {l : List UInt8} (h : Ob w w' p l) (hx : Ext w' w'') : Ob w w'' p l := ⟨h.ext.trans hx, h.le, (hx.block p h.lt).trans h.blk⟩
theorem Ob.kp {w w' w'' : World} {p g m b : Nat} {l : List UInt8} (h : Ob w w' p l) (hk : Kp g m b w' w'') (hg : w.heap.size ≤ g) (hm : w.heap.size ≤ m) (hb : w.heap.size ≤ b) (h1 : p ≠ g) (h2 : p ≠ m) (h3 : p ≠ b) : Ob w w'' p l :=
  ⟨h.ext.kp hk hg hm hb, h.le, (hk.block p h.lt h1 h2 h3).trans h.blk⟩
theorem Ob.set {w w' : World} {p : Nat} {l : List UInt8} (h : Ob w w' p l) (k : Nat) (x : UInt8) : Ob w (w'.setCell ⟨p, k, none⟩ (.int .u8 (x.toNat : Int))) p (l.set k x) := by
  refine ⟨Below.setCell h.ext h.le _, h.le, ?_⟩
  have := heap_setCell_same w' p k _ _ (.int .u8 (x.toNat : Int)) h.blk
  rw [this, dk_bcells_set]
  simp
theorem Ob.cell {w w' : World} {p : Nat} {l : List UInt8} (h : Ob w w' p l) {k : Nat} (hk : k < l.length) : w'.cell? ⟨p, k, none⟩ = some (.int .u8 ((Gf.get l k).toNat : Int)) := by
  rw [cell_of_row w' _ _ _ _ _ h.blk]
  have := dk_bcells_get (l := l) hk
  simpa using this
theorem Ob.fz {w w' : World} {p : Nat} {l : List UInt8} (h : Ob w w' p l) (k : Nat) : w'.frozen? ⟨p, k, none⟩ = false := frozen_of_row w' _ _ _ _ h.blk
end Go.Proofs.Ytaaegbccejjjcaa
namespace Go.Proofs.Ytaaegbccejjjcaa
open Go.RowKit Go.Maps Go.Sort Go.Shelf

/-- What came in lies away from a younger disk. -/
theorem Bls.awy {w : World} {A : Option Addr} {n c : Nat} {l : List Bool} (h : Bls w A n c l) {g m b : Nat} (hg : w.heap.size ≤ g ∧ w.heap.size ≤ m ∧ w.heap.size ≤ b) : 0 < n → Awy g m b A := fun hn p hp => by
  obtain ⟨z, o, e, q⟩ := h.rd 0 hn
  rw [e] at hp
  injection hp with hp
  rw [← hp]
  have := World.block_lt_of_cell? _ _ q
  exact ⟨fun e => by have e : z = g := e; have : z < w.heap.size := this; omega, fun e => by have e : z = m := e; have : z < w.heap.size := this; omega, fun e => by have e : z = b := e; have : z < w.heap.size := this; omega⟩
theorem Ds.farC {w : World} {g m b N : Nat} {d : Disks.D} (h : Ds w g m b N d) {p : Addr} (h1 : p.block ≠ g) (h2 : p.block ≠ m) (h3 : p.block ≠ b) (u : Value) : Ds (w.setCell p u) g m b N d := by
  obtain ⟨n, D, hn, hd⟩ := h.ex
  exact ⟨⟨n, D, hn, hd.far h1 h2 h3 u⟩, h.ok⟩
theorem int_store (w : World) (p j : Nat) (x : Int) {v : Value} (hc : w.cell? ⟨p, j, none⟩ = some v) (hf : w.frozen? ⟨p, j, none⟩ = false) : (Instr.storeAt 3 (.pointer (some ⟨p, j, none⟩)) (.int .i64 x)).run Try.prog w = .ok () (w.setCell ⟨p, j, none⟩ (.int .i64 x)) := by
  simp [go_sem, hc, hf]
end Go.Proofs.Ytaaegbccejjjcaa
