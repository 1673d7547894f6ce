/- Several texts in one: A base and records beside a journal; an op in a box. The contract of the laws' awake. -/
import Derived.Test.YtaaegbccejjjcaaCt32
import Derived.Test.YtaaegbccejjjcaaCt28
namespace Go.Proofs.Ytaaegbccejjjcaa
open Go.RowKit Go.Maps Go.Sort Go.Shelf
set_option linter.unusedSimpArgs false

theorem Bz.turn {Z Y : Nat → Prop} {w wx : World} {A : Option Addr} {n c : Nat} {l : List UInt8} (h : Bz Z w A n c l) (hx : Ch Z w wx) (hy : ∀ q, q < w.heap.size → Y q → Z q) : Bz Y wx A n c l := fun _ k => h _ (hx.turn k hy)
theorem Mz.turn {Z Y : Nat → Prop} {w wx : World} {B : Option Addr} {n e : Nat} {L : List (List UInt8)} (h : Mz Z w B n e L) (hx : Ch Z w wx) (hy : ∀ q, q < w.heap.size → Y q → Z q) : Mz Y wx B n e L := by
  obtain ⟨a1, a2, a3, cs, a4, a5, a6⟩ := h
  refine ⟨a1, a2, a3, cs, a4, fun W' k' => a5 W' (hx.turn k' hy), fun i hi => ?_⟩
  obtain ⟨D, m, d, e1, e2⟩ := a6 i hi
  exact ⟨D, m, d, e1, fun _ k => e2 _ (hx.turn k hy)⟩
/-- A base and records as a journal has them. -/
structure Kb (Z : Nat → Prop) (w : World) (A : Option Addr) (n c : Nat) (B : Option Addr) (m e : Nat) (j : Jo.J) : Prop where
  base : Bz Z w A n c j.base
  recs : Mz Z w B m e j.recs
theorem Kb.turn {Z Y : Nat → Prop} {w wx : World} {A : Option Addr} {n c : Nat} {B : Option Addr} {m e : Nat} {j : Jo.J} (h : Kb Z w A n c B m e j) (hx : Ch Z w wx) (hy : ∀ q, q < w.heap.size → Y q → Z q) : Kb Y wx A n c B m e j := ⟨h.base.turn hx hy, h.recs.turn hx hy⟩
theorem Kb.ext {Z : Nat → Prop} {w wx : World} {A : Option Addr} {n c : Nat} {B : Option Addr} {m e : Nat} {j : Jo.J} (h : Kb Z w A n c B m e j) (hx : Ext w wx) : Kb Z wx A n c B m e j := h.turn (Ch.of hx _) (fun _ _ z => z)
/-- Fresh records stay. -/
theorem RwN.mz {w0 w : World} {A : Option Addr} {n c : Nat} {l : List (List UInt8)} {Z : Nat → Prop} (h : RwN w0 w (.slice A n c) l) (hz : ∀ q, Z q → q < w0.heap.size) (hn : l.length = n) : Mz Z w A n c l := by
  subst hn
  obtain ⟨cs, h1, h2⟩ := h
  obtain ⟨A2, c2, e2, q1, q2⟩ := ownsRow_slice h1
  injection e2 with e3 _ e4
  subst e3 e4
  have hlen : cs.length = l.length := by have := h1.1; omega
  refine ⟨rfl, q1, q2, cs, hlen, fun W hW => Rd.of_own (own_ch h1 hW (fun q hq z => by have h3 := own_row h1 q hq; have := hz q z; omega)), fun i hi => ?_⟩
  obtain ⟨B, n, d, e, hb, hn, hc⟩ := h2 i hi
  exact ⟨B, n, d, e, Bz.of hb (hn.cold (w' := w) hc hz)⟩
/-- The disk did something. -/
theorem Lv.disk {W w w' : World} {p g m b N N' : Nat} {o : Option Nat} {j : Jo.J} {d d' : Disks.D} (h : Lv W w p g m b N o j d) (k : Kp g m b w w') (hd : Ds w' g m b N' d') (hat : Jo.At d' j) : Lv W w' p g m b N' o j d' :=
  ⟨h.jn.disk k hd, hat, h.dl.turn hd k |>.ext, h.lo⟩

/-- An op in a box. -/
structure Ox (w : World) (x : Nat) (q : Op24) : Prop where
  blk : w.heap[x]? = some (.cells (ocells24 q).toArray 35 (0, 0))
section
variable {w w' : World} {x : Nat} {q : Op24}
theorem Ox.lt (h : Ox w x q) : x < w.heap.size := (Array.getElem?_eq_some_iff.1 h.blk).1
theorem Ox.ext (h : Ox w x q) (hx : Ext w w') : Ox w' x q := ⟨(hx.block x h.lt).trans h.blk⟩
theorem Ox.ch {Z : Nat → Prop} (h : Ox w x q) (k : Ch Z w w') (hz : ¬ Z x) : Ox w' x q := ⟨(k.block x h.lt hz).trans h.blk⟩
theorem Ox.c0 (h : Ox w x q) : w.cell? ⟨x, 0, none⟩ = some (.int .i64 q.kind) := by rw [cell_of_row w _ _ _ _ _ h.blk]; rfl
theorem Ox.c1 (h : Ox w x q) : w.cell? ⟨x, 1, none⟩ = some (.slice q.A q.m q.c) := by rw [cell_of_row w _ _ _ _ _ h.blk]; rfl
theorem Ox.load (h : Ox w x q) : (Instr.loadAt 35 (.pointer (some ⟨x, 0, none⟩))).run Try.prog w = .ok (oval24 q) w := op24_loads (two_range h.c0 h.c1)
end
def zop24 : Obj := .cells #[.int .i64 0, .slice none 0 0] 35 (0, 0)
theorem run_alloc_op24 (w : World) : (Instr.alloc 35 true (.tuple #[])).run Try.prog w = .ok (.pointer (some ⟨w.heap.size, 0, none⟩)) (w.alloc zop24) := by kernel_rfl
/-- A new variable of an op, written. -/
theorem op24_new (w : World) (q : Op24) : ∃ x w1 w2, (Instr.alloc 35 true (.tuple #[])).run Try.prog w = .ok (.pointer (some ⟨x, 0, none⟩)) w1 ∧ (Instr.storeAt 35 (.pointer (some ⟨x, 0, none⟩)) (oval24 q)).run Try.prog w1 = .ok () w2 ∧ Ox w2 x q ∧ Ext w w2 ∧ w.heap.size ≤ x := by
  have hb := heap_alloc_new w zop24
  have hth : (w.alloc zop24).there w.heap.size 0 2 := fun j hj => ⟨by
    rw [cell_of_row _ _ _ _ _ _ hb]
    have hl : 0 + j < (#[.int .i64 0, .slice none 0 0] : Array Value).size := by show 0 + j < 2; omega
    rw [Array.getElem?_eq_getElem hl]; rfl, frozen_of_row _ _ _ _ _ hb⟩
  have hall : (ocells24 q).toArray.all (·.oneCell') = true := all_oneCell_toArray (fun v hv => by
    simp only [ocells24, List.mem_cons, List.not_mem_nil, or_false] at hv
    rcases hv with rfl | rfl <;> rfl)
  have hr := run_storeVar_mid (P := Try.prog) (w.alloc zop24) w.heap.size 0 35 (ocells24 q).toArray hth op24_info hall
  have h1 := heap_setCell_same (w.alloc zop24) w.heap.size 0 _ _ (.int .i64 q.kind) hb
  simp only [List.setIfInBounds_toArray, List.set_cons_zero, List.set_cons_succ] at h1
  have h2 := heap_setCell_same _ w.heap.size 1 _ _ (.slice q.A q.m q.c) h1
  simp only [List.setIfInBounds_toArray, List.set_cons_zero, List.set_cons_succ] at h2
  refine ⟨w.heap.size, _, (w.alloc zop24).setCells w.heap.size 0 (ocells24 q), run_alloc_op24 w, by simp only [Instr.storeAt, Instr.sureAddr, Sem.run_bind, Sem.run_pure, Result.andThen_ok, hr], ⟨h2⟩, ?_, Nat.le_refl _⟩
  exact (ch_setCells (Z := fun q => q = w.heap.size) (.inl rfl) _ _ _ (Ch.refl _ (w.alloc zop24))).ext (Ext.alloc w _) (fun q hq => by rw [show q = w.heap.size from hq]; exact Nat.le_refl _)
end Go.Proofs.Ytaaegbccejjjcaa
namespace Go.Proofs.Ytaaegbccejjjcaa
open Go.RowKit Go.Maps Go.Sort Go.Shelf

theorem bls_none24 (W : World) : Bls W none 0 0 [] := ⟨rfl, Nat.le_refl _, by omega, fun k hk => by omega⟩
set_option maxRecDepth 100000 in
set_option maxHeartbeats 2000000 in
theorem awake24 (w : World) : Calls Try.prog 17 #[] w fun e w' => e = .returned (.bool true) ∧ Ext w w' := by
  have hnew : Calls Try.prog 9 #[.int .i64 16] w fun e w' => ∃ g m b, e = .returned (.tuple #[dptr g, .int .i64 0]) ∧ Dl w w' g m b 0 (Disks.new 16) := new_dl w 16 (by omega) (by omega)
  go_enter Try.func17, Try.ntmps17
  try dsimp only [List.append]
  go_wp2_with (fail)
  with_reducible refine hnew.mono ?_
  rintro e w1 ⟨g, m, b, rfl, d1⟩
  have ho := open_new w w1 g m b 16 d1 (by omega) (by omega)
  clear hnew d1
  go_wp2_with (fail)
  with_reducible refine ho.mono ?_
  rintro e w2 ⟨p, o2, d2, rfl, l2, a2⟩
  have L2 := Lib.hid l2
  have A2 := Lib.hid a2
  clear ho l2 a2
  have hm := room_lv L2.out (x := 7) rfl
  go_wp2_with (fail)
  with_reducible refine hm.mono ?_
  rintro e w3 ⟨rfl, x3⟩
  have L3 := Lib.hid (L2.out.then x3)
  clear hm x3
  have r4 : (Instr.makeSlice 32 (.int .i64 100) (.int .i64 100)).run Try.prog w3 = .ok (.slice (some ⟨w3.heap.size, 0, none⟩) 100 100) (w3.alloc (.cells (made5 100 (.int .u8 0)) 5)) := run_make5 w3 100 (by omega)
  have b4 := bs_made w3 100 (by omega)
  have x4 := Ext.alloc w3 (.cells (made5 100 (.int .u8 0)) 5)
  have s4 : w3.heap.size < (w3.alloc (.cells (made5 100 (.int .u8 0)) 5)).heap.size := by rw [World.size_alloc]; omega
  obtain ⟨w4, hw4⟩ : ∃ w4, w3.alloc (.cells (made5 100 (.int .u8 0)) 5) = w4 := ⟨_, rfl⟩
  rw [hw4] at r4 b4 x4 s4
  have L4 := Lib.hid (L3.out.then x4)
  have hap := app_ok L4.out A2.out b4 (L3.out.fresh (Nat.le_refl _) s4) (by omega) (Jo.fits_app.2 (by rw [List.length_replicate]; decide)) (N' := 10) (by decide) (by decide)
  clear hw4 b4 x4 s4
  go_wp2_with (fail)
  with_reducible refine hap.mono ?_
  rintro e w5 ⟨o5, d5, rfl, l5, a5, _⟩
  have L5 := Lib.hid l5
  have A5 := Lib.hid a5
  clear hap l5 a5 r4
  have hm := room_lv L5.out (x := 4) (by rw [Jo.doJ_app]; show ((0 + 16 / 2 - (1 + 1 + Jo.need (List.replicate 100 (0 : UInt8)).length) : Nat) : Int) = 4; rw [List.length_replicate]; rfl)
  go_wp2_with (fail)
  with_reducible refine hm.mono ?_
  rintro e w6 ⟨rfl, x6⟩
  have L6 := Lib.hid (L5.out.then x6)
  clear hm x6
  have r7 : (Instr.makeSlice 32 (.int .i64 200) (.int .i64 200)).run Try.prog w6 = .ok (.slice (some ⟨w6.heap.size, 0, none⟩) 200 200) (w6.alloc (.cells (made5 200 (.int .u8 0)) 5)) := run_make5 w6 200 (by omega)
  have b7 := bs_made w6 200 (by omega)
  have x7 := Ext.alloc w6 (.cells (made5 200 (.int .u8 0)) 5)
  have s7 : w6.heap.size < (w6.alloc (.cells (made5 200 (.int .u8 0)) 5)).heap.size := by rw [World.size_alloc]; omega
  obtain ⟨w7, hw7⟩ : ∃ w7, w6.alloc (.cells (made5 200 (.int .u8 0)) 5) = w7 := ⟨_, rfl⟩
  rw [hw7] at r7 b7 x7 s7
  have L7 := Lib.hid (L6.out.then x7)
  have hap := app_full L7.out b7 (L6.out.fresh (Nat.le_refl _) s7) (by omega) (by
    rw [Jo.fits_app, List.length_replicate, Jo.doJ_app]
    show ¬ (1 + 1 + Jo.need (List.replicate 100 (0 : UInt8)).length) + 1 + Jo.need 200 ≤ 0 + 16 / 2
    rw [List.length_replicate]
    decide)
  clear hw7 b7 x7 s7
  go_wp2_with (fail)
  with_reducible refine hap.mono ?_
  rintro e w8 ⟨rfl, x8⟩
  have L8 := Lib.hid (L7.out.then x8)
  clear hap x8 r7
  have r9 : (Instr.makeSlice 32 (.int .i64 64) (.int .i64 64)).run Try.prog w8 = .ok (.slice (some ⟨w8.heap.size, 0, none⟩) 64 64) (w8.alloc (.cells (made5 64 (.int .u8 0)) 5)) := run_make5 w8 64 (by omega)
  have b9 := bs_made w8 64 (by omega)
  have x9 := Ext.alloc w8 (.cells (made5 64 (.int .u8 0)) 5)
  have s9 : w8.heap.size < (w8.alloc (.cells (made5 64 (.int .u8 0)) 5)).heap.size := by rw [World.size_alloc]; omega
  obtain ⟨w9, hw9⟩ : ∃ w9, w8.alloc (.cells (made5 64 (.int .u8 0)) 5) = w9 := ⟨_, rfl⟩
  rw [hw9] at r9 b9 x9 s9
  have L9 := Lib.hid (L8.out.then x9)
  have hcp := cp_ok L9.out A5.out b9 (L8.out.fresh (Nat.le_refl _) s9) (by omega) (by
    rw [Jo.fits_cp, List.length_replicate, Jo.doJ_app]
    show 1 + Jo.need 64 ≤ 16 / 2
    decide) (N' := 20) (by decide) (by decide) (by rw [Jo.doJ_app]; show 1 < 2 ^ 40; omega)
  clear hw9 b9 x9 s9
  go_wp2_with (fail)
  with_reducible refine hcp.mono ?_
  rintro e w10 ⟨o10, d10, rfl, l10, a10, _⟩
  have L10 := Lib.hid l10
  clear hcp l10 a10 r9
  obtain ⟨j, hj⟩ : ∃ j, Jo.doJ (Jo.doJ (Jo.J.first (16 / 2)) 0 (List.replicate 100 0)) 2 (List.replicate 64 0) = j := ⟨_, rfl⟩
  rw [hj] at L10
  have J1 : j.base.length = 64 ∧ j.recs.length = 0 ∧ ((j.from_ + j.half - j.next : Nat) : Int) = 5 := by
    rw [← hj, Jo.doJ_cp, Jo.doJ_app]
    refine ⟨List.length_replicate, rfl, ?_⟩
    show ((16 / 2 - 0 + 16 / 2 - (16 / 2 - 0 + 1 + Jo.need (List.replicate 64 (0 : UInt8)).length) : Nat) : Int) = 5
    rw [List.length_replicate]
    rfl
  have JJ := Lib.hid J1
  clear J1 hj
  have hm := room_lv L10.out (x := 5) JJ.out.2.2
  go_wp2_with (fail)
  with_reducible refine hm.mono ?_
  rintro e w11 ⟨rfl, x11⟩
  have L11 := Lib.hid (L10.out.then x11)
  clear hm x11
  have hcr := L11.out.jn.ds.crash' none 0 0 [] (bls_none24 w11) (fun h => absurd h (Nat.lt_irrefl 0)) rfl
  go_wp2_with (fail)
  with_reducible refine hcr.mono ?_
  rintro e w12 ⟨rfl, d12, k12⟩
  have D12 := Lib.hid (L11.out.dl.turn d12 k12)
  clear hcr d12 k12
  have ho := open_lv w w12 g m b _ _ j D12.out (L11.out.at_.crash [])
  go_wp2_with (fail)
  with_reducible refine ho.mono ?_
  rintro e w13 ⟨p2, o13, rfl, l13, _⟩
  have L13 := Lib.hid l13
  clear ho l13
  have hb := base_lv L13.out
  rw [JJ.out.1] at hb
  go_wp2_with (fail)
  with_reducible refine hb.mono ?_
  rintro e w14 ⟨A14, c14, rfl, _, _, x14⟩
  have L14 := Lib.hid (L13.out.then x14)
  clear hb x14
  have hrc := recs_lv L14.out
  rw [JJ.out.2.1] at hrc
  go_wp2_with (fail)
  with_reducible refine hrc.mono ?_
  rintro e w15 ⟨A15, c15, rfl, _, _, x15⟩
  have L15 := Lib.hid (L14.out.then x15)
  clear hrc x15
  have hm := room_lv L15.out (x := 5) JJ.out.2.2
  go_wp2_with (fail)
  with_reducible refine hm.mono ?_
  rintro e w16 ⟨rfl, x16⟩
  have X16 := Lib.hid (L15.out.ext.trans x16)
  clear hm x16
  go_wp2_with (fail)
  go_ret
  exact ⟨rfl, X16.out⟩
end Go.Proofs.Ytaaegbccejjjcaa
