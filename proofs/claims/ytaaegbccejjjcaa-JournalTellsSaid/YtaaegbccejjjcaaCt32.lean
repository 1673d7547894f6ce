/- Several texts in one: A journal and a state beside each other: what is written into the state's box leaves the journal alone. The contract of the laws' awake. -/
import Derived.Test.YtaaegbccejjjcaaCt30
import Derived.Test.YtaaegbccejjjcaaCt31
import Derived.Test.YtaaegbccejjjcaaCt28
namespace Go.Proofs.Ytaaegbccejjjcaa
open Go.RowKit Go.Maps Go.Sort Go.Shelf
set_option linter.unusedSimpArgs false

theorem wp_allocR {P : Program} {Q : Exit → Act → World → Prop} {a : Act} {w w' : World} {op : Oper} {K : Act → World → Prop} (t : TypeId) (ho : op.op = .alloc t) (v : Value)
    (hr : (Instr.alloc t true (.tuple #[])).run P w = .ok v w') {a' : Act} (ha : a.put op.dst v = a') (h : K a' w') : op.wp P a w K Q := by
  unfold Oper.wp execOp
  simp only [ho, Sem.run_bind, hr, Result.andThen_ok, Sem.run_pure]
  subst ha
  exact h
theorem Ch.turn {Z Y : Nat → Prop} {w wx W : World} (hx : Ch Z w wx) (h : Ch Y wx W) (hy : ∀ q, q < w.heap.size → Y q → Z q) : Ch Z w W :=
  ⟨h.os.trans hx.os, h.tape.trans hx.tape, h.output.trans hx.output, Nat.le_trans hx.size h.size, fun q hq hz => (h.block q (Nat.lt_of_lt_of_le hq hx.size) (fun y => hz (hy q hq y))).trans (hx.block q hq hz)⟩
theorem Sz.turn {Z Y : Nat → Prop} {w wx : World} {v : Value} {s : Jo.St} (h : Sz Z w v s) (hx : Ch Z w wx) (hy : ∀ q, q < w.heap.size → Y q → Z q) : Sz Y wx v s := by
  obtain ⟨A, c, B, e, h1, h2, h3⟩ := h
  obtain ⟨a1, a2, a3, cs, a4, a5, a6⟩ := h3
  refine ⟨A, c, B, e, h1, fun _ k => h2 _ (hx.turn k hy), a1, a2, a3, cs, a4, fun W' k' => a5 W' (hx.turn k' hy), fun i hi => ?_⟩
  obtain ⟨D, m, d, e1, e2⟩ := a6 i hi
  exact ⟨D, m, d, e1, fun _ k => e2 _ (hx.turn k hy)⟩
/-- Bytes lie in no state's box. -/
theorem Bs.off {w : World} {A : Option Addr} {n c : Nat} {l : List UInt8} (h : Bs w A n c l) {x : Nat} {hh : Int} {D : Option Addr} {dn dd : Nat} {E : Option Addr} {en ee : Nat} (s : Sx w x hh (.slice D dn dd) (.slice E en ee)) : Cold (fun q => q = x) w A n := fun hn q hq => by
  refine ⟨h.block hn hq, fun hx => ?_⟩
  have hx : q = x := hx
  obtain ⟨b, off, e, hc⟩ := h.rd.2 hn
  rw [e] at hq
  injection hq with hq
  have hq : b = q := hq
  have h0 := hc 0 _ (by rw [dk_bcells_get (by rw [h.len]; exact hn)])
  rw [hq, hx, cell_of_row w _ _ _ _ _ s.blk] at h0
  match off, h0 with
  | 0, h0 => injection h0 with h0; injection h0 with h1 h2; cases h1
  | 1, h0 => injection h0 with h0; cases h0
  | 2, h0 => injection h0 with h0; cases h0
  | k + 3, h0 => simp [sc] at h0
theorem Lv.box {W w w' : World} {p g m b N : Nat} {o : Option Nat} {j : Jo.J} {d : Disks.D} (h : Lv W w p g m b N o j d) {x : Nat} {hh : Int} {D : Option Addr} {dn dd : Nat} {E : Option Addr} {en ee : Nat} (s : Sx w x hh (.slice D dn dd) (.slice E en ee)) (hx : ¬ Hot p g m b o x) (hw : W.heap.size ≤ x) (k : Ch (fun q => q = x) w w') : Lv W w' p g m b N o j d := by
  obtain ⟨A, c, v, jv, hb, hc, ho, cs, ow, rows⟩ := h.jn.jv
  obtain ⟨l1, l2, l3⟩ := h.jn.ds.lts
  have hne : ∀ q, Hot p g m b o q → q ≠ x := fun q z e => hx (e ▸ z)
  refine ⟨⟨h.jn.ds.blocks k.size (k.block g l1 (hne g (.inr (.inl rfl)))) (k.block m l2 (hne m (.inr (.inr (.inl rfl))))) (k.block b l3 (hne b (.inr (.inr (.inr (.inl rfl)))))), ⟨A, c, v, (jv.ch k (hne p (.inl rfl))).blk, hb.ch k (hb.off s), hc.ch k.size, ho, cs, own_ch ow k (fun q hq => hne q (.inr (.inr (.inr (.inr (ho ▸ hq)))))), fun i hi => ?_⟩, h.jn.sep⟩, h.at_, k.ext h.ext (fun q hq => by rw [show q = x from hq]; exact hw), h.lo⟩
  obtain ⟨A1, n1, c1, e1, e2, e3⟩ := rows i hi
  exact ⟨A1, n1, c1, e1, e2.ch k (e2.off s), e3.ch k.size⟩
end Go.Proofs.Ytaaegbccejjjcaa
namespace Go.Proofs.Ytaaegbccejjjcaa
open Go.RowKit Go.Maps Go.Sort Go.Shelf

theorem bls_none24 (W : World) : Bls W none 0 0 [] := ⟨rfl, Nat.le_refl _, by omega, fun k hk => by omega⟩
set_option maxRecDepth 100000 in
set_option maxHeartbeats 2000000 in
theorem awake24 (w : World) : Calls Try.prog 17 #[] w fun e w' => e = .returned (.bool true) ∧ Ext w w' := by
  have hnew : Calls Try.prog 9 #[.int .i64 16] w fun e w' => ∃ g m b, e = .returned (.tuple #[dptr g, .int .i64 0]) ∧ Dl w w' g m b 0 (Disks.new 16) := new_dl w 16 (by omega) (by omega)
  go_enter Try.func17, Try.ntmps17
  try dsimp only [List.append]
  go_wp2_with (fail)
  with_reducible refine hnew.mono ?_
  rintro e w1 ⟨g, m, b, rfl, d1⟩
  have ho := open_new w w1 g m b 16 d1 (by omega) (by omega)
  clear hnew d1
  go_wp2_with (fail)
  with_reducible refine ho.mono ?_
  rintro e w2 ⟨p, o2, d2, rfl, l2, a2⟩
  have L2 := Lib.hid l2
  have A2 := Lib.hid a2
  clear ho l2 a2
  have hm := room_lv L2.out (x := 7) rfl
  go_wp2_with (fail)
  with_reducible refine hm.mono ?_
  rintro e w3 ⟨rfl, x3⟩
  have L3 := Lib.hid (L2.out.then x3)
  clear hm x3
  have r4 : (Instr.makeSlice 32 (.int .i64 100) (.int .i64 100)).run Try.prog w3 = .ok (.slice (some ⟨w3.heap.size, 0, none⟩) 100 100) (w3.alloc (.cells (made5 100 (.int .u8 0)) 5)) := run_make5 w3 100 (by omega)
  have b4 := bs_made w3 100 (by omega)
  have x4 := Ext.alloc w3 (.cells (made5 100 (.int .u8 0)) 5)
  have s4 : w3.heap.size < (w3.alloc (.cells (made5 100 (.int .u8 0)) 5)).heap.size := by rw [World.size_alloc]; omega
  obtain ⟨w4, hw4⟩ : ∃ w4, w3.alloc (.cells (made5 100 (.int .u8 0)) 5) = w4 := ⟨_, rfl⟩
  rw [hw4] at r4 b4 x4 s4
  have L4 := Lib.hid (L3.out.then x4)
  have hap := app_ok L4.out A2.out b4 (L3.out.fresh (Nat.le_refl _) s4) (by omega) (Jo.fits_app.2 (by rw [List.length_replicate]; decide)) (N' := 10) (by decide) (by decide)
  clear hw4 b4 x4 s4
  go_wp2_with (fail)
  with_reducible refine hap.mono ?_
  rintro e w5 ⟨o5, d5, rfl, l5, a5, _⟩
  have L5 := Lib.hid l5
  have A5 := Lib.hid a5
  clear hap l5 a5 r4
  have hm := room_lv L5.out (x := 4) (by rw [Jo.doJ_app]; show ((0 + 16 / 2 - (1 + 1 + Jo.need (List.replicate 100 (0 : UInt8)).length) : Nat) : Int) = 4; rw [List.length_replicate]; rfl)
  go_wp2_with (fail)
  with_reducible refine hm.mono ?_
  rintro e w6 ⟨rfl, x6⟩
  have L6 := Lib.hid (L5.out.then x6)
  clear hm x6
  have r7 : (Instr.makeSlice 32 (.int .i64 200) (.int .i64 200)).run Try.prog w6 = .ok (.slice (some ⟨w6.heap.size, 0, none⟩) 200 200) (w6.alloc (.cells (made5 200 (.int .u8 0)) 5)) := run_make5 w6 200 (by omega)
  have b7 := bs_made w6 200 (by omega)
  have x7 := Ext.alloc w6 (.cells (made5 200 (.int .u8 0)) 5)
  have s7 : w6.heap.size < (w6.alloc (.cells (made5 200 (.int .u8 0)) 5)).heap.size := by rw [World.size_alloc]; omega
  obtain ⟨w7, hw7⟩ : ∃ w7, w6.alloc (.cells (made5 200 (.int .u8 0)) 5) = w7 := ⟨_, rfl⟩
  rw [hw7] at r7 b7 x7 s7
  have L7 := Lib.hid (L6.out.then x7)
  have hap := app_full L7.out b7 (L6.out.fresh (Nat.le_refl _) s7) (by omega) (by
    rw [Jo.fits_app, List.length_replicate, Jo.doJ_app]
    show ¬ (1 + 1 + Jo.need (List.replicate 100 (0 : UInt8)).length) + 1 + Jo.need 200 ≤ 0 + 16 / 2
    rw [List.length_replicate]
    decide)
  clear hw7 b7 x7 s7
  go_wp2_with (fail)
  with_reducible refine hap.mono ?_
  rintro e w8 ⟨rfl, x8⟩
  have L8 := Lib.hid (L7.out.then x8)
  clear hap x8 r7
  have r9 : (Instr.makeSlice 32 (.int .i64 64) (.int .i64 64)).run Try.prog w8 = .ok (.slice (some ⟨w8.heap.size, 0, none⟩) 64 64) (w8.alloc (.cells (made5 64 (.int .u8 0)) 5)) := run_make5 w8 64 (by omega)
  have b9 := bs_made w8 64 (by omega)
  have x9 := Ext.alloc w8 (.cells (made5 64 (.int .u8 0)) 5)
  have s9 : w8.heap.size < (w8.alloc (.cells (made5 64 (.int .u8 0)) 5)).heap.size := by rw [World.size_alloc]; omega
  obtain ⟨w9, hw9⟩ : ∃ w9, w8.alloc (.cells (made5 64 (.int .u8 0)) 5) = w9 := ⟨_, rfl⟩
  rw [hw9] at r9 b9 x9 s9
  have L9 := Lib.hid (L8.out.then x9)
  have hcp := cp_ok L9.out A5.out b9 (L8.out.fresh (Nat.le_refl _) s9) (by omega) (by
    rw [Jo.fits_cp, List.length_replicate, Jo.doJ_app]
    show 1 + Jo.need 64 ≤ 16 / 2
    decide) (N' := 20) (by decide) (by decide) (by rw [Jo.doJ_app]; show 1 < 2 ^ 40; omega)
  clear hw9 b9 x9 s9
  go_wp2_with (fail)
  with_reducible refine hcp.mono ?_
  rintro e w10 ⟨o10, d10, rfl, l10, a10, _⟩
  have L10 := Lib.hid l10
  clear hcp l10 a10 r9
  obtain ⟨j, hj⟩ : ∃ j, Jo.doJ (Jo.doJ (Jo.J.first (16 / 2)) 0 (List.replicate 100 0)) 2 (List.replicate 64 0) = j := ⟨_, rfl⟩
  rw [hj] at L10
  have J1 : j.base.length = 64 ∧ j.recs.length = 0 ∧ ((j.from_ + j.half - j.next : Nat) : Int) = 5 := by
    rw [← hj, Jo.doJ_cp, Jo.doJ_app]
    refine ⟨List.length_replicate, rfl, ?_⟩
    show ((16 / 2 - 0 + 16 / 2 - (16 / 2 - 0 + 1 + Jo.need (List.replicate 64 (0 : UInt8)).length) : Nat) : Int) = 5
    rw [List.length_replicate]
    rfl
  have JJ := Lib.hid J1
  clear J1 hj
  have hm := room_lv L10.out (x := 5) JJ.out.2.2
  go_wp2_with (fail)
  with_reducible refine hm.mono ?_
  rintro e w11 ⟨rfl, x11⟩
  have L11 := Lib.hid (L10.out.then x11)
  clear hm x11
  have hcr := L11.out.jn.ds.crash' none 0 0 [] (bls_none24 w11) (fun h => absurd h (Nat.lt_irrefl 0)) rfl
  go_wp2_with (fail)
  with_reducible refine hcr.mono ?_
  rintro e w12 ⟨rfl, d12, k12⟩
  have D12 := Lib.hid (L11.out.dl.turn d12 k12)
  clear hcr d12 k12
  have ho := open_lv w w12 g m b _ _ j D12.out (L11.out.at_.crash [])
  go_wp2_with (fail)
  with_reducible refine ho.mono ?_
  rintro e w13 ⟨p2, o13, rfl, l13, _⟩
  have L13 := Lib.hid l13
  clear ho l13
  have hb := base_lv L13.out
  rw [JJ.out.1] at hb
  go_wp2_with (fail)
  with_reducible refine hb.mono ?_
  rintro e w14 ⟨A14, c14, rfl, _, _, x14⟩
  have L14 := Lib.hid (L13.out.then x14)
  clear hb x14
  have hrc := recs_lv L14.out
  rw [JJ.out.2.1] at hrc
  go_wp2_with (fail)
  with_reducible refine hrc.mono ?_
  rintro e w15 ⟨A15, c15, rfl, _, _, x15⟩
  have L15 := Lib.hid (L14.out.then x15)
  clear hrc x15
  have hm := room_lv L15.out (x := 5) JJ.out.2.2
  go_wp2_with (fail)
  with_reducible refine hm.mono ?_
  rintro e w16 ⟨rfl, x16⟩
  have X16 := Lib.hid (L15.out.ext.trans x16)
  clear hm x16
  go_wp2_with (fail)
  go_ret
  exact ⟨rfl, X16.out⟩
end Go.Proofs.Ytaaegbccejjjcaa
