/- Several texts in one: A code that New made, as it lies in memory; the contracts of made, Need, All, New. The contracts of code's row, rows and Matrix. -/
import Derived.Test.YtfpglkacjecoeaaCt10
import Derived.Test.YtfpglkacjecoeaaCt22
import Derived.Test.YtfpglkacjecoeaaCt23
import Derived.Deep.DrawnRows
namespace Go.Proofs.Ytfpglkacjecoeaa
open Go.RowKit

theorem gives_mx {m : Gm.L} {er : Int} {w w' : World} {e : Ending} (h : GivesQE m er w e w') : ∃ A c, e = .returned (.tuple #[.slice A m.length c, .int .i64 er]) ∧ Mx w' A m.length c m ∧ Ext w w' := by
  obtain ⟨v, cs, rfl, hq, hx⟩ := h
  obtain ⟨A, c, rfl, hm⟩ := hq.mx
  exact ⟨A, c, rfl, hm, hx⟩
theorem Rows.append {w : World} {cs cs' : List Value} {m m' : Gm.L} (h : Rows w cs m) (h' : Rows w cs' m') : Rows w (cs ++ cs') (m ++ m') := by
  refine ⟨by rw [List.length_append, List.length_append, h.len, h'.len], fun i hi => ?_⟩
  rw [Gm.row_append]
  by_cases e : i < m.length
  · obtain ⟨A, n, c, e1, e2⟩ := h.at_ i e
    refine ⟨A, n, c, ?_, ?_⟩
    · rw [List.getElem?_append_left (by rw [h.len]; exact e)]; exact e1
    · rw [if_pos e]; exact e2
  · rw [List.length_append] at hi
    obtain ⟨A, n, c, e1, e2⟩ := h'.at_ (i - m.length) (by omega)
    refine ⟨A, n, c, ?_, ?_⟩
    · rw [List.getElem?_append_right (by rw [h.len]; omega), h.len]; exact e1
    · rw [if_neg e]; exact e2
theorem Mq.rows_grown {w w' : World} {base n : Nat} {P : Nat → Prop} {v : Value} {cs : List Value} {m : Gm.L} {row : Option Nat} (h : Mq w base P v n cs m) (hg : w.grownBy w' row) (hr : ∀ (i : Nat) (u : Value) (b : Nat), cs[i]? = some u → u.ownBlock = some b → row ≠ some b) : Rows w' cs m :=
  ⟨by rw [h.clen, h.len], fun i hi => by
    obtain ⟨A, c, e, ho⟩ := h.row i (by rw [← h.len]; exact hi)
    refine ⟨A, _, c, e, (Own.mk (base := base) (e := 5) (ownsRow_grown ho hg ?_)).bs⟩
    cases hq : (Value.slice A (Gm.row m i).length c).ownBlock with
    | none => exact .inl rfl
    | some b => exact .inr (fun e2 => hr i _ b e hq e2.symm)⟩
/-- The box of a code: its field, its need, its matrix. -/
structure Cd (w : World) (b fb k n : Nat) : Prop where
  f : FieldAt w fb
  c0 : w.cell? ⟨b, 0, none⟩ = some (.pointer (some ⟨fb, 0, none⟩))
  c1 : w.cell? ⟨b, 1, none⟩ = some (.int .i64 (k : Int))
  mx : ∃ A c, w.cell? ⟨b, 2, none⟩ = some (.slice A n c) ∧ Mx w A n c (Gm.gen k n)
  k1 : 1 ≤ k
  kn : k ≤ n
  n2 : n ≤ 255
theorem Cd.ext {w w' : World} {b fb k n : Nat} (h : Cd w b fb k n) (hx : Ext w w') : Cd w' b fb k n := by
  obtain ⟨A, c, h1, h2⟩ := h.mx
  exact ⟨h.f.ext hx, hx.cell h.c0, hx.cell h.c1, ⟨A, c, hx.cell h1, h2.ext hx⟩, h.k1, h.kn, h.n2⟩
abbrev cptr (b : Nat) : Value := .pointer (some ⟨b, 0, none⟩)
theorem made_any (w : World) (b fb k n : Nat) (h : Cd w b fb k n) : Calls Try.prog 45 #[cptr b] w fun e w' => e = .returned (.bool true) ∧ w = w' := by
  have c0 := h.c0
  clear h
  go_enter Try.func45, Try.ntmps45
  go_wp2
  go_ret
  exact ⟨rfl, rfl⟩
theorem need_any (w : World) (b fb k n : Nat) (h : Cd w b fb k n) : Calls Try.prog 28 #[cptr b] w fun e w' => e = .returned (.int .i64 (k : Int)) ∧ w = w' := by
  have c1 := h.c1
  have H := Lib.hid (made_any w b fb k n h)
  clear h
  go_enter Try.func28, Try.ntmps28
  go_wp2_with (fail)
  refine H.out.mono ?_
  rintro e w' ⟨rfl, rfl⟩
  go_wp2_with (fail)
  go_ret
  exact ⟨rfl, rfl⟩
theorem all_any (w : World) (b fb k n : Nat) (h : Cd w b fb k n) : Calls Try.prog 27 #[cptr b] w fun e w' => e = .returned (.int .i64 (n : Int)) ∧ w = w' := by
  obtain ⟨A, c, c2, hm⟩ := h.mx
  have hm1 := hm.max
  have hm2 := hm.le
  have H := Lib.hid (made_any w b fb k n h)
  clear h hm
  go_enter Try.func27, Try.ntmps27
  go_wp2_with (fail)
  refine H.out.mono ?_
  rintro e w' ⟨rfl, rfl⟩
  go_wp2_with (fail)
  go_ret
  exact ⟨rfl, rfl⟩
set_option maxRecDepth 100000 in
set_option maxHeartbeats 1000000 in
theorem codeNew_arg (fb : Nat) (w : World) (k n : Int) (hf : FieldAt w fb) (h : k < 1 ∨ n < k ∨ 255 < n) :
    Calls Try.prog 12 #[.pointer (some ⟨fb, 0, none⟩), .int .i64 k, .int .i64 n] w fun e w' => e = .returned (.tuple #[.pointer none, .int .i64 2]) ∧ w = w' := by
  have hA : Calls Try.prog 39 #[.pointer (some ⟨fb, 0, none⟩), .int .u8 0, .int .u8 1] w fun e w' => e = .returned (.int .u8 1) ∧ w = w' := add_any fb w 0 1 hf
  have HA := Lib.hid hA
  clear hA hf
  by_cases h1 : k < 1
  · go_enter Try.func12, Try.ntmps12
    go_wp2_with (fail)
    refine HA.out.mono ?_
    rintro e w' ⟨rfl, rfl⟩
    go_wp2_with (fail)
    go_ret2
    exact ⟨rfl, rfl⟩
  · by_cases h2 : n < k
    · go_enter Try.func12, Try.ntmps12
      go_wp2_with (fail)
      refine HA.out.mono ?_
      rintro e w' ⟨rfl, rfl⟩
      go_wp2_with (fail)
      go_ret2
      exact ⟨rfl, rfl⟩
    · have h3 : 255 < n := by omega
      clear h
      go_enter Try.func12, Try.ntmps12
      go_wp2_with (fail)
      refine HA.out.mono ?_
      rintro e w' ⟨rfl, rfl⟩
      go_wp2_with (fail)
      go_ret2
      exact ⟨rfl, rfl⟩
theorem gen_all (n : Nat) : Gm.gen n n = Gm.unit n := by
  unfold Gm.gen
  rw [Nat.sub_self]
  show Gm.unit n ++ [] = _
  rw [List.append_nil]
theorem Cd.new {W : World} {fb k n : Nat} {A : Option Addr} {c : Nat} (hf : FieldAt W fb) (hm : Mx W A n c (Gm.gen k n)) (h1 : 1 ≤ k) (h2 : k ≤ n) (h3 : n ≤ 255) (t : TypeId) :
    Cd (W.alloc (.cells #[.pointer (some ⟨fb, 0, none⟩), .int .i64 (k : Int), .slice A n c] t)) W.heap.size fb k n := by
  have hc := fun j => World.cell?_alloc_new W #[.pointer (some ⟨fb, 0, none⟩), .int .i64 (k : Int), .slice A n c] t j
  exact ⟨hf.ext (Ext.alloc _ _), (hc 0).trans rfl, (hc 1).trans rfl, ⟨A, c, (hc 2).trans rfl, hm.ext (Ext.alloc _ _)⟩, h1, h2, h3⟩
/-- A new code is handed back. -/
def GivesC (fb k n : Nat) (w : World) (e : Ending) (w' : World) : Prop := ∃ b, e = .returned (.tuple #[cptr b, .int .i64 0]) ∧ Cd w' b fb k n ∧ Ext w w'
set_option maxRecDepth 100000 in
set_option maxHeartbeats 2000000 in
theorem codeNew_ok (fb : Nat) (w : World) (k n : Nat) (hf : FieldAt w fb) (h1 : 1 ≤ k) (h2 : k ≤ n) (h3 : n ≤ 255) :
    Calls Try.prog 12 #[.pointer (some ⟨fb, 0, none⟩), .int .i64 (k : Int), .int .i64 (n : Int)] w (GivesC fb k n w) := by
  obtain ⟨i0, hi0, hz0, hz1, hz2⟩ := info_parts bytes_info
  have hA : Calls Try.prog 39 #[.pointer (some ⟨fb, 0, none⟩), .int .u8 0, .int .u8 1] w fun e w' => e = .returned (.int .u8 1) ∧ w = w' := add_any fb w 0 1 hf
  have HA := Lib.hid hA
  have HF := Lib.hid hf
  have HU := Lib.hid (unit_ok w k h1 (by omega))
  have g1 : ¬ (k : Int) < 1 := by omega
  have g2 : ¬ (n : Int) < k := by omega
  have g3 : ¬ (255 : Int) < n := by omega
  clear hA hf
  by_cases e : k < n
  · have g4 : (k : Int) < n := by omega
    have HC := Lib.hid (fun W (hW : FieldAt W fb) => cauchy_ok fb W (n - k) k hW (by omega) h1 (by omega))
    have e1 : ((n - k : Nat) : Int) = (n : Int) - k := by omega
    rw [e1] at HC
    clear e1
    go_enter Try.func12, Try.ntmps12
    go_wp2_with (fail)
    refine HA.out.mono ?_
    rintro e w' ⟨rfl, rfl⟩
    go_wp2_with (fail)
    refine HU.out.mono ?_
    rintro e w1 ⟨v1, cs1, rfl, m1, x1⟩
    rw [(Gm.unit_rect k).len] at m1
    go_wp2_with (fail)
    refine (HC.out w1 (HF.out.ext x1)).mono ?_
    rintro e w2 ⟨v2, cs2, rfl, m2, x2⟩
    rw [(Gm.cauchy_rect _ k).len] at m2
    obtain ⟨A2, c2, rfl, q1, q2⟩ := ownsRow_slice m2.own
    have HO := Lib.hid (ownsRow_ext m1.own x2)
    have HR2 := Lib.hid (Rd.of_own m2.own)
    have HB := Lib.hid (own_row m1.own)
    have H1 := Lib.hid m2.rows.one
    have M1 := Lib.hid m1
    have M2 := Lib.hid m2
    have x12 := x1.trans x2
    have hsz := x12.size
    clear m1 m2
    go_wp2_with (at_builtin; refine wpList_append_rd _ rfl (.tmp 45) (.tmp 46) 80 rfl w.heap.size 35 i0 _ 1 24 Try.underlying80 hi0 hz0 hz1 hz2 rfl (by omega) v1 k cs1 rfl HO.out A2 (n - k) c2 cs2 rfl HR2.out H1.out (by omega) (by unfold maxLen; omega) (by omega) ?_; intro v5 w5 hown hgr hat; rw [show k + (n - k) = n by omega] at hown; obtain ⟨A5, c5, rfl, q5, q6⟩ := ownsRow_slice hown)
    go_ret2
    have x5 : Ext w w5 := x12.ofGrown hgr HB.out
    have r1 : Rows w5 cs1 (Gm.unit k) := (M1.out.ext x2).rows_grown hgr (fun i u q hu hq e => (M1.out.cool i u q hu hq) (.inl e))
    have r2 : Rows w5 cs2 (Gm.cauchy (n - k) k) := M2.out.rows_grown hgr (fun i u q hu hq e => by
      have h1 := (M1.out.own.lt q e).2
      have h2 := (M2.out.block hu hq).1
      omega)
    have hmx : Mx w5 A5 n c5 (Gm.gen k n) := ⟨Gm.gen_length h2, q5, q6, cs1 ++ cs2, Rd.of_own hown, r1.append r2⟩
    exact ⟨_, rfl, Cd.new (HF.out.ext x5) hmx h1 h2 h3 _, x5.thenAlloc _⟩
  · obtain rfl : n = k := by omega
    go_enter Try.func12, Try.ntmps12
    go_wp2_with (fail)
    refine HA.out.mono ?_
    rintro e w' ⟨rfl, rfl⟩
    go_wp2_with (fail)
    refine HU.out.mono ?_
    intro e w1 hg
    obtain ⟨A1, c1, rfl, m1, x1⟩ := gives_mx hg
    clear hg
    rw [(Gm.unit_rect n).len] at m1
    rw [(Gm.unit_rect n).len]
    go_wp2_with (fail)
    go_ret2
    exact ⟨_, rfl, Cd.new (HF.out.ext x1) (by rw [gen_all]; exact m1) h1 h2 h3 _, x1.thenAlloc _⟩
end Go.Proofs.Ytfpglkacjecoeaa
namespace Go.Proofs.Ytfpglkacjecoeaa
open Go.RowKit
attribute [local go_sem ↓] Go.wp_at_zero Go.wp_at_succ

theorem run_make_shard (W : World) (c : Nat) (hc : c ≤ 65536) : (Instr.makeSlice 35 (.int .i64 (c : Int)) (.int .i64 (c : Int))).run Try.prog W = .ok (.slice (some ⟨W.heap.size, 0, none⟩) c c) (W.alloc (.cells (made c (.int .u8 0)) 5)) := by
  obtain ⟨i, hi, hz, h1, h2⟩ := info_parts u8_info
  have h := run_make (P := Try.prog) W 35 5 i _ Try.underlying35 hi hz .i64 .i64 (c : Int) (c : Int) (by omega) (Int.le_refl _) (by rw [h2]; omega) (by omega)
  rw [h1] at h
  simpa [made, Value.cells] using h
theorem ownsRow_shard (w : World) (c : Nat) (hc : c ≤ 65536) {base : Nat} (hb : base ≤ w.heap.size) : (w.alloc (.cells (made c (.int .u8 0)) 5)).ownsRow base 5 1 (.slice (some ⟨w.heap.size, 0, none⟩) c c) c (bcells (List.replicate c 0)) := by
  rw [bcells_zeros]
  exact ⟨by simp, .inr ⟨w.heap.size, c, made c (.int .u8 0), rfl, hb, heap_alloc_new w _, Nat.le_refl _, by unfold maxLen; omega, by simp [made_size], by rw [made_toList]; simp⟩⟩
set_option maxRecDepth 100000 in
set_option maxHeartbeats 2000000 in
theorem row_any (w : World) (b fb k0 n0 : Nat) (hC : Cd w b fb k0 n0) (Ar : Option Addr) (k cr : Nat) (r : List UInt8) (hr : Bs w Ar k cr r) (As : Option Addr) (cs : Nat) (s : Gm.L) (hs : Mx w As k cs s) (hk : 1 ≤ k) (hw : ∀ i, i < k → (Gm.row s i).length = Gm.cols s) (hL : Gm.cols s ≤ 65536) :
    Calls Try.prog 58 #[cptr b, .slice Ar k cr, .slice As k cs] w fun e w' => ∃ v, e = .returned v ∧ NewBytes w w' v (Gm.rowL r s) := by
  have hmk := fun W => run_make_shard W (Gm.cols s) hL
  have how := ownsRow_shard w (Gm.cols s) hL (Nat.le_refl _)
  have q1 := hr.max
  have q2 := hr.le
  have q3 := hs.max
  have q4 := hs.le
  obtain ⟨bs, os, A0, L, c0, rfl, hc0, hb0⟩ := hs.at_ (show 0 < k by omega)
  rw [Nat.add_zero] at hc0
  have q5 := hb0.max
  have q6 := hb0.le
  have e0 : Gm.cols s = L := hb0.len
  rw [e0] at hmk how
  have HE := Lib.hid e0
  have HW := Lib.hid hw
  have HS := Lib.hid hs
  have HO := Lib.hid how
  have HR := Lib.hid hr
  have HC := Lib.hid hC
  have LS := Lib.hid hs.len
  have q7 : L ≤ 65536 := by omega
  have q8 : (0 : Int) < k := by omega
  clear hr hs hw hC hb0 e0 hL how
  go_enter Try.func58, Try.ntmps58
  go_wp2_with (fail)
  have x0 : Ext w (w.alloc (.cells (made L (.int .u8 0)) 5)) := Ext.alloc _ _
  have ho := HO.out
  have ha : Gm.accL r s 0 = List.replicate L 0 := by rw [Gm.accL_zero, HE.out]
  rw [← ha] at ho
  go_loopw [7, 8, 9, 17] (fun v _ _ t wr => ∃ i : Nat, i ≤ k ∧ t = .int .i64 i ∧ wr.ownsRow w.heap.size 5 1 v L (bcells (Gm.accL r s i)) ∧ Ext w wr) (fun _ _ _ t _ => k - (intOf t).toNat)
  case atStart => exact ⟨0, by omega, rfl, ho, x0⟩
  case round =>
    obtain ⟨i, hi, rfl, hown, hx⟩ := hrel
    clear ho x0 ha
    by_cases hlt : i < k
    · have r1 : (i : Int) < k := by omega
      obtain ⟨br, or, rfl, hcr⟩ := (HR.out.ext hx).rd.byte hlt
      obtain ⟨b1, o1, Ai, ni, ci, e1, hci, hbi⟩ := (HS.out.ext hx).at_ hlt
      injection e1 with e1
      injection e1 with e1 e2
      subst e1 e2
      obtain rfl : ni = L := by rw [← hbi.len, HW.out i hlt, HE.out]
      obtain ⟨Ao, co, rfl, q9, q10⟩ := ownsRow_slice hown
      have c0' := (HC.out.ext hx).c0
      have hL := lay_any fb wr.drew Ao Ai ni co ni ci (Gm.accL r s i) (Gm.row s i) (Gf.get r i) ((HC.out.ext hx).f.ext (Ext.drew _)) ((Own.mk (base := w.heap.size) (e := 5) hown).bs.ext (Ext.drew _)) (hbi.ext (Ext.drew _)) (by omega)
      rw [Gm.accL_succ] at hL
      have HL := Lib.hid hL
      have hS : ∀ W : World, Ext wr W → (W.cell? ⟨b, 0, none⟩ = some (.pointer (some ⟨fb, 0, none⟩)) ∧ W.cell? ⟨bs, os + i, none⟩ = some (.slice Ai ni ci)) := fun W hW => ⟨hW.cell c0', hW.cell hci⟩
      have HSS := Lib.hid hS
      generalize Gf.get r i = x at *
      clear hS hL hbi hown
      go_wp2_with (fail)
      go_region_held3 (fun W => W.cell? ⟨b, 0, none⟩ = some (.pointer (some ⟨fb, 0, none⟩)) ∧ W.cell? ⟨bs, os + i, none⟩ = some (.slice Ai ni ci))
        (first | exact HSS.out _ (Ext.drew _) | exact HSS.out _ x4)
        (first | (((with_reducible refine HL.out.mono ?_); (rintro e w4 ⟨v4, rfl, hv⟩; have x4 : Ext wr w4 := (Ext.drew wr).trans hv.ext))))
      all_goals
        have hv2 := hv.own
        rw [Gm.accL_length, HE.out] at hv2
        go_wp2_with (fail)
        exact ⟨⟨i + 1, by omega, by go_num, ownsRow_base hv2 (by have := hx.size; have := (Ext.drew wr).size; omega), hx.trans x4⟩, by simp [intOf]; omega⟩
    · have r1 : ¬ (i : Int) < k := by omega
      obtain rfl : k = i := by omega
      rw [Gm.accL_full LS.out.symm] at hown
      go_wp2_with (fail)
      go_ret
      refine ⟨_, rfl, ?_, hx⟩
      rw [Gm.rowL_length, HE.out]
      exact hown
end Go.Proofs.Ytfpglkacjecoeaa
