/- The contracts of code's row, rows and Matrix. -/
import Derived.Test.YtfpcldkfmcnjkaaCodeBox
import Derived.Deep.DrawnRows
namespace Go.Proofs.Ytfpcldkfmcnjkaa
open Go.RowKit
attribute [local go_sem ↓] Go.wp_at_zero Go.wp_at_succ

theorem run_make_shard (W : World) (c : Nat) (hc : c ≤ 65536) : (Instr.makeSlice 22 (.int .i64 (c : Int)) (.int .i64 (c : Int))).run Try.prog W = .ok (.slice (some ⟨W.heap.size, 0, none⟩) c c) (W.alloc (.cells (made c (.int .u8 0)) 5)) := by
  obtain ⟨i, hi, hz, h1, h2⟩ := info_parts u8_info
  have h := run_make (P := Try.prog) W 22 5 i _ Try.underlying22 hi hz .i64 .i64 (c : Int) (c : Int) (by omega) (Int.le_refl _) (by rw [h2]; omega) (by omega)
  rw [h1] at h
  simpa [made, Value.cells] using h
theorem ownsRow_shard (w : World) (c : Nat) (hc : c ≤ 65536) {base : Nat} (hb : base ≤ w.heap.size) : (w.alloc (.cells (made c (.int .u8 0)) 5)).ownsRow base 5 1 (.slice (some ⟨w.heap.size, 0, none⟩) c c) c (bcells (List.replicate c 0)) := by
  rw [bcells_zeros]
  exact ⟨by simp, .inr ⟨w.heap.size, c, made c (.int .u8 0), rfl, hb, heap_alloc_new w _, Nat.le_refl _, by unfold maxLen; omega, by simp [made_size], by rw [made_toList]; simp⟩⟩
set_option maxRecDepth 100000 in
set_option maxHeartbeats 2000000 in
theorem row_any (w : World) (b fb k0 n0 : Nat) (hC : Cd w b fb k0 n0) (Ar : Option Addr) (k cr : Nat) (r : List UInt8) (hr : Bs w Ar k cr r) (As : Option Addr) (cs : Nat) (s : Gm.L) (hs : Mx w As k cs s) (hk : 1 ≤ k) (hw : ∀ i, i < k → (Gm.row s i).length = Gm.cols s) (hL : Gm.cols s ≤ 65536) :
    Calls Try.prog 46 #[cptr b, .slice Ar k cr, .slice As k cs] w fun e w' => ∃ v, e = .returned v ∧ NewBytes w w' v (Gm.rowL r s) := by
  have hmk := fun W => run_make_shard W (Gm.cols s) hL
  have how := ownsRow_shard w (Gm.cols s) hL (Nat.le_refl _)
  have q1 := hr.max
  have q2 := hr.le
  have q3 := hs.max
  have q4 := hs.le
  obtain ⟨bs, os, A0, L, c0, rfl, hc0, hb0⟩ := hs.at_ (show 0 < k by omega)
  rw [Nat.add_zero] at hc0
  have q5 := hb0.max
  have q6 := hb0.le
  have e0 : Gm.cols s = L := hb0.len
  rw [e0] at hmk how
  have HE := Lib.hid e0
  have HW := Lib.hid hw
  have HS := Lib.hid hs
  have HO := Lib.hid how
  have HR := Lib.hid hr
  have HC := Lib.hid hC
  have LS := Lib.hid hs.len
  have q7 : L ≤ 65536 := by omega
  have q8 : (0 : Int) < k := by omega
  clear hr hs hw hC hb0 e0 hL how
  go_enter Try.func46, Try.ntmps46
  go_wp2_with (fail)
  have x0 : Ext w (w.alloc (.cells (made L (.int .u8 0)) 5)) := Ext.alloc _ _
  have ho := HO.out
  have ha : Gm.accL r s 0 = List.replicate L 0 := by rw [Gm.accL_zero, HE.out]
  rw [← ha] at ho
  go_loopw [7, 8, 9, 17] (fun v _ _ t wr => ∃ i : Nat, i ≤ k ∧ t = .int .i64 i ∧ wr.ownsRow w.heap.size 5 1 v L (bcells (Gm.accL r s i)) ∧ Ext w wr) (fun _ _ _ t _ => k - (intOf t).toNat)
  case atStart => exact ⟨0, by omega, rfl, ho, x0⟩
  case round =>
    obtain ⟨i, hi, rfl, hown, hx⟩ := hrel
    clear ho x0 ha
    by_cases hlt : i < k
    · have r1 : (i : Int) < k := by omega
      obtain ⟨br, or, rfl, hcr⟩ := (HR.out.ext hx).rd.byte hlt
      obtain ⟨b1, o1, Ai, ni, ci, e1, hci, hbi⟩ := (HS.out.ext hx).at_ hlt
      injection e1 with e1
      injection e1 with e1 e2
      subst e1 e2
      obtain rfl : ni = L := by rw [← hbi.len, HW.out i hlt, HE.out]
      obtain ⟨Ao, co, rfl, q9, q10⟩ := ownsRow_slice hown
      have c0' := (HC.out.ext hx).c0
      have hL := lay_any fb wr.drew Ao Ai ni co ni ci (Gm.accL r s i) (Gm.row s i) (Gf.get r i) ((HC.out.ext hx).f.ext (Ext.drew _)) ((Own.mk (base := w.heap.size) (e := 5) hown).bs.ext (Ext.drew _)) (hbi.ext (Ext.drew _)) (by omega)
      rw [Gm.accL_succ] at hL
      have HL := Lib.hid hL
      have hS : ∀ W : World, Ext wr W → (W.cell? ⟨b, 0, none⟩ = some (.pointer (some ⟨fb, 0, none⟩)) ∧ W.cell? ⟨bs, os + i, none⟩ = some (.slice Ai ni ci)) := fun W hW => ⟨hW.cell c0', hW.cell hci⟩
      have HSS := Lib.hid hS
      generalize Gf.get r i = x at *
      clear hS hL hbi hown
      go_wp2_with (fail)
      go_region_held3 (fun W => W.cell? ⟨b, 0, none⟩ = some (.pointer (some ⟨fb, 0, none⟩)) ∧ W.cell? ⟨bs, os + i, none⟩ = some (.slice Ai ni ci))
        (first | exact HSS.out _ (Ext.drew _) | exact HSS.out _ x4)
        (first | (((with_reducible refine HL.out.mono ?_); (rintro e w4 ⟨v4, rfl, hv⟩; have x4 : Ext wr w4 := (Ext.drew wr).trans hv.ext))))
      all_goals
        have hv2 := hv.own
        rw [Gm.accL_length, HE.out] at hv2
        go_wp2_with (fail)
        exact ⟨⟨i + 1, by omega, by go_num, ownsRow_base hv2 (by have := hx.size; have := (Ext.drew wr).size; omega), hx.trans x4⟩, by simp [intOf]; omega⟩
    · have r1 : ¬ (i : Int) < k := by omega
      obtain rfl : k = i := by omega
      rw [Gm.accL_full LS.out.symm] at hown
      go_wp2_with (fail)
      go_ret
      refine ⟨_, rfl, ?_, hx⟩
      rw [Gm.rowL_length, HE.out]
      exact hown
end Go.Proofs.Ytfpcldkfmcnjkaa
