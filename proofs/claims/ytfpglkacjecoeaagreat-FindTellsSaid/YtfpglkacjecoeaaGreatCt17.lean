/- Several texts in one: The contracts of code's row, rows and Matrix. The contracts of code's rows and Matrix. The contract of matrix.Pick. -/
import Derived.Test.YtfpglkacjecoeaaGreatCt16
import Derived.Deep.DrawnRows
import Derived.Test.YtfpglkacjecoeaaGreatCt15
namespace Go.Proofs.YtfpglkacjecoeaaGreat
open Go.RowKit
attribute [local go_sem ↓] Go.wp_at_zero Go.wp_at_succ

theorem run_make_shard (W : World) (c : Nat) (hc : c ≤ 65536) : (Instr.makeSlice 46 (.int .i64 (c : Int)) (.int .i64 (c : Int))).run Tryz.prog W = .ok (.slice (some ⟨W.heap.size, 0, none⟩) c c) (W.alloc (.cells (made c (.int .u8 0)) 5)) := by
  obtain ⟨i, hi, hz, h1, h2⟩ := info_parts u8_info
  have h := run_make (P := Tryz.prog) W 46 5 i _ Tryz.underlying46 hi hz .i64 .i64 (c : Int) (c : Int) (by omega) (Int.le_refl _) (by rw [h2]; omega) (by omega)
  rw [h1] at h
  simpa [made, Value.cells] using h
theorem ownsRow_shard (w : World) (c : Nat) (hc : c ≤ 65536) {base : Nat} (hb : base ≤ w.heap.size) : (w.alloc (.cells (made c (.int .u8 0)) 5)).ownsRow base 5 1 (.slice (some ⟨w.heap.size, 0, none⟩) c c) c (bcells (List.replicate c 0)) := by
  rw [bcells_zeros]
  exact ⟨by simp, .inr ⟨w.heap.size, c, made c (.int .u8 0), rfl, hb, heap_alloc_new w _, Nat.le_refl _, by unfold maxLen; omega, by simp [made_size], by rw [made_toList]; simp⟩⟩
set_option maxRecDepth 100000 in
set_option maxHeartbeats 2000000 in
theorem row_any (w : World) (b fb k0 n0 : Nat) (hC : Cd w b fb k0 n0) (Ar : Option Addr) (k cr : Nat) (r : List UInt8) (hr : Bs w Ar k cr r) (As : Option Addr) (cs : Nat) (s : Gm.L) (hs : Mx w As k cs s) (hk : 1 ≤ k) (hw : ∀ i, i < k → (Gm.row s i).length = Gm.cols s) (hL : Gm.cols s ≤ 65536) :
    Calls Tryz.prog 65 #[cptr b, .slice Ar k cr, .slice As k cs] w fun e w' => ∃ v, e = .returned v ∧ NewBytes w w' v (Gm.rowL r s) := by
  have hmk := fun W => run_make_shard W (Gm.cols s) hL
  have how := ownsRow_shard w (Gm.cols s) hL (Nat.le_refl _)
  have q1 := hr.max
  have q2 := hr.le
  have q3 := hs.max
  have q4 := hs.le
  obtain ⟨bs, os, A0, L, c0, rfl, hc0, hb0⟩ := hs.at_ (show 0 < k by omega)
  rw [Nat.add_zero] at hc0
  have q5 := hb0.max
  have q6 := hb0.le
  have e0 : Gm.cols s = L := hb0.len
  rw [e0] at hmk how
  have HE := Lib.hid e0
  have HW := Lib.hid hw
  have HS := Lib.hid hs
  have HO := Lib.hid how
  have HR := Lib.hid hr
  have HC := Lib.hid hC
  have LS := Lib.hid hs.len
  have q7 : L ≤ 65536 := by omega
  have q8 : (0 : Int) < k := by omega
  clear hr hs hw hC hb0 e0 hL how
  go_enter Tryz.func65, Tryz.ntmps65
  go_wp2_with (fail)
  have x0 : Ext w (w.alloc (.cells (made L (.int .u8 0)) 5)) := Ext.alloc _ _
  have ho := HO.out
  have ha : Gm.accL r s 0 = List.replicate L 0 := by rw [Gm.accL_zero, HE.out]
  rw [← ha] at ho
  go_loopw [7, 8, 9, 17] (fun v _ _ t wr => ∃ i : Nat, i ≤ k ∧ t = .int .i64 i ∧ wr.ownsRow w.heap.size 5 1 v L (bcells (Gm.accL r s i)) ∧ Ext w wr) (fun _ _ _ t _ => k - (intOf t).toNat)
  case atStart => exact ⟨0, by omega, rfl, ho, x0⟩
  case round =>
    obtain ⟨i, hi, rfl, hown, hx⟩ := hrel
    clear ho x0 ha
    by_cases hlt : i < k
    · have r1 : (i : Int) < k := by omega
      obtain ⟨br, or, rfl, hcr⟩ := (HR.out.ext hx).rd.byte hlt
      obtain ⟨b1, o1, Ai, ni, ci, e1, hci, hbi⟩ := (HS.out.ext hx).at_ hlt
      injection e1 with e1
      injection e1 with e1 e2
      subst e1 e2
      obtain rfl : ni = L := by rw [← hbi.len, HW.out i hlt, HE.out]
      obtain ⟨Ao, co, rfl, q9, q10⟩ := ownsRow_slice hown
      have c0' := (HC.out.ext hx).c0
      have hL := lay_any fb wr.drew Ao Ai ni co ni ci (Gm.accL r s i) (Gm.row s i) (Gf.get r i) ((HC.out.ext hx).f.ext (Ext.drew _)) ((Own.mk (base := w.heap.size) (e := 5) hown).bs.ext (Ext.drew _)) (hbi.ext (Ext.drew _)) (by omega)
      rw [Gm.accL_succ] at hL
      have HL := Lib.hid hL
      have hS : ∀ W : World, Ext wr W → (W.cell? ⟨b, 0, none⟩ = some (.pointer (some ⟨fb, 0, none⟩)) ∧ W.cell? ⟨bs, os + i, none⟩ = some (.slice Ai ni ci)) := fun W hW => ⟨hW.cell c0', hW.cell hci⟩
      have HSS := Lib.hid hS
      generalize Gf.get r i = x at *
      clear hS hL hbi hown
      go_wp2_with (fail)
      go_region_held3 (fun W => W.cell? ⟨b, 0, none⟩ = some (.pointer (some ⟨fb, 0, none⟩)) ∧ W.cell? ⟨bs, os + i, none⟩ = some (.slice Ai ni ci))
        (first | exact HSS.out _ (Ext.drew _) | exact HSS.out _ x4)
        (first | (((with_reducible refine HL.out.mono ?_); (rintro e w4 ⟨v4, rfl, hv⟩; have x4 : Ext wr w4 := (Ext.drew wr).trans hv.ext))))
      all_goals
        have hv2 := hv.own
        rw [Gm.accL_length, HE.out] at hv2
        go_wp2_with (fail)
        exact ⟨⟨i + 1, by omega, by go_num, ownsRow_base hv2 (by have := hx.size; have := (Ext.drew wr).size; omega), hx.trans x4⟩, by simp [intOf]; omega⟩
    · have r1 : ¬ (i : Int) < k := by omega
      obtain rfl : k = i := by omega
      rw [Gm.accL_full LS.out.symm] at hown
      go_wp2_with (fail)
      go_ret
      refine ⟨_, rfl, ?_, hx⟩
      rw [Gm.rowL_length, HE.out]
      exact hown
end Go.Proofs.YtfpglkacjecoeaaGreat
namespace Go.Proofs.YtfpglkacjecoeaaGreat
open Go.RowKit

theorem take_row {m : Gm.L} {j : Nat} (h : j < m.length) : m.take (j + 1) = m.take j ++ [Gm.row m j] := by
  rw [List.take_succ_eq_append_getElem h, Gm.row_of_lt h]
set_option maxRecDepth 100000 in
set_option maxHeartbeats 2000000 in
theorem rows_any (w : World) (b fb k0 n0 : Nat) (hC : Cd w b fb k0 n0) (Am : Option Addr) (n cm : Nat) (G : Gm.L) (hG : Mx w Am n cm G) (hn : n ≤ 1000) (As : Option Addr) (k cs : Nat) (s : Gm.L) (hs : Mx w As k cs s) (hk : 1 ≤ k) (hgw : ∀ i, i < n → (Gm.row G i).length = k) (hw : ∀ i, i < k → (Gm.row s i).length = Gm.cols s) (hL : Gm.cols s ≤ 65536) :
    Calls Tryz.prog 64 #[cptr b, .slice Am n cm, .slice As k cs, .func (.func 65) #[cptr b] #[]] w (GivesQ (Gm.mulL G s) w) := by
  obtain ⟨i0, hi0, hz0, hz1, hz2⟩ := info_parts bytes_info
  have q1 := hG.max
  have q2 := hG.le
  have hul : (Gm.mulL G s).length = n := by rw [Gm.mulL_length, hG.len]
  have HU := Lib.hid hul
  have hrow := fun (W : World) (hW : Ext w W) (Ar : Option Addr) (cr : Nat) (r : List UInt8) (hr : Bs W Ar k cr r) => row_any W b fb k0 n0 (hC.ext hW) Ar k cr r hr As cs s (hs.ext hW) hk hw hL
  have HROW := Lib.hid hrow
  have hml : ∀ i, i < n → Gm.row (Gm.mulL G s) i = Gm.rowL (Gm.row G i) s := fun i hi => Gm.row_mulL (by rw [hG.len]; exact hi)
  have HML := Lib.hid hml
  have HG := Lib.hid hG
  have HGW := Lib.hid hgw
  obtain ⟨N2, hN2⟩ : ∃ N2, w.heap.size = N2 := ⟨_, rfl⟩
  have HN2 := Lib.hid hN2
  have hsz0 : N2 ≤ w.heap.size := by omega
  clear hN2 hul hrow hml hG hgw hs hw hL hC
  generalize Gm.mulL G s = M at *
  go_enter Tryz.func64, Tryz.ntmps64
  go_wp2_with (fail)
  go_loopw [9, 11, 14] (fun v _ t wr => ∃ (i : Nat) (cs : List Value), i ≤ n ∧ t = .int .i64 i ∧ Mq wr N2 (Hot N2 v) v i cs (M.take i) ∧ Ext w wr ∧ N2 ≤ wr.heap.size) (fun _ _ t _ => n - (intOf t).toNat)
  case atStart => exact ⟨0, [], by omega, rfl, by rw [List.take_zero]; exact Mq.nil _ _ _, Ext.refl w, hsz0⟩
  case round =>
    obtain ⟨i, cs', hi, rfl, hQ, hx, hsz⟩ := hrel
    clear hsz0
    by_cases hlt : i < n
    · have r1 : (i : Int) < n := by omega
      obtain ⟨bm, om, Ai, ni, ci, rfl, hce, hbi⟩ := (HG.out.ext hx).at_ hlt
      obtain rfl : ni = k := by rw [← hbi.len]; exact HGW.out i hlt
      have hcall := HROW.out wr hx Ai ci _ hbi
      rw [← HML.out i hlt] at hcall
      have hsn := take_row (m := M) (j := i) (by rw [HU.out]; exact hlt)
      generalize Gm.row M i = r at *
      have HCL := Lib.hid hcall
      have HSN := Lib.hid hsn
      have HQ := Lib.hid hQ
      clear hcall hsn hQ hbi
      go_wp2_with (fail)
      refine HCL.out.mono ?_
      rintro e w4 ⟨v4, rfl, hv⟩
      obtain ⟨A4, c4, rfl, _⟩ := hv.bs
      have hs4 := hv.ext.size
      have ow4 := ownsRow_ext (ownsRow_ext HQ.out.own hv.ext) (Ext.alloc w4 (.cells #[.slice A4 r.length c4] 46))
      have HO4 := Lib.hid ow4
      have HV := Lib.hid hv
      clear ow4 hv
      go_wp2_with (at_builtin; refine wpList_append_rd _ rfl (.tmp 18) (.tmp 23) 23 rfl N2 46 i0 _ 1 24 Tryz.underlying23 hi0 hz0 hz1 hz2 rfl (by omega) u9 i cs' rfl HO4.out (some ⟨w4.heap.size, 0, none⟩) 1 1 [.slice A4 r.length c4] rfl (Rd.lit _ #[.slice A4 r.length c4] _) (by simp [Value.oneCell']) (by omega) (by unfold maxLen; omega) (by simp; omega) ?_; intro v5 w5 hown hgr hat)
      have hsn2 := HQ.out.snoc HV.out.ext HV.out.own (Nat.le_refl _) hsz (Ext.alloc w4 (.cells #[.slice A4 r.length c4] 46)) hown hgr hat
      have hne : ∀ q, u9.ownBlock = some q → N2 ≤ q := own_row HQ.out.own
      refine ⟨⟨i + 1, cs' ++ [.slice A4 r.length c4], by omega, by go_num, ?_, ?_, ?_⟩, by simp [intOf]; omega⟩
      · rw [HSN.out]; exact hsn2
      · exact ((hx.trans HV.out.ext).thenAlloc _).ofGrown hgr (fun q hq => by have := hne q hq; have := HN2.out; omega)
      · have := hgr.size; simp at this; omega
    · have r1 : ¬ (i : Int) < n := by omega
      obtain rfl : n = i := by omega
      rw [List.take_of_length_le (by rw [HU.out]; exact Nat.le_refl _)] at hQ
      go_wp2_with (fail)
      go_ret
      refine ⟨_, cs', rfl, ?_, hx⟩
      rw [HU.out, HN2.out]
      exact hQ
end Go.Proofs.YtfpglkacjecoeaaGreat
namespace Go.Proofs.YtfpglkacjecoeaaGreat
open Go.RowKit

/-- What is asked of a predicate on numbers. -/
def AsksInt (w : World) (g : Nat) (lb : Array Value) (q : Int → Bool) : Prop :=
  ∀ (W : World) (x : Int), Ext w W → Calls Tryz.prog g (#[.int .i64 x] ++ lb) W fun e w' => e = .returned (.bool (q x)) ∧ Ext W w'
set_option maxRecDepth 100000 in
set_option maxHeartbeats 1000000 in
theorem indexInt_any (w : World) (A : Option Addr) (n c : Nat) (l : List Int) (hl : Is w A n c l) (g : Nat) (lb : Array Value) (q : Int → Bool)
    (eg : ∀ args w, (callFunc g args).run Tryz.prog w = .ok (.enter g args) w) (hq : AsksInt w g lb q) :
    Calls Tryz.prog 102 #[.slice A n c, .func (.func g) #[] lb] w fun r w' =>
      ∃ i : Int, r = .returned (.int .i64 i) ∧ decide (0 ≤ i) = l.any q ∧ Ext w w' := by
  have hmax := hl.max
  have hle := hl.le
  have HQ := Lib.hid hq
  have HL := Lib.hid hl
  clear hq hl
  go_enter Tryz.func102, Tryz.ntmps102
  go_wp2
  go_loopw [5, 8] (fun _ s8 wr => ∃ k : Nat, k ≤ n ∧ s8 = .int .i64 k ∧ Ext w wr ∧ RowKit.Hid (∀ j, j < k → q (Il.get l j) = false)) (fun _ s8 _ => n - (intOf s8).toNat)
  case atStart => exact ⟨0, Nat.zero_le _, rfl, Ext.refl w, Lib.hid fun j hj => absurd hj (Nat.not_lt_zero _)⟩
  case round =>
    obtain ⟨k, hk, rfl, hx, H⟩ := hrel
    by_cases hlt : k < n
    · have i1 : (k : Int) < n := by omega
      obtain ⟨b, off, rfl, q1⟩ := (HL.out.ext hx).rd.intAt hlt
      have hcall := HQ.out wr (Il.get l k) hx
      generalize hy : q (Il.get l k) = y at hcall
      have Y := Lib.hid hy
      clear hy
      cases y with
      | true =>
        go_wp2_with (fail)
        refine hcall.mono ?_
        rintro r w' ⟨rfl, hx'⟩
        go_wp2_with (fail)
        go_ret
        refine ⟨_, rfl, ?_, hx.trans hx'⟩
        rw [decide_eq_true (by omega), eq_comm, List.any_eq_true]
        exact ⟨Il.get l k, Il.get_mem (by rw [HL.out.len]; exact hlt), Y.out⟩
      | false =>
        go_wp2_with (fail)
        refine hcall.mono ?_
        rintro r w' ⟨rfl, hx'⟩
        go_wp2_with (fail)
        refine ⟨⟨k + 1, by omega, by go_num, hx.trans hx', Lib.hid fun j hj => ?_⟩, by simp [intOf]; omega⟩
        by_cases e : j = k
        · subst e; exact Y.out
        · exact H.out j (by omega)
    · have i1 : ¬ (k : Int) < n := by omega
      obtain rfl : k = n := by omega
      go_wp2
      go_ret
      refine ⟨_, rfl, show decide ((0 : Int) ≤ -1) = l.any q from ?_, hx⟩
      rw [decide_eq_false (by omega), eq_comm, List.any_eq_false]
      intro x hxm
      obtain ⟨j, hj, rfl⟩ := Il.mem_get hxm
      rw [H.out j (by have := HL.out.len; omega)]
      decide
theorem containsInt_any (w : World) (A : Option Addr) (n c : Nat) (l : List Int) (hl : Is w A n c l) (g : Nat) (lb : Array Value) (q : Int → Bool)
    (eg : ∀ args w, (callFunc g args).run Tryz.prog w = .ok (.enter g args) w) (hq : AsksInt w g lb q) :
    Calls Tryz.prog 86 #[.slice A n c, .func (.func g) #[] lb] w fun r w' => r = .returned (.bool (l.any q)) ∧ Ext w w' := by
  go_enter Tryz.func86, Tryz.ntmps86
  go_wp2_with (fail)
  refine (indexInt_any w A n c l hl g lb q eg hq).mono ?_
  rintro r w' ⟨i, rfl, e, hx⟩
  go_wp2_with (fail)
  go_ret
  exact ⟨rfl, hx⟩
/-- Is a number no row's? -/
def noRow (n : Nat) (x : Int) : Bool := decide (x < 0) || decide ((n : Int) ≤ x)
theorem pick1_asks (w : World) (g : Nat) (A : Option Addr) (n c : Nat) (hn : n ≤ c ∧ c ≤ 9223372036854775807) (hc : w.cell? ⟨g, 0, none⟩ = some (.slice A n c)) : AsksInt w 84 #[.pointer (some ⟨g, 0, none⟩)] (noRow n) := by
  intro W x hx
  have c0 := hx.cell hc
  show Calls Tryz.prog 84 #[.int .i64 x, .pointer (some ⟨g, 0, none⟩)] W _
  by_cases h : x < 0
  · have e : noRow n x = true := by unfold noRow; rw [decide_eq_true h]; rfl
    rw [e]
    clear e
    go_enter Tryz.func84, Tryz.ntmps84
    go_wp2_with (fail)
    go_ret
    exact ⟨rfl, Ext.refl _⟩
  · have e : noRow n x = decide ((n : Int) ≤ x) := by unfold noRow; rw [decide_eq_false h]; rfl
    rw [e]
    clear e
    go_enter Tryz.func84, Tryz.ntmps84
    go_wp2_with (fail)
    go_ret
    exact ⟨rfl, Ext.refl _⟩
/-- Are these rows of a matrix? -/
def rowsOf (n : Nat) (l : List Int) : Prop := 1 ≤ l.length ∧ l.length ≤ 255 ∧ l.any (noRow n) = false
instance (n : Nat) (l : List Int) : Decidable (rowsOf n l) := by unfold rowsOf; infer_instance
def picked (m : Gm.L) (l : List Int) : Gm.L := l.map fun i => Gm.row m i.toNat
theorem picked_length (m : Gm.L) (l : List Int) : (picked m l).length = l.length := by simp [picked]
theorem picked_succ (m : Gm.L) {l : List Int} {k : Nat} (h : k < l.length) : picked m (l.take (k + 1)) = picked m (l.take k) ++ [Gm.row m (Il.get l k).toNat] := by
  unfold picked
  rw [List.take_succ_eq_append_getElem h, List.map_append, Il.get_of_lt h]
  rfl
def pickE (m : Gm.L) (l : List Int) : Int := if Gm.right m then (if rowsOf m.length l then 0 else 2) else 30
def pickM (m : Gm.L) (l : List Int) : Gm.L := if Gm.right m ∧ rowsOf m.length l then picked m l else []
theorem run_make_cap (W : World) (c : Nat) (hc : c ≤ 1000) : (Instr.makeSlice 39 (.int .i64 0) (.int .i64 (c : Int))).run Tryz.prog W = .ok (.slice (some ⟨W.heap.size, 0, none⟩) 0 c) (W.alloc (.cells (made c (.slice none 0 0)) 46)) := by
  obtain ⟨i, hi, hz, h1, h2⟩ := info_parts bytes_info
  have h := run_make (P := Tryz.prog) W 39 46 i _ Tryz.underlying39 hi hz .i64 .i64 (0 : Int) (c : Int) (by omega) (by omega) (by rw [h2]; omega) (by omega)
  rw [h1] at h
  simpa [made, Value.cells] using h
theorem ownsRow_made0 (w : World) (e : TypeId) (z : Value) (c : Nat) (hc : c ≤ 1000) : (w.alloc (.cells (made c z) e)).ownsRow w.heap.size e 1 (.slice (some ⟨w.heap.size, 0, none⟩) 0 c) 0 [] :=
  ⟨rfl, .inr ⟨w.heap.size, c, made c z, rfl, Nat.le_refl _, heap_alloc_new w _, Nat.zero_le _, by unfold maxLen; omega, by simp [made_size], by simp⟩⟩
set_option maxRecDepth 100000 in
set_option maxHeartbeats 2000000 in
theorem pick_bad (w : World) (A : Option Addr) (n c : Nat) (m : Gm.L) (hm : Mx w A n c m) (B : Option Addr) (k d : Nat) (l : List Int) (h : ¬ Gm.right m) :
    Calls Tryz.prog 62 #[.slice A n c, .slice B k d] w (GivesQE [] 30 w) := by
  have hx0 : Ext w (w.alloc (.cells #[.slice A n c] 39)) := Ext.alloc _ _
  have hR := matRight_any _ A n c m (hm.ext hx0)
  rw [decide_eq_false h] at hR
  have HR := Lib.hid hR
  have HX := Lib.hid hx0
  clear hR hx0 h
  go_enter Tryz.func62, Tryz.ntmps62
  try dsimp only [List.append]
  go_wp2_with (fail)
  refine HR.out.mono ?_
  rintro e w1 ⟨rfl, x1⟩
  go_wp2_with (fail)
  go_ret2
  exact GivesQE.none 30 (HX.out.trans x1)
set_option maxRecDepth 100000 in
set_option maxHeartbeats 2000000 in
theorem pick_arg (w : World) (A : Option Addr) (n c : Nat) (m : Gm.L) (hm : Mx w A n c m) (B : Option Addr) (k d : Nat) (l : List Int) (hl : Is w B k d l) (h : Gm.right m) (h2 : ¬ rowsOf n l) :
    Calls Tryz.prog 62 #[.slice A n c, .slice B k d] w (GivesQE [] 2 w) := by
  have hx0 : Ext w (w.alloc (.cells #[.slice A n c] 39)) := Ext.alloc _ _
  have hR := matRight_any _ A n c m (hm.ext hx0)
  rw [decide_eq_true h] at hR
  have hc0 : (w.alloc (.cells #[.slice A n c] 39)).cell? ⟨w.heap.size, 0, none⟩ = some (.slice A n c) := by rw [World.cell?_alloc_new]; rfl
  have hC := fun (W : World) (h : Ext (w.alloc (.cells #[.slice A n c] 39)) W) => containsInt_any W B k d l ((hl.ext hx0).ext h) 84 #[.pointer (some ⟨w.heap.size, 0, none⟩)] _ (enters_of Tryz.func84 (by kernel_rfl) rfl) (pick1_asks W w.heap.size A n c ⟨hm.le, hm.max⟩ (h.cell hc0))
  have HR := Lib.hid hR
  have HX := Lib.hid hx0
  have HC := Lib.hid hC
  have q1 := hl.max
  have q2 := hl.le
  have L := Lib.hid hl.len
  have H2 := Lib.hid h2
  clear hR hx0 h hC hc0 h2
  by_cases hk1 : k < 1
  · have g1 : (k : Int) < 1 := by omega
    go_enter Tryz.func62, Tryz.ntmps62
    try dsimp only [List.append]
    go_wp2_with (fail)
    refine HR.out.mono ?_
    rintro e w1 ⟨rfl, x1⟩
    go_wp2_with (fail)
    go_ret2
    exact GivesQE.none 2 (HX.out.trans x1)
  · have g1 : ¬ (k : Int) < 1 := by omega
    by_cases hk2 : 255 < k
    · have g2 : (255 : Int) < k := by omega
      go_enter Tryz.func62, Tryz.ntmps62
      try dsimp only [List.append]
      go_wp2_with (fail)
      refine HR.out.mono ?_
      rintro e w1 ⟨rfl, x1⟩
      go_wp2_with (fail)
      go_ret2
      exact GivesQE.none 2 (HX.out.trans x1)
    · have g2 : ¬ (255 : Int) < k := by omega
      have hany : l.any (noRow n) = true := by
        cases e : l.any (noRow n) with
        | true => rfl
        | false => exact absurd ⟨by rw [L.out]; omega, by rw [L.out]; omega, e⟩ H2.out
      rw [hany] at HC
      clear hany
      go_enter Tryz.func62, Tryz.ntmps62
      try dsimp only [List.append]
      go_wp2_with (fail)
      refine HR.out.mono ?_
      rintro e w1 ⟨rfl, x1⟩
      go_wp2_with (fail)
      refine (HC.out w1 x1).mono ?_
      rintro e w2 ⟨rfl, x2⟩
      go_wp2_with (fail)
      go_ret2
      exact GivesQE.none 2 ((HX.out.trans x1).trans x2)
set_option maxRecDepth 100000 in
set_option maxHeartbeats 4000000 in
theorem pick_ok (w : World) (A : Option Addr) (n c : Nat) (m : Gm.L) (hm : Mx w A n c m) (B : Option Addr) (k d : Nat) (l : List Int) (hl : Is w B k d l) (h : Gm.right m) (h2 : rowsOf n l) :
    Calls Tryz.prog 62 #[.slice A n c, .slice B k d] w (GivesQE (picked m l) 0 w) := by
  have hx0 : Ext w (w.alloc (.cells #[.slice A n c] 39)) := Ext.alloc _ _
  have hR := matRight_any _ A n c m (hm.ext hx0)
  rw [decide_eq_true h] at hR
  have hc0 : (w.alloc (.cells #[.slice A n c] 39)).cell? ⟨w.heap.size, 0, none⟩ = some (.slice A n c) := by rw [World.cell?_alloc_new]; rfl
  have hC := fun (W : World) (h : Ext (w.alloc (.cells #[.slice A n c] 39)) W) => containsInt_any W B k d l ((hl.ext hx0).ext h) 84 #[.pointer (some ⟨w.heap.size, 0, none⟩)] _ (enters_of Tryz.func84 (by kernel_rfl) rfl) (pick1_asks W w.heap.size A n c ⟨hm.le, hm.max⟩ (h.cell hc0))
  rw [h2.2.2] at hC
  have hk1 : 1 ≤ k := by have := h2.1; have := hl.len; omega
  have hk2 : k ≤ 255 := by have := h2.2.1; have := hl.len; omega
  have hrow : ∀ t, t < k → ∃ i : Nat, Il.get l t = (i : Int) ∧ i < n := fun t ht => by
    have hmem := Il.get_mem (l := l) (k := t) (by rw [hl.len]; exact ht)
    have := List.any_eq_false.1 h2.2.2 _ hmem
    unfold noRow at this
    simp only [Bool.or_eq_true, decide_eq_true_eq, not_or] at this
    obtain ⟨i, hi⟩ := Int.eq_ofNat_of_zero_le (show 0 ≤ Il.get l t by omega)
    exact ⟨i, hi, by omega⟩
  have hwid : ∀ i, i < n → (Gm.row m i).length ≤ 255 := fun i hi => by rw [h.2.2.2.2 i (by rw [hm.len]; exact hi)]; exact h.2.2.2.1
  have g1 : ¬ (k : Int) < 1 := by omega
  have g2 : ¬ (255 : Int) < k := by omega
  have hmk := fun W => run_make_cap W k (by omega)
  have HR := Lib.hid hR
  have HX := Lib.hid hx0
  have HC := Lib.hid hC
  have q1 := hl.max
  have q2 := hl.le
  have q3 := hm.max
  have q4 := hm.le
  have L := Lib.hid hl.len
  have HROW := Lib.hid hrow
  have HWID := Lib.hid hwid
  have HC0 := Lib.hid hc0
  obtain ⟨i0, hi0, hz0, hz1, hz2⟩ := info_parts bytes_info
  clear hR hx0 h hC hc0 h2 hrow hwid
  go_enter Tryz.func62, Tryz.ntmps62
  try dsimp only [List.append]
  go_wp2_with (fail)
  refine HR.out.mono ?_
  rintro e w1 ⟨rfl, x1⟩
  go_wp2_with (fail)
  refine (HC.out w1 x1).mono ?_
  rintro e w2 ⟨rfl, x2⟩
  have x02 := (HX.out.trans x1).trans x2
  have cm := (x1.trans x2).cell HC0.out
  have own0 := ownsRow_made0 w2 46 (.slice none 0 0) k (by omega)
  have HO := Lib.hid own0
  clear own0 HR HC HC0 x1 x2
  go_wp2_with (fail)
  have q0 : Mq (w2.alloc (.cells (made k (.slice none 0 0)) 46)) w2.heap.size (Hot w2.heap.size (.slice (some ⟨w2.heap.size, 0, none⟩) 0 k)) (.slice (some ⟨w2.heap.size, 0, none⟩) 0 k) 0 [] (picked m (l.take 0)) :=
    ⟨rfl, HO.out, fun _ h => absurd h (Nat.not_lt_zero _), fun _ _ _ h => by simp at h, fun b hb => .inl hb, fun _ _ _ _ _ _ h => by simp at h⟩
  have x03 : Ext w (w2.alloc (.cells (made k (.slice none 0 0)) 46)) := x02.thenAlloc _
  have hs0 : w2.heap.size ≤ (w2.alloc (.cells (made k (.slice none 0 0)) 46)).heap.size := by simp
  have cm0 := (Ext.alloc w2 (.cells (made k (.slice none 0 0)) 46)).cell cm
  have hsz2 := x02.size
  have hsb : w.heap.size < w2.heap.size := World.block_lt_of_cell? w2 _ cm
  generalize (w2.alloc (.cells (made k (.slice none 0 0)) 46)) = W3 at *
  clear cm HO
  obtain ⟨N2, hN2⟩ : ∃ N2, w2.heap.size = N2 := ⟨_, rfl⟩
  rw [hN2] at q0 hs0 hsz2 hsb ⊢
  clear hN2
  go_loopw [7, 9, 34] (fun v _ s wr => ∃ (t : Nat) (cs : List Value), t ≤ k ∧ s = .int .i64 t ∧ Mq wr N2 (Hot N2 v) v t cs (picked m (l.take t)) ∧ Ext w wr ∧ wr.cell? ⟨w.heap.size, 0, none⟩ = some (.slice A n c) ∧ N2 ≤ wr.heap.size) (fun _ _ s _ => k - (intOf s).toNat)
  case atStart => exact ⟨0, [], by omega, rfl, q0, x03, cm0, hs0⟩
  case round =>
    obtain ⟨t, cs, ht, rfl, hQ, hx, hcm, hsz⟩ := hrel
    clear q0 x03 cm0 hs0
    by_cases hlt : t < k
    · have i1 : (t : Int) < k := by omega
      obtain ⟨i, hi, hin⟩ := HROW.out t hlt
      obtain ⟨bl, ol, rfl, hcl⟩ := (hl.ext hx).rd.intAt hlt
      obtain ⟨bm, om, Ai, ni, ci, rfl, hce, hbi⟩ := (hm.ext hx).at_ hin
      have hsn := picked_succ m (l := l) (k := t) (by rw [L.out]; exact hlt)
      rw [hi, Int.toNat_natCast] at hsn
      rw [hi] at hcl
      have hni := hbi.len
      subst hni
      have hcp := clone_any wr Ai _ ci _ hbi (by have := HWID.out i hin; omega)
      have i2 : (i : Int) < n := by omega
      have hrl := HWID.out i hin
      generalize Gm.row m i = r at *
      have HSN := Lib.hid hsn
      have HQ := Lib.hid hQ
      have HCP := Lib.hid hcp
      clear hsn hQ hcp hi
      go_wp2_with (fail)
      refine HCP.out.mono ?_
      rintro e w4 ⟨v4, rfl, hv⟩
      obtain ⟨A4, c4, rfl, _⟩ := hv.bs
      have hs4 := hv.ext.size
      have cm4 := hv.ext.cell hcm
      have ow4 := ownsRow_ext (ownsRow_ext HQ.out.own hv.ext) (Ext.alloc w4 (.cells #[.slice A4 r.length c4] 46))
      have HO4 := Lib.hid ow4
      have HV := Lib.hid hv
      clear ow4 hv
      go_wp2_with (at_builtin; refine wpList_append_rd _ rfl (.tmp 38) (.tmp 44) 39 rfl N2 46 i0 _ 1 24 Tryz.underlying39 hi0 hz0 hz1 hz2 rfl (by omega) u7 t cs rfl HO4.out (some ⟨w4.heap.size, 0, none⟩) 1 1 [.slice A4 r.length c4] rfl (Rd.lit _ #[.slice A4 r.length c4] _) (by simp [Value.oneCell']) (by omega) (by unfold maxLen; omega) (by simp; omega) ?_; intro v5 w5 hown hgr hat)
      have hsn2 := HQ.out.snoc HV.out.ext HV.out.own (Nat.le_refl _) hsz (Ext.alloc w4 (.cells #[.slice A4 r.length c4] 46)) hown hgr hat
      have hne : ∀ q, u7.ownBlock = some q → N2 ≤ q := own_row HQ.out.own
      refine ⟨⟨t + 1, cs ++ [.slice A4 r.length c4], by omega, by go_num, ?_, ?_, ?_, ?_⟩, by simp [intOf]; omega⟩
      · rw [HSN.out]; exact hsn2
      · exact ((hx.trans HV.out.ext).thenAlloc _).ofGrown hgr (fun q hq => by have := hne q hq; omega)
      · exact hgr.cell ((Ext.alloc w4 _).cell cm4) (fun e => by have h9 := hne _ e.symm; have h10 : N2 ≤ w.heap.size := h9; omega)
      · have := hgr.size; simp at this; omega
    · have i1 : ¬ (t : Int) < k := by omega
      obtain rfl : t = k := by omega
      rw [List.take_of_length_le (by rw [L.out]; exact Nat.le_refl _)] at hQ
      go_wp2_with (fail)
      go_ret2
      refine ⟨_, cs, rfl, ?_, hx⟩
      rw [picked_length, L.out]
      exact hQ.lower hsz2
theorem pick_any3 (w : World) (A : Option Addr) (n c : Nat) (m : Gm.L) (hm : Mx w A n c m) (B : Option Addr) (k d : Nat) (l : List Int) (hl : Is w B k d l) :
    Calls Tryz.prog 62 #[.slice A n c, .slice B k d] w (GivesQE (pickM m l) (pickE m l) w) := by
  unfold pickM pickE
  by_cases h : Gm.right m
  · by_cases h2 : rowsOf m.length l
    · rw [if_pos ⟨h, h2⟩, if_pos h, if_pos h2]
      exact pick_ok w A n c m hm B k d l hl h (by rw [← hm.len]; exact h2)
    · rw [if_neg (fun e => h2 e.2), if_pos h, if_neg h2]
      exact pick_arg w A n c m hm B k d l hl h (by rw [← hm.len]; exact h2)
  · rw [if_neg (fun e => h e.1), if_neg h]
    exact pick_bad w A n c m hm B k d l h
end Go.Proofs.YtfpglkacjecoeaaGreat
