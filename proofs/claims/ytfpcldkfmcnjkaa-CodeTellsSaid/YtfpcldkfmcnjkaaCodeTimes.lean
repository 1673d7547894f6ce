/- The contracts of code's rows and Matrix. -/
import Derived.Test.YtfpcldkfmcnjkaaCodeRow
namespace Go.Proofs.Ytfpcldkfmcnjkaa
open Go.RowKit

theorem take_row {m : Gm.L} {j : Nat} (h : j < m.length) : m.take (j + 1) = m.take j ++ [Gm.row m j] := by
  rw [List.take_succ_eq_append_getElem h, Gm.row_of_lt h]
set_option maxRecDepth 100000 in
set_option maxHeartbeats 2000000 in
theorem rows_any (w : World) (b fb k0 n0 : Nat) (hC : Cd w b fb k0 n0) (Am : Option Addr) (n cm : Nat) (G : Gm.L) (hG : Mx w Am n cm G) (hn : n ≤ 1000) (As : Option Addr) (k cs : Nat) (s : Gm.L) (hs : Mx w As k cs s) (hk : 1 ≤ k) (hgw : ∀ i, i < n → (Gm.row G i).length = k) (hw : ∀ i, i < k → (Gm.row s i).length = Gm.cols s) (hL : Gm.cols s ≤ 65536) :
    Calls Try.prog 45 #[cptr b, .slice Am n cm, .slice As k cs, .func (.func 46) #[cptr b] #[]] w (GivesQ (Gm.mulL G s) w) := by
  obtain ⟨i0, hi0, hz0, hz1, hz2⟩ := info_parts bytes_info
  have q1 := hG.max
  have q2 := hG.le
  have hul : (Gm.mulL G s).length = n := by rw [Gm.mulL_length, hG.len]
  have HU := Lib.hid hul
  have hrow := fun (W : World) (hW : Ext w W) (Ar : Option Addr) (cr : Nat) (r : List UInt8) (hr : Bs W Ar k cr r) => row_any W b fb k0 n0 (hC.ext hW) Ar k cr r hr As cs s (hs.ext hW) hk hw hL
  have HROW := Lib.hid hrow
  have hml : ∀ i, i < n → Gm.row (Gm.mulL G s) i = Gm.rowL (Gm.row G i) s := fun i hi => Gm.row_mulL (by rw [hG.len]; exact hi)
  have HML := Lib.hid hml
  have HG := Lib.hid hG
  have HGW := Lib.hid hgw
  obtain ⟨N2, hN2⟩ : ∃ N2, w.heap.size = N2 := ⟨_, rfl⟩
  have HN2 := Lib.hid hN2
  have hsz0 : N2 ≤ w.heap.size := by omega
  clear hN2 hul hrow hml hG hgw hs hw hL hC
  generalize Gm.mulL G s = M at *
  go_enter Try.func45, Try.ntmps45
  go_wp2_with (fail)
  go_loopw [9, 11, 14] (fun v _ t wr => ∃ (i : Nat) (cs : List Value), i ≤ n ∧ t = .int .i64 i ∧ Mq wr N2 (Hot N2 v) v i cs (M.take i) ∧ Ext w wr ∧ N2 ≤ wr.heap.size) (fun _ _ t _ => n - (intOf t).toNat)
  case atStart => exact ⟨0, [], by omega, rfl, by rw [List.take_zero]; exact Mq.nil _ _ _, Ext.refl w, hsz0⟩
  case round =>
    obtain ⟨i, cs', hi, rfl, hQ, hx, hsz⟩ := hrel
    clear hsz0
    by_cases hlt : i < n
    · have r1 : (i : Int) < n := by omega
      obtain ⟨bm, om, Ai, ni, ci, rfl, hce, hbi⟩ := (HG.out.ext hx).at_ hlt
      obtain rfl : ni = k := by rw [← hbi.len]; exact HGW.out i hlt
      have hcall := HROW.out wr hx Ai ci _ hbi
      rw [← HML.out i hlt] at hcall
      have hsn := take_row (m := M) (j := i) (by rw [HU.out]; exact hlt)
      generalize Gm.row M i = r at *
      have HCL := Lib.hid hcall
      have HSN := Lib.hid hsn
      have HQ := Lib.hid hQ
      clear hcall hsn hQ hbi
      go_wp2_with (fail)
      refine HCL.out.mono ?_
      rintro e w4 ⟨v4, rfl, hv⟩
      obtain ⟨A4, c4, rfl, _⟩ := hv.bs
      have hs4 := hv.ext.size
      have ow4 := ownsRow_ext (ownsRow_ext HQ.out.own hv.ext) (Ext.alloc w4 (.cells #[.slice A4 r.length c4] 22))
      have HO4 := Lib.hid ow4
      have HV := Lib.hid hv
      clear ow4 hv
      go_wp2_with (at_builtin; refine wpList_append_rd _ rfl (.tmp 18) (.tmp 23) 28 rfl N2 22 i0 _ 1 24 Try.underlying28 hi0 hz0 hz1 hz2 rfl (by omega) u9 i cs' rfl HO4.out (some ⟨w4.heap.size, 0, none⟩) 1 1 [.slice A4 r.length c4] rfl (Rd.lit _ #[.slice A4 r.length c4] _) (by simp [Value.oneCell']) (by omega) (by unfold maxLen; omega) (by simp; omega) ?_; intro v5 w5 hown hgr hat)
      have hsn2 := HQ.out.snoc HV.out.ext HV.out.own (Nat.le_refl _) hsz (Ext.alloc w4 (.cells #[.slice A4 r.length c4] 22)) hown hgr hat
      have hne : ∀ q, u9.ownBlock = some q → N2 ≤ q := own_row HQ.out.own
      refine ⟨⟨i + 1, cs' ++ [.slice A4 r.length c4], by omega, by go_num, ?_, ?_, ?_⟩, by simp [intOf]; omega⟩
      · rw [HSN.out]; exact hsn2
      · exact ((hx.trans HV.out.ext).thenAlloc _).ofGrown hgr (fun q hq => by have := hne q hq; have := HN2.out; omega)
      · have := hgr.size; simp at this; omega
    · have r1 : ¬ (i : Int) < n := by omega
      obtain rfl : n = i := by omega
      rw [List.take_of_length_le (by rw [HU.out]; exact Nat.le_refl _)] at hQ
      go_wp2_with (fail)
      go_ret
      refine ⟨_, cs', rfl, ?_, hx⟩
      rw [HU.out, HN2.out]
      exact hQ
set_option maxRecDepth 100000 in
set_option maxHeartbeats 2000000 in
theorem matrix_any (w : World) (b fb k n : Nat) (hC : Cd w b fb k n) : Calls Try.prog 35 #[cptr b] w (GivesQ (Gm.gen k n) w) := by
  obtain ⟨i0, hi0, hz0, hz1, hz2⟩ := info_parts bytes_info
  obtain ⟨A, c, c2, hm⟩ := hC.mx
  have hn := hC.n2
  have hr := Gm.gen_rect hC.kn
  have hk := hC.kn
  have hmx := hm.max
  have hml := hm.le
  have LM := Lib.hid hm.len
  have HM := Lib.hid hm
  have HMD := Lib.hid (made_any w b fb k n hC)
  obtain ⟨N2, hN2⟩ : ∃ N2, w.heap.size = N2 := ⟨_, rfl⟩
  have HN2 := Lib.hid hN2
  have HW := Lib.hid hr.wid
  have hsz0 : N2 ≤ w.heap.size := by omega
  clear hN2 hr hm hC
  generalize Gm.gen k n = m at *
  go_enter Try.func35, Try.ntmps35
  go_wp2_with (fail)
  refine HMD.out.mono ?_
  rintro e w' ⟨rfl, rfl⟩
  go_wp2_with (fail)
  go_loopw [3, 5, 13] (fun v _ s wr => ∃ (t : Nat) (cs : List Value), t ≤ n ∧ s = .int .i64 t ∧ Mq wr N2 (Hot N2 v) v t cs (m.take t) ∧ Ext w wr ∧ N2 ≤ wr.heap.size) (fun _ _ s _ => n - (intOf s).toNat)
  case atStart => exact ⟨0, [], by omega, rfl, by rw [List.take_zero]; exact Mq.nil _ _ _, Ext.refl w, hsz0⟩
  case round =>
    obtain ⟨t, cs, ht, rfl, hQ, hx, hsz⟩ := hrel
    clear hsz0
    by_cases hlt : t < n
    · have i1 : (t : Int) < n := by omega
      obtain ⟨bm, om, Ai, ni, ci, rfl, hce, hbi⟩ := (HM.out.ext hx).at_ hlt
      have hni := hbi.len
      have hsn := take_row (m := m) (j := t) (by rw [LM.out]; exact hlt)
      subst hni
      have hrl : (Gm.row m t).length ≤ 255 := by rw [HW.out t hlt]; omega
      have hcp := clone_any wr Ai _ ci _ hbi (by omega)
      generalize Gm.row m t = r at *
      have HSN := Lib.hid hsn
      have HQ := Lib.hid hQ
      have HCP := Lib.hid hcp
      clear hsn hQ hcp
      go_wp2_with (fail)
      refine HCP.out.mono ?_
      rintro e w4 ⟨v4, rfl, hv⟩
      obtain ⟨A4, c4, rfl, _⟩ := hv.bs
      have hs4 := hv.ext.size
      have ow4 := ownsRow_ext (ownsRow_ext HQ.out.own hv.ext) (Ext.alloc w4 (.cells #[.slice A4 r.length c4] 22))
      have HO4 := Lib.hid ow4
      have HV := Lib.hid hv
      clear ow4 hv
      go_wp2_with (at_builtin; refine wpList_append_rd _ rfl (.tmp 17) (.tmp 20) 60 rfl N2 22 i0 _ 1 24 Try.underlying60 hi0 hz0 hz1 hz2 rfl (by omega) u3 t cs rfl HO4.out (some ⟨w4.heap.size, 0, none⟩) 1 1 [.slice A4 r.length c4] rfl (Rd.lit _ #[.slice A4 r.length c4] _) (by simp [Value.oneCell']) (by omega) (by unfold maxLen; omega) (by simp; omega) ?_; intro v5 w5 hown hgr hat)
      have hsn2 := HQ.out.snoc HV.out.ext HV.out.own (Nat.le_refl _) hsz (Ext.alloc w4 (.cells #[.slice A4 r.length c4] 22)) hown hgr hat
      have hne : ∀ q, u3.ownBlock = some q → N2 ≤ q := own_row HQ.out.own
      refine ⟨⟨t + 1, cs ++ [.slice A4 r.length c4], by omega, by go_num, ?_, ?_, ?_⟩, by simp [intOf]; omega⟩
      · rw [HSN.out]; exact hsn2
      · exact ((hx.trans HV.out.ext).thenAlloc _).ofGrown hgr (fun q hq => by have := hne q hq; have := HN2.out; omega)
      · have := hgr.size; simp at this; omega
    · have i1 : ¬ (t : Int) < n := by omega
      obtain rfl : n = t := by omega
      rw [List.take_of_length_le (by rw [LM.out]; exact Nat.le_refl _)] at hQ
      go_wp2_with (fail)
      go_ret
      refine ⟨_, cs, rfl, ?_, hx⟩
      rw [LM.out, HN2.out]
      exact hQ
end Go.Proofs.Ytfpcldkfmcnjkaa
