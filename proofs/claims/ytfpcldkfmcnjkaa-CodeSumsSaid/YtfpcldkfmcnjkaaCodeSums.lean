/- CodeSums' walk. -/
import Derived.Test.YtfpcldkfmcnjkaaCodeR
import Derived.Test.YtfpcldkfmcnjkaaStepRd
import Derived.Deep.DrawnRows
namespace Go.Proofs.Ytfpcldkfmcnjkaa
open Go.ChangeShapes Go.WideShapes Go.ChangeAt Go.RowKit
attribute [local go_sem ↓] Go.wp_at_zero Go.wp_at_succ

/-- A sum of stripes. -/
def sumL (k : Nat) (x : UInt8) (a b : Gm.L) : Gm.L := (List.range k).map fun i => Gf.lay (Gm.row a i) x (Gm.row b i)
theorem sumL_length (k : Nat) (x : UInt8) (a b : Gm.L) : (sumL k x a b).length = k := by simp [sumL]
theorem row_sumL {k i : Nat} {x : UInt8} {a b : Gm.L} (h : i < k) : Gm.row (sumL k x a b) i = Gf.lay (Gm.row a i) x (Gm.row b i) := by unfold sumL; rw [Gm.row_range _ h]
namespace codeSums
set_option maxRecDepth 100000 in
set_option maxHeartbeats 8000000 in
theorem walk {H : Type} {enc : TypeId × Value → H} {base : Nat} (w : World) (v0 : Value) (d0 : DataW H) (p0 : List MemPlace) (A1 : Option Addr) (n1 c1 : Nat) (z1 : List Int) (a2 : Int)
    (o0 : Value.okWide Try.prog w .any base 24 v0) (h0 : DataW.Trod enc Try.prog w 0 (fun _ => true) true 24 v0 d0 p0) (w1 : IsRow .u8 w A1 n1 c1 z1) (w2 : (Lit.int .u8 a2).wf = true) :
    Calls Try.prog 3 #[v0, .slice A1 n1 c1, .int .u8 a2] w fun e w' => e = .returned (.bool true) ∧ Ext w w' := by
  obtain ⟨i0, hi0, hz0, hz1, hz2⟩ := info_parts bytes_info
  obtain ⟨kx, kmore, ksize, A0, n0, c0, z0, rfl, hz⟩ := stripe_open o0 h0
  obtain ⟨bz, hy⟩ := w1.bytes
  obtain ⟨wh, rfl⟩ := wf_u8 w2
  clear o0 h0 w1 w2 z1
  obtain ⟨k, hk⟩ : ∃ k, 1 + kx.toNat % 8 = k := ⟨_, rfl⟩
  obtain ⟨n, hn⟩ : ∃ n, k + kmore.toNat % 9 = n := ⟨_, rfl⟩
  obtain ⟨size, hs⟩ : ∃ s, ksize.toNat % 21 = s := ⟨_, rfl⟩
  have b1 : 1 ≤ k ∧ k ≤ n ∧ n ≤ 16 ∧ size ≤ 20 := by omega
  have HB := Lib.hid b1
  have hm := fun W (A : Option Addr) (q c : Nat) (l : List UInt8) (h : Bs W A q c l) => made_law W kx kmore ksize A q c l h
  rw [hk, hn, hs] at hm
  have HM := Lib.hid hm
  have hx0 : Ext w (w.alloc (.cells #[.int .u8 (kx.toNat : Int), .int .u8 (kmore.toNat : Int), .int .u8 (ksize.toNat : Int), .slice A0 n0 c0] 24)) := Ext.alloc _ _
  have hcs := fun j => World.cell?_alloc_new w #[.int .u8 (kx.toNat : Int), .int .u8 (kmore.toNat : Int), .int .u8 (ksize.toNat : Int), .slice A0 n0 c0] 24 j
  have hc0 : _ = some (Value.int .u8 (kx.toNat : Int)) := hcs 0
  have hc1 : _ = some (Value.int .u8 (kmore.toNat : Int)) := hcs 1
  have hc2 : _ = some (Value.int .u8 (ksize.toNat : Int)) := hcs 2
  have hc3 : _ = some (Value.slice A0 n0 c0) := hcs 3
  replace hz := hz.ext hx0
  replace hy := hy.ext hx0
  have HX0 := Lib.hid hx0
  clear hm hk hn hs b1 hx0 hcs
  go_enter Try.func3, Try.ntmps3
  try dsimp only [List.append]
  generalize hW0 : w.alloc (.cells #[.int .u8 (kx.toNat : Int), .int .u8 (kmore.toNat : Int), .int .u8 (ksize.toNat : Int), .slice A0 n0 c0] 24) = W0 at *
  have HW0 := Lib.hid hW0
  clear hW0
  go_wp2_with (fail)
  rw [HW0.out]
  have x0 := HX0.out
  refine (new_any _).mono ?_
  rintro e u1 ⟨rfl, hf, y1⟩
  generalize hfb : W0.heap.size = fb at *
  have HFB := Lib.hid hfb
  clear hfb
  have y0 := y1
  replace hz := hz.ext y0
  replace hy := hy.ext y0
  replace hc0 := y0.cell hc0
  replace hc1 := y0.cell hc1
  replace hc2 := y0.cell hc2
  replace hc3 := y0.cell hc3
  replace x0 := Ext.trans x0 y0
  clear y0
  clear y1
  go_wp2_with (fail)
  refine (HM.out _ A0 n0 c0 z0 hz).mono ?_
  rintro e u2 ⟨b, fb1, Aa, ca, rfl, hC, hF, ha, y1⟩
  have y0 := y1
  replace hz := hz.ext y0
  replace hy := hy.ext y0
  replace hf := hf.ext y0
  replace hc0 := y0.cell hc0
  replace hc1 := y0.cell hc1
  replace hc2 := y0.cell hc2
  replace hc3 := y0.cell hc3
  replace x0 := Ext.trans x0 y0
  clear y0
  clear y1 hF
  clear hz
  clear hc3
  go_wp2_with (fail)
  refine (HM.out _ A1 n1 c1 bz hy).mono ?_
  rintro e u3 ⟨b2, fb2, Ab, cb, rfl, hC2, hF, hb, y1⟩
  have y0 := y1
  replace hy := hy.ext y0
  replace hf := hf.ext y0
  replace hC := hC.ext y0
  replace ha := ha.ext y0
  replace hc0 := y0.cell hc0
  replace hc1 := y0.cell hc1
  replace hc2 := y0.cell hc2
  replace x0 := Ext.trans x0 y0
  clear y0
  clear y1 hF hC2 hc0 hc1 hc2
  clear hy
  have RA := Lib.hid (stripe_rect z0 k size 0)
  have RB := Lib.hid (stripe_rect bz k size 0)
  generalize stripeAt z0 k size 0 = Da at *
  generalize stripeAt bz k size 0 = Db at *
  have hh0 : k ≤ n := HB.out.2.1
  have hh1 : 1 ≤ k := HB.out.1
  have hh2 : n ≤ 255 := by have := HB.out; omega
  have HSZ := Lib.hid (show size ≤ 65536 by have := HB.out; omega)
  have e1 : ((n : Int) != (n : Int)) = false := by simp
  obtain ⟨S, hS⟩ : ∃ S, sumL k wh Da Db = S := ⟨_, rfl⟩
  have HSL := Lib.hid (show S.length = k by rw [← hS, sumL_length])
  have HSR := Lib.hid (fun i (hi : i < k) => show Gm.row S i = Gf.lay (Gm.row Da i) wh (Gm.row Db i) by rw [← hS, row_sumL hi])
  have RS := Lib.hid (show Gm.Rect k size S from ⟨HSL.out, fun i hi => by rw [HSR.out i hi, Gf.lay_length, RA.out.wid i hi]⟩)
  have HSUM := Lib.hid (fun i (hi : i < n) => show Gm.row (Gm.mulL (Gm.gen k n) S) i = Gf.lay (Gm.row (Gm.mulL (Gm.gen k n) Da) i) wh (Gm.row (Gm.mulL (Gm.gen k n) Db) i) by
    have hg : i < (Gm.gen k n).length := by rw [Gm.gen_length hh0]; exact hi
    rw [Gm.row_mulL hg, Gm.row_mulL hg, Gm.row_mulL hg]
    exact Gm.rowL_lay RA.out RB.out hh1 HSL.out HSR.out)
  clear hS
  obtain ⟨N2, hN2⟩ : ∃ N2, u3.heap.size = N2 := ⟨_, rfl⟩
  have HN2 := Lib.hid hN2
  have hsz0 : N2 ≤ u3.heap.size := by omega
  have qa1 := ha.max
  have qa2 := ha.le
  have qb1 := hb.max
  have qb2 := hb.le
  clear hN2
  go_wp2_with (fail)
  go_loopw [14, 15, 57] (fun v _ s wr => ∃ (t : Nat) (cs : List Value), t ≤ k ∧ s = .int .i64 (t : Int) ∧ Mq wr N2 (Hot N2 v) v t cs (S.take t) ∧ Ext u3 wr ∧ N2 ≤ wr.heap.size) (fun _ _ s _ => k - (intOf s).toNat)
  case atStart => exact ⟨0, [], by omega, rfl, by rw [List.take_zero]; exact Mq.nil _ _ _, Ext.refl u3, hsz0⟩
  case round =>
    obtain ⟨t, cs, ht, rfl, hQ, hx, hsz⟩ := hrel
    clear hsz0
    by_cases htk : t < k
    · have r1 : (t : Int) < k := by omega
      obtain ⟨ba, oa, Ar, nr, cr, rfl, hca, hra⟩ := ha.at_ htk
      obtain ⟨bb, ob, Br, mr, dr, rfl, hcb, hrb⟩ := hb.at_ htk
      have hl := lay_any fb wr.drew Ar Br nr cr mr dr (Gm.row Da t) (Gm.row Db t) wh ((hf.ext hx).ext (Ext.drew _)) ((hra.ext hx).ext (Ext.drew _)) ((hrb.ext hx).ext (Ext.drew _)) (by have := hra.len; have := RA.out.wid t htk; have := HB.out; omega)
      rw [← HSR.out t htk] at hl
      have hsn := take_row (m := S) (j := t) (by rw [HSL.out]; exact htk)
      have hrl : (Gm.row S t).length ≤ 65536 := by rw [RS.out.wid t htk]; exact HSZ.out
      generalize Gm.row S t = r at *
      have hSS : ∀ W : World, Ext u3 W → (W.cell? ⟨ba, oa + t, none⟩ = some (.slice Ar nr cr) ∧ W.cell? ⟨bb, ob + t, none⟩ = some (.slice Br mr dr)) := fun W hW => ⟨hW.cell hca, hW.cell hcb⟩
      have HSS := Lib.hid hSS
      have HL := Lib.hid hl
      have HSN := Lib.hid hsn
      have HQ := Lib.hid hQ
      clear hSS hl hsn hQ hra hrb
      go_wp2_with (fail)
      go_region_held3 (fun W => W.cell? ⟨ba, oa + t, none⟩ = some (.slice Ar nr cr) ∧ W.cell? ⟨bb, ob + t, none⟩ = some (.slice Br mr dr))
        (first | exact HSS.out _ x5 | exact HSS.out _ (x4.thenAlloc _) | exact HSS.out _ x4 | exact HSS.out _ hx.thenDrew)
        (first
          | (((with_reducible refine HL.out.mono ?_); (rintro e w4 ⟨v4, rfl, hv⟩; obtain ⟨A4, c4, rfl, _⟩ := hv.bs; have x4' : Ext wr w4 := (Ext.drew wr).trans hv.ext; have x4 : Ext u3 w4 := hx.trans x4'; have hs4 := x4'.size; have HV := Lib.hid hv; have HO4 := Lib.hid (ownsRow_ext (ownsRow_ext HQ.out.own x4') (Ext.alloc w4 (.cells #[.slice A4 r.length c4] 22))); clear hv)))
          | ((refine step_append_rd _ (by rfl) (.tmp 60) (.tmp 72) 28 (by rfl) N2 22 i0 _ 1 24 Try.underlying28 hi0 hz0 hz1 hz2 (by rfl) (by omega) u14 t cs (by rfl) HO4.out (some ⟨w4.heap.size, 0, none⟩) 1 1 [.slice A4 r.length c4] (by rfl) (Rd.lit w4 #[.slice A4 r.length c4] _) (by simp [Value.oneCell']) (by omega) (by unfold maxLen; omega) (by simp; omega) ?_); (intro v5 w5 hown hgr hat; have x5 : Ext u3 w5 := (x4.thenAlloc _).ofGrown hgr (fun q hq => by have := own_row HQ.out.own q hq; have := HN2.out; omega)))
          | fail)
      all_goals
        go_wp2_with (fail)
        have hsn2 := HQ.out.snoc x4' HV.out.own (Nat.le_refl _) hsz (Ext.alloc w4 (.cells #[.slice A4 r.length c4] 22)) hown hgr hat
        refine ⟨⟨t + 1, cs ++ [.slice A4 r.length c4], by omega, by go_num, by rw [HSN.out]; exact hsn2, x5, ?_⟩, by simp [intOf]; omega⟩
        have h8 := hgr.size; simp at h8; omega
    · have r1 : ¬ (t : Int) < k := by omega
      obtain rfl : k = t := by omega
      rw [List.take_of_length_le (by rw [HSL.out]; exact Nat.le_refl _)] at hQ
      obtain ⟨As, cS, rfl, hs⟩ := hQ.mx
      clear hQ
      have hx' := hx
      clear hx HN2
      have y0 := hx'
      replace hf := hf.ext y0
      replace hC := hC.ext y0
      replace ha := ha.ext y0
      replace hb := hb.ext y0
      replace x0 := Ext.trans x0 y0
      clear y0
      clear hx'
      go_wp2_with (fail)
      refine (enc_r _ b fb1 k n size hC _ _ _ ha RA.out HSZ.out).mono ?_
      rintro e u5 ⟨Ap, cp, rfl, hp, y1⟩
      have y0 := y1
      replace hf := hf.ext y0
      replace hC := hC.ext y0
      replace ha := ha.ext y0
      replace hb := hb.ext y0
      replace hs := hs.ext y0
      replace x0 := Ext.trans x0 y0
      clear y0
      clear y1
      go_wp2_with (fail)
      refine (enc_r _ b fb1 k n size hC _ _ _ hb RB.out HSZ.out).mono ?_
      rintro e u6 ⟨Aq, cq, rfl, hq, y1⟩
      have y0 := y1
      replace hf := hf.ext y0
      replace hC := hC.ext y0
      replace ha := ha.ext y0
      replace hb := hb.ext y0
      replace hs := hs.ext y0
      replace hp := hp.ext y0
      replace x0 := Ext.trans x0 y0
      clear y0
      clear y1
      clear ha hb
      go_wp2_with (fail)
      refine (enc_r _ b fb1 k n size hC _ _ _ hs RS.out HSZ.out).mono ?_
      rintro e u7 ⟨Ar, cr, rfl, hr, y1⟩
      have y0 := y1
      replace hf := hf.ext y0
      replace hC := hC.ext y0
      replace hs := hs.ext y0
      replace hp := hp.ext y0
      replace hq := hq.ext y0
      replace x0 := Ext.trans x0 y0
      clear y0
      clear y1
      clear hs
      go_wp2_with (fail)
      refine (all_any _ b fb1 k n hC).mono ?_
      rintro e w' ⟨rfl, rfl⟩
      go_wp2_with (fail)
      refine (all_any _ b fb1 k n hC).mono ?_
      rintro e w' ⟨rfl, rfl⟩
      go_wp2_with (fail)
      refine (all_any _ b fb1 k n hC).mono ?_
      rintro e w' ⟨rfl, rfl⟩
      have qp1 := hp.max
      have qp2 := hp.le
      have qq1 := hq.max
      have qq2 := hq.le
      have qr1 := hr.max
      have qr2 := hr.le
      have RP := Lib.hid (Gm.enc_rect RA.out hh1 hh0)
      generalize Gm.mulL (Gm.gen k n) Da = P at *
      generalize Gm.mulL (Gm.gen k n) Db = Q at *
      generalize Gm.mulL (Gm.gen k n) S = R at *
      
      go_wp2_with (fail)
      go_loopw [22, 122] (fun _ s wr => ∃ t : Nat, t ≤ n ∧ s = .int .i64 (t : Int) ∧ Ext u7 wr) (fun _ s _ => n - (intOf s).toNat)
      case atStart => exact ⟨0, by omega, rfl, Ext.refl u7⟩
      case round =>
        obtain ⟨t, ht, rfl, hx⟩ := hrel
        by_cases htn : t < n
        · have r1 : (t : Int) < n := by omega
          obtain ⟨b1, o1, A1, n1, c1, rfl, hc1, hr1⟩ := hr.at_ htn
          obtain ⟨b2, o2, A2, n2, c2, rfl, hc2, hr2⟩ := hp.at_ htn
          obtain ⟨b3, o3, A3, n3, c3, rfl, hc3, hr3⟩ := hq.at_ htn
          have hl := lay_any fb wr.drew A2 A3 n2 c2 n3 c3 (Gm.row P t) (Gm.row Q t) wh ((hf.ext hx).ext (Ext.drew _)) ((hr2.ext hx).ext (Ext.drew _)) ((hr3.ext hx).ext (Ext.drew _)) (by have := hr2.len; have := RP.out.wid t htn; have := HB.out; omega)
          rw [← HSUM.out t htn] at hl
          have hsb := fun W (A' : Option Addr) (m c' : Nat) (hW : Ext u7 W) (hb : Bs W A' m c' (Gm.row R t)) => sameBytes_any W A1 A' n1 c1 m c' _ _ (hr1.ext hW) hb
          simp only [beq_self_eq_true] at hsb
          have hSS : ∀ W : World, Ext u7 W → (W.cell? ⟨b1, o1 + t, none⟩ = some (.slice A1 n1 c1) ∧ W.cell? ⟨b2, o2 + t, none⟩ = some (.slice A2 n2 c2) ∧ W.cell? ⟨b3, o3 + t, none⟩ = some (.slice A3 n3 c3)) := fun W hW => ⟨hW.cell hc1, hW.cell hc2, hW.cell hc3⟩
          have HSS := Lib.hid hSS
          have HL := Lib.hid hl
          have HSB := Lib.hid hsb
          generalize Gm.row R t = r at *
          clear hSS hl hsb hr1 hr2 hr3
          go_wp2_with (fail)
          go_region_held3 (fun W => W.cell? ⟨b1, o1 + t, none⟩ = some (.slice A1 n1 c1) ∧ W.cell? ⟨b2, o2 + t, none⟩ = some (.slice A2 n2 c2) ∧ W.cell? ⟨b3, o3 + t, none⟩ = some (.slice A3 n3 c3))
            (first | exact HSS.out _ x4 | exact HSS.out _ hx.thenDrew)
            (first
              | (((with_reducible refine HL.out.mono ?_); (rintro e w4 ⟨v4, rfl, hv⟩; obtain ⟨A4, c4, rfl, hb4⟩ := hv.bs; have x4 : Ext u7 w4 := hx.trans ((Ext.drew wr).trans hv.ext); have HB4 := Lib.hid hb4; clear hv hb4)))
              | (((with_reducible refine (HSB.out w4 A4 r.length c4 x4 HB4.out).mono ?_); (rintro e w5 ⟨rfl, rfl⟩)))
              | fail)
          all_goals
            go_wp2_with (fail)
            exact ⟨⟨t + 1, by omega, by go_num, x4⟩, by simp [intOf]; omega⟩
        · have r1 : ¬ (t : Int) < n := by omega
          obtain rfl : n = t := by omega
          replace x0 := x0.trans hx
          go_wp2_with (fail)
          refine (awake_any4 _).mono ?_
          rintro e u8 ⟨rfl, y1⟩
          go_wp2_with (fail)
          go_ret
          exact ⟨rfl, x0.trans y1⟩
end codeSums
end Go.Proofs.Ytfpcldkfmcnjkaa
