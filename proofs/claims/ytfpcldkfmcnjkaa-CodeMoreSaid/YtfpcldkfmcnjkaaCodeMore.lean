/- CodeMore's walk. -/
import Derived.Test.YtfpcldkfmcnjkaaCodeR
import Derived.Test.YtfpcldkfmcnjkaaCodePicked
import Derived.Test.YtfpcldkfmcnjkaaCodeSome
import Derived.Test.YtfpcldkfmcnjkaaCopyLists
import Derived.StillTailTactics
namespace Go.Proofs.Ytfpcldkfmcnjkaa
open Go.ChangeShapes Go.WideShapes Go.ChangeAt Go.RowKit

namespace codeMore
set_option maxRecDepth 100000 in
set_option maxHeartbeats 8000000 in
theorem walk {H : Type} {enc : TypeId × Value → H} {base : Nat} (w : World) (v0 : Value) (d0 : DataW H) (p0 : List MemPlace) (A1 : Option Addr) (n1 c1 : Nat) (z1 : List Int) (a2 : Int)
    (o0 : Value.okWide Try.prog w .any base 24 v0) (h0 : DataW.Trod enc Try.prog w 0 (fun _ => true) true 24 v0 d0 p0) (w1 : IsRow .u8 w A1 n1 c1 z1) (w2 : (Lit.int .u8 a2).wf = true) :
    Calls Try.prog 4 #[v0, .slice A1 n1 c1, .int .u8 a2] w fun e w' => e = .returned (.bool true) ∧ Ext w w' := by
  obtain ⟨kx, kmore, ksize, A0, n0, c0, z0, rfl, hz0⟩ := stripe_open o0 h0
  obtain ⟨bz, hz⟩ := w1.bytes
  obtain ⟨wh, rfl⟩ := wf_u8 w2
  clear o0 h0 w1 w2 z1
  obtain ⟨k, hk⟩ : ∃ k, 1 + kx.toNat % 8 = k := ⟨_, rfl⟩
  obtain ⟨n, hn⟩ : ∃ n, k + kmore.toNat % 9 = n := ⟨_, rfl⟩
  obtain ⟨size, hs⟩ : ∃ s, ksize.toNat % 21 = s := ⟨_, rfl⟩
  have b1 : 1 ≤ k ∧ k ≤ n ∧ n ≤ 16 ∧ size ≤ 20 := by omega
  have HB := Lib.hid b1
  have hm := made_law (w.alloc (.cells #[.int .u8 (kx.toNat : Int), .int .u8 (kmore.toNat : Int), .int .u8 (ksize.toNat : Int), .slice A0 n0 c0] 24)) kx kmore ksize A0 n0 c0 z0 (hz0.ext (Ext.alloc _ _))
  rw [hk, hn, hs] at hm
  have HM := Lib.hid hm
  have hx0 : Ext w (w.alloc (.cells #[.int .u8 (kx.toNat : Int), .int .u8 (kmore.toNat : Int), .int .u8 (ksize.toNat : Int), .slice A0 n0 c0] 24)) := Ext.alloc _ _
  have hcs := fun j => World.cell?_alloc_new w #[.int .u8 (kx.toNat : Int), .int .u8 (kmore.toNat : Int), .int .u8 (ksize.toNat : Int), .slice A0 n0 c0] 24 j
  have hc0 := hcs 0
  have hc1 := hcs 1
  have hc2 := hcs 2
  have hc3 := hcs 3
  have HX0 := Lib.hid hx0
  have q1 := hz.max
  have q2 := hz.le
  have q3 := hz0.max
  have q4 := hz0.le
  clear hm hk hn hs hz0 b1 hx0 hcs
  go_enter Try.func4, Try.ntmps4
  try dsimp only [List.append]
  go_wp2_with (fail)
  refine HM.out.mono ?_
  rintro e u1 ⟨b, fb, Ad, cd, rfl, hC, hF, hd, y1⟩
  have x0 := HX0.out.trans y1
  replace hz := hz.ext x0
  clear y1 hc0 hc1 hc2 hc3
  have HR := Lib.hid (stripe_rect z0 k size 0)
  generalize stripeAt z0 k size 0 = D at *
  have hh0 : k ≤ n := HB.out.2.1
  have hh1 : 1 ≤ k := HB.out.1
  have hh2 : n ≤ 255 := by have := HB.out; omega
  have HSZ := Lib.hid (show size ≤ 65536 by have := HB.out; omega)
  have HAR := Lib.hid (Gm.enc_rect HR.out hh1 hh0)
  have e1 : ((n : Int) != (n : Int)) = false := by simp
  go_wp2_with (fail)
  refine (enc_r _ b fb k n size hC _ _ _ hd HR.out HSZ.out).mono ?_
  rintro e u2 ⟨Aa, ca, rfl, ha, y1⟩
  have y0 := y1
  replace hz := hz.ext y0
  replace hC := hC.ext y0
  replace hF := hF.ext y0
  replace hd := hd.ext y0
  replace x0 := Ext.trans x0 y0
  clear y0
  clear y1
  have qa1 := ha.max
  have qa2 := ha.le
  have HD := Lib.hid (Gm.enc_take HR.out hh1 hh0)
  have HA := Lib.hid (show Gm.mulL (Gm.gen k n) D = Gm.mulL (Gm.gen k n) D from rfl)
  go_wp2_with (fail)
  refine (all_any _ b fb k n hC).mono ?_
  rintro e w' ⟨rfl, rfl⟩
  go_wp2_with (fail)
  refine (all_any _ b fb k n hC).mono ?_
  rintro e w' ⟨rfl, rfl⟩
  go_wp2_with (fail)
  refine (all_any _ b fb k n hC).mono ?_
  rintro e w' ⟨rfl, rfl⟩
  go_wp2_with (fail)
  refine (picked_law _ A1 n1 c1 bz hz n n (Nat.le_refl n) hh2).mono ?_
  rintro e u5 ⟨l, Al, cl, rfl, hl, hr1, hr2, y1⟩
  have y0 := y1
  replace hz := hz.ext y0
  replace hC := hC.ext y0
  replace hF := hF.ext y0
  replace hd := hd.ext y0
  replace ha := ha.ext y0
  replace x0 := Ext.trans x0 y0
  clear y0
  clear y1
  clear hz
  have ql1 := hl.max
  have ql2 := hl.le
  have HR1 := Lib.hid hr1
  have HR2 := Lib.hid hr2
  have HLL := Lib.hid hl.len
  clear hr1 hr2
  have HPL := Lib.hid (show (picked (Gm.mulL (Gm.gen k n) D) l).length = n by rw [picked_length, HLL.out])
  go_wp2_with (fail)
  refine (some_law _ Aa n ca _ ha Al n cl l hl (by have := HB.out; omega) HR1.out).mono ?_
  rintro e u6 ⟨As, cs, rfl, hs, y1⟩
  rw [HPL.out] at hs
  rw [HPL.out]
  have y0 := y1
  replace hC := hC.ext y0
  replace hF := hF.ext y0
  replace hd := hd.ext y0
  replace ha := ha.ext y0
  replace hl := hl.ext y0
  replace x0 := Ext.trans x0 y0
  clear y0
  clear y1
  clear ha
  have HPR := Lib.hid (fun i (hi : i < n) => row_picked (m := Gm.mulL (Gm.gen k n) D) (l := l) (i := i) (by rw [HLL.out]; exact hi))
  have HPW := Lib.hid (fun i (hi : i < n) => show (Gm.row (picked (Gm.mulL (Gm.gen k n) D) l) i).length = size by rw [HPR.out i hi]; exact HAR.out.wid _ (by have := HR1.out i hi; omega))
  generalize picked (Gm.mulL (Gm.gen k n) D) l = S at *
  go_wp2_with (fail)
  have hAW := fun i (hi : i < n) => (show (Gm.row S i).length ≤ 1000 by rw [HPW.out i hi]; have := HB.out; omega)
  refine (copyLists_any _ _ _ _ _ hs (by have := HB.out; omega) hAW).mono ?_
  rintro e u7 ⟨v, dc, rfl, hQ, y1⟩
  rw [HPL.out] at hQ
  obtain ⟨Av, cv, rfl, _⟩ := hQ.mx
  obtain ⟨g, rfl, hg1, hg2⟩ := own_addr hQ.own (by omega)
  obtain ⟨N3, hN3⟩ : ∃ N3, u6.heap.size = N3 := ⟨_, rfl⟩
  have HN3 := Lib.hid hN3
  rw [hN3] at hQ hg1
  have hcv := (Own.mk (base := N3) (e := 22) hQ.own).caps
  obtain ⟨qv1, qv2⟩ := hcv
  have HQ := Lib.hid hQ
  have c1 := (hC.ext y1).c1
  have HY := Lib.hid y1
  have HC6 := Lib.hid hC
  have HX6 := Lib.hid x0
  have hhb : size ≤ 20 := HB.out.2.2.2
  clear hN3 hQ hAW y1
  go_wp2_with (fail)
  refine (need_any _ b fb k n (HC6.out.ext HY.out)).mono ?_
  rintro e w' ⟨rfl, rfl⟩
  go_wp2_with (fail)
  go_loopw [14, 15, 71] (fun s _ _ wr => ∃ (t : Nat) (M : Gm.L), k ≤ t ∧ t ≤ n ∧ s = .int .i64 (t : Int) ∧ RowKit.Hid (Mq wr N3 (Hot N3 (.slice (some ⟨g, 0, none⟩) n cv)) (.slice (some ⟨g, 0, none⟩) n cv) n dc M) ∧ RowKit.Hid (∀ i, i < n → (Gm.row M i).length = size) ∧ RowKit.Hid (∀ i, i < k → Gm.row M i = Gm.row S i) ∧ Ext u6 wr) (fun s _ _ _ => n - (intOf s).toNat)
  case atStart => exact ⟨k, S, Nat.le_refl _, hh0, rfl, HQ, HPW, Lib.hid (fun _ _ => rfl), HY.out⟩
  case round =>
    obtain ⟨t, M, ht1, ht, rfl, HM1, HM2, HM3, hx⟩ := hrel
    by_cases htn : t < n
    · have r1 : (t : Int) < n := by omega
      obtain ⟨A', c', hcs', hcell, hfz, hown⟩ := HM1.out.cellAt htn
      rw [HM2.out t htn] at hcell hown
      have hcc := (Own.mk (base := N3) (e := 5) hown).caps
      obtain ⟨qc1, qc2⟩ := hcc
      have HCS := Lib.hid hcs'
      have HOWN := Lib.hid hown
      have hsx := hx.size
      obtain ⟨wo, rfl⟩ : ∃ wo : World, wo = wr := ⟨_, rfl⟩
      clear hcs' hown
      go_wp2_with (fail)
      go_loopw [15, 71] (fun _ s wr => ∃ (j : Nat) (M : Gm.L), j ≤ size ∧ s = .int .i64 (j : Int) ∧ RowKit.Hid (Mq wr N3 (Hot N3 (.slice (some ⟨g, 0, none⟩) n cv)) (.slice (some ⟨g, 0, none⟩) n cv) n dc M) ∧ RowKit.Hid (∀ i, i < n → (Gm.row M i).length = size) ∧ RowKit.Hid (∀ i, i < k → Gm.row M i = Gm.row S i) ∧ Ext u6 wr) (fun _ s _ => size - (intOf s).toNat)
      case atStart => exact ⟨0, M, by omega, rfl, HM1, HM2, HM3, hx⟩
      case round =>
        obtain ⟨j, M2, hj, rfl, HK1, HK2, HK3, hxj⟩ := hrel
        clear hcell hfz
        by_cases hjs : j < size
        · have r2 : (j : Int) < size := by omega
          obtain ⟨A2, c2, hcs2, hcell2, hfz2, hown2⟩ := HK1.out.cellAt htn
          have HCS2 := Lib.hid hcs2
          rw [HCS.out] at hcs2
          injection hcs2 with hcs2
          injection hcs2 with e1' e2' e3'
          subst e1' e3'
          rw [HK2.out t htn] at hcell2 hown2
          obtain ⟨g', rfl, hg3, hg4⟩ := own_addr hown2 (by omega)
          obtain ⟨b7, o7, e7, hbyte⟩ := (Own.mk (base := N3) (e := 5) hown2).rd.byte hjs
          injection e7 with e7
          injection e7 with e7 e8
          subst e7 e8
          rw [Nat.zero_add] at hbyte
          have hfb : wr.frozen? ⟨g', j, none⟩ = false := hown2.frozenAt j
          have hout : (Value.slice (some ⟨g, 0, none⟩) n cv).ownBlock ≠ some g' := fun h => HK1.out.cool t _ g' HCS2.out rfl (.inl h)
          have hq2 := HK1.out.poke htn HCS2.out j (Gf.get (Gm.row M2 t) j ^^^ wh) hout
          have hm2 : ∀ i, i < n → (Gm.row (M2.set t ((Gm.row M2 t).set j (Gf.get (Gm.row M2 t) j ^^^ wh))) i).length = size := fun i hi => by
            rw [Gm.row_set _ (by rw [HK1.out.len]; exact htn)]
            by_cases e : t = i
            · rw [if_pos e, List.length_set]; exact HK2.out t htn
            · rw [if_neg e]; exact HK2.out i hi
          have hm3 : ∀ i, i < k → Gm.row (M2.set t ((Gm.row M2 t).set j (Gf.get (Gm.row M2 t) j ^^^ wh))) i = Gm.row S i := fun i hi => by
            rw [Gm.row_set _ (by rw [HK1.out.len]; exact htn), if_neg (by omega)]; exact HK3.out i hi
          have hxs : Ext u6 (wr.setCell ⟨g', j, none⟩ (.int .u8 ((Gf.get (Gm.row M2 t) j ^^^ wh).toNat : Int))) := hxj.set_ (by have := HN3.out; show u6.heap.size ≤ g'; omega) _
          have hxo := xor_u8 (Gf.get (Gm.row M2 t) j) wh
          have HXO := Lib.hid hxo
          have HQ2 := Lib.hid hq2
          have HQ3 := Lib.hid hm2
          have HQ4 := Lib.hid hm3
          have HXS := Lib.hid hxs
          clear hq2 hm2 hm3 hxo hxs hown2
          go_wp2_with (fail)
          rw [HXO.out]
          exact ⟨⟨j + 1, _, by omega, by go_num, HQ2, HQ3, HQ4, HXS.out⟩, by simp [intOf]; omega⟩
        · have r2 : ¬ (j : Int) < size := by omega
          clear HCS HOWN
          go_wp2_with (fail)
          exact ⟨⟨t + 1, M2, by omega, by omega, by go_num, HK1, HK2, HK3, hxj⟩, by simp [intOf]; omega⟩
    · have r1 : ¬ (t : Int) < n := by omega
      obtain ⟨A9, c9, e9, hm9⟩ := HM1.out.mx
      injection e9 with e9 _ e10
      subst e9 e10
      have HDB := Lib.hid (dec_back (s := M) hh1 hh0 hh2 HR.out HSZ.out HLL.out HM1.out.len hh0 HR1.out HR2.out HM2.out (fun i hi => by rw [HM3.out i hi]; exact HPR.out i (by omega)))
      have HD9 := Lib.hid (dec_r _ b fb k n n (HC6.out.ext hx) Al cl l (hl.ext hx) _ cv M D hm9 HR.out.len HDB.out)
      clear hm9
      go_wp2_with (fail)
      refine HD9.out.mono ?_
      rintro e u8 ⟨Ag, cg, rfl, hgm, y8⟩
      go_wp2_with (fail)
      have hi := sameLists_any _ Ag Ad k cg k cd _ _ hgm ((hd.ext hx).ext y8)
      rw [decide_eq_true rfl] at hi
      refine hi.mono ?_
      rintro e u9 ⟨rfl, y9⟩
      go_wp2_with (fail)
      refine (awake_any4 _).mono ?_
      rintro e u10 ⟨rfl, y10⟩
      go_wp2_with (fail)
      go_ret
      exact ⟨rfl, ((((HX6.out.trans hx).trans y8).trans y9).trans y10)⟩
end codeMore
end Go.Proofs.Ytfpcldkfmcnjkaa
