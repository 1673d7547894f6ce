/- CodeFits' walk. -/
import Derived.Test.YtfpcldkfmcnjkaaCodeR
import Derived.Test.YtfpcldkfmcnjkaaCopyLists
import Derived.Test.YtfpcldkfmcnjkaaStepRd
import Derived.StillTailTactics
namespace Go.Proofs.Ytfpcldkfmcnjkaa
open Go.ChangeShapes Go.WideShapes Go.ChangeAt Go.RowKit

theorem fits_not {k n : Nat} {s : Gm.L} (h : s.length ≠ n) : fitsB k n s = false := by
  unfold fitsB
  exact decide_eq_false (fun q => h q.1.1)
theorem xor_zero_set {A : Gm.L} {i p : Nat} (hi : i < A.length) (hp : p < (Gm.row A i).length) : A.set i ((Gm.row A i).set p (Gf.get (Gm.row A i) p ^^^ 0)) = A := by
  rw [UInt8.xor_zero, Gf.get_of_lt hp, List.set_getElem_self, Gm.row_of_lt hi, List.set_getElem_self]
namespace codeFits
set_option maxRecDepth 100000 in
set_option maxHeartbeats 8000000 in
theorem walk {H : Type} {enc : TypeId × Value → H} {base : Nat} (w : World) (v0 : Value) (d0 : DataW H) (p0 : List MemPlace) (a1 a2 a3 : Int)
    (o0 : Value.okWide Try.prog w .any base 24 v0) (h0 : DataW.Trod enc Try.prog w 0 (fun _ => true) true 24 v0 d0 p0) (w1 : (Lit.int .u8 a1).wf = true) (w2 : (Lit.int .u8 a2).wf = true) (w3 : (Lit.int .u8 a3).wf = true) :
    Calls Try.prog 5 #[v0, .int .u8 a1, .int .u8 a2, .int .u8 a3] w fun e w' => e = .returned (.bool true) ∧ Ext w w' := by
  obtain ⟨i0, hi0, hz0, hz1, hz2⟩ := info_parts bytes_info
  obtain ⟨kx, kmore, ksize, A0, n0, c0, z0, rfl, hz⟩ := stripe_open o0 h0
  obtain ⟨at_, rfl⟩ := wf_u8 w1
  obtain ⟨place, rfl⟩ := wf_u8 w2
  obtain ⟨turn, rfl⟩ := wf_u8 w3
  clear o0 h0 w1 w2 w3
  obtain ⟨y, hy⟩ : ∃ y : UInt8, y.toNat = 1 + kmore.toNat % 8 := ⟨UInt8.ofNat (1 + kmore.toNat % 8), by rw [UInt8.toNat_ofNat']; omega⟩
  obtain ⟨v, hv⟩ : ∃ v : UInt8, v.toNat = 1 + ksize.toNat % 20 := ⟨UInt8.ofNat (1 + ksize.toNat % 20), by rw [UInt8.toNat_ofNat']; omega⟩
  have ey : 1 + (kmore.toNat : Int) % 8 = (y.toNat : Int) := by omega
  have ev : 1 + (ksize.toNat : Int) % 20 = (v.toNat : Int) := by omega
  obtain ⟨k, hk⟩ : ∃ k, 1 + kx.toNat % 8 = k := ⟨_, rfl⟩
  obtain ⟨n, hn⟩ : ∃ n, k + y.toNat % 9 = n := ⟨_, rfl⟩
  obtain ⟨size, hs⟩ : ∃ s, v.toNat % 21 = s := ⟨_, rfl⟩
  have b1 : 1 ≤ k ∧ k < n ∧ n ≤ 16 ∧ 1 ≤ size ∧ size ≤ 20 := by omega
  have HB := Lib.hid b1
  have hx0 : Ext w (w.alloc (.cells #[.int .u8 (kx.toNat : Int), .int .u8 (y.toNat : Int), .int .u8 (v.toNat : Int), .slice A0 n0 c0] 24)) := Ext.alloc _ _
  have hm := made_law (w.alloc (.cells #[.int .u8 (kx.toNat : Int), .int .u8 (y.toNat : Int), .int .u8 (v.toNat : Int), .slice A0 n0 c0] 24)) kx y v A0 n0 c0 z0 (hz.ext hx0)
  rw [hk, hn, hs] at hm
  have HM := Lib.hid hm
  have HX0 := Lib.hid hx0
  have l1 := kmore.toNat_lt
  have l2 := ksize.toNat_lt
  have l3 := at_.toNat_lt
  have l4 := place.toNat_lt
  have EY := Lib.hid ey
  have EV := Lib.hid ev
  clear hm hk hn hs hz b1 hx0 hy hv
  go_enter Try.func5, Try.ntmps5
  try dsimp only [List.append]
  go_wp2_with (fail)
  clear ey ev EY EV l1 l2
  refine HM.out.mono ?_
  rintro e u1 ⟨b, fb, Ad, cd, rfl, hC, hF, hd, y1⟩
  have x0 := HX0.out.trans y1
  clear y1 hF HM HX0
  have HR := Lib.hid (stripe_rect z0 k size 0)
  generalize stripeAt z0 k size 0 = D at *
  have hh1 : 1 ≤ k := HB.out.1
  have hh0 : k ≤ n := by have := HB.out; omega
  have hh2 : n ≤ 16 := HB.out.2.2.1
  have HSZ := Lib.hid (show size ≤ 65536 by have := HB.out; omega)
  have HAR := Lib.hid (Gm.enc_rect HR.out hh1 hh0)
  have e1 : ((n : Int) != (n : Int)) = false := by simp
  go_wp2_with (fail)
  refine (enc_r _ b fb k n size hC _ _ _ hd HR.out HSZ.out).mono ?_
  rintro e u2 ⟨Aa, ca, rfl, ha, y1⟩
  have y0 := y1
  replace hC := hC.ext y0
  replace hd := hd.ext y0
  replace x0 := Ext.trans x0 y0
  clear y0
  clear y1
  clear hd
  have qa1 := ha.max
  have qa2 := ha.le
  go_wp2_with (fail)
  refine (all_any _ b fb k n hC).mono ?_
  rintro e w' ⟨rfl, rfl⟩
  go_wp2_with (fail)
  refine (fits_r _ b fb k n size hC _ _ _ ha HR.out HSZ.out).mono ?_
  rintro e u3 ⟨rfl, y1⟩
  have y0 := y1
  replace hC := hC.ext y0
  replace ha := ha.ext y0
  replace x0 := Ext.trans x0 y0
  clear y0
  clear y1
  obtain ⟨i, hi⟩ : ∃ i, at_.toNat % n = i := ⟨_, rfl⟩
  have hin : i < n := by rw [← hi]; exact Nat.mod_lt _ (by omega)
  have ei : (at_.toNat : Int) % (n : Int) = (i : Int) := by rw [← hi]; simp
  have nz : (n : Int) ≠ 0 := by omega
  obtain ⟨p, hp⟩ : ∃ p, place.toNat % size = p := ⟨_, rfl⟩
  have hps : p < size := by rw [← hp]; exact Nat.mod_lt _ (by have := HB.out; omega)
  have ep : (place.toNat : Int) % (size : Int) = (p : Int) := by rw [← hp]; simp
  have zs : (size : Int) ≠ 0 := by have := HB.out; omega
  have ez : ((size : Int) == 0) = false := by rw [beq_eq_false_iff_ne]; exact zs
  obtain ⟨ba, oa, Ar, nr, cr, rfl, hca, hra⟩ := ha.at_ hin
  obtain rfl : nr = size := by rw [← hra.len]; exact HAR.out.wid i hin
  have qr1 := hra.max
  have qr2 := hra.le
  have EI := Lib.hid ei
  have EP := Lib.hid ep
  have hni : (i : Int) < n := by omega
  clear hi hp hra ei ep
  go_upto_region 9 with (fail)
  rw [EI.out]
  go_wp2_with (fail)
  have hAW := fun i (hi : i < n) => (show (Gm.row (Gm.mulL (Gm.gen k n) D) i).length ≤ 1000 by rw [HAR.out.wid i hi]; have := HB.out; omega)
  refine (copyLists_any _ _ _ _ _ ha (by omega) hAW).mono ?_
  rintro e u4 ⟨v, cs, rfl, hQ, y1⟩
  have hC3 := hC
  have ha3 := ha
  have x03 := x0
  have Y1 := Lib.hid y1
  have y0 := y1
  replace hC := hC.ext y0
  replace ha := ha.ext y0
  replace x0 := Ext.trans x0 y0
  clear y0
  clear y1 hAW
  rw [HAR.out.len] at hQ
  obtain ⟨Av, cv, rfl, _⟩ := hQ.mx
  obtain ⟨g, rfl, hg1, hg2⟩ := own_addr hQ.own (by omega)
  obtain ⟨A', c', hcs', hcell, hfz, hown⟩ := hQ.cellAt hin
  have hrl := HAR.out.wid i hin
  rw [hrl] at hcell hown
  obtain ⟨g', rfl, hg3, hg4⟩ := own_addr hown (by have := HB.out; omega)
  obtain ⟨b7, o7, e7, hbyte⟩ := (Own.mk (base := u3.heap.size) (e := 5) hown).rd.byte hps
  injection e7 with e7
  injection e7 with e7 e8
  subst e7 e8
  rw [Nat.zero_add] at hbyte
  have hfb : u4.frozen? ⟨g', p, none⟩ = false := hown.frozenAt p
  have hcc := (Own.mk (base := u3.heap.size) (e := 5) hown).caps
  obtain ⟨qc1, qc2⟩ := hcc
  have hcv := (Own.mk (base := u3.heap.size) (e := 22) hQ.own).caps
  obtain ⟨qv1, qv2⟩ := hcv
  have HQ := Lib.hid hQ
  have HCS := Lib.hid hcs'
  have HOWN := Lib.hid hown
  have hpi : (p : Int) < nr := by omega
  have hp1 : (0 : Int) ≤ (place.toNat : Int) % (nr : Int) := by rw [EP.out]; omega
  have hp2 : (place.toNat : Int) % (nr : Int) < nr := by rw [EP.out]; omega
  clear hQ hcs' hown
  go_upto_region 12 with (fail)
  have hnz : nr ≠ 0 := by have := HB.out; omega
  have epw : (IntKind.i64.wrap (place.toNat : Int)).tmod (nr : Int) = (p : Int) := by rw [IntWalk.i64_in _ (by omega), Int.tmod_eq_emod_of_nonneg (by omega)]; exact EP.out
  go_still_tail 17, (by kernel_rfl)
  change wpList _ _ _ _ _ u4.drew
  replace hbyte : u4.drew.cell? ⟨g', p, none⟩ = _ := hbyte
  replace hfb : u4.drew.frozen? ⟨g', p, none⟩ = false := hfb
  clear hp1 hp2 hcell hfz epw
  have hout : (Value.slice (some ⟨g, 0, none⟩) n cv).ownBlock ≠ some g' := fun h => HQ.out.cool i _ g' HCS.out rfl (.inl h)
  have hq2 := (HQ.out.ext (Ext.drew u4)).poke hin HCS.out p (Gf.get (Gm.row (Gm.mulL (Gm.gen k n) D) i) p ^^^ turn) hout
  obtain ⟨A2, c2, e2, hmx2⟩ := hq2.mx
  injection e2 with e2 _ e3
  subst e2 e3
  have hx5 : Ext u3 (u4.drew.setCell ⟨g', p, none⟩ (.int .u8 ((Gf.get (Gm.row (Gm.mulL (Gm.gen k n) D) i) p ^^^ turn).toNat : Int))) := (Y1.out.thenDrew).set_ hg3 _
  have hC5 := hC3.ext hx5
  have ha5 := ha3.ext hx5
  have x5 := x03.trans hx5
  have hfit := fits_any _ b fb k n hC5 _ n cv _ hmx2
  have hB5 : fitsB k n ((Gm.mulL (Gm.gen k n) D).set i ((Gm.row (Gm.mulL (Gm.gen k n) D) i).set p (Gf.get (Gm.row (Gm.mulL (Gm.gen k n) D) i) p ^^^ turn))) = decide (turn = 0) := by
    by_cases ht : turn = 0
    · rw [decide_eq_true ht, ht, xor_zero_set (by rw [HAR.out.len]; exact hin) (by rw [hrl]; exact hps)]
      unfold fitsB
      exact decide_eq_true (Gm.fit_all HR.out hh1 hh0 HSZ.out)
    · rw [decide_eq_false ht]
      unfold fitsB
      exact decide_eq_false (fun q => Gm.fit_not HR.out hh1 (by have := HB.out; omega) (by omega) hin hps ht q.2)
  rw [hB5] at hfit
  have HFIT := Lib.hid hfit
  have HW5 := Lib.hid (show u4.drew.setCell ⟨g', p, none⟩ (.int .u8 ((Gf.get (Gm.row (Gm.mulL (Gm.gen k n) D) i) p ^^^ turn).toNat : Int)) = u4.drew.setCell ⟨g', p, none⟩ (.int .u8 ((Gf.get (Gm.row (Gm.mulL (Gm.gen k n) D) i) p ^^^ turn).toNat : Int)) from rfl)
  have hxo := xor_u8 (Gf.get (Gm.row (Gm.mulL (Gm.gen k n) D) i) p) turn
  have HXO := Lib.hid hxo
  clear hB5 hfit hmx2 hq2 hxo HQ HCS HOWN hout hC ha x0 hC3 ha3 x03
  go_wp2_with (fail)
  rw [HXO.out]
  refine HFIT.out.mono ?_
  clear HFIT HXO HW5
  generalize u4.drew.setCell ⟨g', p, none⟩ (.int .u8 ((Gf.get (Gm.row (Gm.mulL (Gm.gen k n) D) i) p ^^^ turn).toNat : Int)) = W5 at *
  clear hx5 hfb hbyte hca
  have hh3 : Gm.Rect n nr (Gm.mulL (Gm.gen k n) D) := HAR.out
  have hC := hC5
  have ha := ha5
  have x0 := x5
  clear hC5 ha5 x5
  rintro e u6 ⟨rfl, y1⟩
  have y0 := y1
  replace hC := hC.ext y0
  replace ha := ha.ext y0
  replace x0 := Ext.trans x0 y0
  clear y0
  clear y1
  by_cases ht : turn = 0
  · have ez0 := u8_zero turn ht
    have et : decide (turn = 0) = true := decide_eq_true ht
    rw [et]
    clear ht et
    go_wp2_with (fail)
    have HC6 := Lib.hid hC
    have HX6 := Lib.hid x0
    have hAW := fun i (hi : i < n) => (show (Gm.row (Gm.mulL (Gm.gen k n) D) i).length ≤ 1000 by rw [HAR.out.wid i hi]; have := HB.out; omega)
    refine (copyLists_any _ _ _ _ _ ha (by omega) hAW).mono ?_
    rintro e u7 ⟨v7, cs7, rfl, hQ, y1⟩
    rw [HAR.out.len] at hQ
    have y0 := y1
    replace hC := hC.ext y0
    replace ha := ha.ext y0
    replace x0 := Ext.trans x0 y0
    clear y0
    clear hAW
    obtain ⟨A7, c7, rfl, hm7⟩ := hQ.mx
    have HQ := Lib.hid hQ
    have qm1 := hm7.max
    have qm2 := hm7.le
    have en : (n : Int) - 1 = ((n - 1 : Nat) : Int) := by omega
    have gn : n - 1 ≤ n := by omega
    have gc : ((n - 1 : Nat) : Int) ≤ c7 := by omega
    have hf7 := fits_any u7 b fb k n hC A7 (n - 1) c7 _ (hm7.take gn)
    rw [fits_not (by rw [List.length_take, HAR.out.len]; have := HB.out; omega)] at hf7
    have HF7 := Lib.hid hf7
    have HC7 := Lib.hid hC
    have HU6 := Lib.hid y1
    clear hQ hf7 y1
    go_wp2_with (fail)
    refine HF7.out.mono ?_
    rintro e u8 ⟨rfl, y8⟩
    obtain ⟨g7, rfl, hg71, hg72⟩ := own_addr HQ.out.own (show 0 < n by omega)
    obtain ⟨A8, c8, hcs8, hce8, _, hown8⟩ := HQ.out.cellAt (show 0 < n by omega)
    rw [HAR.out.wid 0 (by omega)] at hce8 hcs8 hown8
    replace hce8 := y8.cell hce8
    have HCS8 := Lib.hid hcs8
    have HQ8 := Lib.hid (HQ.out.ext y8)
    have X68 := Lib.hid (HU6.out.trans y8)
    have hcc8 := (Own.mk (base := u6.heap.size) (e := 5) hown8).caps
    obtain ⟨qc81, qc82⟩ := hcc8
    have hs8 := (HU6.out.trans y8).size
    clear y8 hm7 hC hcs8 hown8 ha
    go_wp2_with (at_builtin; refine wpList_append_wanted _ (by rfl) (.tmp 111) (.tmp 115) 28 rfl u6.heap.size 22 i0 _ 1 24 Try.underlying28 hi0 hz0 hz1 hz2 rfl (by omega) (.slice (some ⟨g7, 0, none⟩) n c7) n cs7 rfl (ownsRow_ext HQ8.out.own (Ext.alloc u8 (.cells #[.slice A8 nr c8] 22))) (some ⟨u8.heap.size, 0, none⟩) 1 1 [.slice A8 nr c8] rfl (Rd.lit u8 #[.slice A8 nr c8] _) (by simp [Value.oneCell']) (by omega) (by unfold maxLen; omega) (by simp; omega) ?_; intro v9 w9 hown hgr hat; obtain ⟨A9, c9, rfl, q91, q92⟩ := ownsRow_slice hown)
    have hr9 : Rows w9 cs7 (Gm.mulL (Gm.gen k n) D) := (HQ8.out.ext (Ext.alloc u8 (.cells #[.slice A8 nr c8] 22))).rows_grown hgr (fun i u q hu hq e => HQ8.out.cool i u q hu hq (.inl e))
    obtain ⟨A', n', c', e', hb'⟩ := hr9.at_ 0 (by rw [HAR.out.len]; omega)
    rw [HCS8.out] at e'
    injection e' with e'
    injection e' with e1' e2' e3'
    subst e1' e2' e3'
    have hm9 : Mx w9 A9 (n + 1) c9 (Gm.mulL (Gm.gen k n) D ++ [Gm.row (Gm.mulL (Gm.gen k n) D) 0]) := ⟨by rw [List.length_append, HAR.out.len]; rfl, q91, q92, cs7 ++ [.slice A8 nr c8], Rd.of_own hown, hr9.snoc hb'⟩
    have x69 : Ext u6 w9 := (X68.out.thenAlloc _).ofGrown hgr (fun q hq => own_row HQ8.out.own q hq)
    have hf9 := fits_any w9 b fb k n (HC6.out.ext x69) A9 (n + 1) c9 _ hm9
    rw [fits_not (by rw [List.length_append, HAR.out.len]; simp)] at hf9
    refine hf9.mono ?_
    rintro e u10 ⟨rfl, y10⟩
    have x10 := (HX6.out.trans x69).trans y10
    clear hf9 hm9 hr9 hown hgr hat hb' x69 y10 HCS8 HQ8 X68 HQ
    go_wp2_with (fail)
    refine (awake_any4 _).mono ?_
    rintro e u11 ⟨rfl, y11⟩
    go_wp2_with (fail)
    go_ret
    exact ⟨rfl, x10.trans y11⟩
  · have ez0 := u8_nonzero turn ht
    have et : decide (turn = 0) = false := decide_eq_false ht
    rw [et]
    clear ht et
    go_wp2_with (fail)
    have HC6 := Lib.hid hC
    have HX6 := Lib.hid x0
    have hAW := fun i (hi : i < n) => (show (Gm.row (Gm.mulL (Gm.gen k n) D) i).length ≤ 1000 by rw [HAR.out.wid i hi]; have := HB.out; omega)
    refine (copyLists_any _ _ _ _ _ ha (by omega) hAW).mono ?_
    rintro e u7 ⟨v7, cs7, rfl, hQ, y1⟩
    rw [HAR.out.len] at hQ
    have y0 := y1
    replace hC := hC.ext y0
    replace ha := ha.ext y0
    replace x0 := Ext.trans x0 y0
    clear y0
    clear hAW
    obtain ⟨A7, c7, rfl, hm7⟩ := hQ.mx
    have HQ := Lib.hid hQ
    have qm1 := hm7.max
    have qm2 := hm7.le
    have en : (n : Int) - 1 = ((n - 1 : Nat) : Int) := by omega
    have gn : n - 1 ≤ n := by omega
    have gc : ((n - 1 : Nat) : Int) ≤ c7 := by omega
    have hf7 := fits_any u7 b fb k n hC A7 (n - 1) c7 _ (hm7.take gn)
    rw [fits_not (by rw [List.length_take, HAR.out.len]; have := HB.out; omega)] at hf7
    have HF7 := Lib.hid hf7
    have HC7 := Lib.hid hC
    have HU6 := Lib.hid y1
    clear hQ hf7 y1
    go_wp2_with (fail)
    refine HF7.out.mono ?_
    rintro e u8 ⟨rfl, y8⟩
    obtain ⟨g7, rfl, hg71, hg72⟩ := own_addr HQ.out.own (show 0 < n by omega)
    obtain ⟨A8, c8, hcs8, hce8, _, hown8⟩ := HQ.out.cellAt (show 0 < n by omega)
    rw [HAR.out.wid 0 (by omega)] at hce8 hcs8 hown8
    replace hce8 := y8.cell hce8
    have HCS8 := Lib.hid hcs8
    have HQ8 := Lib.hid (HQ.out.ext y8)
    have X68 := Lib.hid (HU6.out.trans y8)
    have hcc8 := (Own.mk (base := u6.heap.size) (e := 5) hown8).caps
    obtain ⟨qc81, qc82⟩ := hcc8
    have hs8 := (HU6.out.trans y8).size
    clear y8 hm7 hC hcs8 hown8 ha
    go_wp2_with (at_builtin; refine wpList_append_wanted _ (by rfl) (.tmp 111) (.tmp 115) 28 rfl u6.heap.size 22 i0 _ 1 24 Try.underlying28 hi0 hz0 hz1 hz2 rfl (by omega) (.slice (some ⟨g7, 0, none⟩) n c7) n cs7 rfl (ownsRow_ext HQ8.out.own (Ext.alloc u8 (.cells #[.slice A8 nr c8] 22))) (some ⟨u8.heap.size, 0, none⟩) 1 1 [.slice A8 nr c8] rfl (Rd.lit u8 #[.slice A8 nr c8] _) (by simp [Value.oneCell']) (by omega) (by unfold maxLen; omega) (by simp; omega) ?_; intro v9 w9 hown hgr hat; obtain ⟨A9, c9, rfl, q91, q92⟩ := ownsRow_slice hown)
    have hr9 : Rows w9 cs7 (Gm.mulL (Gm.gen k n) D) := (HQ8.out.ext (Ext.alloc u8 (.cells #[.slice A8 nr c8] 22))).rows_grown hgr (fun i u q hu hq e => HQ8.out.cool i u q hu hq (.inl e))
    obtain ⟨A', n', c', e', hb'⟩ := hr9.at_ 0 (by rw [HAR.out.len]; omega)
    rw [HCS8.out] at e'
    injection e' with e'
    injection e' with e1' e2' e3'
    subst e1' e2' e3'
    have hm9 : Mx w9 A9 (n + 1) c9 (Gm.mulL (Gm.gen k n) D ++ [Gm.row (Gm.mulL (Gm.gen k n) D) 0]) := ⟨by rw [List.length_append, HAR.out.len]; rfl, q91, q92, cs7 ++ [.slice A8 nr c8], Rd.of_own hown, hr9.snoc hb'⟩
    have x69 : Ext u6 w9 := (X68.out.thenAlloc _).ofGrown hgr (fun q hq => own_row HQ8.out.own q hq)
    have hf9 := fits_any w9 b fb k n (HC6.out.ext x69) A9 (n + 1) c9 _ hm9
    rw [fits_not (by rw [List.length_append, HAR.out.len]; simp)] at hf9
    refine hf9.mono ?_
    rintro e u10 ⟨rfl, y10⟩
    have x10 := (HX6.out.trans x69).trans y10
    clear hf9 hm9 hr9 hown hgr hat hb' x69 y10 HCS8 HQ8 X68 HQ
    go_wp2_with (fail)
    refine (awake_any4 _).mono ?_
    rintro e u11 ⟨rfl, y11⟩
    go_wp2_with (fail)
    go_ret
    exact ⟨rfl, x10.trans y11⟩
end codeFits
end Go.Proofs.Ytfpcldkfmcnjkaa
