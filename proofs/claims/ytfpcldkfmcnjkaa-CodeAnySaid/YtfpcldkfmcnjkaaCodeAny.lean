/- CodeAny's walk. -/
import Derived.Test.YtfpcldkfmcnjkaaCodeR
import Derived.Test.YtfpcldkfmcnjkaaCodePicked
import Derived.Test.YtfpcldkfmcnjkaaCodeSome
namespace Go.Proofs.Ytfpcldkfmcnjkaa
open Go.ChangeShapes Go.WideShapes Go.ChangeAt Go.RowKit

namespace codeAny
set_option maxRecDepth 100000 in
set_option maxHeartbeats 8000000 in
theorem walk {H : Type} {enc : TypeId × Value → H} {base : Nat} (w : World) (v0 : Value) (d0 : DataW H) (p0 : List MemPlace) (A1 : Option Addr) (n1 c1 : Nat) (z1 : List Int) (a2 : Int)
    (o0 : Value.okWide Try.prog w .any base 24 v0) (h0 : DataW.Trod enc Try.prog w 0 (fun _ => true) true 24 v0 d0 p0) (w1 : IsRow .u8 w A1 n1 c1 z1) (w2 : (Lit.int .u8 a2).wf = true) :
    Calls Try.prog 9 #[v0, .slice A1 n1 c1, .int .u8 a2] w fun e w' => e = .returned (.bool true) ∧ Ext w w' := by
  obtain ⟨kx, kmore, ksize, A0, n0, c0, z0, rfl, hz0⟩ := stripe_open o0 h0
  obtain ⟨bz, hz⟩ := w1.bytes
  obtain ⟨wh, rfl⟩ := wf_u8 w2
  clear o0 h0 w1 w2 z1
  obtain ⟨k, hk⟩ : ∃ k, 1 + kx.toNat % 8 = k := ⟨_, rfl⟩
  obtain ⟨n, hn⟩ : ∃ n, k + kmore.toNat % 9 = n := ⟨_, rfl⟩
  obtain ⟨size, hs⟩ : ∃ s, ksize.toNat % 21 = s := ⟨_, rfl⟩
  have b1 : 1 ≤ k ∧ k ≤ n ∧ n ≤ 16 ∧ size ≤ 20 := by omega
  have HB := Lib.hid b1
  have hm := made_law (w.alloc (.cells #[.int .u8 (kx.toNat : Int), .int .u8 (kmore.toNat : Int), .int .u8 (ksize.toNat : Int), .slice A0 n0 c0] 24)) kx kmore ksize A0 n0 c0 z0 (hz0.ext (Ext.alloc _ _))
  rw [hk, hn, hs] at hm
  have HM := Lib.hid hm
  have hx0 : Ext w (w.alloc (.cells #[.int .u8 (kx.toNat : Int), .int .u8 (kmore.toNat : Int), .int .u8 (ksize.toNat : Int), .slice A0 n0 c0] 24)) := Ext.alloc _ _
  have hcs := fun j => World.cell?_alloc_new w #[.int .u8 (kx.toNat : Int), .int .u8 (kmore.toNat : Int), .int .u8 (ksize.toNat : Int), .slice A0 n0 c0] 24 j
  have hc0 := hcs 0
  have hc1 := hcs 1
  have hc2 := hcs 2
  have hc3 := hcs 3
  have HX0 := Lib.hid hx0
  have q1 := hz.max
  have q2 := hz.le
  have q3 := hz0.max
  have q4 := hz0.le
  clear hm hk hn hs hz0 b1 hx0 hcs
  go_enter Try.func9, Try.ntmps9
  try dsimp only [List.append]
  go_wp2_with (fail)
  refine HM.out.mono ?_
  rintro e u1 ⟨b, fb, Ad, cd, rfl, hC, hF, hd, y1⟩
  have x0 := HX0.out.trans y1
  replace hz := hz.ext x0
  clear y1 hc0 hc1 hc2 hc3
  have HR := Lib.hid (stripe_rect z0 k size 0)
  generalize stripeAt z0 k size 0 = D at *
  have hh0 : k ≤ n := HB.out.2.1
  have hh1 : 1 ≤ k := HB.out.1
  have hh2 : n ≤ 255 := by have := HB.out; omega
  have HSZ := Lib.hid (show size ≤ 65536 by have := HB.out; omega)
  have HAR := Lib.hid (Gm.enc_rect HR.out hh1 hh0)
  have e1 : ((n : Int) != (n : Int)) = false := by simp
  go_wp2_with (fail)
  refine (enc_r _ b fb k n size hC _ _ _ hd HR.out HSZ.out).mono ?_
  rintro e u2 ⟨Aa, ca, rfl, ha, y1⟩
  have y0 := y1
  replace hz := hz.ext y0
  replace hC := hC.ext y0
  replace hF := hF.ext y0
  replace hd := hd.ext y0
  replace x0 := Ext.trans x0 y0
  clear y0
  clear y1
  have qa1 := ha.max
  have qa2 := ha.le
  have HD := Lib.hid (Gm.enc_take HR.out hh1 hh0)
  have HA := Lib.hid (show Gm.mulL (Gm.gen k n) D = Gm.mulL (Gm.gen k n) D from rfl)
  go_wp2_with (fail)
  refine (all_any _ b fb k n hC).mono ?_
  rintro e w' ⟨rfl, rfl⟩
  go_wp2_with (fail)
  refine (need_any _ b fb k n hC).mono ?_
  rintro e w' ⟨rfl, rfl⟩
  go_wp2_with (fail)
  have hi := sameLists_any _ Aa Ad k ca k cd _ _ (ha.take hh0) hd
  rw [decide_eq_true HD.out] at hi
  refine hi.mono ?_
  rintro e u3 ⟨rfl, y1⟩
  clear hi
  have y0 := y1
  replace hz := hz.ext y0
  replace hC := hC.ext y0
  replace hF := hF.ext y0
  replace hd := hd.ext y0
  replace ha := ha.ext y0
  replace x0 := Ext.trans x0 y0
  clear y0
  clear y1
  go_wp2_with (fail)
  refine (fits_r _ b fb k n size hC _ _ _ ha HR.out HSZ.out).mono ?_
  rintro e u4 ⟨rfl, y1⟩
  have y0 := y1
  replace hz := hz.ext y0
  replace hC := hC.ext y0
  replace hF := hF.ext y0
  replace hd := hd.ext y0
  replace ha := ha.ext y0
  replace x0 := Ext.trans x0 y0
  clear y0
  clear y1
  go_wp2_with (fail)
  refine (need_any _ b fb k n hC).mono ?_
  rintro e w' ⟨rfl, rfl⟩
  go_wp2_with (fail)
  refine (all_any _ b fb k n hC).mono ?_
  rintro e w' ⟨rfl, rfl⟩
  go_wp2_with (fail)
  refine (picked_law _ A1 n1 c1 bz hz k n hh0 hh2).mono ?_
  rintro e u5 ⟨l, Al, cl, rfl, hl, hr1, hr2, y1⟩
  have y0 := y1
  replace hz := hz.ext y0
  replace hC := hC.ext y0
  replace hF := hF.ext y0
  replace hd := hd.ext y0
  replace ha := ha.ext y0
  replace x0 := Ext.trans x0 y0
  clear y0
  clear y1
  have ql1 := hl.max
  have ql2 := hl.le
  have HR1 := Lib.hid hr1
  have HR2 := Lib.hid hr2
  have HLL := Lib.hid hl.len
  clear hr1 hr2
  have HDB := Lib.hid (dec_back (s := picked (Gm.mulL (Gm.gen k n) D) l) hh1 hh0 hh2 HR.out HSZ.out HLL.out (by rw [picked_length, HLL.out]) (Nat.le_refl k) HR1.out HR2.out (fun i hi => by
      rw [row_picked (by rw [HLL.out]; exact hi)]
      exact HAR.out.wid _ (by have := HR1.out i hi; omega)) (fun i hi => row_picked (by rw [HLL.out]; exact hi)))
  have HPL := Lib.hid (show (picked (Gm.mulL (Gm.gen k n) D) l).length = k by rw [picked_length, HLL.out])
  go_wp2_with (fail)
  refine (some_law _ Aa n ca _ ha Al k cl l hl (by omega) HR1.out).mono ?_
  rintro e u6 ⟨As, cs, rfl, hs, y1⟩
  rw [HPL.out] at hs
  rw [HPL.out]
  have y0 := y1
  replace hz := hz.ext y0
  replace hC := hC.ext y0
  replace hF := hF.ext y0
  replace hd := hd.ext y0
  replace ha := ha.ext y0
  replace hl := hl.ext y0
  replace x0 := Ext.trans x0 y0
  clear y0
  clear y1
  go_wp2_with (fail)
  refine (dec_r _ b fb k n k hC Al cl l hl As cs _ D hs HR.out.len HDB.out).mono ?_
  rintro e u7 ⟨Ag, cg, rfl, hg, y1⟩
  have y0 := y1
  replace hz := hz.ext y0
  replace hC := hC.ext y0
  replace hF := hF.ext y0
  replace hd := hd.ext y0
  replace ha := ha.ext y0
  replace hl := hl.ext y0
  replace hs := hs.ext y0
  replace x0 := Ext.trans x0 y0
  clear y0
  clear y1
  clear hs
  obtain ⟨i, hi⟩ : ∃ i, wh.toNat % n = i := ⟨_, rfl⟩
  have hin : i < n := by rw [← hi]; exact Nat.mod_lt _ (by omega)
  have ei : (wh.toNat : Int) % (n : Int) = (i : Int) := by rw [← hi]; simp
  have lw := wh.toNat_lt
  have EI := Lib.hid ei
  have nz : (n : Int) ≠ 0 := by omega
  clear hi ei
  go_wp2_with (fail)
  refine (all_any _ b fb k n hC).mono ?_
  rintro e w' ⟨rfl, rfl⟩
  go_wp2_with (fail)
  refine (some_law _ Aa n ca _ ha Al k cl l hl (by omega) HR1.out).mono ?_
  rintro e u8 ⟨As, cs, rfl, hs, y1⟩
  rw [HPL.out] at hs
  rw [HPL.out]
  have y0 := y1
  replace hz := hz.ext y0
  replace hC := hC.ext y0
  replace hF := hF.ext y0
  replace hd := hd.ext y0
  replace ha := ha.ext y0
  replace hl := hl.ext y0
  replace hg := hg.ext y0
  replace x0 := Ext.trans x0 y0
  clear y0
  clear y1
  go_wp2_with (fail)
  rw [EI.out]
  refine (rebuild_any _ b fb k n hC Al k cl l hl As k cs _ hs i).mono ?_
  rintro e u9 ⟨v9, rfl, hv⟩
  have eb1 : rebE k n l (picked (Gm.mulL (Gm.gen k n) D) l) i = 0 := by unfold rebE; rw [if_pos HDB.out.1, if_pos ⟨by omega, by omega⟩]
  have eb2 : rebL k n l (picked (Gm.mulL (Gm.gen k n) D) l) i = Gm.row (Gm.mulL (Gm.gen k n) D) i := by
    unfold rebL
    rw [if_pos ⟨HDB.out.1, by omega, by omega⟩, HDB.out.2, Int.toNat_natCast, Gm.row_mulL (by rw [Gm.gen_length hh0]; exact hin)]
  rw [eb2] at hv
  rw [eb1]
  obtain ⟨Ar, cr, rfl, hrb⟩ := hv.bs
  have hrl : (Gm.row (Gm.mulL (Gm.gen k n) D) i).length = size := HAR.out.wid i hin
  rw [hrl] at hrb
  rw [hrl]
  have y1 := hv.ext
  clear hv eb1 eb2 hrl
  have y0 := y1
  replace hz := hz.ext y0
  replace hC := hC.ext y0
  replace hF := hF.ext y0
  replace hd := hd.ext y0
  replace ha := ha.ext y0
  replace hl := hl.ext y0
  replace hg := hg.ext y0
  replace hs := hs.ext y0
  replace x0 := Ext.trans x0 y0
  clear y0
  clear y1
  clear hs
  go_wp2_with (fail)
  have hi := sameLists_any _ Ag Ad k cg k cd _ _ hg hd
  rw [decide_eq_true rfl] at hi
  refine hi.mono ?_
  rintro e u10 ⟨rfl, y1⟩
  clear hi
  have y0 := y1
  replace hz := hz.ext y0
  replace hC := hC.ext y0
  replace hF := hF.ext y0
  replace hd := hd.ext y0
  replace ha := ha.ext y0
  replace hl := hl.ext y0
  replace hg := hg.ext y0
  replace hrb := hrb.ext y0
  replace x0 := Ext.trans x0 y0
  clear y0
  clear y1
  obtain ⟨br, or, Ai, ni, ci, rfl, hce, hbi⟩ := ha.at_ hin
  have qq : (i : Int) < n := by omega
  go_wp2_with (fail)
  have hsb := sameBytes_any _ Ar Ai size cr ni ci _ _ hrb hbi
  rw [beq_self_eq_true] at hsb
  refine hsb.mono ?_
  rintro e w' ⟨rfl, rfl⟩
  clear hsb
  go_wp2_with (fail)
  refine (awake_any4 _).mono ?_
  rintro e u11 ⟨rfl, y1⟩
  have y0 := y1
  replace hz := hz.ext y0
  replace hC := hC.ext y0
  replace hF := hF.ext y0
  replace hd := hd.ext y0
  replace ha := ha.ext y0
  replace hl := hl.ext y0
  replace hg := hg.ext y0
  replace hrb := hrb.ext y0
  replace x0 := Ext.trans x0 y0
  clear y0
  clear y1
  go_wp2_with (fail)
  go_ret
  exact ⟨rfl, x0⟩
end codeAny
end Go.Proofs.Ytfpcldkfmcnjkaa
