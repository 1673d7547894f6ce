/- CodeTells' walk. -/
import Derived.Test.YtfpcldkfmcnjkaaCodeTellsPl
import Derived.Deep.DeepCutAuto
import Derived.Deep.CutBlock
namespace Go.Proofs.Ytfpcldkfmcnjkaa
open Go.ChangeShapes Go.WideShapes Go.ChangeAt Go.RowKit

set_option maxRecDepth 100000 in
set_option maxHeartbeats 8000000 in
theorem codeTells_any (w : World) (K N I Sz Len : Int) (A A' B F : Option Addr) (n0 c0 n1 c1 q e0 g f0 : Nat) (D S : Gm.L) (l : List Int) (bs : List UInt8) (hD : Mx w A n0 c0 D) (hS : Mx w A' n1 c1 S) (hl : Is w B q e0 l) (hb : Bs w F g f0 bs) :
    Calls Try.prog 7 #[.agg #[.int .i64 K, .int .i64 N, .int .i64 I, .int .i64 Sz, .int .i64 Len, .slice A n0 c0, .slice A' n1 c1, .slice B q e0, .slice F g f0]] w fun e w' => e = .returned (.bool true) ∧ Ext w w' := by
  have xA : Ext w (w.alloc (.cells #[.int .i64 K, .int .i64 N, .int .i64 I, .int .i64 Sz, .int .i64 Len, .slice A n0 c0, .slice A' n1 c1, .slice B q e0, .slice F g f0] 59)) := Ext.alloc _ _
  have hX : Cb (w.alloc (.cells #[.int .i64 K, .int .i64 N, .int .i64 I, .int .i64 Sz, .int .i64 Len, .slice A n0 c0, .slice A' n1 c1, .slice B q e0, .slice F g f0] 59)) w.heap.size #[.int .i64 K, .int .i64 N, .int .i64 I, .int .i64 Sz, .int .i64 Len, .slice A n0 c0, .slice A' n1 c1, .slice B q e0, .slice F g f0] := ⟨heap_alloc_new _ _⟩
  have hs1 := lawSmall_any (w.alloc (.cells #[.int .i64 K, .int .i64 N, .int .i64 I, .int .i64 Sz, .int .i64 Len, .slice A n0 c0, .slice A' n1 c1, .slice B q e0, .slice F g f0] 59)) A n0 c0 D (hD.ext xA)
  have hs2 := fun (W : World) (hW : Ext w W) => lawSmall_any W A' n1 c1 S (hS.ext hW)
  have p1 := hD.max
  have p2 := hD.le
  have p3 := hS.max
  have p4 := hS.le
  have p5 := hl.max
  have p6 := hl.le
  have p7 := hb.max
  have p8 := hb.le
  have k0 := hX.cell 0 rfl
  have k1 := hX.cell 1 rfl
  have k5 := hX.cell 5 rfl
  have k6 := hX.cell 6 rfl
  have k7 := hX.cell 7 rfl
  have k8 := hX.cell 8 rfl
  by_cases h0 : 20 < N
  · clear hs1 hs2 hD hS hl hb hX
    go_enter Try.func7, Try.ntmps7
    try dsimp only [List.append]
    go_wp2_with (fail)
    refine (awake_any4 _).mono ?_
    rintro e u3 ⟨rfl, x3⟩
    go_wp2_with (fail)
    go_ret
    exact ⟨rfl, xA.trans x3⟩
  by_cases h1 : small4 D
  · rw [decide_eq_true h1] at hs1
    by_cases h2 : small4 S
    · rw [decide_eq_true h2] at hs2
      by_cases h3 : 30 < q
      · have g3 : (30 : Int) < q := by omega
        have HS1 := Lib.hid hs1
        have HS2 := Lib.hid hs2
        have HX := Lib.hid hX
        clear hs1 hs2 h1 h2 hD hS hl hb hX
        go_enter Try.func7, Try.ntmps7
        try dsimp only [List.append]
        go_wp2_with (fail)
        refine HS1.out.mono ?_
        rintro e u1 ⟨rfl, x1⟩
        have k6 := (HX.out.ext x1).cell 6 rfl
        go_wp2_with (fail)
        refine (HS2.out u1 (xA.trans x1)).mono ?_
        rintro e u2 ⟨rfl, x2⟩
        have k7 := ((HX.out.ext x1).ext x2).cell 7 rfl
        go_wp2_with (fail)
        refine (awake_any4 _).mono ?_
        rintro e u3 ⟨rfl, x3⟩
        go_wp2_with (fail)
        go_ret
        exact ⟨rfl, ((xA.trans x1).trans x2).trans x3⟩
      have g3 : ¬ (30 : Int) < q := by omega
      by_cases h4 : 200 < g
      · have g4 : (200 : Int) < g := by omega
        have HS1 := Lib.hid hs1
        have HS2 := Lib.hid hs2
        have HX := Lib.hid hX
        clear hs1 hs2 h1 h2 hD hS hl hb hX
        go_enter Try.func7, Try.ntmps7
        try dsimp only [List.append]
        go_wp2_with (fail)
        refine HS1.out.mono ?_
        rintro e u1 ⟨rfl, x1⟩
        have k6 := (HX.out.ext x1).cell 6 rfl
        go_wp2_with (fail)
        refine (HS2.out u1 (xA.trans x1)).mono ?_
        rintro e u2 ⟨rfl, x2⟩
        have k7 := ((HX.out.ext x1).ext x2).cell 7 rfl
        have k8 := ((HX.out.ext x1).ext x2).cell 8 rfl
        go_wp2_with (fail)
        refine (awake_any4 _).mono ?_
        rintro e u3 ⟨rfl, x3⟩
        go_wp2_with (fail)
        go_ret
        exact ⟨rfl, ((xA.trans x1).trans x2).trans x3⟩
      have g4 : ¬ (200 : Int) < g := by omega
      by_cases h5 : K < 1 ∨ N < K
      · have H5 := Lib.hid h5
        have HS1 := Lib.hid hs1
        have HS2 := Lib.hid hs2
        have HX := Lib.hid hX
        have b1 : ((2 : Int) != 2) = false := by simp
        have b2 : ((2 : Int) != 0) = true := by simp
        clear hs1 hs2 h1 h2 hD hS hl hb hX h5
        go_enter Try.func7, Try.ntmps7
        try dsimp only [List.append]
        go_wp2_with (fail)
        refine HS1.out.mono ?_
        rintro e u1 ⟨rfl, x1⟩
        have k6 := (HX.out.ext x1).cell 6 rfl
        go_wp2_with (fail)
        refine (HS2.out u1 (xA.trans x1)).mono ?_
        rintro e u2 ⟨rfl, x2⟩
        have hX2 := (HX.out.ext x1).ext x2
        have k7 := hX2.cell 7 rfl
        have k8 := hX2.cell 8 rfl
        go_wp2_with (fail)
        refine (new_any _).mono ?_
        rintro e u3 ⟨rfl, hf, y1⟩
        generalize hbk : u2.heap.size = fb at *
        have Hb := Lib.hid hbk
        clear hbk
        have hX3 := hX2.ext y1
        have k0 := hX3.cell 0 rfl
        have k1 := hX3.cell 1 rfl
        go_wp2_with (fail)
        refine (codeNew_arg fb _ K N hf (by have := H5.out; omega)).mono ?_
        rintro e u4 ⟨rfl, rfl⟩
        go_wp2_with (fail)
        refine (ref4New_arg _ K N (by have := H5.out; omega)).mono ?_
        rintro e u5 ⟨rfl, x5⟩
        go_wp2_with (fail)
        refine (awake_any4 _).mono ?_
        rintro e u6 ⟨rfl, x6⟩
        go_wp2_with (fail)
        go_ret
        exact ⟨rfl, ((((xA.trans x1).trans x2).trans y1).trans (x5.thenAlloc _)).trans x6⟩
      obtain ⟨k, rfl⟩ : ∃ k : Nat, K = (k : Int) := ⟨K.toNat, by omega⟩
      obtain ⟨n, rfl⟩ : ∃ n : Nat, N = (n : Int) := ⟨N.toNat, by omega⟩
      have hh1 : 1 ≤ k := by omega
      have hh0 : k ≤ n := by omega
      have hh3 : n ≤ 20 := by omega
      have hh2 : n ≤ 255 := by omega
      have HS1 := Lib.hid hs1
      have HS2 := Lib.hid hs2
      have HSM1 := Lib.hid h1
      have HSM2 := Lib.hid h2
      have HQ := Lib.hid (show g ≤ 200 by omega)
      have LB := Lib.hid hb.len
      have HX := Lib.hid hX
      clear hs1 hs2 h1 h2 hX h5
      go_enter Try.func7, Try.ntmps7
      try dsimp only [List.append]
      go_wp2_with (fail)
      refine HS1.out.mono ?_
      rintro e u1 ⟨rfl, x1⟩
      have k6 := (HX.out.ext x1).cell 6 rfl
      go_wp2_with (fail)
      refine (HS2.out u1 (xA.trans x1)).mono ?_
      rintro e u2 ⟨rfl, x2⟩
      have x0 := (xA.trans x1).trans x2
      replace hD := hD.ext x0
      replace hS := hS.ext x0
      replace hl := hl.ext x0
      replace hb := hb.ext x0
      have hX := (HX.out.ext x1).ext x2
      clear x1 x2 HX HS1 HS2 xA
      have k7 := hX.cell 7 rfl
      have k8 := hX.cell 8 rfl
      generalize hgx : w.heap.size = gx at *
      have HGX := Lib.hid hgx
      clear hgx
      go_wp2_with (fail)
      refine (new_any _).mono ?_
      rintro e u3 ⟨rfl, hf, y1⟩
      generalize hbk : u2.heap.size = fb at *
      have Hb := Lib.hid hbk
      clear hbk k0 k1 k5 k6 k7 k8
      have y0 := y1
      replace hD := hD.ext y0
      replace hS := hS.ext y0
      replace hl := hl.ext y0
      replace hb := hb.ext y0
      replace hX := hX.ext y0
      replace x0 := Ext.trans x0 y0
      clear y0
      clear y1
      have k0 := hX.cell 0 rfl
      have k1 := hX.cell 1 rfl
      go_wp2_with (fail)
      refine (codeNew_ok fb _ k n hf hh1 hh0 hh2).mono ?_
      rintro e u4 ⟨b, rfl, hC, y1⟩
      clear k0 k1
      have y0 := y1
      replace hD := hD.ext y0
      replace hS := hS.ext y0
      replace hl := hl.ext y0
      replace hb := hb.ext y0
      replace hX := hX.ext y0
      replace hf := hf.ext y0
      replace x0 := Ext.trans x0 y0
      clear y0
      clear y1
      clear hf
      have k0 := hX.cell 0 rfl
      have k1 := hX.cell 1 rfl
      have HX := Lib.hid hX
      go_upto_region 5 with (fail)
      go_cut [6, 7, 68] (fun s6 s7 _ wx => ∃ wv : World, wv = wx ∧ ∃ (gb : Nat) (Ar : Option Addr) (cr : Nat), s6 = .pointer (some ⟨gb, 0, none⟩) ∧ s7 = .int .i64 0 ∧ Bd wx gb k n (.slice Ar n cr) ∧ Mx wx Ar n cr (Gm.gen k n) ∧ Ext u4 wx)
      case first =>
        go_wp2_with (fail)
        refine (ref4New_ok _ k n hh1 hh0 hh2).mono ?_
        rintro e u5 ⟨Ar, cr, rfl, hA, x5⟩
        go_wp2_with (fail)
        go_meet
        exact ⟨_, rfl, _, Ar, cr, rfl, rfl, ⟨heap_alloc_new _ _⟩, hA.ext (Ext.alloc _ _), x5.thenAlloc _⟩
      case rest =>
        obtain ⟨u5, rfl, gb, Ar, cr, rfl, rfl, hB, hA, y1⟩ := hcut
        clear k0 k1
        clear HX
        have y0 := y1
        replace hD := hD.ext y0
        replace hS := hS.ext y0
        replace hl := hl.ext y0
        replace hb := hb.ext y0
        replace hX := hX.ext y0
        replace hC := hC.ext y0
        replace x0 := Ext.trans x0 y0
        clear y0
        clear y1
        have b0 : ((0 : Int) != 0) = false := by simp
        have k5 := hX.cell 5 rfl
        have k6 := hX.cell 6 rfl
        have HSS := Lib.hid (fun (W : World) (hW : Ext u5 W) => (⟨hW.cell k5, hW.cell k6⟩ : W.cell? ⟨gx, 5, none⟩ = some (.slice A n0 c0) ∧ W.cell? ⟨gx, 6, none⟩ = some (.slice A' n1 c1)))
        have HC1 := Lib.hid (fun (W : World) (hW : Ext u5 W) => copy_p W A n0 c0 D (hD.ext hW) HSM1.out)
        have HC2 := Lib.hid (fun (W : World) (hW : Ext u5 W) => copy_p W A' n1 c1 S (hS.ext hW) HSM2.out)
        go_wp2_with (fail)
        go_region_held3 (fun W => W.cell? ⟨gx, 5, none⟩ = some (.slice A n0 c0) ∧ W.cell? ⟨gx, 6, none⟩ = some (.slice A' n1 c1))
          (first | exact HSS.out _ (Ext.drew _) | exact HSS.out _ z2 | exact HSS.out _ z1)
          (first
            | (((with_reducible refine (HC1.out _ (Ext.drew _)).mono ?_); (rintro e u6 ⟨Ad, cd, rfl, hd, y1⟩; have z1 : Ext u5 u6 := (Ext.drew u5).trans y1; have HD6 := Lib.hid hd; clear hd)))
            | (((with_reducible refine (HC2.out _ z1).mono ?_); (rintro e u7 ⟨As, cs, rfl, hs, y2⟩; have z2 : Ext u5 u7 := z1.trans y2)))
            | fail)
        all_goals
          clear k5 k6
          have hd := HD6.out.ext y2
          have y0 := z2
          replace hD := hD.ext y0
          replace hS := hS.ext y0
          replace hl := hl.ext y0
          replace hb := hb.ext y0
          replace hX := hX.ext y0
          replace hC := hC.ext y0
          replace hB := hB.ext y0
          replace hA := hA.ext y0
          replace x0 := Ext.trans x0 y0
          clear y0
          clear z1 z2 y1 y2 HD6 HSS HC1 HC2
          go_wp2_with (fail)
          refine (encode_any _ b fb k n hC Ad n0 cd D hd).mono ?_
          intro e u8 hg
          obtain ⟨Aa, ca, rfl, ha, y1⟩ := gives_mx hg
          clear hg
          have y0 := y1
          replace hD := hD.ext y0
          replace hS := hS.ext y0
          replace hl := hl.ext y0
          replace hb := hb.ext y0
          replace hX := hX.ext y0
          replace hC := hC.ext y0
          replace hB := hB.ext y0
          replace hA := hA.ext y0
          replace hd := hd.ext y0
          replace hs := hs.ext y0
          replace x0 := Ext.trans x0 y0
          clear y0
          clear y1
          have k5 := hX.cell 5 rfl
          have o0 := hB.c0
          have o1 := hB.c1
          have o2 := hB.c2
          go_wp2_with (fail)
          refine (ref4Encode_any _ k n Ar cr hA hh1 hh0 hh2 A n0 c0 D hD).mono ?_
          intro e u9 hg
          obtain ⟨Ab, cb, rfl, hbb, y1⟩ := gives_mx hg
          clear hg
          clear k5
          have y0 := y1
          replace hD := hD.ext y0
          replace hS := hS.ext y0
          replace hl := hl.ext y0
          replace hb := hb.ext y0
          replace hX := hX.ext y0
          replace hC := hC.ext y0
          replace hB := hB.ext y0
          replace hA := hA.ext y0
          replace hd := hd.ext y0
          replace hs := hs.ext y0
          replace ha := ha.ext y0
          replace x0 := Ext.trans x0 y0
          clear y0
          clear y1
          clear o0 o1 o2
          have k7 := hX.cell 7 rfl
          go_wp2_with (fail)
          refine (decode_any _ b fb k n hC B q e0 l hl As n1 cs S hs).mono ?_
          intro e u10 hg
          obtain ⟨Ap, cp, rfl, hp, y1⟩ := gives_mx hg
          clear hg
          clear k7
          have y0 := y1
          replace hD := hD.ext y0
          replace hS := hS.ext y0
          replace hl := hl.ext y0
          replace hb := hb.ext y0
          replace hX := hX.ext y0
          replace hC := hC.ext y0
          replace hB := hB.ext y0
          replace hA := hA.ext y0
          replace hd := hd.ext y0
          replace hs := hs.ext y0
          replace ha := ha.ext y0
          replace hbb := hbb.ext y0
          replace x0 := Ext.trans x0 y0
          clear y0
          clear y1
          have k7 := hX.cell 7 rfl
          have k6 := hX.cell 6 rfl
          have o0 := hB.c0
          have o1 := hB.c1
          have o2 := hB.c2
          go_wp2_with (fail)
          refine (ref4Decode_any _ k n Ar cr hA hh1 hh0 hh2 B q e0 l hl A' n1 c1 S hS).mono ?_
          intro e u11 hg
          obtain ⟨Aq, cq, rfl, hq, y1⟩ := gives_mx hg
          clear hg
          clear k7 k6
          have y0 := y1
          replace hD := hD.ext y0
          replace hS := hS.ext y0
          replace hl := hl.ext y0
          replace hb := hb.ext y0
          replace hX := hX.ext y0
          replace hC := hC.ext y0
          replace hB := hB.ext y0
          replace hA := hA.ext y0
          replace hd := hd.ext y0
          replace hs := hs.ext y0
          replace ha := ha.ext y0
          replace hbb := hbb.ext y0
          replace hp := hp.ext y0
          replace x0 := Ext.trans x0 y0
          clear y0
          clear y1
          clear o0 o1 o2
          have k7 := hX.cell 7 rfl
          have k2 := hX.cell 2 rfl
          go_wp2_with (fail)
          refine (rebuild_any _ b fb k n hC B q e0 l hl As n1 cs S hs I).mono ?_
          rintro e u12 ⟨v, rfl, hv⟩
          have y1 := hv.ext
          obtain ⟨Al, cl, rfl, hr⟩ := hv.bs
          clear hv
          clear k7 k2
          have y0 := y1
          replace hD := hD.ext y0
          replace hS := hS.ext y0
          replace hl := hl.ext y0
          replace hb := hb.ext y0
          replace hX := hX.ext y0
          replace hC := hC.ext y0
          replace hB := hB.ext y0
          replace hA := hA.ext y0
          replace hd := hd.ext y0
          replace hs := hs.ext y0
          replace ha := ha.ext y0
          replace hbb := hbb.ext y0
          replace hp := hp.ext y0
          replace hq := hq.ext y0
          replace x0 := Ext.trans x0 y0
          clear y0
          clear y1
          have k7 := hX.cell 7 rfl
          have k6 := hX.cell 6 rfl
          have k2 := hX.cell 2 rfl
          have o0 := hB.c0
          have o1 := hB.c1
          have o2 := hB.c2
          go_wp2_with (fail)
          refine (ref4Rebuild_any _ k n Ar cr hA hh1 hh0 hh2 B q e0 l hl A' n1 c1 S hS I).mono ?_
          rintro e u13 ⟨Am, cm, rfl, hm, y1⟩
          clear k7 k6 k2
          clear o0 o1 o2
          have y0 := y1
          replace hD := hD.ext y0
          replace hS := hS.ext y0
          replace hl := hl.ext y0
          replace hb := hb.ext y0
          replace hX := hX.ext y0
          replace hC := hC.ext y0
          replace hB := hB.ext y0
          replace hA := hA.ext y0
          replace hd := hd.ext y0
          replace hs := hs.ext y0
          replace ha := ha.ext y0
          replace hbb := hbb.ext y0
          replace hp := hp.ext y0
          replace hq := hq.ext y0
          replace hr := hr.ext y0
          replace x0 := Ext.trans x0 y0
          clear y0
          clear y1
          generalize rebL k n l S I = RL at *
          generalize rebE k n l S I = RE at *
          generalize decM k n l S = DM at *
          generalize decE k n l S = DE at *
          generalize encM k n D = EM at *
          generalize encE k D = EE at *
          have b1 : (EE != EE) = false := by simp
          have b2 : (DE != DE) = false := by simp
          have b3 : (RE != RE) = false := by simp
          have b4 : ((k : Int) != k) = false := by simp
          have b5 : ((n : Int) != n) = false := by simp
          have k5 := hX.cell 5 rfl
          have k6 := hX.cell 6 rfl
          have o0 := hB.c0
          have o1 := hB.c1
          have o2 := hB.c2
          have HSS := Lib.hid (fun (W : World) (hW : Ext u13 W) => (⟨hW.cell k5, hW.cell k6, hW.cell o0, hW.cell o1, hW.cell o2⟩ : W.cell? ⟨gx, 5, none⟩ = some (.slice A n0 c0) ∧ W.cell? ⟨gx, 6, none⟩ = some (.slice A' n1 c1) ∧ W.cell? ⟨gb, 0, none⟩ = some (.int .i64 (k : Int)) ∧ W.cell? ⟨gb, 1, none⟩ = some (.int .i64 (n : Int)) ∧ W.cell? ⟨gb, 2, none⟩ = some (.slice Ar n cr)))
          have HC1 := Lib.hid (fun (W : World) (hW : Ext u13 W) => same_p W Aa Ab _ ca cb EM (ha.ext hW) (hbb.ext hW))
          have HC2 := Lib.hid (fun (W : World) (hW : Ext u13 W) => same_p W Ap Aq _ cp cq DM (hp.ext hW) (hq.ext hW))
          have HC3 := Lib.hid (fun (W : World) (hW : Ext u13 W) => sameB_p W Al Am _ cl cm RL (hr.ext hW) (hm.ext hW))
          have HC4 := Lib.hid (fun (W : World) (hW : Ext u13 W) => same_p W Ad A _ cd c0 D (hd.ext hW) (hD.ext hW))
          have HC5 := Lib.hid (fun (W : World) (hW : Ext u13 W) => same_p W As A' _ cs c1 S (hs.ext hW) (hS.ext hW))
          have HC6 := Lib.hid (fun (W : World) (hW : Ext u13 W) => matrix_p W b fb k n (hC.ext hW))
          have HC7 := Lib.hid (fun (W : World) (hW : Ext u13 W) (A3 : Option Addr) (c3 : Nat) (h : Mx W A3 n c3 (Gm.gen k n)) => sameM_p W A3 Ar n c3 cr _ h (hA.ext hW))
          have HC8 := Lib.hid (fun (W : World) (hW : Ext u13 W) => need_any W b fb k n (hC.ext hW))
          have HC9 := Lib.hid (fun (W : World) (hW : Ext u13 W) => all_any W b fb k n (hC.ext hW))
          go_wp2_with (fail)
          go_region_held3 (fun W => W.cell? ⟨gx, 5, none⟩ = some (.slice A n0 c0) ∧ W.cell? ⟨gx, 6, none⟩ = some (.slice A' n1 c1) ∧ W.cell? ⟨gb, 0, none⟩ = some (.int .i64 (k : Int)) ∧ W.cell? ⟨gb, 1, none⟩ = some (.int .i64 (n : Int)) ∧ W.cell? ⟨gb, 2, none⟩ = some (.slice Ar n cr))
            (first | exact HSS.out _ (Ext.drew _) | exact HSS.out _ z7 | exact HSS.out _ z6 | exact HSS.out _ z5 | exact HSS.out _ z4 | exact HSS.out _ z2 | exact HSS.out _ z1)
            (first
              | (((with_reducible refine (HC1.out _ (Ext.drew _)).mono ?_); (rintro e v1 ⟨rfl, y1⟩; have z1 : Ext u13 v1 := (Ext.drew u13).trans y1)))
              | (((with_reducible refine (HC2.out _ z1).mono ?_); (rintro e v2 ⟨rfl, y2⟩; have z2 : Ext u13 v2 := z1.trans y2)))
              | (((with_reducible refine (HC3.out _ z2).mono ?_); (rintro e v3 ⟨rfl, rfl⟩)))
              | (((with_reducible refine (HC4.out _ z2).mono ?_); (rintro e v4 ⟨rfl, y4⟩; have z4 : Ext u13 v4 := z2.trans y4)))
              | (((with_reducible refine (HC5.out _ z4).mono ?_); (rintro e v5 ⟨rfl, y5⟩; have z5 : Ext u13 v5 := z4.trans y5)))
              | (((with_reducible refine (HC6.out _ z5).mono ?_); (rintro e v6 ⟨A6, c6, rfl, h6, y6⟩; have z6 : Ext u13 v6 := z5.trans y6; have H6 := Lib.hid h6; clear h6)))
              | (((with_reducible refine (HC7.out _ z6 A6 c6 H6.out).mono ?_); (rintro e v7 ⟨rfl, y7⟩; have z7 : Ext u13 v7 := z6.trans y7)))
              | (((with_reducible refine (HC8.out _ z7).mono ?_); (rintro e v8 ⟨rfl, rfl⟩)))
              | (((with_reducible refine (HC9.out _ z7).mono ?_); (rintro e v9 ⟨rfl, rfl⟩)))
              | fail)
          all_goals
            clear k5 k6
            clear o0 o1 o2
            clear ha hbb hp hq hr hm hl hs hS HSS HC1 HC2 HC3 HC4 HC5 HC6 HC7 HC8 HC9 H6
            have y0 := z7
            replace hD := hD.ext y0
            replace hb := hb.ext y0
            replace hX := hX.ext y0
            replace hC := hC.ext y0
            replace hB := hB.ext y0
            replace hA := hA.ext y0
            replace hd := hd.ext y0
            replace x0 := Ext.trans x0 y0
            clear y0
            clear z1 z2 z4 z5 z6 z7 y1 y2 y4 y5 y6 y7
            have k5 := hX.cell 5 rfl
            have o0 := hB.c0
            have o1 := hB.c1
            have o2 := hB.c2
            obtain ⟨FB, hFB⟩ : ∃ x, fitsB k n D = x := ⟨_, rfl⟩
            have b6 : (FB != FB) = false := by simp
            have HSS := Lib.hid (fun (W : World) (hW : Ext v7 W) => (⟨hW.cell k5, hW.cell o0, hW.cell o1, hW.cell o2⟩ : W.cell? ⟨gx, 5, none⟩ = some (.slice A n0 c0) ∧ W.cell? ⟨gb, 0, none⟩ = some (.int .i64 (k : Int)) ∧ W.cell? ⟨gb, 1, none⟩ = some (.int .i64 (n : Int)) ∧ W.cell? ⟨gb, 2, none⟩ = some (.slice Ar n cr)))
            have HC1 := Lib.hid (fun (W : World) (hW : Ext v7 W) => fits_any W b fb k n (hC.ext hW) Ad n0 cd D (hd.ext hW))
            have HC2 := Lib.hid (fun (W : World) (hW : Ext v7 W) => lawFits_any W k n Ar cr (hA.ext hW) hh1 hh0 hh2 A n0 c0 D (hD.ext hW))
            rw [hFB] at HC1 HC2
            clear hFB
            go_wp2_with (fail)
            go_region_held3 (fun W => W.cell? ⟨gx, 5, none⟩ = some (.slice A n0 c0) ∧ W.cell? ⟨gb, 0, none⟩ = some (.int .i64 (k : Int)) ∧ W.cell? ⟨gb, 1, none⟩ = some (.int .i64 (n : Int)) ∧ W.cell? ⟨gb, 2, none⟩ = some (.slice Ar n cr))
              (first | exact HSS.out _ (Ext.drew _) | exact HSS.out _ z2 | exact HSS.out _ z1)
              (first
                | (((with_reducible refine (HC1.out _ (Ext.drew _)).mono ?_); (rintro e r1 ⟨rfl, y1⟩; have z1 : Ext v7 r1 := (Ext.drew v7).trans y1)))
                | (((with_reducible refine (HC2.out _ z1).mono ?_); (rintro e r2 ⟨rfl, y2⟩; have z2 : Ext v7 r2 := z1.trans y2)))
                | fail)
            all_goals
              clear k5
              clear o0 o1 o2
              clear HSS HC1 HC2 b6
              clear hd hD
              have y0 := z2
              replace hb := hb.ext y0
              replace hX := hX.ext y0
              replace hC := hC.ext y0
              replace hB := hB.ext y0
              replace hA := hA.ext y0
              replace x0 := Ext.trans x0 y0
              clear y0
              clear z1 z2 y1 y2
              have HSL := Lib.hid (show (splS bs k Sz).length ≤ 1000 by have := splS_le (l := bs) (size := Sz) hh1; have := LB.out; have := HQ.out; omega)
              have k8 := hX.cell 8 rfl
              have k3 := hX.cell 3 rfl
              go_wp2_with (fail)
              refine (split_p _ b fb k n hC F g f0 bs hb Sz (by have := HQ.out; omega)).mono ?_
              rintro e r3 ⟨At, ct, rfl, ht, y1⟩
              clear k8 k3
              have y0 := y1
              replace hb := hb.ext y0
              replace hX := hX.ext y0
              replace hC := hC.ext y0
              replace hB := hB.ext y0
              replace hA := hA.ext y0
              replace x0 := Ext.trans x0 y0
              clear y0
              clear y1
              have k8 := hX.cell 8 rfl
              have k3 := hX.cell 3 rfl
              have o0 := hB.c0
              have o1 := hB.c1
              have o2 := hB.c2
              go_wp2_with (fail)
              refine (split_d _ k n Ar cr hh1 (by omega) F g f0 bs hb Sz (by have := HQ.out; omega)).mono ?_
              rintro e r4 ⟨Au, cu, rfl, hu, y1⟩
              clear k8 k3
              clear o0 o1 o2
              have y0 := y1
              replace hb := hb.ext y0
              replace hX := hX.ext y0
              replace hC := hC.ext y0
              replace hB := hB.ext y0
              replace hA := hA.ext y0
              replace ht := ht.ext y0
              replace x0 := Ext.trans x0 y0
              clear y0
              clear y1
              generalize splS bs k Sz = SS at *
              generalize splE Sz = SE at *
              have qu1 := hu.max
              have qu2 := hu.le
              have qt1 := ht.max
              have qt2 := ht.le
              have k4 := hX.cell 4 rfl
              go_wp2_with (fail)
              refine (join_any _ b fb k n hC Au _ cu SS hu HSL.out Len).mono ?_
              intro e r5 hg
              have hg' := hg
              obtain ⟨Ay, cy, rfl, hy, y1⟩ := hg
              clear k4
              clear hg'
              have y0 := y1
              replace hb := hb.ext y0
              replace hX := hX.ext y0
              replace hC := hC.ext y0
              replace hB := hB.ext y0
              replace hA := hA.ext y0
              replace ht := ht.ext y0
              replace hu := hu.ext y0
              replace x0 := Ext.trans x0 y0
              clear y0
              clear y1
              have k4 := hX.cell 4 rfl
              have o0 := hB.c0
              have o1 := hB.c1
              have o2 := hB.c2
              go_wp2_with (fail)
              refine (ref4Join_any _ k n Ar cr hA hh1 hh0 hh2 Au _ cu SS hu HSL.out Len).mono ?_
              rintro e r6 ⟨Az, cz, rfl, hz, y1⟩
              clear k4
              clear o0 o1 o2
              have y0 := y1
              replace hb := hb.ext y0
              replace hX := hX.ext y0
              replace hC := hC.ext y0
              replace hB := hB.ext y0
              replace hA := hA.ext y0
              replace ht := ht.ext y0
              replace hu := hu.ext y0
              replace hy := hy.ext y0
              replace x0 := Ext.trans x0 y0
              clear y0
              clear y1
              generalize joinL k SS Len = JL at *
              generalize joinE k SS Len = JE at *
              go_wp2_with (fail)
              refine (lawSame_any _ At Au _ ct cu SS ht hu).mono ?_
              rintro e r7 ⟨rfl, y1⟩
              have y0 := y1
              replace hb := hb.ext y0
              replace hX := hX.ext y0
              replace hC := hC.ext y0
              replace hB := hB.ext y0
              replace hA := hA.ext y0
              replace ht := ht.ext y0
              replace hu := hu.ext y0
              replace hy := hy.ext y0
              replace hz := hz.ext y0
              replace x0 := Ext.trans x0 y0
              clear y0
              clear y1
              go_wp2_with (fail)
              refine (sameB_p _ Ay Az _ cy cz JL hy hz).mono ?_
              rintro e r8 ⟨rfl, rfl⟩
              go_wp2_with (fail)
              refine (awake_any4 _).mono ?_
              rintro e r9 ⟨rfl, y1⟩
              go_wp2_with (fail)
              go_ret
              exact ⟨rfl, x0.trans y1⟩
    · rw [decide_eq_false h2] at hs2
      have HS1 := Lib.hid hs1
      have HS2 := Lib.hid hs2
      have HX := Lib.hid hX
      clear hs1 hs2 h1 h2 hD hS hl hb hX
      go_enter Try.func7, Try.ntmps7
      try dsimp only [List.append]
      go_wp2_with (fail)
      refine HS1.out.mono ?_
      rintro e u1 ⟨rfl, x1⟩
      have k6 := (HX.out.ext x1).cell 6 rfl
      go_wp2_with (fail)
      refine (HS2.out u1 (xA.trans x1)).mono ?_
      rintro e u2 ⟨rfl, x2⟩
      go_wp2_with (fail)
      refine (awake_any4 _).mono ?_
      rintro e u3 ⟨rfl, x3⟩
      go_wp2_with (fail)
      go_ret
      exact ⟨rfl, ((xA.trans x1).trans x2).trans x3⟩
  · rw [decide_eq_false h1] at hs1
    have HS1 := Lib.hid hs1
    clear hs1 hs2 h1 hD hS hl hb hX
    go_enter Try.func7, Try.ntmps7
    try dsimp only [List.append]
    go_wp2_with (fail)
    refine HS1.out.mono ?_
    rintro e u1 ⟨rfl, x1⟩
    go_wp2_with (fail)
    refine (awake_any4 _).mono ?_
    rintro e u3 ⟨rfl, x3⟩
    go_wp2_with (fail)
    go_ret
    exact ⟨rfl, (xA.trans x1).trans x3⟩
namespace codeTells
set_option maxRecDepth 100000 in
theorem walk {H : Type} {enc : TypeId × Value → H} {base : Nat} (w : World) (v0 : Value) (d0 : DataW H) (p0 : List MemPlace) (o0 : Value.okWide Try.prog w .any base 59 v0) (h0 : DataW.Trod enc Try.prog w 0 (fun _ => true) true 59 v0 d0 p0) :
    Calls Try.prog 7 #[v0] w fun e w' => e = .returned (.bool true) ∧ Ext w w' := by
  obtain ⟨a0, a1, a2, a3, a4, A, n, c, D, A', n', c', S, B, q, e, l, F, g, f, bs, rfl, hD, hS, hl, hb⟩ := case_open o0 h0
  exact codeTells_any w a0 a1 a2 a3 a4 A A' B F n c n' c' q e g f D S l bs hD hS hl hb
end codeTells
end Go.Proofs.Ytfpcldkfmcnjkaa
