/- The chapter's examples come out as written: awake returns true. -/
import Derived.Test.YtgfhpgomlocllaaRoundPub
import Derived.Test.YtgfhpgomlocllaaRoundTolds
import Derived.Test.YtgfhpgomlocllaaRoundWantsLaw
namespace Go.Proofs.Ytgfhpgomlocllaa
open Go.RowKit

set_option maxRecDepth 100000 in
set_option maxHeartbeats 4000000 in
theorem awake_any (w : World) :
    Calls Try.prog 13 #[] w fun e w' => e = .returned (.bool true) ∧ Ext w w' := by
  have k1 : Rounds.begun 7 1 2 3 = ⟨7, 1, 2, 1, [0, 0, 0]⟩ := by decide
  have k2 : decide (Rounds.wants ⟨7, 1, 2, 1, [0, 0, 0]⟩ = [(0, 1), (1, 1), (2, 1)]) = true := by decide +kernel
  have k3 : tolds ⟨7, 1, 2, 1, [0, 0, 0]⟩ [(0, 1, 0), (2, 1, 62)] = ⟨7, 1, 2, 1, [1, 0, 3]⟩ ∧ toldsOk ⟨7, 1, 2, 1, [0, 0, 0]⟩ [(0, 1, 0), (2, 1, 62)] = true := by decide +kernel
  have k4 : tolds ⟨7, 1, 2, 1, [1, 0, 3]⟩ [(1, 1, 0)] = ⟨7, 1, 2, 2, [1, 1, 3]⟩ ∧ toldsOk ⟨7, 1, 2, 1, [1, 0, 3]⟩ [(1, 1, 0)] = true := by decide +kernel
  have k5 : Rounds.publish ⟨7, 1, 2, 2, [1, 1, 3]⟩ = ⟨7, 1, 2, 3, [1, 1, 3]⟩ ∧ Rounds.turnedE ⟨7, 1, 2, 2, [1, 1, 3]⟩ [2] = 0 := by decide +kernel
  have k6 : decide (Rounds.wants ⟨7, 1, 2, 3, [1, 1, 3]⟩ = [(0, 2), (1, 2), (2, 1)]) = true := by decide +kernel
  have k7 : tolds ⟨7, 1, 2, 3, [1, 1, 3]⟩ [(0, 2, 0), (1, 2, 0), (2, 1, 0), (2, 2, 0)] = ⟨7, 1, 2, 4, [2, 2, 2]⟩ ∧ toldsOk ⟨7, 1, 2, 3, [1, 1, 3]⟩ [(0, 2, 0), (1, 2, 0), (2, 1, 0), (2, 2, 0)] = true := by decide +kernel
  have k8 : tolds ⟨7, 1, 2, 1, [0, 0, 0]⟩ [(0, 1, 62), (1, 1, 61)] = ⟨7, 1, 2, 5, [3, 3, 0]⟩ ∧ toldsOk ⟨7, 1, 2, 1, [0, 0, 0]⟩ [(0, 1, 62), (1, 1, 61)] = true := by decide +kernel
  have k9 : decide (Rounds.wants ⟨7, 1, 2, 5, [3, 3, 0]⟩ = [(0, 3), (1, 3), (2, 3)]) = true := by decide +kernel
  have K1 := Lib.hid k1
  have K2 := Lib.hid k2
  have K3 := Lib.hid k3
  have K4 := Lib.hid k4
  have K5 := Lib.hid k5
  have K6 := Lib.hid k6
  have K7 := Lib.hid k7
  have K8 := Lib.hid k8
  have K9 := Lib.hid k9
  clear k1 k2 k3 k4 k5 k6 k7 k8 k9
  go_enter Try.func13, Try.ntmps13
  try dsimp only [List.append]
  go_wp2_with (fail)
  refine (begin_ok w 7 1 2 3 (by unfold Rounds.named; omega)).mono ?_
  rintro x w1 ⟨Ar, nr, cr, rfl, ir, _, x1⟩
  rw [K1.out] at ir ⊢
  have ir : Is w1 Ar nr cr [0, 0, 0] := ir
  have X := Lib.hid x1
  clear x1
  -- the steps, printed by a small program
  go_wp2_with (fail)
  refine (lawWants_any _ ⟨7, 1, 2, 1, [0, 0, 0]⟩ Ar nr cr ((ir.up _).up _) _ 3 3 [(0, 1), (1, 1), (2, 1)] (Qs.lit _ [(0, 1), (1, 1), (2, 1)] _ _ 3 (by simp) rfl rfl (by omega)) (by omega) (by decide)).mono ?_
  rintro y w2 ⟨rfl, xn⟩
  rw [K2.out]
  have y0 : Ext w1 w2 := (((Ext.refl w1).thenAlloc _).thenAlloc _).trans xn
  have bxr := ((Bx.new w1 7 1 2 1 (.slice Ar nr cr) rfl).ext (Ext.alloc _ _)).ext xn
  replace ir := ir.ext y0
  replace X := Lib.hid (X.out.trans y0)
  generalize w1.heap.size = gr at *
  clear y0 xn
  have ur0 := bxr.c0
  have ur1 := bxr.c1
  have ur2 := bxr.c2
  have ur3 := bxr.c3
  have ur4 := bxr.c4
  have url := bxr.lt
  go_wp2_with (fail)
  refine (tolds_any _ ⟨7, 1, 2, 1, [0, 0, 0]⟩ Ar nr cr (ir.up _) (by have := ir.len; simp at this; omega) _ 2 2 [(0, 1, 0), (2, 1, 62)] (Ts.lit _ [(0, 1, 0), (2, 1, 62)] _ _ 2 (by simp) rfl rfl (by omega)) (by decide)).mono ?_
  rintro y w3 ⟨Aa, na, ca, rfl, ia, xn⟩
  rw [K3.out.1] at ia ⊢
  rw [K3.out.2]
  replace ia : Is w3 Aa na ca [1, 0, 3] := ia
  clear ur0 ur1 ur2 ur3 ur4 url
  have y0 : Ext w2 w3 := ((Ext.refl w2).thenAlloc _).trans xn
  replace ir := ir.ext y0
  replace bxr := bxr.ext y0
  replace X := Lib.hid (X.out.trans y0)
  clear y0 xn
  go_wp2_with (fail)
  refine (tolds_any _ ⟨7, 1, 2, 1, [1, 0, 3]⟩ Aa na ca ((ia.up _).up _) (by have := ia.len; simp at this; omega) _ 1 1 [(1, 1, 0)] (Ts.lit _ [(1, 1, 0)] _ _ 1 (by simp) rfl rfl (by omega)) (by decide)).mono ?_
  rintro y w4 ⟨Ab, nb, cb, rfl, ib, xn⟩
  rw [K4.out.1] at ib ⊢
  rw [K4.out.2]
  replace ib : Is w4 Ab nb cb [1, 1, 3] := ib
  have y0 : Ext w3 w4 := (((Ext.refl w3).thenAlloc _).thenAlloc _).trans xn
  have bxa := ((Bx.new w3 7 1 2 1 (.slice Aa na ca) rfl).ext (Ext.alloc _ _)).ext xn
  replace ir := ir.ext y0
  replace bxr := bxr.ext y0
  replace ia := ia.ext y0
  replace X := Lib.hid (X.out.trans y0)
  generalize w3.heap.size = ga at *
  clear y0 xn
  go_wp2_with (fail)
  refine (publish_any _ ⟨7, 1, 2, 2, [1, 1, 3]⟩ Ab nb cb (ib.up _) (by have := ib.len; simp at this; omega)).mono ?_
  rintro y w5 ⟨Ap, np, cp, rfl, ip, _, xn⟩
  rw [K5.out.1] at ip ⊢
  rw [K5.out.2]
  replace ip : Is w5 Ap np cp [1, 1, 3] := ip
  have y0 : Ext w4 w5 := ((Ext.refl w4).thenAlloc _).trans xn
  have bxb := (Bx.new w4 7 1 2 2 (.slice Ab nb cb) rfl).ext xn
  replace ir := ir.ext y0
  replace bxr := bxr.ext y0
  replace ia := ia.ext y0
  replace bxa := bxa.ext y0
  replace ib := ib.ext y0
  replace X := Lib.hid (X.out.trans y0)
  generalize w4.heap.size = gb at *
  clear y0 xn
  have ua0 := bxa.c0
  have ua1 := bxa.c1
  have ua2 := bxa.c2
  have ua3 := bxa.c3
  have ua4 := bxa.c4
  have ual := bxa.lt
  have ub0 := bxb.c0
  have ub1 := bxb.c1
  have ub2 := bxb.c2
  have ub3 := bxb.c3
  have ub4 := bxb.c4
  have ubl := bxb.lt
  go_wp2_with (fail)
  refine (lawWants_any _ ⟨7, 1, 2, 3, [1, 1, 3]⟩ Ap np cp ((ip.up _).up _) _ 3 3 [(0, 2), (1, 2), (2, 1)] (Qs.lit _ [(0, 2), (1, 2), (2, 1)] _ _ 3 (by simp) rfl rfl (by omega)) (by omega) (by decide)).mono ?_
  rintro y w6 ⟨rfl, xn⟩
  rw [K6.out]
  clear ua0 ua1 ua2 ua3 ua4 ual
  clear ub0 ub1 ub2 ub3 ub4 ubl
  have y0 : Ext w5 w6 := (((Ext.refl w5).thenAlloc _).thenAlloc _).trans xn
  have bxp := ((Bx.new w5 7 1 2 3 (.slice Ap np cp) rfl).ext (Ext.alloc _ _)).ext xn
  replace ir := ir.ext y0
  replace bxr := bxr.ext y0
  replace ia := ia.ext y0
  replace bxa := bxa.ext y0
  replace ib := ib.ext y0
  replace bxb := bxb.ext y0
  replace ip := ip.ext y0
  replace X := Lib.hid (X.out.trans y0)
  generalize w5.heap.size = gp at *
  clear y0 xn
  have up0 := bxp.c0
  have up1 := bxp.c1
  have up2 := bxp.c2
  have up3 := bxp.c3
  have up4 := bxp.c4
  have upl := bxp.lt
  go_wp2_with (fail)
  refine (tolds_any _ ⟨7, 1, 2, 3, [1, 1, 3]⟩ Ap np cp (ip.up _) (by have := ip.len; simp at this; omega) _ 4 4 [(0, 2, 0), (1, 2, 0), (2, 1, 0), (2, 2, 0)] (Ts.lit _ [(0, 2, 0), (1, 2, 0), (2, 1, 0), (2, 2, 0)] _ _ 4 (by simp) rfl rfl (by omega)) (by decide)).mono ?_
  rintro y w7 ⟨Ad, nd, cd, rfl, id, xn⟩
  rw [K7.out.1] at id ⊢
  rw [K7.out.2]
  replace id : Is w7 Ad nd cd [2, 2, 2] := id
  clear up0 up1 up2 up3 up4 upl
  have y0 : Ext w6 w7 := ((Ext.refl w6).thenAlloc _).trans xn
  replace ir := ir.ext y0
  replace bxr := bxr.ext y0
  replace ia := ia.ext y0
  replace bxa := bxa.ext y0
  replace ib := ib.ext y0
  replace bxb := bxb.ext y0
  replace ip := ip.ext y0
  replace bxp := bxp.ext y0
  replace X := Lib.hid (X.out.trans y0)
  clear y0 xn
  have ur0 := bxr.c0
  have ur1 := bxr.c1
  have ur2 := bxr.c2
  have ur3 := bxr.c3
  have ur4 := bxr.c4
  have url := bxr.lt
  go_wp2_with (fail)
  refine (tolds_any _ ⟨7, 1, 2, 1, [0, 0, 0]⟩ Ar nr cr ((ir.up _).up _) (by have := ir.len; simp at this; omega) _ 2 2 [(0, 1, 62), (1, 1, 61)] (Ts.lit _ [(0, 1, 62), (1, 1, 61)] _ _ 2 (by simp) rfl rfl (by omega)) (by decide)).mono ?_
  rintro y w8 ⟨Ag, ng, cg, rfl, ig, xn⟩
  rw [K8.out.1] at ig ⊢
  rw [K8.out.2]
  replace ig : Is w8 Ag ng cg [3, 3, 0] := ig
  clear ur0 ur1 ur2 ur3 ur4 url
  have y0 : Ext w7 w8 := (((Ext.refl w7).thenAlloc _).thenAlloc _).trans xn
  have bxd := ((Bx.new w7 7 1 2 4 (.slice Ad nd cd) rfl).ext (Ext.alloc _ _)).ext xn
  replace ir := ir.ext y0
  replace bxr := bxr.ext y0
  replace ia := ia.ext y0
  replace bxa := bxa.ext y0
  replace ib := ib.ext y0
  replace bxb := bxb.ext y0
  replace ip := ip.ext y0
  replace bxp := bxp.ext y0
  replace id := id.ext y0
  replace X := Lib.hid (X.out.trans y0)
  generalize w7.heap.size = gd at *
  clear y0 xn
  have ud0 := bxd.c0
  have ud1 := bxd.c1
  have ud2 := bxd.c2
  have ud3 := bxd.c3
  have ud4 := bxd.c4
  have udl := bxd.lt
  go_wp2_with (fail)
  refine (lawWants_any _ ⟨7, 1, 2, 5, [3, 3, 0]⟩ Ag ng cg ((ig.up _).up _) _ 3 3 [(0, 3), (1, 3), (2, 3)] (Qs.lit _ [(0, 3), (1, 3), (2, 3)] _ _ 3 (by simp) rfl rfl (by omega)) (by omega) (by decide)).mono ?_
  rintro y w9 ⟨rfl, xn⟩
  rw [K9.out]
  clear ud0 ud1 ud2 ud3 ud4 udl
  have y0 : Ext w8 w9 := (((Ext.refl w8).thenAlloc _).thenAlloc _).trans xn
  have bxg := ((Bx.new w8 7 1 2 5 (.slice Ag ng cg) rfl).ext (Ext.alloc _ _)).ext xn
  replace ir := ir.ext y0
  replace bxr := bxr.ext y0
  replace ia := ia.ext y0
  replace bxa := bxa.ext y0
  replace ib := ib.ext y0
  replace bxb := bxb.ext y0
  replace ip := ip.ext y0
  replace bxp := bxp.ext y0
  replace id := id.ext y0
  replace bxd := bxd.ext y0
  replace ig := ig.ext y0
  replace X := Lib.hid (X.out.trans y0)
  generalize w8.heap.size = gg at *
  clear y0 xn
  go_wp2_with (fail)
  go_ret
  exact ⟨rfl, X.out⟩
end Go.Proofs.Ytgfhpgomlocllaa
