/- MatrixProducts' walk. -/
import Derived.Test.YtiianhlppkocgaaMatR
import Derived.Test.YtiianhlppkocgaaMatAwake
import Derived.Test.YtiianhlppkocgaaHold
namespace Go.Proofs.Ytiianhlppkocgaa
open Go.RowKit

namespace matrixProducts
set_option maxRecDepth 100000 in
set_option maxHeartbeats 4000000 in
theorem walk (w : World) (a0 : Int) (A1 : Option Addr) (n1 c1 : Nat) (z1 : List Int) (A2 : Option Addr) (n2 c2 : Nat) (z2 : List Int) (A3 : Option Addr) (n3 c3 : Nat) (z3 : List Int) (w0 : (Lit.int .u8 a0).wf = true) (w1 : IsRow .u8 w A1 n1 c1 z1) (w2 : IsRow .u8 w A2 n2 c2 z2) (w3 : IsRow .u8 w A3 n3 c3 z3) :
    Calls Try.prog 7 #[.int .u8 a0, .slice A1 n1 c1, .slice A2 n2 c2, .slice A3 n3 c3] w fun e w' => e = .returned (.bool true) ∧ Ext w w' := by
  obtain ⟨b0, rfl⟩ := wf_u8 w0
  obtain ⟨b1, h1⟩ := w1.bytes
  obtain ⟨b2, h2⟩ := w2.bytes
  obtain ⟨b3, h3⟩ := w3.bytes
  clear w0 w1 w2 w3
  obtain ⟨n, hn⟩ : ∃ n, 1 + b0.toNat % 7 = n := ⟨_, rfl⟩
  have hn1 : 1 ≤ n ∧ n ≤ 10 := by omega
  have HN := Lib.hid (show 1 ≤ n ∧ n ≤ 255 by omega)
  have en2 : (1 + (b0.toNat : Int) % 7) = (n : Int) := by omega
  have EN2 := Lib.hid en2
  have RX := Lib.hid (square_rect n b1)
  have RY := Lib.hid (square_rect n b2)
  have RZ := Lib.hid (square_rect n b3)
  have RXY := Lib.hid (Gm.mulL_rect' RX.out RY.out HN.out.1)
  have RYZ := Lib.hid (Gm.mulL_rect' RY.out RZ.out HN.out.1)
  have lx := b0.toNat_lt
  clear en2
  go_enter Try.func7, Try.ntmps7
  try dsimp only [List.append]
  go_wp2_with (fail)
  refine (new_any _).mono ?_
  rintro e w1 ⟨rfl, hf, y1⟩
  generalize hb : w.heap.size = fb at *
  have Hb := Lib.hid hb
  clear hb
  have y0 := y1
  replace h1 := h1.ext y0
  replace h2 := h2.ext y0
  replace h3 := h3.ext y0
  have x0 := y0
  clear y0
  clear y1
  go_wp2_with (fail)
  rw [EN2.out]
  refine (square_r _ n _ _ _ b1 h1 (by omega)).mono ?_
  rintro e u1 ⟨Ax, cx, rfl, hx, y1⟩
  clear h1
  have y0 := y1
  replace h2 := h2.ext y0
  replace h3 := h3.ext y0
  replace hf := hf.ext y0
  replace x0 := Ext.trans x0 y0
  clear y0
  clear y1
  generalize squareL n b1 = x at *
  go_wp2_with (fail)
  refine (square_r _ n _ _ _ b2 h2 (by omega)).mono ?_
  rintro e u2 ⟨Ay, cy, rfl, hy, y1⟩
  clear h2
  have y0 := y1
  replace h3 := h3.ext y0
  replace hf := hf.ext y0
  replace hx := hx.ext y0
  replace x0 := Ext.trans x0 y0
  clear y0
  clear y1
  generalize squareL n b2 = y at *
  go_wp2_with (fail)
  refine (square_r _ n _ _ _ b3 h3 (by omega)).mono ?_
  rintro e u3 ⟨Az, cz, rfl, hz, y1⟩
  clear h3
  have y0 := y1
  replace hf := hf.ext y0
  replace hx := hx.ext y0
  replace hy := hy.ext y0
  replace x0 := Ext.trans x0 y0
  clear y0
  clear y1
  generalize squareL n b3 = z at *
  go_wp2_with (fail)
  refine (unit_r _ n HN.out.1 HN.out.2).mono ?_
  rintro e u4 ⟨Au, cu, rfl, hu, y1⟩
  have y0 := y1
  replace hf := hf.ext y0
  replace hx := hx.ext y0
  replace hy := hy.ext y0
  replace hz := hz.ext y0
  replace x0 := Ext.trans x0 y0
  clear y0
  clear y1
  go_wp2_with (fail)
  refine (mul_r _ _ _ _ n _ n _ n x y hf hx hy RX.out RY.out HN.out HN.out HN.out).mono ?_
  rintro e u5 ⟨Axy, cxy, rfl, hxy, y1⟩
  have y0 := y1
  replace hf := hf.ext y0
  replace hx := hx.ext y0
  replace hy := hy.ext y0
  replace hz := hz.ext y0
  replace hu := hu.ext y0
  replace x0 := Ext.trans x0 y0
  clear y0
  clear y1
  go_wp2_with (fail)
  refine (mul_r _ _ _ _ n _ n _ n y z hf hy hz RY.out RZ.out HN.out HN.out HN.out).mono ?_
  rintro e u6 ⟨Ayz, cyz, rfl, hyz, y1⟩
  have y0 := y1
  replace hf := hf.ext y0
  replace hx := hx.ext y0
  replace hy := hy.ext y0
  replace hz := hz.ext y0
  replace hu := hu.ext y0
  replace hxy := hxy.ext y0
  replace x0 := Ext.trans x0 y0
  clear y0
  clear y1
  go_wp2_with (fail)
  refine (mul_r _ _ _ _ n _ n _ n (Gm.mulL x y) z hf hxy hz RXY.out RZ.out HN.out HN.out HN.out).mono ?_
  rintro e u7 ⟨Aone, cone, rfl, hone, y1⟩
  have y0 := y1
  replace hf := hf.ext y0
  replace hx := hx.ext y0
  replace hy := hy.ext y0
  replace hz := hz.ext y0
  replace hu := hu.ext y0
  replace hxy := hxy.ext y0
  replace hyz := hyz.ext y0
  replace x0 := Ext.trans x0 y0
  clear y0
  clear y1
  go_wp2_with (fail)
  refine (mul_r _ _ _ _ n _ n _ n x (Gm.mulL y z) hf hx hyz RX.out RYZ.out HN.out HN.out HN.out).mono ?_
  rintro e u8 ⟨Atwo, ctwo, rfl, htwo, y1⟩
  have y0 := y1
  replace hf := hf.ext y0
  replace hx := hx.ext y0
  replace hy := hy.ext y0
  replace hz := hz.ext y0
  replace hu := hu.ext y0
  replace hxy := hxy.ext y0
  replace hyz := hyz.ext y0
  replace hone := hone.ext y0
  replace x0 := Ext.trans x0 y0
  clear y0
  clear y1
  go_wp2_with (fail)
  refine (mul_r _ _ _ _ n _ n _ n x (Gm.unit n) hf hx hu RX.out (Gm.unit_rect n) HN.out HN.out HN.out).mono ?_
  rintro e u9 ⟨Asm, csm, rfl, hsm, y1⟩
  have y0 := y1
  replace hf := hf.ext y0
  replace hx := hx.ext y0
  replace hy := hy.ext y0
  replace hz := hz.ext y0
  replace hu := hu.ext y0
  replace hxy := hxy.ext y0
  replace hyz := hyz.ext y0
  replace hone := hone.ext y0
  replace htwo := htwo.ext y0
  replace x0 := Ext.trans x0 y0
  clear y0
  clear y1
  go_wp2_with (fail)
  refine (same_r _ _ _ n _ n _ _ _ hone htwo (Gm.mulL_assoc RX.out RY.out RZ.out HN.out.1 HN.out.1)).mono ?_
  rintro e u10 ⟨rfl, y1⟩
  have y0 := y1
  replace hf := hf.ext y0
  replace hx := hx.ext y0
  replace hy := hy.ext y0
  replace hz := hz.ext y0
  replace hu := hu.ext y0
  replace hxy := hxy.ext y0
  replace hyz := hyz.ext y0
  replace hone := hone.ext y0
  replace htwo := htwo.ext y0
  replace hsm := hsm.ext y0
  replace x0 := Ext.trans x0 y0
  clear y0
  clear y1
  clear hone htwo hyz hz
  go_wp2_with (fail)
  refine (same_r _ _ _ n _ n _ _ _ hsm hx (Gm.mulL_unit RX.out HN.out.1)).mono ?_
  rintro e u11 ⟨rfl, y1⟩
  have y0 := y1
  replace hf := hf.ext y0
  replace hx := hx.ext y0
  replace hy := hy.ext y0
  replace hu := hu.ext y0
  replace hxy := hxy.ext y0
  replace hsm := hsm.ext y0
  replace x0 := Ext.trans x0 y0
  clear y0
  clear y1
  clear hsm hu
  by_cases hrx : Gm.rank x = n
  · by_cases hry : Gm.rank y = n
    · have FXp := Lib.hid hrx
      have FXq := Lib.hid hry
      clear hrx hry
      have FXr := Lib.hid ((Gm.rank_product RX.out RY.out HN.out.1).1 ⟨FXp.out, FXq.out⟩)
      go_wp2_with (fail)
      refine (invert_r _ _ _ n _ x hf hx RX.out HN.out FXp.out).mono ?_
      rintro e u12 ⟨Ap, cp, rfl, hp, y1⟩
      have y0 := y1
      replace hf := hf.ext y0
      replace hx := hx.ext y0
      replace hy := hy.ext y0
      replace hxy := hxy.ext y0
      replace x0 := Ext.trans x0 y0
      clear y0
      clear y1
      go_wp2_with (fail)
      refine (invert_r _ _ _ n _ y hf hy RY.out HN.out FXq.out).mono ?_
      rintro e u13 ⟨Aq, cq, rfl, hq, y1⟩
      have y0 := y1
      replace hf := hf.ext y0
      replace hx := hx.ext y0
      replace hy := hy.ext y0
      replace hxy := hxy.ext y0
      replace hp := hp.ext y0
      replace x0 := Ext.trans x0 y0
      clear y0
      clear y1
      go_wp2_with (fail)
      refine (invert_r _ _ _ n _ (Gm.mulL x y) hf hxy RXY.out HN.out FXr.out).mono ?_
      rintro e u14 ⟨Ar, cr, rfl, hr, y1⟩
      have y0 := y1
      replace hf := hf.ext y0
      replace hx := hx.ext y0
      replace hy := hy.ext y0
      replace hxy := hxy.ext y0
      replace hp := hp.ext y0
      replace hq := hq.ext y0
      replace x0 := Ext.trans x0 y0
      clear y0
      clear y1
      go_wp2_with (fail)
      refine (mul_r _ _ _ _ n _ n _ n (Gm.invert y) (Gm.invert x) hf hq hp (Gm.inv_rect RY.out HN.out.1 FXq.out) (Gm.inv_rect RX.out HN.out.1 FXp.out) HN.out HN.out HN.out).mono ?_
      rintro e u15 ⟨Aqp, cqp, rfl, hqp, y1⟩
      have y0 := y1
      replace hf := hf.ext y0
      replace hx := hx.ext y0
      replace hy := hy.ext y0
      replace hxy := hxy.ext y0
      replace hp := hp.ext y0
      replace hq := hq.ext y0
      replace hr := hr.ext y0
      replace x0 := Ext.trans x0 y0
      clear y0
      clear y1
      go_wp2_with (fail)
      refine (same_r _ _ _ n _ n _ _ _ hqp hr (Gm.inv_product RX.out RY.out HN.out.1 FXp.out FXq.out).symm).mono ?_
      rintro e u16 ⟨rfl, y1⟩
      have y0 := y1
      replace hf := hf.ext y0
      replace hx := hx.ext y0
      replace hy := hy.ext y0
      replace hxy := hxy.ext y0
      replace hp := hp.ext y0
      replace hq := hq.ext y0
      replace hr := hr.ext y0
      replace hqp := hqp.ext y0
      replace x0 := Ext.trans x0 y0
      clear y0
      clear y1
      go_wp2_with (fail)
      refine (awake_any3 _).mono ?_
      rintro e u17 ⟨rfl, y1⟩
      have y0 := y1
      replace hf := hf.ext y0
      replace hx := hx.ext y0
      replace hy := hy.ext y0
      replace hxy := hxy.ext y0
      replace hp := hp.ext y0
      replace hq := hq.ext y0
      replace hr := hr.ext y0
      replace hqp := hqp.ext y0
      replace x0 := Ext.trans x0 y0
      clear y0
      clear y1
      go_wp2_with (fail)
      go_ret
      exact ⟨rfl, x0⟩
    · have FXp := Lib.hid hrx
      have FXq := Lib.hid hry
      clear hrx hry
      have FXr := Lib.hid (fun q => FXq.out ((Gm.rank_product RX.out RY.out HN.out.1).2 q).2)
      go_wp2_with (fail)
      refine (invert_r _ _ _ n _ x hf hx RX.out HN.out FXp.out).mono ?_
      rintro e u12 ⟨Ap, cp, rfl, hp, y1⟩
      have y0 := y1
      replace hf := hf.ext y0
      replace hx := hx.ext y0
      replace hy := hy.ext y0
      replace hxy := hxy.ext y0
      replace x0 := Ext.trans x0 y0
      clear y0
      clear y1
      go_wp2_with (fail)
      refine (invert_s _ _ _ n _ y hf hy RY.out HN.out FXq.out).mono ?_
      rintro e u13 ⟨Aq, cq, rfl, hq, y1⟩
      have y0 := y1
      replace hf := hf.ext y0
      replace hx := hx.ext y0
      replace hy := hy.ext y0
      replace hxy := hxy.ext y0
      replace hp := hp.ext y0
      replace x0 := Ext.trans x0 y0
      clear y0
      clear y1
      go_wp2_with (fail)
      refine (invert_s _ _ _ n _ (Gm.mulL x y) hf hxy RXY.out HN.out FXr.out).mono ?_
      rintro e u14 ⟨Ar, cr, rfl, hr, y1⟩
      have y0 := y1
      replace hf := hf.ext y0
      replace hx := hx.ext y0
      replace hy := hy.ext y0
      replace hxy := hxy.ext y0
      replace hp := hp.ext y0
      replace hq := hq.ext y0
      replace x0 := Ext.trans x0 y0
      clear y0
      clear y1
      go_wp2_with (fail)
      refine (awake_any3 _).mono ?_
      rintro e u17 ⟨rfl, y1⟩
      have y0 := y1
      replace hf := hf.ext y0
      replace hx := hx.ext y0
      replace hy := hy.ext y0
      replace hxy := hxy.ext y0
      replace hp := hp.ext y0
      replace hq := hq.ext y0
      replace hr := hr.ext y0
      replace x0 := Ext.trans x0 y0
      clear y0
      clear y1
      go_wp2_with (fail)
      go_ret
      exact ⟨rfl, x0⟩
  · by_cases hry : Gm.rank y = n
    · have FXp := Lib.hid hrx
      have FXq := Lib.hid hry
      clear hrx hry
      have FXr := Lib.hid (fun q => FXp.out ((Gm.rank_product RX.out RY.out HN.out.1).2 q).1)
      go_wp2_with (fail)
      refine (invert_s _ _ _ n _ x hf hx RX.out HN.out FXp.out).mono ?_
      rintro e u12 ⟨Ap, cp, rfl, hp, y1⟩
      have y0 := y1
      replace hf := hf.ext y0
      replace hx := hx.ext y0
      replace hy := hy.ext y0
      replace hxy := hxy.ext y0
      replace x0 := Ext.trans x0 y0
      clear y0
      clear y1
      go_wp2_with (fail)
      refine (invert_r _ _ _ n _ y hf hy RY.out HN.out FXq.out).mono ?_
      rintro e u13 ⟨Aq, cq, rfl, hq, y1⟩
      have y0 := y1
      replace hf := hf.ext y0
      replace hx := hx.ext y0
      replace hy := hy.ext y0
      replace hxy := hxy.ext y0
      replace hp := hp.ext y0
      replace x0 := Ext.trans x0 y0
      clear y0
      clear y1
      go_wp2_with (fail)
      refine (invert_s _ _ _ n _ (Gm.mulL x y) hf hxy RXY.out HN.out FXr.out).mono ?_
      rintro e u14 ⟨Ar, cr, rfl, hr, y1⟩
      have y0 := y1
      replace hf := hf.ext y0
      replace hx := hx.ext y0
      replace hy := hy.ext y0
      replace hxy := hxy.ext y0
      replace hp := hp.ext y0
      replace hq := hq.ext y0
      replace x0 := Ext.trans x0 y0
      clear y0
      clear y1
      go_wp2_with (fail)
      refine (awake_any3 _).mono ?_
      rintro e u17 ⟨rfl, y1⟩
      have y0 := y1
      replace hf := hf.ext y0
      replace hx := hx.ext y0
      replace hy := hy.ext y0
      replace hxy := hxy.ext y0
      replace hp := hp.ext y0
      replace hq := hq.ext y0
      replace hr := hr.ext y0
      replace x0 := Ext.trans x0 y0
      clear y0
      clear y1
      go_wp2_with (fail)
      go_ret
      exact ⟨rfl, x0⟩
    · have FXp := Lib.hid hrx
      have FXq := Lib.hid hry
      clear hrx hry
      have FXr := Lib.hid (fun q => FXp.out ((Gm.rank_product RX.out RY.out HN.out.1).2 q).1)
      go_wp2_with (fail)
      refine (invert_s _ _ _ n _ x hf hx RX.out HN.out FXp.out).mono ?_
      rintro e u12 ⟨Ap, cp, rfl, hp, y1⟩
      have y0 := y1
      replace hf := hf.ext y0
      replace hx := hx.ext y0
      replace hy := hy.ext y0
      replace hxy := hxy.ext y0
      replace x0 := Ext.trans x0 y0
      clear y0
      clear y1
      go_wp2_with (fail)
      refine (invert_s _ _ _ n _ y hf hy RY.out HN.out FXq.out).mono ?_
      rintro e u13 ⟨Aq, cq, rfl, hq, y1⟩
      have y0 := y1
      replace hf := hf.ext y0
      replace hx := hx.ext y0
      replace hy := hy.ext y0
      replace hxy := hxy.ext y0
      replace hp := hp.ext y0
      replace x0 := Ext.trans x0 y0
      clear y0
      clear y1
      go_wp2_with (fail)
      refine (invert_s _ _ _ n _ (Gm.mulL x y) hf hxy RXY.out HN.out FXr.out).mono ?_
      rintro e u14 ⟨Ar, cr, rfl, hr, y1⟩
      have y0 := y1
      replace hf := hf.ext y0
      replace hx := hx.ext y0
      replace hy := hy.ext y0
      replace hxy := hxy.ext y0
      replace hp := hp.ext y0
      replace hq := hq.ext y0
      replace x0 := Ext.trans x0 y0
      clear y0
      clear y1
      go_wp2_with (fail)
      refine (awake_any3 _).mono ?_
      rintro e u17 ⟨rfl, y1⟩
      have y0 := y1
      replace hf := hf.ext y0
      replace hx := hx.ext y0
      replace hy := hy.ext y0
      replace hxy := hxy.ext y0
      replace hp := hp.ext y0
      replace hq := hq.ext y0
      replace hr := hr.ext y0
      replace x0 := Ext.trans x0 y0
      clear y0
      clear y1
      go_wp2_with (fail)
      go_ret
      exact ⟨rfl, x0⟩
end matrixProducts
end Go.Proofs.Ytiianhlppkocgaa
