/- MatrixInverse's walk. -/
import Derived.Test.YtiianhlppkocgaaMatR
import Derived.Test.YtiianhlppkocgaaMatAwake
import Derived.Test.YtiianhlppkocgaaHold
namespace Go.Proofs.Ytiianhlppkocgaa
open Go.RowKit

namespace matrixInverse
set_option maxRecDepth 100000 in
set_option maxHeartbeats 4000000 in
theorem walk (w : World) (a0 : Int) (A1 : Option Addr) (n1 c1 : Nat) (z1 : List Int) (w0 : (Lit.int .u8 a0).wf = true) (w1 : IsRow .u8 w A1 n1 c1 z1) :
    Calls Try.prog 6 #[.int .u8 a0, .slice A1 n1 c1] w fun e w' => e = .returned (.bool true) ∧ Ext w w' := by
  obtain ⟨x, rfl⟩ := wf_u8 w0
  obtain ⟨b, hB⟩ := w1.bytes
  clear w0 w1
  obtain ⟨n, hn⟩ : ∃ n, 1 + x.toNat % 10 = n := ⟨_, rfl⟩
  have hn1 : 1 ≤ n ∧ n ≤ 10 := by omega
  have HN := Lib.hid (show 1 ≤ n ∧ n ≤ 255 by omega)
  have lx := x.toNat_lt
  have en : IntKind.i64.wrap (1 + ((x.toNat : Int).tmod 10)) = (n : Int) := by
    rw [Int.tmod_eq_emod_of_nonneg (by omega), ← hn]; simp [IntKind.wrap, IntKind.bits, IntKind.signed]; omega
  have en2 : (1 + (x.toNat : Int) % 10) = (n : Int) := by omega
  have EN := Lib.hid en
  have EN2 := Lib.hid en2
  have HRB := Lib.hid (square_rect n b)
  clear en en2
  go_enter Try.func6, Try.ntmps6
  try dsimp only [List.append]
  go_wp2_with (fail)
  refine (new_any _).mono ?_
  rintro e w1 ⟨rfl, hf, y1⟩
  generalize hb : w.heap.size = fb at *
  have Hb := Lib.hid hb
  clear hb
  have y0 := y1
  replace hB := hB.ext y0
  have x0 := y0
  clear y0
  clear y1
  go_wp2_with (fail)
  rw [EN2.out]
  refine (square_r _ n _ _ _ b hB (by omega)).mono ?_
  rintro e v1 ⟨Am, cm, rfl, hm, y1⟩
  clear hB
  have y0 := y1
  replace hf := hf.ext y0
  replace x0 := Ext.trans x0 y0
  clear y0
  clear y1
  generalize squareL n b = m at *
  go_wp2_with (fail)
  refine (unit_r _ n HN.out.1 HN.out.2).mono ?_
  rintro e v2 ⟨Au, cu, rfl, hu, y1⟩
  have y0 := y1
  replace hf := hf.ext y0
  replace hm := hm.ext y0
  replace x0 := Ext.trans x0 y0
  clear y0
  clear y1
  by_cases hr : Gm.rank m = n
  · have HR := Lib.hid hr
    have HRI := Lib.hid (Gm.inv_rect HRB.out HN.out.1 hr)
    clear hr
    go_wp2_with (fail)
    refine (invert_r _ _ _ n _ m hf hm HRB.out HN.out HR.out).mono ?_
    rintro e v3 ⟨Ax, cx, rfl, hx, y1⟩
    have y0 := y1
    replace hf := hf.ext y0
    replace hm := hm.ext y0
    replace hu := hu.ext y0
    replace x0 := Ext.trans x0 y0
    clear y0
    clear y1
    go_wp2_with (fail)
    refine (rank_r _ _ _ n _ n m hf hm HRB.out HN.out HN.out n HR.out).mono ?_
    rintro e v4 ⟨rfl, y1⟩
    have y0 := y1
    replace hf := hf.ext y0
    replace hm := hm.ext y0
    replace hu := hu.ext y0
    replace hx := hx.ext y0
    replace x0 := Ext.trans x0 y0
    clear y0
    clear y1
    go_wp2_with (fail)
    refine (mul_r _ _ _ _ n _ n _ n m (Gm.invert m) hf hm hx HRB.out HRI.out HN.out HN.out HN.out).mono ?_
    rintro e v5 ⟨A5, c5, rfl, h5, y1⟩
    have y0 := y1
    replace hf := hf.ext y0
    replace hm := hm.ext y0
    replace hu := hu.ext y0
    replace hx := hx.ext y0
    replace x0 := Ext.trans x0 y0
    clear y0
    clear y1
    go_wp2_with (fail)
    refine (mul_r _ _ _ _ n _ n _ n (Gm.invert m) m hf hx hm HRI.out HRB.out HN.out HN.out HN.out).mono ?_
    rintro e v6 ⟨A6, c6, rfl, h6, y1⟩
    have y0 := y1
    replace hf := hf.ext y0
    replace hm := hm.ext y0
    replace hu := hu.ext y0
    replace hx := hx.ext y0
    replace h5 := h5.ext y0
    replace x0 := Ext.trans x0 y0
    clear y0
    clear y1
    go_wp2_with (fail)
    refine (invert_r _ _ _ n _ (Gm.invert m) hf hx HRI.out HN.out (Gm.rank_inv HRB.out HN.out.1 HR.out)).mono ?_
    rintro e v7 ⟨A7, c7, rfl, h7, y1⟩
    have y0 := y1
    replace hf := hf.ext y0
    replace hm := hm.ext y0
    replace hu := hu.ext y0
    replace hx := hx.ext y0
    replace h5 := h5.ext y0
    replace h6 := h6.ext y0
    replace x0 := Ext.trans x0 y0
    clear y0
    clear y1
    go_wp2_with (fail)
    refine (same_r _ _ _ n _ n _ _ _ h5 hu (Gm.inv_right HRB.out HN.out.1 HR.out)).mono ?_
    rintro e v8 ⟨rfl, y1⟩
    have y0 := y1
    replace hf := hf.ext y0
    replace hm := hm.ext y0
    replace hu := hu.ext y0
    replace hx := hx.ext y0
    replace h5 := h5.ext y0
    replace h6 := h6.ext y0
    replace h7 := h7.ext y0
    replace x0 := Ext.trans x0 y0
    clear y0
    clear y1
    go_wp2_with (fail)
    refine (same_r _ _ _ n _ n _ _ _ h6 hu (Gm.inv_left HRB.out HN.out.1 HR.out)).mono ?_
    rintro e v9 ⟨rfl, y1⟩
    have y0 := y1
    replace hf := hf.ext y0
    replace hm := hm.ext y0
    replace hu := hu.ext y0
    replace hx := hx.ext y0
    replace h5 := h5.ext y0
    replace h6 := h6.ext y0
    replace h7 := h7.ext y0
    replace x0 := Ext.trans x0 y0
    clear y0
    clear y1
    go_wp2_with (fail)
    refine (same_r _ _ _ n _ n _ _ _ h7 hm (Gm.inv_inv HRB.out HN.out.1 HR.out)).mono ?_
    rintro e v10 ⟨rfl, y1⟩
    have y0 := y1
    replace hf := hf.ext y0
    replace hm := hm.ext y0
    replace hu := hu.ext y0
    replace hx := hx.ext y0
    replace h5 := h5.ext y0
    replace h6 := h6.ext y0
    replace h7 := h7.ext y0
    replace x0 := Ext.trans x0 y0
    clear y0
    clear y1
    go_wp2_with (fail)
    refine (awake_any3 _).mono ?_
    rintro e v11 ⟨rfl, y1⟩
    have y0 := y1
    replace hf := hf.ext y0
    replace hm := hm.ext y0
    replace hu := hu.ext y0
    replace hx := hx.ext y0
    replace h5 := h5.ext y0
    replace h6 := h6.ext y0
    replace h7 := h7.ext y0
    replace x0 := Ext.trans x0 y0
    clear y0
    clear y1
    go_wp2_with (fail)
    go_ret
    exact ⟨rfl, x0⟩
  · have HR := Lib.hid hr
    obtain ⟨r, er⟩ : ∃ r, Gm.rank m = r := ⟨_, rfl⟩
    have hne : ((r : Int) == (n : Int)) = false := by rw [beq_eq_false_iff_ne]; omega
    have ER := Lib.hid er
    clear er hr
    go_wp2_with (fail)
    refine (invert_s _ _ _ n _ m hf hm HRB.out HN.out HR.out).mono ?_
    rintro e v3 ⟨Ax, cx, rfl, hx, y1⟩
    have y0 := y1
    replace hf := hf.ext y0
    replace hm := hm.ext y0
    replace hu := hu.ext y0
    replace x0 := Ext.trans x0 y0
    clear y0
    clear y1
    go_wp2_with (fail)
    refine (rank_r _ _ _ n _ n m hf hm HRB.out HN.out HN.out r ER.out).mono ?_
    rintro e v4 ⟨rfl, y1⟩
    have y0 := y1
    replace hf := hf.ext y0
    replace hm := hm.ext y0
    replace hu := hu.ext y0
    replace hx := hx.ext y0
    replace x0 := Ext.trans x0 y0
    clear y0
    clear y1
    go_wp2_with (fail)
    refine (awake_any3 _).mono ?_
    rintro e v5 ⟨rfl, y1⟩
    have y0 := y1
    replace hf := hf.ext y0
    replace hm := hm.ext y0
    replace hu := hu.ext y0
    replace hx := hx.ext y0
    replace x0 := Ext.trans x0 y0
    clear y0
    clear y1
    go_wp2_with (fail)
    go_ret
    exact ⟨rfl, x0⟩
end matrixInverse
end Go.Proofs.Ytiianhlppkocgaa
