/- MatrixNumbers' walk: the fixed examples of the chapter, what is no matrix, the limits, the greatest Cauchy matrix, no field. No conditions. -/
import Derived.Test.YtiianhlppkocgaaMatNumsPl
import Derived.Test.YtiianhlppkocgaaMatNo
import Derived.Test.YtiianhlppkocgaaMatAwake
import Derived.Test.YtiianhlppkocgaaMatCauchy
import Derived.Deep.DeepCutAuto
namespace Go.Proofs.Ytiianhlppkocgaa
open Go.RowKit
attribute [local go_sem ↓] Go.wp_at_zero Go.wp_at_succ

set_option maxRecDepth 100000 in
set_option maxHeartbeats 4000000 in
theorem matrixNumbers_any (w : World) : Calls Try.prog 3 #[] w fun e w' => e = .returned (.bool true) ∧ Ext w w' := by
  have hm1 : ∀ W, (Instr.makeSlice 25 (.int .i64 256) (.int .i64 256)).run Try.prog W = .ok (.slice (some ⟨W.heap.size, 0, none⟩) 256 256) (W.alloc (.cells (made 256 (.slice none 0 0)) 26)) := fun W => run_make_rows W 256 (by omega)
  have hm2 : ∀ W, (Instr.makeSlice 26 (.int .i64 256) (.int .i64 256)).run Try.prog W = .ok (.slice (some ⟨W.heap.size, 0, none⟩) 256 256) (W.alloc (.cells (made 256 (.int .u8 0)) 5)) := fun W => run_make_bytes W 256 (by omega)
  have hm3 : ∀ W, (Instr.makeSlice 29 (.int .i64 256) (.int .i64 256)).run Try.prog W = .ok (.slice (some ⟨W.heap.size, 0, none⟩) 256 256) (W.alloc (.cells (made 256 (.int .i64 0)) 3)) := fun W => run_make_ints W 256 (by omega)
  go_enter Try.func3, Try.ntmps3
  try dsimp only [List.append]
  go_wp2_with (fail)
  refine (new_any _).mono ?_
  rintro e w1 ⟨rfl, hf, hx⟩
  generalize hb : w.heap.size = fb at *
  have Hb := Lib.hid hb
  clear hb
  go_upto_block 0 with (fail)
  have hq := Mq.made0 w1 256 (by omega)
  have hx0 : Ext w1 (w1.alloc (.cells (made 256 (.slice none 0 0)) 26)) := Ext.alloc _ _
  have hsz : w1.heap.size < (w1.alloc (.cells (made 256 (.slice none 0 0)) 26)).heap.size := by simp
  generalize (w1.alloc (.cells (made 256 (.slice none 0 0)) 26)) = W0 at *
  generalize hg : w1.heap.size = g at *
  have HG := Lib.hid hg
  clear hg
  rw [show List.replicate 256 ([] : List UInt8) = mixed (List.replicate 256 [1]) 0 by rw [mixed_zero, List.length_replicate]] at hq
  go_cut [2, 3, 40] (fun s2 _ _ wx => ∃ wv : World, wv = wx ∧ s2 = .slice (some ⟨g, 0, none⟩) 256 256 ∧ Mx wx (some ⟨g, 0, none⟩) 256 256 (List.replicate 256 [1]) ∧ Ext w1 wx)
  case first =>
    go_wp2_with (fail)
    go_loopw [3, 40] (fun _ s wr => ∃ (k : Nat) (cs : List Value), k ≤ 256 ∧ s = .int .i64 k ∧ Mq wr g (Hot g (.slice (some ⟨g, 0, none⟩) 256 256)) (.slice (some ⟨g, 0, none⟩) 256 256) 256 cs (mixed (List.replicate 256 [1]) k) ∧ Ext w1 wr ∧ g < wr.heap.size) (fun _ s _ => 256 - (intOf s).toNat)
    case atStart => exact ⟨0, _, by omega, rfl, hq, hx0, hsz⟩
    case round =>
      obtain ⟨k, cs, hk, rfl, hQ, hx2, hs⟩ := hrel
      clear hq hx0 hsz
      by_cases hlt : k < 256
      · have q1 : (k : Int) < 256 := by omega
        obtain ⟨A0, c0, _, hcl, hfz, _⟩ := hQ.cellAt hlt
        have hal : Ext wr (wr.alloc (.cells #[.int .u8 1] 5)) := Ext.alloc _ _
        have hro : (wr.alloc (.cells #[.int .u8 1] 5)).ownsRow wr.heap.size 5 1 (.slice (some ⟨wr.heap.size, 0, none⟩) ([1] : List UInt8).length 1) ([1] : List UInt8).length (bcells [1]) := ownsRow_lit1 wr 5 1
        have hput := (hQ.ext hal).put hlt hro (by omega) (fun b hb => by
          have hf := hQ.fresh hro (Nat.le_refl _) (hot_lt hs (by omega)) b hb
          exact ⟨hf.1, fun j u _ hu => hf.2 j u hu⟩)
        have hxs := (hx2.trans hal).set_ (p := ⟨g, k, none⟩) (by rw [HG.out]; exact Nat.le_refl _) (.slice (some ⟨wr.heap.size, 0, none⟩) 1 1)
        have hms : (mixed (List.replicate 256 [1]) k).set k [1] = mixed (List.replicate 256 [1]) (k + 1) := by
          rw [← mixed_set (by simpa using hlt), row_replicate _ hlt]
        rw [hms] at hput
        have HP := Lib.hid hput
        have HXS := Lib.hid hxs
        clear hput hxs hro hal hQ hms
        go_wp2_with (fail)
        rw [← World.setCell_alloc_past _ _ _ _ hs]
        exact ⟨⟨k + 1, _, by omega, by go_num, HP.out, HXS.out, by simp; omega⟩, by simp [intOf]; omega⟩
      · have q1 : ¬ (k : Int) < 256 := by omega
        obtain rfl : k = 256 := by omega
        rw [mixed_full (by simp)] at hQ
        obtain ⟨A, c, e, hmx⟩ := hQ.mx
        injection e with e1 e2 e3
        subst e1 e3
        have HM := Lib.hid hmx
        clear hmx hQ
        go_wp2_with (fail)
        go_meet
        exact ⟨_, rfl, rfl, HM.out, hx2⟩
  case rest =>
    obtain ⟨w2, rfl, rfl, hl2, hx2⟩ := hcut
    go_upto_block 2 with (fail)
    go_cut [4, 5, 61] (fun _ _ _ wx => ∃ wv : World, wv = wx ∧ Ext w2 wx)
    case first =>
      generalize hh : w2.heap.size = h at *
      generalize hZ : (((((((((((w2.alloc (.cells #[] 26)).alloc (.cells #[] 5)).alloc (.cells #[.slice (some ⟨h + 1, 0, none⟩) 0 0] 26)).alloc (.cells #[.int .u8 1, .int .u8 2] 5)).alloc (.cells #[.int .u8 3] 5)).alloc (.cells #[.slice (some ⟨h + 1 + 1 + 1, 0, none⟩) 2 2, .slice (some ⟨h + 1 + 1 + 1 + 1, 0, none⟩) 1 1] 26)).alloc (.cells #[.int .u8 1] 5)).alloc (.cells #[.slice none 0 0, .slice (some ⟨h + 1 + 1 + 1 + 1 + 1 + 1, 0, none⟩) 1 1] 26)).alloc (.cells (made 256 (.int .u8 0)) 5)).alloc (.cells #[.slice (some ⟨h + 1 + 1 + 1 + 1 + 1 + 1 + 1 + 1, 0, none⟩) 256 256] 26)).alloc (.cells #[.slice none 0 0, .slice (some ⟨h, 0, none⟩) 0 0, .slice (some ⟨h + 1 + 1, 0, none⟩) 1 1, .slice (some ⟨h + 1 + 1 + 1 + 1 + 1, 0, none⟩) 2 2, .slice (some ⟨h + 1 + 1 + 1 + 1 + 1 + 1 + 1, 0, none⟩) 2 2, .slice (some ⟨h + 1 + 1 + 1 + 1 + 1 + 1 + 1 + 1 + 1, 0, none⟩) 1 1, .slice (some ⟨g, 0, none⟩) 256 256] 25)) = Z at *
      obtain ⟨hxz, htab⟩ := table_cells w2 g hh hl2 hZ
      clear hZ hh
      generalize (h + 1 + 1 + 1 + 1 + 1 + 1 + 1 + 1 + 1 + 1) = ht at *
      go_wp2_with (fail)
      go_loopw [4, 5, 61] (fun _ _ s wr => ∃ k : Nat, k ≤ 7 ∧ s = .int .i64 k ∧ Ext Z wr) (fun _ _ s _ => 7 - (intOf s).toNat)
      case atStart => exact ⟨0, by omega, rfl, Ext.refl _⟩
      case round =>
        obtain ⟨k, hk, rfl, hx3⟩ := hrel
        by_cases hlt : k < 7
        · have q1 : (k : Int) < 7 := by omega
          obtain ⟨A, n, c, m, hc, hm, hno⟩ := htab k hlt
          have hc' := hx3.cell hc
          have HE := Lib.hid (errs_yes fb wr A n c m (hf.ext ((hx2.trans hxz).trans hx3)) (hm.ext hx3) hno)
          clear htab hc hm hno
          go_wp2_with (fail)
          refine HE.out.mono ?_
          rintro e w4 ⟨rfl, x4⟩
          go_wp2_with (fail)
          exact ⟨⟨k + 1, by omega, by go_num, hx3.trans x4⟩, by simp [intOf]; omega⟩
        · have q1 : ¬ (k : Int) < 7 := by omega
          clear htab
          go_wp2_with (fail)
          go_meet
          exact ⟨_, rfl, hxz.trans hx3⟩
    case rest =>
      obtain ⟨w3, rfl, hx3⟩ := hcut
      have hx13 := hx2.trans hx3
      clear hl2 hx2 hx3
      go_upto_block 4 with (fail)
      go_cut [6, 7, 8, 9, 75] (fun _ _ _ _ _ wx => ∃ wv : World, wv = wx ∧ Ext w1 wx)
      case first =>
        generalize hh : w3.heap.size = h at *
        have htab := fun j hj => ints_cells w3 hh 3 j hj
        have hxz := Ext.alloc w3 (.cells #[.int .i64 0, .int .i64 (-1), .int .i64 256] 3)
        generalize w3.alloc (.cells #[.int .i64 0, .int .i64 (-1), .int .i64 256] 3) = Z at *
        clear hh
        go_wp2_with (fail)
        go_loopw [6, 7, 8, 9, 75] (fun _ _ _ _ s wr => ∃ k : Nat, k ≤ 3 ∧ s = .int .i64 k ∧ Ext Z wr) (fun _ _ _ _ s _ => 3 - (intOf s).toNat)
        case atStart => exact ⟨0, by omega, rfl, Ext.refl _⟩
        case round =>
          obtain ⟨k, hk, rfl, hx3⟩ := hrel
          by_cases hlt : k < 3
          · have q1 : (k : Int) < 3 := by omega
            obtain ⟨x, hc, hno⟩ := htab k hlt
            have hc' := hx3.cell hc
            have HE := Lib.hid (unit_no wr x hno)
            clear htab hc hno
            go_wp2_with (fail)
            refine HE.out.mono ?_
            intro e w4 hg
            obtain ⟨A4, c4, rfl, _, x4⟩ := gives_mx hg
            clear hg
            go_wp2_with (fail)
            exact ⟨⟨k + 1, by omega, by go_num, hx3.trans x4⟩, by simp [intOf]; omega⟩
          · have q1 : ¬ (k : Int) < 3 := by omega
            clear htab
            go_wp2_with (fail)
            go_meet
            exact ⟨_, rfl, (hx13.trans hxz).trans hx3⟩
      case rest =>
        obtain ⟨w4, rfl, hx14⟩ := hcut
        clear hx13
        go_upto_block 6 with (fail)
        go_cut [10, 11, 12, 13, 98] (fun _ _ _ _ _ wx => ∃ wv : World, wv = wx ∧ Ext w1 wx)
        case first =>
          generalize hh : w4.heap.size = h at *
          have htab := fun j hj => pairs_cells w4 hh 33 j hj
          have hxz := Ext.alloc w4 (.cells pairs 33)
          unfold pairs at htab hxz
          generalize w4.alloc (.cells #[.int .i64 0, .int .i64 1, .int .i64 1, .int .i64 0, .int .i64 (-1), .int .i64 2, .int .i64 128, .int .i64 129, .int .i64 256, .int .i64 1, .int .i64 4611686018427387904, .int .i64 4611686018427387904] 33) = Z at *
          clear hh
          go_wp2_with (fail)
          go_loopw [10, 11, 12, 13, 98] (fun _ _ _ _ s wr => ∃ k : Nat, k ≤ 6 ∧ s = .int .i64 k ∧ Ext Z wr) (fun _ _ _ _ s _ => 6 - (intOf s).toNat)
          case atStart => exact ⟨0, by omega, rfl, Ext.refl _⟩
          case round =>
            obtain ⟨k, hk, rfl, hx3⟩ := hrel
            by_cases hlt : k < 6
            · have q1 : (k : Int) < 6 := by omega
              obtain ⟨x, y, hc, hd, hno⟩ := htab k hlt
              have hc' := hx3.cell hc
              have hd' := hx3.cell hd
              have HE := Lib.hid (fun W hW => cauchy_no fb W x y (hf.ext ((hx14.trans hxz).trans (hx3.trans hW))) hno)
              clear htab hc hd hno
              go_wp2_with (fail)
              refine (HE.out _ (Ext.alloc _ _)).mono ?_
              intro e w5 hg
              obtain ⟨A4, c4, rfl, _, x4⟩ := gives_mx hg
              clear hg
              go_wp2_with (fail)
              exact ⟨⟨k + 1, by omega, by go_num, hx3.trans ((Ext.alloc _ _).trans x4)⟩, by simp [intOf]; omega⟩
            · have q1 : ¬ (k : Int) < 6 := by omega
              clear htab
              go_wp2_with (fail)
              go_meet
              exact ⟨_, rfl, (hx14.trans hxz).trans hx3⟩
        case rest =>
          obtain ⟨w5, rfl, hx15⟩ := hcut
          clear hx14
          have HG := Lib.hid (And.intro great_right (And.intro great_rank (And.intro great_row (Gm.cauchy_rect 128 128).1)))
          have HC := Lib.hid (cauchy_ok fb w5 128 128 (hf.ext hx15) (by omega) (by omega) (by omega))
          generalize Gm.cauchy 128 128 = GR at HG HC
          have HA := Lib.hid (And.intro all_right (And.intro all_rank (And.intro (Gm.unit_rect 255).1 (fun l h => all_pick l h))))
          have HU := Lib.hid (fun W => unit_ok W 255 (by omega) (by omega))
          generalize Gm.unit 255 = AL at HA HU
          go_wp2_with (fail)
          refine HC.out.mono ?_
          intro e w6 hg
          obtain ⟨A1, c1, rfl, m1, x6⟩ := gives_mx hg
          rw [HG.out.2.2.2] at m1
          rw [HG.out.2.2.2]
          clear hg
          go_wp2_with (fail)
          refine (HU.out w6).mono ?_
          intro e w7 hg
          obtain ⟨A2, c2, rfl, m2, x7⟩ := gives_mx hg
          rw [HA.out.2.2.1] at m2
          rw [HA.out.2.2.1]
          clear hg
          go_wp2_with (fail)
          have y7 : Ext w7 ((((w7.alloc (.cells #[.int .u8 1, .int .u8 2] 5)).alloc (.cells #[.slice (some ⟨w7.heap.size, 0, none⟩) 2 2] 26)).alloc (.cells #[.int .u8 1] 5)).alloc (.cells #[.slice (some ⟨w7.heap.size + 1 + 1, 0, none⟩) 1 1] 26)) := (((Ext.alloc _ _).thenAlloc _).thenAlloc _).thenAlloc _
          have x57 := x6.trans x7
          have hc := mul_any3 fb _ _ _ 1 1 1 1 [[1, 2]] [[1]] ((hf.ext (hx15.trans x57)).ext y7) (((mx_one w7 [1, 2] _ _ _ rfl rfl (by decide)).ext (Ext.alloc _ _)).ext (Ext.alloc _ _)) (mx_one_at _ (by simp) [1] _ _ _ rfl rfl (by decide))
          rw [if_neg misfit_mul, if_neg misfit_mul] at hc
          refine hc.mono ?_
          clear hc
          intro e w8 hg
          obtain ⟨A3, c3, rfl, _, x8⟩ := gives_mx hg
          clear hg
          have x78 := y7.trans x8
          have x58 := x57.trans x78
          clear y7 x8
          go_wp2_with (fail)
          have y8 : Ext w8 ((w8.alloc (.cells #[.int .u8 1, .int .u8 2] 5)).alloc (.cells #[.slice (some ⟨w8.heap.size, 0, none⟩) 2 2] 26)) := (Ext.alloc _ _).thenAlloc _
          have hc := invert_any3 fb _ _ 1 1 [[1, 2]] ((hf.ext (hx15.trans x58)).ext y8) (mx_one w8 [1, 2] _ _ _ rfl rfl (by decide))
          rw [misfit_inv] at hc
          refine hc.mono ?_
          clear hc
          intro e w9 hg
          obtain ⟨A4, c4, rfl, _, x9⟩ := gives_mx hg
          generalize (invM [[1, 2]]).length = n4
          clear hg
          have x79 := x78.trans (y8.trans x9)
          have x59 := x57.trans x79
          clear y8 x9 x58 x78
          go_wp2_with (fail)
          have hc := pick_any3 w9 A2 255 c2 AL (m2.ext x79) none 0 0 [] (Is.none _)
          rw [HA.out.2.2.2 [] no_rows] at hc
          refine hc.mono ?_
          clear hc
          intro e w10 hg
          obtain ⟨A5, c5, rfl, _, x10⟩ := gives_mx hg
          generalize (pickM AL []).length = n5
          clear hg
          have x710 := x79.trans x10
          clear x10 x79
          go_wp2_with (fail)
          have hc := pick_any3 (w10.alloc (.cells #[.int .i64 255] 3)) A2 255 c2 AL (m2.ext (x710.thenAlloc _)) (some ⟨w10.heap.size, 0, none⟩) 1 1 [255] (is_one w10 _ 255 rfl)
          rw [HA.out.2.2.2 _ no_rows1] at hc
          refine hc.mono ?_
          clear hc
          intro e w11 hg
          obtain ⟨A6, c6, rfl, _, x11⟩ := gives_mx hg
          generalize (pickM AL [255]).length = n6
          clear hg
          have x711 := (x710.thenAlloc _).trans x11
          clear x11 x710
          go_wp2_with (fail)
          have hc := pick_any3 (w11.alloc (.cells #[.int .i64 (-1)] 3)) A2 255 c2 AL (m2.ext (x711.thenAlloc _)) (some ⟨w11.heap.size, 0, none⟩) 1 1 [-1] (is_one w11 _ (-1) rfl)
          rw [HA.out.2.2.2 _ no_rows2] at hc
          refine hc.mono ?_
          clear hc
          intro e w12 hg
          obtain ⟨A7, c7, rfl, _, x12⟩ := gives_mx hg
          generalize (pickM AL [-1]).length = n7
          clear hg
          have x712 := (x711.thenAlloc _).trans x12
          clear x12 x711
          go_wp2_with (fail)
          have hc := pick_any3 (w12.alloc (.cells (made 256 (.int .i64 0)) 3)) A2 255 c2 AL (m2.ext (x712.thenAlloc _)) (some ⟨w12.heap.size, 0, none⟩) 256 256 (List.replicate 256 0) (is_made w12 _ rfl)
          rw [HA.out.2.2.2 _ no_rows3] at hc
          refine hc.mono ?_
          clear hc
          intro e w13 hg
          obtain ⟨A8, c8, rfl, _, x13⟩ := gives_mx hg
          generalize (pickM AL (List.replicate 256 0)).length = n8
          clear hg
          have x713 := (x712.thenAlloc _).trans x13
          clear x13 x712
          go_wp2_with (fail)
          refine (nof_cauchy w13 _ 1 1 (.inl rfl)).mono ?_
          rintro e w' ⟨rfl, rfl⟩
          go_wp2_with (fail)
          refine (nof_mul w13 _ _ _ (.inl rfl)).mono ?_
          rintro e w' ⟨rfl, rfl⟩
          go_wp2_with (
            refine wpList_build (o := ⟨some 174, .build 42 #[], _, _, _, _⟩) rfl 42 #[] rfl #[] ?_ (.agg nofield) (run_build_nofield _) ?_
            · simp)
          refine (nof_invert _ _ _ (nofield_at w13 _ rfl)).mono ?_
          rintro e w' ⟨rfl, rfl⟩
          have x714 : Ext w7 (w13.alloc (.cells nofield 42)) := x713.thenAlloc _
          generalize w13.alloc (.cells nofield 42) = w14 at *
          have x614 := x7.trans x714
          have hf14 := hf.ext (hx15.trans (x6.trans x614))
          have m1' := m1.ext x614
          have m2' := m2.ext x714
          obtain ⟨b1, o1, A0, n0, c0, rfl, hcell, hb0⟩ := m1'.at_ (i := 127) (by omega)
          obtain rfl : 128 = n0 := by rw [← hb0.len]; exact HG.out.2.2.1.symm
          clear hb0
          have hrk := fun W (h : Ext w14 W) => rank_any3 fb W _ 128 c1 GR (hf14.ext h) (m1'.ext h)
          rw [if_pos HG.out.1, HG.out.2.1] at hrk
          have hrk2 := fun W (h : Ext w14 W) => rank_any3 fb W _ 255 c2 AL (hf14.ext h) (m2'.ext h)
          rw [if_pos HA.out.1, HA.out.2.1] at hrk2
          have HR := Lib.hid hrk
          have HR2 := Lib.hid hrk2
          clear hrk hrk2
          go_wp2_with (fail)
          refine (HR.out w14 (Ext.refl _)).mono ?_
          rintro e w15 ⟨rfl, x15⟩
          go_wp2_with (fail)
          refine (HR2.out w15 x15).mono ?_
          rintro e w16 ⟨rfl, x16⟩
          go_wp2_with (fail)
          refine (nof_rank w16 _ _ (.inl rfl)).mono ?_
          rintro e w' ⟨rfl, rfl⟩
          go_wp2_with (fail)
          refine (awake_any3 w16).mono ?_
          rintro e w17 ⟨rfl, x17⟩
          go_wp2_with (fail)
          go_ret
          exact ⟨rfl, hx.trans (hx15.trans (x6.trans (x614.trans (x15.trans (x16.trans x17)))))⟩
namespace matrixNumbers
theorem walk (w : World) : Calls Try.prog 3 #[] w fun e w' => e = .returned (.bool true) ∧ Below w.heap.size w w' := matrixNumbers_any w
end matrixNumbers
end Go.Proofs.Ytiianhlppkocgaa
