/- CodeNumbers' walk. -/
import Derived.Test.YtfpcldkfmcnjkaaCodeNums
import Derived.Deep.DeepCutAuto
namespace Go.Proofs.Ytfpcldkfmcnjkaa
open Go.RowKit

theorem givesR_nil {er : Int} {w w' : World} {e : Ending} (h : GivesR [] er w e w') : ∃ A c, e = .returned (.tuple #[.slice A 0 c, .int .i64 er]) ∧ Ext w w' := by
  obtain ⟨A, c, rfl, _, hx⟩ := h
  exact ⟨A, c, rfl, hx⟩
theorem givesBE_nil {er : Int} {w w' : World} {e : Ending} (h : GivesBE [] er w e w') : ∃ A c, e = .returned (.tuple #[.slice A 0 c, .int .i64 er]) ∧ Ext w w' := by
  obtain ⟨v, rfl, hv⟩ := h
  obtain ⟨A, c, rfl, _⟩ := hv.bs
  exact ⟨A, c, rfl, hv.ext⟩
theorem givesSE_nil {er : Int} {w w' : World} {e : Ending} (h : GivesSE [] er w e w') : ∃ A c, e = .returned (.tuple #[.slice A 0 c, .int .i64 er]) ∧ Ext w w' := by
  obtain ⟨A, c, rfl, _, hx⟩ := h
  exact ⟨A, c, rfl, hx⟩
set_option maxRecDepth 100000 in
set_option maxHeartbeats 8000000 in
theorem codeNumbers_any (w : World) : Calls Try.prog 6 #[] w fun e w' => e = .returned (.bool true) ∧ Ext w w' := by
  have hml := fun W => run_make_long W
  go_enter Try.func6, Try.ntmps6
  try dsimp only [List.append]
  go_wp2_with (fail)
  refine (new_any _).mono ?_
  rintro e w1 ⟨rfl, hf, hx⟩
  generalize hb : w.heap.size = fb at *
  have Hb := Lib.hid hb
  clear hb
  go_upto_block 0 with (fail)
  go_cut [2, 3, 4, 5, 48] (fun _ _ _ _ _ wx => ∃ wv : World, wv = wx ∧ Ext w1 wx)
  case first =>
    generalize hh : w1.heap.size = h at *
    have htab := fun j hj => pairs4_cells w1 hh 47 j hj
    have hxz := Ext.alloc w1 (.cells pairs4 47)
    unfold pairs4 at htab hxz
    generalize w1.alloc (.cells #[.int .i64 0, .int .i64 1, .int .i64 2, .int .i64 1, .int .i64 1, .int .i64 256, .int .i64 (-1), .int .i64 3, .int .i64 256, .int .i64 256] 47) = Z at *
    clear hh hml
    go_wp2_with (fail)
    go_loopw [2, 3, 4, 5, 48] (fun _ _ _ _ s wr => ∃ k : Nat, k ≤ 5 ∧ s = .int .i64 k ∧ Ext Z wr) (fun _ _ _ _ s _ => 5 - (intOf s).toNat)
    case atStart => exact ⟨0, by omega, rfl, Ext.refl _⟩
    case round =>
      obtain ⟨k, hk, rfl, hx3⟩ := hrel
      by_cases hlt : k < 5
      · have q1 : (k : Int) < 5 := by omega
        obtain ⟨x, y, hc, hd, hno⟩ := htab k hlt
        have hc' := hx3.cell hc
        have hd' := hx3.cell hd
        have HE := Lib.hid (fun W hW => codeNew_arg fb W x y (hf.ext (hxz.trans (hx3.trans hW))) hno)
        clear htab hc hd hno
        go_wp2_with (fail)
        refine (HE.out _ (Ext.alloc _ _)).mono ?_
        rintro e w5 ⟨rfl, rfl⟩
        go_wp2_with (fail)
        exact ⟨⟨k + 1, by omega, by go_num, hx3.trans (Ext.alloc _ _)⟩, by simp [intOf]; omega⟩
      · have q1 : ¬ (k : Int) < 5 := by omega
        clear htab
        go_wp2_with (fail)
        go_meet
        exact ⟨_, rfl, hxz.trans hx3⟩
  case rest =>
    obtain ⟨w2, rfl, hx12⟩ := hcut
    go_wp2_with (fail)
    refine (codeNew_nil _ 1 1).mono ?_
    rintro e w' ⟨rfl, rfl⟩
    go_wp2_with (fail)
    refine (codeNew_ok fb _ 255 255 (hf.ext hx12) (by omega) (by omega) (by omega)).mono ?_
    rintro e w3 ⟨b1, rfl, hg, y1⟩
    go_wp2_with (fail)
    refine (codeNew_ok fb _ 1 255 ((hf.ext hx12).ext y1) (by omega) (by omega) (by omega)).mono ?_
    rintro e w4 ⟨b2, rfl, hw, y2⟩
    go_wp2_with (fail)
    refine (codeNew_ok fb _ 2 4 (((hf.ext hx12).ext y1).ext y2) (by omega) (by omega) (by omega)).mono ?_
    rintro e w5 ⟨b, rfl, hC, y3⟩
    have x15 : Ext w w5 := (((hx.trans hx12).trans y1).trans y2).trans y3
    replace hg := (hg.ext y2).ext y3
    replace hw := hw.ext y3
    clear y1 y2 y3 hf hx hx12
    go_wp2_with (fail)
    refine (need_any _ b1 fb 255 255 hg).mono ?_
    rintro e w' ⟨rfl, rfl⟩
    go_wp2_with (fail)
    refine (all_any _ b1 fb 255 255 hg).mono ?_
    rintro e w' ⟨rfl, rfl⟩
    go_wp2_with (fail)
    refine (all_any _ b2 fb 1 255 hw).mono ?_
    rintro e w' ⟨rfl, rfl⟩
    go_wp2_with (fail)
    refine (need_any _ b2 fb 1 255 hw).mono ?_
    rintro e w' ⟨rfl, rfl⟩
    clear hg hw
    go_upto_block 2 with (fail)
    go_cut [14, 15, 16, 17, 18, 139] (fun _ _ _ _ _ _ wx => ∃ wv : World, wv = wx ∧ Ext w5 wx)
    case first =>
      have hbl := bs_long w5 rfl 5
      have hx6 : Ext w5 (w5.alloc (.cells (made 65537 (.int .u8 0)) 5)) := Ext.alloc _ _
      have hsz6 : (w5.alloc (.cells (made 65537 (.int .u8 0)) 5)).heap.size = w5.heap.size + 1 := by simp
      generalize w5.alloc (.cells (made 65537 (.int .u8 0)) 5) = w6 at *
      generalize w5.heap.size = h at *
      have htab := fun Z hZ => table4_cells w6 hsz6 hbl (Z := Z) hZ
      have HT := Lib.hid htab
      clear htab hbl hsz6 hml
      generalize hZ : ((((((((((w6.alloc (.cells #[.int .u8 1] 5)).alloc (.cells #[.slice (some ⟨h + 1, 0, none⟩) 1 1] 22)).alloc (.cells #[.int .u8 1] 5)).alloc (.cells #[.int .u8 1, .int .u8 2] 5)).alloc (.cells #[.slice (some ⟨h + 1 + 1 + 1, 0, none⟩) 1 1, .slice (some ⟨h + 1 + 1 + 1 + 1, 0, none⟩) 2 2] 22)).alloc (.cells #[.int .u8 1] 5)).alloc (.cells #[.int .u8 1] 5)).alloc (.cells #[.int .u8 1] 5)).alloc (.cells #[.slice (some ⟨h + 1 + 1 + 1 + 1 + 1 + 1, 0, none⟩) 1 1, .slice (some ⟨h + 1 + 1 + 1 + 1 + 1 + 1 + 1, 0, none⟩) 1 1, .slice (some ⟨h + 1 + 1 + 1 + 1 + 1 + 1 + 1 + 1, 0, none⟩) 1 1] 22)).alloc (.cells #[.slice (some ⟨h, 0, none⟩) 65537 65537, .slice (some ⟨h, 0, none⟩) 65537 65537] 22)).alloc (.cells #[.slice none 0 0, .slice (some ⟨h + 1 + 1, 0, none⟩) 1 1, .slice (some ⟨h + 1 + 1 + 1 + 1 + 1, 0, none⟩) 2 2, .slice (some ⟨h + 1 + 1 + 1 + 1 + 1 + 1 + 1 + 1 + 1, 0, none⟩) 3 3, .slice (some ⟨h + 1 + 1 + 1 + 1 + 1 + 1 + 1 + 1 + 1 + 1, 0, none⟩) 2 2] 28) = Z at *
      obtain ⟨hxz, htab⟩ := HT.out Z rfl
      clear hZ HT
      generalize (h + 1 + 1 + 1 + 1 + 1 + 1 + 1 + 1 + 1 + 1 + 1) = ht at *
      go_wp2_with (fail)
      go_loopw [15, 16, 17, 18, 139] (fun _ _ _ _ s wr => ∃ k : Nat, k ≤ 5 ∧ s = .int .i64 k ∧ Ext Z wr) (fun _ _ _ _ s _ => 5 - (intOf s).toNat)
      case atStart => exact ⟨0, by omega, rfl, Ext.refl _⟩
      case round =>
        obtain ⟨k, hk, rfl, hx3⟩ := hrel
        by_cases hlt : k < 5
        · have q1 : (k : Int) < 5 := by omega
          obtain ⟨A, n, c, m, hc, hm, hno, hlen⟩ := htab k hlt
          have hc' := hx3.cell hc
          have x53 : Ext w5 wr := (hx6.trans hxz).trans hx3
          have hEN := encode_any wr b fb 2 4 (hC.ext x53) A n c m (hm.ext hx3)
          have e1 : encM 2 4 m = [] := by unfold encM; rw [if_neg hno]
          have e2 : encE 2 m = 40 := by unfold encE; rw [if_neg hno]
          rw [e1, e2] at hEN
          have hFI := fun W (hW : Ext wr W) => fits_any W b fb 2 4 ((hC.ext x53).ext hW) A n c m ((hm.ext hx3).ext hW)
          have hf0 : fitsB 2 4 m = false := noFit4 hlen
          rw [hf0] at hFI
          have HEN := Lib.hid hEN
          have HFI := Lib.hid hFI
          clear htab hc hm hno hlen hEN hFI e1 e2 hf0
          go_wp2_with (fail)
          refine HEN.out.mono ?_
          intro e w8 hg
          obtain ⟨A8, c8, rfl, _, x8⟩ := gives_mx hg
          clear hg
          rw [show ([] : Gm.L).length = 0 from rfl]
          go_wp2_with (fail)
          refine (HFI.out w8 x8).mono ?_
          rintro e w9 ⟨rfl, x9⟩
          go_wp2_with (fail)
          exact ⟨⟨k + 1, by omega, by go_num, (hx3.trans x8).trans x9⟩, by simp [intOf]; omega⟩
        · have q1 : ¬ (k : Int) < 5 := by omega
          clear htab
          go_wp2_with (fail)
          go_meet
          exact ⟨_, rfl, (hx6.trans hxz).trans hx3⟩
    case rest =>
      obtain ⟨w7, rfl, hx57⟩ := hcut
      replace hC := hC.ext hx57
      have x0 := x15.trans hx57
      clear x15 hx57 hml
      obtain ⟨t1, t2, t3, t4, t5, t6, t7, t8⟩ := num_told
      obtain ⟨c1, c2, c3, c4, c5, c6, c7, c8, c9, c10, c11, c12, c13, c14, c15, c16⟩ := num_calls
      have T1 := Lib.hid t1
      have T2 := Lib.hid t2
      have T3 := Lib.hid t3
      have T4 := Lib.hid t4
      have T5 := Lib.hid t5
      have T6 := Lib.hid t6
      have T7 := Lib.hid t7
      have T8 := Lib.hid t8
      have C1 := Lib.hid c1
      have C2 := Lib.hid c2
      have C3 := Lib.hid c3
      have C4 := Lib.hid c4
      have C5 := Lib.hid c5
      have C6 := Lib.hid c6
      have C7 := Lib.hid c7
      have C8 := Lib.hid c8
      have C9 := Lib.hid c9
      have C10 := Lib.hid c10
      have C11 := Lib.hid c11
      have C12 := Lib.hid c12
      have C13 := Lib.hid c13
      have C14 := Lib.hid c14
      have C15 := Lib.hid c15
      have C16 := Lib.hid c16
      clear t1 t2 t3 t4 t5 t6 t7 t8 c1 c2 c3 c4 c5 c6 c7 c8 c9 c10 c11 c12 c13 c14 c15 c16
      go_wp2_with (fail)
      have y3 : Ext w7 (((w7.alloc (.cells #[.int .i64 0] 3)).alloc (.cells #[.int .u8 1] 5)).alloc (.cells #[.slice (some ⟨w7.heap.size + 1, 0, none⟩) 1 1] 22)) := ((Ext.alloc w7 (.cells #[.int .i64 0] 3)).thenAlloc (.cells #[.int .u8 1] 5)).thenAlloc (.cells #[.slice (some ⟨w7.heap.size + 1, 0, none⟩) 1 1] 22)
      refine (wrong_law _ b fb 2 4 (hC.ext y3) _ 1 1 [0] ((Is.lit w7 _ rfl [0] _ _ 1 rfl rfl (by omega)).ext ((Ext.alloc _ _).thenAlloc _)) _ 1 1 [[1]] (mx_one_at (w7.alloc (.cells #[.int .i64 0] 3)) (by simp) [1] _ _ _ rfl rfl (by decide)) T1.out).mono ?_
      rintro e w8 ⟨rfl, y1⟩
      have y0 := y3.trans y1
      replace hC := hC.ext y0
      replace x0 := Ext.trans x0 y0
      clear y0
      clear y1 y3
      go_wp2_with (fail)
      have y3 : Ext w8 ((((w8.alloc (.cells #[.int .i64 0, .int .i64 0] 3)).alloc (.cells #[.int .u8 1] 5)).alloc (.cells #[.int .u8 1] 5)).alloc (.cells #[.slice (some ⟨w8.heap.size + 1, 0, none⟩) 1 1, .slice (some ⟨w8.heap.size + 1 + 1, 0, none⟩) 1 1] 22)) := (((Ext.alloc w8 (.cells #[.int .i64 0, .int .i64 0] 3)).thenAlloc (.cells #[.int .u8 1] 5)).thenAlloc (.cells #[.int .u8 1] 5)).thenAlloc (.cells #[.slice (some ⟨w8.heap.size + 1, 0, none⟩) 1 1, .slice (some ⟨w8.heap.size + 1 + 1, 0, none⟩) 1 1] 22)
      refine (wrong_law _ b fb 2 4 (hC.ext y3) _ 2 2 [0, 0] ((Is.lit w8 _ rfl [0, 0] _ _ 2 rfl rfl (by omega)).ext (((Ext.alloc _ _).thenAlloc _).thenAlloc _)) _ 2 2 [[1], [1]] (mx_two_at (w8.alloc (.cells #[.int .i64 0, .int .i64 0] 3)) (by simp) [1] [1] _ _ _ _ _ rfl rfl (by decide) rfl rfl (by decide)) T2.out).mono ?_
      rintro e w9 ⟨rfl, y1⟩
      have y0 := y3.trans y1
      replace hC := hC.ext y0
      replace x0 := Ext.trans x0 y0
      clear y0
      clear y1 y3
      go_wp2_with (fail)
      have y3 : Ext w9 ((((w9.alloc (.cells #[.int .i64 0, .int .i64 4] 3)).alloc (.cells #[.int .u8 1] 5)).alloc (.cells #[.int .u8 1] 5)).alloc (.cells #[.slice (some ⟨w9.heap.size + 1, 0, none⟩) 1 1, .slice (some ⟨w9.heap.size + 1 + 1, 0, none⟩) 1 1] 22)) := (((Ext.alloc w9 (.cells #[.int .i64 0, .int .i64 4] 3)).thenAlloc (.cells #[.int .u8 1] 5)).thenAlloc (.cells #[.int .u8 1] 5)).thenAlloc (.cells #[.slice (some ⟨w9.heap.size + 1, 0, none⟩) 1 1, .slice (some ⟨w9.heap.size + 1 + 1, 0, none⟩) 1 1] 22)
      refine (wrong_law _ b fb 2 4 (hC.ext y3) _ 2 2 [0, 4] ((Is.lit w9 _ rfl [0, 4] _ _ 2 rfl rfl (by omega)).ext (((Ext.alloc _ _).thenAlloc _).thenAlloc _)) _ 2 2 [[1], [1]] (mx_two_at (w9.alloc (.cells #[.int .i64 0, .int .i64 4] 3)) (by simp) [1] [1] _ _ _ _ _ rfl rfl (by decide) rfl rfl (by decide)) T3.out).mono ?_
      rintro e w10 ⟨rfl, y1⟩
      have y0 := y3.trans y1
      replace hC := hC.ext y0
      replace x0 := Ext.trans x0 y0
      clear y0
      clear y1 y3
      go_wp2_with (fail)
      have y3 : Ext w10 ((((w10.alloc (.cells #[.int .i64 (-1), .int .i64 1] 3)).alloc (.cells #[.int .u8 1] 5)).alloc (.cells #[.int .u8 1] 5)).alloc (.cells #[.slice (some ⟨w10.heap.size + 1, 0, none⟩) 1 1, .slice (some ⟨w10.heap.size + 1 + 1, 0, none⟩) 1 1] 22)) := (((Ext.alloc w10 (.cells #[.int .i64 (-1), .int .i64 1] 3)).thenAlloc (.cells #[.int .u8 1] 5)).thenAlloc (.cells #[.int .u8 1] 5)).thenAlloc (.cells #[.slice (some ⟨w10.heap.size + 1, 0, none⟩) 1 1, .slice (some ⟨w10.heap.size + 1 + 1, 0, none⟩) 1 1] 22)
      refine (wrong_law _ b fb 2 4 (hC.ext y3) _ 2 2 [-1, 1] ((Is.lit w10 _ rfl [-1, 1] _ _ 2 rfl rfl (by omega)).ext (((Ext.alloc _ _).thenAlloc _).thenAlloc _)) _ 2 2 [[1], [1]] (mx_two_at (w10.alloc (.cells #[.int .i64 (-1), .int .i64 1] 3)) (by simp) [1] [1] _ _ _ _ _ rfl rfl (by decide) rfl rfl (by decide)) T4.out).mono ?_
      rintro e w11 ⟨rfl, y1⟩
      have y0 := y3.trans y1
      replace hC := hC.ext y0
      replace x0 := Ext.trans x0 y0
      clear y0
      clear y1 y3
      go_wp2_with (fail)
      have y3 : Ext w11 (((w11.alloc (.cells #[.int .i64 0, .int .i64 1] 3)).alloc (.cells #[.int .u8 1] 5)).alloc (.cells #[.slice (some ⟨w11.heap.size + 1, 0, none⟩) 1 1] 22)) := ((Ext.alloc w11 (.cells #[.int .i64 0, .int .i64 1] 3)).thenAlloc (.cells #[.int .u8 1] 5)).thenAlloc (.cells #[.slice (some ⟨w11.heap.size + 1, 0, none⟩) 1 1] 22)
      refine (wrong_law _ b fb 2 4 (hC.ext y3) _ 2 2 [0, 1] ((Is.lit w11 _ rfl [0, 1] _ _ 2 rfl rfl (by omega)).ext ((Ext.alloc _ _).thenAlloc _)) _ 1 1 [[1]] (mx_one_at (w11.alloc (.cells #[.int .i64 0, .int .i64 1] 3)) (by simp) [1] _ _ _ rfl rfl (by decide)) T5.out).mono ?_
      rintro e w12 ⟨rfl, y1⟩
      have y0 := y3.trans y1
      replace hC := hC.ext y0
      replace x0 := Ext.trans x0 y0
      clear y0
      clear y1 y3
      go_wp2_with (fail)
      have y3 : Ext w12 ((((w12.alloc (.cells #[.int .i64 0, .int .i64 1] 3)).alloc (.cells #[.int .u8 1] 5)).alloc (.cells #[.int .u8 1, .int .u8 2] 5)).alloc (.cells #[.slice (some ⟨w12.heap.size + 1, 0, none⟩) 1 1, .slice (some ⟨w12.heap.size + 1 + 1, 0, none⟩) 2 2] 22)) := (((Ext.alloc w12 (.cells #[.int .i64 0, .int .i64 1] 3)).thenAlloc (.cells #[.int .u8 1] 5)).thenAlloc (.cells #[.int .u8 1, .int .u8 2] 5)).thenAlloc (.cells #[.slice (some ⟨w12.heap.size + 1, 0, none⟩) 1 1, .slice (some ⟨w12.heap.size + 1 + 1, 0, none⟩) 2 2] 22)
      refine (wrong_law _ b fb 2 4 (hC.ext y3) _ 2 2 [0, 1] ((Is.lit w12 _ rfl [0, 1] _ _ 2 rfl rfl (by omega)).ext (((Ext.alloc _ _).thenAlloc _).thenAlloc _)) _ 2 2 [[1], [1, 2]] (mx_two_at (w12.alloc (.cells #[.int .i64 0, .int .i64 1] 3)) (by simp) [1] [1, 2] _ _ _ _ _ rfl rfl (by decide) rfl rfl (by decide)) T6.out).mono ?_
      rintro e w13 ⟨rfl, y1⟩
      have y0 := y3.trans y1
      replace hC := hC.ext y0
      replace x0 := Ext.trans x0 y0
      clear y0
      clear y1 y3
      go_wp2_with (fail)
      refine (wrong_law _ b fb 2 4 hC _ 0 0 [] (Is.none _) _ 0 0 [] (Mx.none _) T7.out).mono ?_
      rintro e w14 ⟨rfl, y1⟩
      have y0 := y1
      replace hC := hC.ext y0
      replace x0 := Ext.trans x0 y0
      clear y0
      clear y1
      go_wp2_with (fail)
      have y3 : Ext w14 (((((((w14.alloc (.cells #[.int .i64 0, .int .i64 1, .int .i64 2, .int .i64 3, .int .i64 0] 3)).alloc (.cells #[.int .u8 1] 5)).alloc (.cells #[.int .u8 1] 5)).alloc (.cells #[.int .u8 1] 5)).alloc (.cells #[.int .u8 1] 5)).alloc (.cells #[.int .u8 1] 5)).alloc (.cells #[.slice (some ⟨w14.heap.size + 1, 0, none⟩) 1 1, .slice (some ⟨w14.heap.size + 1 + 1, 0, none⟩) 1 1, .slice (some ⟨w14.heap.size + 1 + 1 + 1, 0, none⟩) 1 1, .slice (some ⟨w14.heap.size + 1 + 1 + 1 + 1, 0, none⟩) 1 1, .slice (some ⟨w14.heap.size + 1 + 1 + 1 + 1 + 1, 0, none⟩) 1 1] 22)) := ((((((Ext.alloc w14 (.cells #[.int .i64 0, .int .i64 1, .int .i64 2, .int .i64 3, .int .i64 0] 3)).thenAlloc (.cells #[.int .u8 1] 5)).thenAlloc (.cells #[.int .u8 1] 5)).thenAlloc (.cells #[.int .u8 1] 5)).thenAlloc (.cells #[.int .u8 1] 5)).thenAlloc (.cells #[.int .u8 1] 5)).thenAlloc (.cells #[.slice (some ⟨w14.heap.size + 1, 0, none⟩) 1 1, .slice (some ⟨w14.heap.size + 1 + 1, 0, none⟩) 1 1, .slice (some ⟨w14.heap.size + 1 + 1 + 1, 0, none⟩) 1 1, .slice (some ⟨w14.heap.size + 1 + 1 + 1 + 1, 0, none⟩) 1 1, .slice (some ⟨w14.heap.size + 1 + 1 + 1 + 1 + 1, 0, none⟩) 1 1] 22)
      refine (wrong_law _ b fb 2 4 (hC.ext y3) _ 5 5 [0, 1, 2, 3, 0] ((Is.lit w14 _ rfl [0, 1, 2, 3, 0] _ _ 5 rfl rfl (by omega)).ext ((((((Ext.alloc _ _).thenAlloc _).thenAlloc _).thenAlloc _).thenAlloc _).thenAlloc _)) _ 5 5 [[1], [1], [1], [1], [1]] (mx_five_at _ (by simp) _ _) T8.out).mono ?_
      rintro e w15 ⟨rfl, y1⟩
      have y0 := y3.trans y1
      replace hC := hC.ext y0
      replace x0 := Ext.trans x0 y0
      clear y0
      clear y1 y3
      go_wp2_with (fail)
      have y3 : Ext w15 (((w15.alloc (.cells #[] 5)).alloc (.cells #[] 5)).alloc (.cells #[.slice (some ⟨w15.heap.size, 0, none⟩) 0 0, .slice (some ⟨w15.heap.size + 1, 0, none⟩) 0 0] 22)) := ((Ext.alloc w15 (.cells #[] 5)).thenAlloc (.cells #[] 5)).thenAlloc (.cells #[.slice (some ⟨w15.heap.size, 0, none⟩) 0 0, .slice (some ⟨w15.heap.size + 1, 0, none⟩) 0 0] 22)
      refine (encode_any _ b fb 2 4 (hC.ext y3) _ _ _ [[], []] (mx_two_at w15 rfl [] [] _ _ _ _ _ rfl rfl (by decide) rfl rfl (by decide))).mono ?_
      intro e w16 hg
      obtain ⟨Ax, cx, rfl, hX, y1⟩ := gives_mx hg
      clear hg
      have y0 := y3.trans y1
      replace hC := hC.ext y0
      replace x0 := Ext.trans x0 y0
      clear y0
      clear y1 y3
      rw [C1.out] at hX
      rw [C1.out, C2.out]
      rw [show ([[], [], [], []] : Gm.L).length = 4 from rfl] at *
      go_wp2_with (fail)
      have y3 : Ext w16 ((((w16.alloc (.cells #[.int .i64 0, .int .i64 1] 3)).alloc (.cells #[.int .u8 1] 5)).alloc (.cells #[.int .u8 1] 5)).alloc (.cells #[.slice (some ⟨w16.heap.size + 1, 0, none⟩) 1 1, .slice (some ⟨w16.heap.size + 1 + 1, 0, none⟩) 1 1] 22)) := (((Ext.alloc w16 (.cells #[.int .i64 0, .int .i64 1] 3)).thenAlloc (.cells #[.int .u8 1] 5)).thenAlloc (.cells #[.int .u8 1] 5)).thenAlloc (.cells #[.slice (some ⟨w16.heap.size + 1, 0, none⟩) 1 1, .slice (some ⟨w16.heap.size + 1 + 1, 0, none⟩) 1 1] 22)
      have hc := rebuild_any _ b fb 2 4 (hC.ext y3) _ 2 2 [0, 1] ((Is.lit w16 _ rfl [0, 1] _ _ 2 rfl rfl (by omega)).ext (((Ext.alloc _ _).thenAlloc _).thenAlloc _)) _ 2 2 [[1], [1]] (mx_two_at (w16.alloc (.cells #[.int .i64 0, .int .i64 1] 3)) (by simp) [1] [1] _ _ _ _ _ rfl rfl (by decide) rfl rfl (by decide)) 4
      rw [C6.out, C4.out] at hc
      refine hc.mono ?_
      clear hc
      intro e w17 hg
      obtain ⟨Aw17, cw17, rfl, y1⟩ := givesBE_nil hg
      clear hg
      have y0 := y3.trans y1
      replace hC := hC.ext y0
      replace hX := hX.ext y0
      replace x0 := Ext.trans x0 y0
      clear y0
      clear y1 y3
      go_wp2_with (fail)
      have y3 : Ext w17 ((((w17.alloc (.cells #[.int .i64 0, .int .i64 1] 3)).alloc (.cells #[.int .u8 1] 5)).alloc (.cells #[.int .u8 1] 5)).alloc (.cells #[.slice (some ⟨w17.heap.size + 1, 0, none⟩) 1 1, .slice (some ⟨w17.heap.size + 1 + 1, 0, none⟩) 1 1] 22)) := (((Ext.alloc w17 (.cells #[.int .i64 0, .int .i64 1] 3)).thenAlloc (.cells #[.int .u8 1] 5)).thenAlloc (.cells #[.int .u8 1] 5)).thenAlloc (.cells #[.slice (some ⟨w17.heap.size + 1, 0, none⟩) 1 1, .slice (some ⟨w17.heap.size + 1 + 1, 0, none⟩) 1 1] 22)
      have hc := rebuild_any _ b fb 2 4 (hC.ext y3) _ 2 2 [0, 1] ((Is.lit w17 _ rfl [0, 1] _ _ 2 rfl rfl (by omega)).ext (((Ext.alloc _ _).thenAlloc _).thenAlloc _)) _ 2 2 [[1], [1]] (mx_two_at (w17.alloc (.cells #[.int .i64 0, .int .i64 1] 3)) (by simp) [1] [1] _ _ _ _ _ rfl rfl (by decide) rfl rfl (by decide)) (-1)
      rw [C7.out, C5.out] at hc
      refine hc.mono ?_
      clear hc
      intro e w18 hg
      obtain ⟨Aw18, cw18, rfl, y1⟩ := givesBE_nil hg
      clear hg
      have y0 := y3.trans y1
      replace hC := hC.ext y0
      replace hX := hX.ext y0
      replace x0 := Ext.trans x0 y0
      clear y0
      clear y1 y3
      go_wp2_with (fail)
      have hc := split_arg w18 b fb 2 4 hC none 0 0 0 (.inl (by omega))
      refine hc.mono ?_
      clear hc
      intro e w19 hg
      obtain ⟨Aw19, cw19, rfl, y1⟩ := givesSE_nil hg
      clear hg
      have y0 := y1
      replace hC := hC.ext y0
      replace hX := hX.ext y0
      replace x0 := Ext.trans x0 y0
      clear y0
      clear y1
      go_wp2_with (fail)
      have hc := split_arg w19 b fb 2 4 hC none 0 0 65537 (.inr (by omega))
      refine hc.mono ?_
      clear hc
      intro e w20 hg
      obtain ⟨Aw20, cw20, rfl, y1⟩ := givesSE_nil hg
      clear hg
      have y0 := y1
      replace hC := hC.ext y0
      replace hX := hX.ext y0
      replace x0 := Ext.trans x0 y0
      clear y0
      clear y1
      go_wp2_with (fail)
      have hc := split_ok w20 b fb 2 4 hC none 0 0 [] (Bs.none _) 5 (by omega) (by omega) (by omega)
      rw [C8.out] at hc
      refine hc.mono ?_
      clear hc
      intro e w21 hg
      obtain ⟨Aw21, cw21, rfl, y1⟩ := givesSE_nil hg
      clear hg
      have y0 := y1
      replace hC := hC.ext y0
      replace hX := hX.ext y0
      replace x0 := Ext.trans x0 y0
      clear y0
      clear y1
      go_wp2_with (fail)
      have hmj := mxs_one_at w21 5 22 28
      have y3 : Ext w21 (((w21.alloc (.cells #[.int .u8 1] 5)).alloc (.cells #[.slice (some ⟨w21.heap.size, 0, none⟩) 1 1] 22)).alloc (.cells #[.slice (some ⟨w21.heap.size + 1, 0, none⟩) 1 1] 28)) := ((Ext.alloc _ _).thenAlloc _).thenAlloc _
      have hc := join_any _ b fb 2 4 (hC.ext y3) _ 1 1 [[[1]]] hmj (by omega) 0
      rw [C10.out, C9.out] at hc
      refine hc.mono ?_
      clear hc
      intro e w22 hg
      obtain ⟨Aw22, cw22, rfl, y1⟩ := givesR_nil hg
      clear hg
      have y0 := y3.trans y1
      replace hC := hC.ext y0
      replace hX := hX.ext y0
      replace x0 := Ext.trans x0 y0
      clear y0
      clear y1 y3 hmj
      go_wp2_with (fail)
      have hc := join_any _ b fb 2 4 hC none 0 0 [] (Mxs.none _) (by omega) 1
      rw [C12.out, C11.out] at hc
      refine hc.mono ?_
      clear hc
      intro e w23 hg
      obtain ⟨Aw23, cw23, rfl, y1⟩ := givesR_nil hg
      clear hg
      have y0 := y1
      replace hC := hC.ext y0
      replace hX := hX.ext y0
      replace x0 := Ext.trans x0 y0
      clear y0
      clear y1
      go_wp2_with (fail)
      have hc := join_any _ b fb 2 4 hC none 0 0 [] (Mxs.none _) (by omega) (-1)
      rw [C14.out, C13.out] at hc
      refine hc.mono ?_
      clear hc
      intro e w24 hg
      obtain ⟨Aw24, cw24, rfl, y1⟩ := givesR_nil hg
      clear hg
      have y0 := y1
      replace hC := hC.ext y0
      replace hX := hX.ext y0
      replace x0 := Ext.trans x0 y0
      clear y0
      clear y1
      go_wp2_with (fail)
      have hc := join_any _ b fb 2 4 hC none 0 0 [] (Mxs.none _) (by omega) 0
      rw [C16.out, C15.out] at hc
      refine hc.mono ?_
      clear hc
      intro e w25 hg
      obtain ⟨Aw25, cw25, rfl, y1⟩ := givesR_nil hg
      clear hg
      have y0 := y1
      replace hC := hC.ext y0
      replace hX := hX.ext y0
      replace x0 := Ext.trans x0 y0
      clear y0
      clear y1
      go_wp2_with (fail)
      have hc := fits_any _ b fb 2 4 hC _ 4 cx _ hX
      rw [C3.out] at hc
      refine hc.mono ?_
      clear hc
      rintro e w26 ⟨rfl, y1⟩
      have y0 := y1
      replace hC := hC.ext y0
      replace hX := hX.ext y0
      replace x0 := Ext.trans x0 y0
      clear y0
      clear y1
      go_wp2_with (fail)
      refine (awake_any4 _).mono ?_
      rintro e w27 ⟨rfl, y1⟩
      have y0 := y1
      replace hC := hC.ext y0
      replace hX := hX.ext y0
      replace x0 := Ext.trans x0 y0
      clear y0
      go_wp2_with (fail)
      go_ret
      exact ⟨rfl, x0⟩
namespace codeNumbers
theorem walk (w : World) : Calls Try.prog 6 #[] w fun e w' => e = .returned (.bool true) ∧ Below w.heap.size w w' := codeNumbers_any w
end codeNumbers
end Go.Proofs.Ytfpcldkfmcnjkaa
