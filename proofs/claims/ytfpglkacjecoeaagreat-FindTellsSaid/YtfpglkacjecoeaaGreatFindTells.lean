/- FindTells' walk. -/
import Derived.Test.YtfpglkacjecoeaaGreatCt39
import Derived.Test.YtfpglkacjecoeaaGreatFindOpen
import Derived.Test.YtfpglkacjecoeaaGreatCt14
import Derived.Test.YtfpglkacjecoeaaGreatCt1
namespace Go.Proofs.YtfpglkacjecoeaaGreat
open Go.ChangeShapes Go.WideShapes Go.ChangeAt Go.RowKit

namespace findTells
set_option maxRecDepth 100000 in
set_option maxHeartbeats 16000000 in
theorem tells_any (w : World) (f : Finds.F) (A : Option Addr) (n c : Nat) (B : Option Addr) (m d : Nat) (C : Option Addr) (k e : Nat) (hf : Fd w f A n c B m d C k e) (x0 x1 x2 x3 : Int) (kk nn : UInt8) (Ao : Option Addr) (no co : Nat) (ops : Nat → Op13) (ho : Os13 w Ao no co ops) :
    Calls Tryz.prog 3 #[fval f.stripe f.version f.need f.phase (.slice A n c) (.slice B m d) (.slice C k e), .agg #[.int .i64 x0, .int .i64 x1, .int .i64 x2, .int .i64 x3], .int .u8 (kk.toNat : Int), .int .u8 (nn.toNat : Int), .slice Ao no co] w fun e w' => e = .returned (.bool true) ∧ Ext w w' := by
  have y0 := hf.u.max
  have y1 := hf.u.le
  have y2 := hf.v.max
  have y3 := hf.v.le
  have y4 := hf.s.max
  have y5 := hf.s.le
  have y6 := ho.max
  have y7 := ho.le
  obtain ⟨K, hK⟩ : ∃ K : Nat, kk.toNat % 13 = K := ⟨_, rfl⟩
  obtain ⟨N, hN⟩ : ∃ N : Nat, nn.toNat % 13 = N := ⟨_, rfl⟩
  have K12 : K ≤ 12 := by omega
  have N12 : N ≤ 12 := by omega
  have HK := Lib.hid (show (kk.toNat : Int) % 13 = (K : Int) by omega)
  have HN := Lib.hid (show (nn.toNat : Int) % 13 = (N : Int) by omega)
  clear hK hN
  obtain ⟨g, hg⟩ : ∃ g, w.heap.size = g := ⟨_, rfl⟩
  have s1 := Fb.new w f.stripe f.version f.need f.phase (.slice A n c) (.slice B m d) (.slice C k e) hg
  have xA := Ext.alloc w (.cells #[.int .i64 f.stripe, .int .i64 f.version, .int .i64 f.need, .int .i64 f.phase, .slice A n c, .slice B m d, .slice C k e] 25)
  obtain ⟨W1, hW1⟩ : ∃ W1, w.alloc (.cells #[.int .i64 f.stripe, .int .i64 f.version, .int .i64 f.need, .int .i64 f.phase, .slice A n c, .slice B m d, .slice C k e] 25) = W1 := ⟨_, rfl⟩
  have z1 : W1.heap.size = g + 1 := by rw [← hW1, ← hg]; simp
  rw [hW1] at s1 xA
  have xB := Ext.alloc W1 (.cells #[.int .i64 x0, .int .i64 x1, .int .i64 x2, .int .i64 x3] 26)
  have b4 : (W1.alloc (.cells #[.int .i64 x0, .int .i64 x1, .int .i64 x2, .int .i64 x3] 26)).heap[g + 1]? = some (.cells #[.int .i64 x0, .int .i64 x1, .int .i64 x2, .int .i64 x3] 26 (0, 0)) := by rw [← z1]; exact heap_alloc_new _ _
  obtain ⟨W2, hW2⟩ : ∃ W2, W1.alloc (.cells #[.int .i64 x0, .int .i64 x1, .int .i64 x2, .int .i64 x3] 26) = W2 := ⟨_, rfl⟩
  rw [hW2] at xB b4
  have s2 := s1.ext xB
  have FB := Lib.hid s2
  have X2 := Lib.hid (xA.trans xB)
  have HF := Lib.hid hf
  have HO := Lib.hid ho
  have HG := Lib.hid hg
  have HW1 := Lib.hid hW1
  have HW2 := Lib.hid hW2
  have HSMALL := Lib.hid (small13_any W2 f A n c B m d C k e (hf.ext (xA.trans xB)))
  have E4 := Lib.hid (show W2.cell? ⟨g + 1, 0, none⟩ = some (.int .i64 x0) ∧ W2.cell? ⟨g + 1, 1, none⟩ = some (.int .i64 x1) ∧ W2.cell? ⟨g + 1, 2, none⟩ = some (.int .i64 x2) ∧ W2.cell? ⟨g + 1, 3, none⟩ = some (.int .i64 x3) from
    ⟨by rw [cell_of_row W2 _ _ _ _ _ b4]; rfl, by rw [cell_of_row W2 _ _ _ _ _ b4]; rfl, by rw [cell_of_row W2 _ _ _ _ _ b4]; rfl, by rw [cell_of_row W2 _ _ _ _ _ b4]; rfl⟩)
  clear hf ho xA xB s1 s2 z1 b4 hW1 hW2
  go_enter Tryz.func3, Tryz.ntmps3
  try dsimp only [List.append]
  go_upto_region 1 with (fail)
  rw [HW1.out, HW2.out]
  try rw [hg]
  clear hg HW1 HW2
  have k0 := FB.out.c0
  have k1 := FB.out.c1
  have k2 := FB.out.c2
  have k3 := FB.out.c3
  have k4 := FB.out.c4
  have k5 := FB.out.c5
  have k6 := FB.out.c6
  go_wp2_with (fail)
  refine HSMALL.out.mono ?_
  rintro r w1 ⟨b, rfl, hsm, x1w⟩
  have X1 := Lib.hid x1w
  clear k0 k1 k2 k3 k4 k5 k6 x1w HSMALL
  cases b with
  | false =>
    clear hsm
    go_wp2_with (fail)
    refine (awake_any13 _).mono ?_
    rintro r w9 ⟨rfl, x9⟩
    go_wp2_with (fail)
    go_ret
    exact ⟨rfl, (X2.out.trans X1.out).trans x9⟩
  | true =>
    have HSM := Lib.hid (hsm rfl)
    have e42 := X1.out.cell E4.out.2.2.1
    clear hsm
    by_cases hx2 : (300 : Int) < x2
    · have hx2n : decide ((300 : Int) < x2) = true := decide_eq_true hx2
      go_wp2_with (fail)
      refine (awake_any13 _).mono ?_
      rintro r w9 ⟨rfl, x9⟩
      go_wp2_with (fail)
      go_ret
      exact ⟨rfl, (X2.out.trans X1.out).trans x9⟩
    · have hx2n : decide ((300 : Int) < x2) = false := decide_eq_false hx2
      go_upto_region 3 with (fail)
      clear e42
      obtain ⟨F0, hF0⟩ : ∃ F0, Finds.beginF x0 x1 x2 x3 = F0 := ⟨_, rfl⟩
      obtain ⟨E0, hE0⟩ : ∃ E0, Finds.beginE x0 x1 x2 x3 = E0 := ⟨_, rfl⟩
      have hB1 := fBegin_any w1 x0 x1 x2 x3
      have hB2 := fun W : World => refBegin13_any W x0 x1 x2 x3
      rw [hF0, hE0] at hB1
      simp only [hF0, hE0] at hB2
      have HB1 := Lib.hid hB1
      have HB2 := Lib.hid hB2
      clear hB1 hB2 hF0 hE0
      have e40 := X1.out.cell E4.out.1
      have e41 := X1.out.cell E4.out.2.1
      have e42 := X1.out.cell E4.out.2.2.1
      have e43 := X1.out.cell E4.out.2.2.2
      go_wp2_with (fail)
      refine HB1.out.mono ?_
      rintro r w2 ⟨U, V, S, rfl, ⟨A1, n1, c1, B1, m1, d1, C1, k1, e1, rfl, rfl, rfl, hd1⟩, x2w, _⟩
      obtain ⟨xa, wa, wb, ra, sa, fv1, xb⟩ := find_new w2 hd1
      have RA := Lib.hid ra
      have SA := Lib.hid sa
      have FV1 := Lib.hid fv1
      have X3 := Lib.hid (X1.out.trans (x2w.trans xb))
      clear ra sa fv1 x2w xb hd1 e40 e41 e42 e43
      have e40 := X3.out.cell E4.out.1
      have e41 := X3.out.cell E4.out.2.1
      have e42 := X3.out.cell E4.out.2.2.1
      have e43 := X3.out.cell E4.out.2.2.2
      go_wp2_with (first
        | ((with_reducible refine opIs ⟨some 11, .alloc 25, _, _, _, _⟩ ?_); refine wpList_allocR rfl 25 rfl _ RA.out ?_)
        | ((with_reducible refine opIs ⟨none, .store 25 (.tmp 11) (.tmp 48), _, _, _, _⟩ ?_); refine wpList_storeR rfl 25 (.tmp 11) (.tmp 48) rfl rfl rfl SA.out ?_))
      refine (HB2.out wb).mono ?_
      rintro r w4 ⟨A2, n2, c2, B2, m2, d2, C2, k2, e2, rfl, hd2, x4⟩
      obtain ⟨xc, wc, wd, rc, sc, fv2, xd⟩ := find_new w4 hd2
      obtain ⟨A3, n3, c3, B3, m3, d3, C3, k3', e3, ld1, hq1⟩ := (FV1.out.ext (x4.trans xd)).load
      obtain ⟨A4, n4, c4, B4, m4, d4, C4, k4', e4, ld2, hq2⟩ := fv2.load
      have hs := sameFind_any wd F0 F0 _ _ _ _ _ _ _ _ _ _ _ _ _ _ _ _ _ _ hq1 hq2
      rw [sameF_refl] at hs
      have HS := Lib.hid hs
      have LD1 := Lib.hid ld1
      have LD2 := Lib.hid ld2
      have RC := Lib.hid rc
      have SC := Lib.hid sc
      have X5 := Lib.hid (X3.out.trans (x4.trans xd))
      clear rc sc fv2 x4 xd hd2 ld1 ld2 hq1 hq2 hs e40 e41 e42 e43 RA SA
      go_wp2_with (first
        | ((with_reducible refine opIs ⟨some 13, .alloc 25, _, _, _, _⟩ ?_); refine wpList_allocR rfl 25 rfl _ RC.out ?_)
        | ((with_reducible refine opIs ⟨none, .store 25 (.tmp 13) (.tmp 60), _, _, _, _⟩ ?_); refine wpList_storeR rfl 25 (.tmp 13) (.tmp 60) rfl rfl rfl SC.out ?_)
        | ((with_reducible refine opIs ⟨some 62, .load 25 (.tmp 11), _, _, _, _⟩ ?_); refine wpList_loadR rfl 25 (.tmp 11) rfl rfl LD1.out ?_)
        | ((with_reducible refine opIs ⟨some 63, .load 25 (.tmp 13), _, _, _, _⟩ ?_); refine wpList_loadR rfl 25 (.tmp 13) rfl rfl LD2.out ?_))
      refine HS.out.mono ?_
      rintro r w5 ⟨rfl, x5⟩
      have X5b := Lib.hid (X5.out.trans x5)
      clear x5 LD1 LD2 RC SC HS
      go_wp2_with (fail)
      refine (new_any _).mono ?_
      rintro r w6 ⟨rfl, hfld, x6⟩
      obtain ⟨fb, hfb⟩ : ∃ fb, w5.heap.size = fb := ⟨_, rfl⟩
      rw [hfb] at hfld ⊢
      have HFL := Lib.hid hfld
      have X6 := Lib.hid (X5b.out.trans x6)
      clear hfb x6 hfld
      go_wp2_with (fail)
      rewrite [HK.out, HN.out]
      by_cases hok : 1 ≤ K ∧ K ≤ N
      · refine (codeNew_ok fb _ K N HFL.out hok.1 hok.2 (by omega)).mono ?_
        rintro r w6b ⟨b1, rfl, hC, x6b⟩
        have HC := Lib.hid hC
        have X6b := Lib.hid (X6.out.trans x6b)
        clear hC x6b
        go_upto_region 8 with (fail)
        go_wp2_with (fail)
        rewrite [HK.out, HN.out]
        refine (ref4New_ok _ K N hok.1 hok.2 (by omega)).mono ?_
        rintro r w7 ⟨Ar, cr, rfl, hA7, x7⟩
        have HM7 := Lib.hid hA7
        have X67 := Lib.hid x7
        have X7 := Lib.hid (X6b.out.trans x7)
        clear hA7 x7
        go_upto_region 11 with (fail)
        obtain ⟨W8, hW8⟩ : ∃ W8, w7.alloc (.cells #[.int .i64 (K : Int), .int .i64 (N : Int), .slice Ar N cr] 41) = W8 := ⟨_, rfl⟩
        have x8 : Ext w7 W8 := by rw [← hW8]; exact Ext.alloc _ _
        have b8 : W8.heap[w7.heap.size]? = some (.cells #[.int .i64 (K : Int), .int .i64 (N : Int), .slice Ar N cr] 41 (0, 0)) := by rw [← hW8]; exact heap_alloc_new _ _
        rw [hW8]
        obtain ⟨gd, hgd⟩ : ∃ gd, w7.heap.size = gd := ⟨_, rfl⟩
        rw [hgd] at b8 ⊢
        have l8 : gd < W8.heap.size := (Array.getElem?_eq_some_iff.1 b8).1
        have X8 := X7.out.trans x8
        have fb8 := FB.out.ext X8
        have hdz : FdZ (fun q => q = g) W8 f A n c B m d C k e := HF.out.z (X2.out.trans X8) (fun q hq => by rw [HG.out]; omega)
        have hsz := FB.out.lt
        have hsz2 := X8.size
        have hsz7 := X7.out.size
        obtain ⟨gw, wx, wy, hgw, ra, sa, fz, xb⟩ := fz_new (f := f) hdz
        have XFF := Lib.hid (show Fz (fun q => q = g ∨ q = gw) wy g f from ⟨A, n, c, B, m, d, C, k, e, fb8.ext xb, HF.out.z (X2.out.trans (X8.trans xb)) (fun q hq => by rw [HG.out]; rcases hq with h | h <;> omega)⟩)
        have XWW := Lib.hid fz
        have LD := Lib.hid fb8.run
        have RA := Lib.hid ra
        have SA := Lib.hid sa
        have XC := Lib.hid (show Coded wy (cptr b1) gd 0 from fun _ => ⟨b1, fb, K, N, Ar, cr, rfl, HC.out.ext (X67.out.trans (x8.trans xb)), (xb.block gd l8).trans b8, HM7.out.ext (x8.trans xb), hok.1, hok.2, by omega⟩)
        have X0 := Lib.hid (X2.out.trans (X8.trans xb))
        have XG := Lib.hid (show w.heap.size ≤ g ∧ w.heap.size ≤ gw ∧ g ≠ gw ∧ gd ≠ g ∧ gd ≠ gw ∧ gd < wy.heap.size from ⟨by rw [HG.out]; exact Nat.le_refl _, by rw [HG.out]; omega, by omega, by omega, by omega, Nat.lt_of_lt_of_le l8 xb.size⟩)
        clear hW8 hgd fb8 hdz hgw ra sa fz X8 hsz hsz2 hsz7
        rename_i h11
        have H11 := Lib.hid h11
        clear h11
        go_wp2_with (first
          | ((with_reducible refine opIs ⟨some 95, .load 25 (.tmp 5), _, _, _, _⟩ ?_); refine wpList_loadR rfl 25 (.tmp 5) rfl rfl LD.out ?_)
          | ((with_reducible refine opIs ⟨some 19, .alloc 25, _, _, _, _⟩ ?_); refine wpList_allocR rfl 25 rfl _ RA.out ?_)
          | ((with_reducible refine opIs ⟨none, .store 25 (.tmp 19) (.tmp 95), _, _, _, _⟩ ?_); refine wpList_storeR rfl 25 (.tmp 19) (.tmp 95) rfl rfl rfl SA.out ?_))
        exact H11.out _ _ (tellL XFF XWW HSM XC X0 HO XG)
      · refine (codeNew_arg fb _ K N HFL.out (by omega)).mono ?_
        rintro r w6b ⟨rfl, rfl⟩
        go_upto_region 8 with (fail)
        go_wp2_with (fail)
        rewrite [HK.out, HN.out]
        refine (ref4New_arg _ K N (by omega)).mono ?_
        rintro r w7 ⟨rfl, x7⟩
        have X7 := Lib.hid (X6.out.trans x7)
        clear x7
        go_upto_region 11 with (fail)
        obtain ⟨W8, hW8⟩ : ∃ W8, w7.alloc (.cells #[.int .i64 0, .int .i64 0, .slice none 0 0] 41) = W8 := ⟨_, rfl⟩
        have x8 : Ext w7 W8 := by rw [← hW8]; exact Ext.alloc _ _
        have b8 : W8.heap[w7.heap.size]? = some (.cells #[.int .i64 0, .int .i64 0, .slice none 0 0] 41 (0, 0)) := by rw [← hW8]; exact heap_alloc_new _ _
        rw [hW8]
        obtain ⟨gd, hgd⟩ : ∃ gd, w7.heap.size = gd := ⟨_, rfl⟩
        rw [hgd] at b8 ⊢
        have l8 : gd < W8.heap.size := (Array.getElem?_eq_some_iff.1 b8).1
        have X8 := X7.out.trans x8
        have fb8 := FB.out.ext X8
        have hdz : FdZ (fun q => q = g) W8 f A n c B m d C k e := HF.out.z (X2.out.trans X8) (fun q hq => by rw [HG.out]; omega)
        have hsz := FB.out.lt
        have hsz2 := X8.size
        have hsz7 := X7.out.size
        obtain ⟨gw, wx, wy, hgw, ra, sa, fz, xb⟩ := fz_new (f := f) hdz
        have XFF := Lib.hid (show Fz (fun q => q = g ∨ q = gw) wy g f from ⟨A, n, c, B, m, d, C, k, e, fb8.ext xb, HF.out.z (X2.out.trans (X8.trans xb)) (fun q hq => by rw [HG.out]; rcases hq with h | h <;> omega)⟩)
        have XWW := Lib.hid fz
        have LD := Lib.hid fb8.run
        have RA := Lib.hid ra
        have SA := Lib.hid sa
        have XC := Lib.hid (show Coded wy (.pointer none) gd 2 from fun e => absurd e (by decide))
        have X0 := Lib.hid (X2.out.trans (X8.trans xb))
        have XG := Lib.hid (show w.heap.size ≤ g ∧ w.heap.size ≤ gw ∧ g ≠ gw ∧ gd ≠ g ∧ gd ≠ gw ∧ gd < wy.heap.size from ⟨by rw [HG.out]; exact Nat.le_refl _, by rw [HG.out]; omega, by omega, by omega, by omega, Nat.lt_of_lt_of_le l8 xb.size⟩)
        clear hW8 hgd fb8 hdz hgw ra sa fz X8 hsz hsz2 hsz7
        rename_i h11
        have H11 := Lib.hid h11
        clear h11
        go_wp2_with (first
          | ((with_reducible refine opIs ⟨some 95, .load 25 (.tmp 5), _, _, _, _⟩ ?_); refine wpList_loadR rfl 25 (.tmp 5) rfl rfl LD.out ?_)
          | ((with_reducible refine opIs ⟨some 19, .alloc 25, _, _, _, _⟩ ?_); refine wpList_allocR rfl 25 rfl _ RA.out ?_)
          | ((with_reducible refine opIs ⟨none, .store 25 (.tmp 19) (.tmp 95), _, _, _, _⟩ ?_); refine wpList_storeR rfl 25 (.tmp 19) (.tmp 95) rfl rfl rfl SA.out ?_))
        exact H11.out _ _ (tellL XFF XWW HSM XC X0 HO XG)
set_option maxRecDepth 100000 in
theorem walk {H : Type} {enc : TypeId × Value → H} {base : Nat} (w : World) (v0 : Value) (d0 : DataW H) (p0 : List MemPlace) (v1 : Value) (d1 : DataW H) (p1 : List MemPlace) (a2 a3 : Int) (v4 : Value) (d4 : DataW H) (p4 : List MemPlace)
    (o0 : Value.okWide Tryz.prog w .any base 25 v0) (h0 : DataW.Trod enc Tryz.prog w 0 (fun _ => true) true 25 v0 d0 p0) (o1 : Value.okWide Tryz.prog w .any base 26 v1) (h1 : DataW.Trod enc Tryz.prog w 0 (fun _ => true) true 26 v1 d1 p1)
    (w2 : (Lit.int .u8 a2).wf = true) (w3 : (Lit.int .u8 a3).wf = true) (o4 : Value.okWide Tryz.prog w .any base 27 v4) (h4 : DataW.Trod enc Tryz.prog w 0 (fun _ => true) true 27 v4 d4 p4) :
    Calls Tryz.prog 3 #[v0, v1, .int .u8 a2, .int .u8 a3, v4] w fun e w' => e = .returned (.bool true) ∧ Ext w w' := by
  obtain ⟨f, A, n, c, B, m, d, C, k, e, rfl, hf⟩ := find_open o0 h0
  obtain ⟨x0, x1, x2, x3, rfl⟩ := open_i64x4 Tryz.underlying26 Tryz.underlying3 (by kernel_rfl) (by kernel_rfl) o1 h1
  obtain ⟨kk, rfl⟩ := wf_u8 w2
  obtain ⟨nn, rfl⟩ := wf_u8 w3
  obtain ⟨Ao, no, co, ops, rfl, ho⟩ := os13_open o4 h4
  exact tells_any w f A n c B m d C k e hf x0 x1 x2 x3 kk nn Ao no co ops ho
end findTells
end Go.Proofs.YtfpglkacjecoeaaGreat
