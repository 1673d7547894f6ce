/- The contract of the document's Decode (chapter 04). -/
import Derived.Test.YtfpcldkfmcnjkaaRef4Enc
import Derived.Test.YtfpcldkfmcnjkaaRef3Pick
import Derived.Test.YtfpcldkfmcnjkaaRef3Invert
import Derived.Deep.RegionHeld3
namespace Go.Proofs.Ytfpcldkfmcnjkaa
open Go.RowKit
attribute [local go_sem ↓] Go.wp_at_zero Go.wp_at_succ

set_option maxRecDepth 100000 in
set_option maxHeartbeats 4000000 in
theorem ref4Decode_any (w : World) (k n : Nat) (A : Option Addr) (c : Nat) (hA : Mx w A n c (Gm.gen k n)) (h1 : 1 ≤ k) (h2 : k ≤ n) (h3 : n ≤ 255) (B : Option Addr) (q d : Nat) (l : List Int) (hl : Is w B q d l) (As : Option Addr) (m cs : Nat) (s : Gm.L) (hs : Mx w As m cs s) :
    Calls Try.prog 32 #[cval k n A n c, .slice B q d, .slice As m cs] w (GivesQE (decM k n l s) (decE k n l s) w) := by
  have xA : Ext w (wbox w k n A c) := Ext.alloc _ _
  have hB0 := bd_box w k n A c
  have hE := ref4Even_any (wbox w k n A c) As m cs s q (hs.ext xA)
  have q1 := hl.max
  have q2 := hl.le
  have q3 := hs.max
  have q4 := hs.le
  have q5 := hA.max
  have q6 := hA.le
  have hno : ¬ (toldOk k n l s ∧ invE (partOf k n l) = 0) → decM k n l s = [] ∧ decE k n l s = 40 := fun h => by
    unfold decM decE
    rw [if_neg (show ¬ decOk k n l s from h), if_neg (show ¬ decOk k n l s from h)]
    exact ⟨rfl, rfl⟩
  have hok : toldOk k n l s → invE (partOf k n l) = 0 → decM k n l s = Gm.mulL (invM (partOf k n l)) (s.take k) ∧ decE k n l s = 0 := fun h1 h2 => by
    unfold decM decE
    rw [if_pos (show decOk k n l s from ⟨h1, h2⟩), if_pos (show decOk k n l s from ⟨h1, h2⟩)]
    exact ⟨rfl, rfl⟩
  have HOK := Lib.hid hok
  have HNO := Lib.hid hno
  have HE := Lib.hid hE
  have HB := Lib.hid hB0
  have HL := Lib.hid hl
  have HS := Lib.hid hs
  have HA := Lib.hid hA
  have LL := Lib.hid hl.len
  have LS := Lib.hid hs.len
  have c0 := hB0.c0
  obtain ⟨DM, hDM⟩ : ∃ DM, decM k n l s = DM := ⟨_, rfl⟩
  obtain ⟨DE, hDE⟩ : ∃ DE, decE k n l s = DE := ⟨_, rfl⟩
  rw [hDM, hDE] at HNO HOK ⊢
  clear hok hno hE hB0 hl hs hA hDM hDE
  by_cases t1 : q = m
  · subst t1
    have e1 : ((q : Int) != (q : Int)) = false := by simp
    by_cases t2 : k ≤ q
    · have e2 : ¬ (q : Int) < k := by omega
      by_cases t3 : Gm.even s q
      · have HT3 := Lib.hid t3
        rw [decide_eq_true t3] at HE
        clear t3
        go_enter Try.func32, Try.ntmps32
        go_wp2_with (fail)
        refine HE.out.mono ?_
        rintro e w1 ⟨rfl, x1⟩
        have b1 := HB.out.ext x1
        have c0 := b1.c0
        have c1 := b1.c1
        have c2 := b1.c2
        have HB1 := Lib.hid b1
        clear b1
        go_wp2_with (fail)
        go_loopw [8, 9] (fun t _ wr => ∃ i : Nat, i ≤ q ∧ t = .int .i64 i ∧ Ext w1 wr ∧ RowKit.Hid (∀ i', i' < i → 0 ≤ Il.get l i' ∧ Il.get l i' < n ∧ ∀ j, j < i' → Il.get l j ≠ Il.get l i')) (fun t _ _ => q - (intOf t).toNat)
        case atStart => exact ⟨0, by omega, rfl, Ext.refl _, Lib.hid fun i hi => absurd hi (Nat.not_lt_zero _)⟩
        case round =>
          obtain ⟨i, hi, rfl, hx, HN⟩ := hrel
          have xx : Ext w wr := (xA.trans x1).trans hx
          by_cases hlt : i < q
          · have r1 : (i : Int) < q := by omega
            obtain ⟨bl, ol, rfl, hcl⟩ := (HL.out.ext xx).rd.intAt hlt
            obtain ⟨x, hxl⟩ : ∃ x, Il.get l i = x := ⟨_, rfl⟩
            have HXL := Lib.hid hxl
            rw [hxl] at hcl
            have c1' := hx.cell c1
            have hbad : ¬ (0 ≤ x ∧ x < n ∧ ∀ j, j < i → Il.get l j ≠ x) → DM = [] ∧ DE = 40 := fun h => HNO.out fun h9 => h (by have := h9.1.2 i (by rw [LL.out]; exact hlt); rwa [hxl] at this)
            have HBAD := Lib.hid hbad
            clear hxl hbad
            by_cases hx1 : x < 0
            · obtain ⟨rfl, rfl⟩ := HBAD.out (fun h => by omega)
              have e4 : decide (x < 0) = true := decide_eq_true hx1
              clear HOK HNO HBAD
              go_wp2_with (fail)
              go_region
              all_goals
                go_wp2_with (fail)
                go_ret2
                exact GivesQE.none 40 xx.thenDrew
            · have e4 : decide (x < 0) = false := decide_eq_false hx1
              by_cases hx2 : (n : Int) ≤ x
              · obtain ⟨rfl, rfl⟩ := HBAD.out (fun h => by omega)
                have e5 : decide ((n : Int) ≤ x) = true := decide_eq_true hx2
                clear HOK HNO HBAD
                go_wp2_with (fail)
                go_region
                all_goals
                  go_wp2_with (fail)
                  go_ret2
                  exact GivesQE.none 40 xx.thenDrew
              · have e5 : decide ((n : Int) ≤ x) = false := decide_eq_false hx2
                go_wp2_with (fail)
                go_region
                all_goals
                  go_wp2_with (fail)
                  go_loopw [9] (fun t wr' => ∃ j : Nat, j ≤ i ∧ t = .int .i64 j ∧ Ext wr wr' ∧ RowKit.Hid (∀ j', j' < j → Il.get l j' ≠ x)) (fun t _ => i - (intOf t).toNat)
                  case atStart => exact ⟨0, by omega, rfl, Ext.drew _, Lib.hid fun i hi => absurd hi (Nat.not_lt_zero _)⟩
                  case round =>
                    obtain ⟨j, hj, rfl, hxj, HJ⟩ := hrel
                    by_cases hji : j < i
                    · have r2 : (j : Int) < i := by omega
                      have hjq : j < q := by omega
                      have r3 : (j : Int) < q := by omega
                      obtain ⟨bl', ol', e8, hcj⟩ := (HL.out.ext (xx.trans hxj)).rd.intAt hjq
                      injection e8 with e8
                      injection e8 with e8 e9
                      subst e8 e9
                      have hci := hxj.cell hcl
                      obtain ⟨y, hyl⟩ : ∃ y, Il.get l j = y := ⟨_, rfl⟩
                      rw [hyl] at hcj
                      have HYL := Lib.hid hyl
                      clear hyl
                      by_cases hxy : y = x
                      · obtain ⟨rfl, rfl⟩ := HBAD.out (fun h => h.2.2 j hji (by rw [HYL.out, hxy]))
                        have e3 : (y == x) = true := by simp [hxy]
                        clear hxy HOK HNO HBAD
                        go_wp2_with (fail)
                        go_region
                        all_goals
                          go_wp2_with (fail)
                          go_ret2
                          exact GivesQE.none 40 (xx.trans hxj).thenDrew
                      · have e3 : (y == x) = false := by rw [beq_eq_false_iff_ne]; exact hxy
                        go_wp2_with (fail)
                        go_region
                        all_goals
                          go_wp2_with (fail)
                          refine ⟨⟨j + 1, by omega, by go_num, hxj.thenDrew, Lib.hid fun j' hj' => ?_⟩, by simp [intOf]; omega⟩
                          by_cases e : j' = j
                          · rw [e, HYL.out]; exact hxy
                          · exact HJ.out j' (by omega)
                    · have r2 : ¬ (j : Int) < i := by omega
                      obtain rfl : i = j := by omega
                      go_wp2_with (fail)
                      refine ⟨⟨i + 1, by omega, by go_num, hx.trans hxj, Lib.hid fun i' hi' => ?_⟩, by simp [intOf]; omega⟩
                      by_cases e : i' = i
                      · rw [e, HXL.out]; exact ⟨by omega, by omega, HJ.out⟩
                      · exact HN.out i' (by omega)
          · have r1 : ¬ (i : Int) < q := by omega
            obtain rfl : q = i := by omega
            have hto : toldOk k n l s := ⟨⟨by rw [LL.out, LS.out], by rw [LL.out]; exact t2, by rw [LL.out]; exact HT3.out⟩, by rw [LL.out]; exact HN.out⟩
            have HTO := Lib.hid hto
            have hPl := part_length h1 h3 h2 hto
            have hk2 : k ≤ 255 := by omega
            have g2 : (k : Int) ≤ cs := by omega
            have g3 : (0 : Int) ≤ k := by omega
            have g5 : (k : Int) ≤ d := by omega
            have hsk := HS.out.take (k := k) t2
            have hsw : ∀ i, i < k → (Gm.row (s.take k) i).length = Gm.cols (s.take k) := fun i hi => by rw [row_take hi, cols_take h1]; exact HT3.out.2.2.2 i (by omega)
            have hsc : Gm.cols (s.take k) ≤ 65536 := by rw [cols_take h1]; exact HT3.out.2.2.1
            have HR := Lib.hid (fun (W : World) (hW : Ext w W) (A : Option Addr) (c : Nat) (G : Gm.L) (hG : Mx W A k c G) (hr : Gm.Rect k k G) => ref4Times_any W A As k c k cs G (s.take k) hG (hsk.ext hW) (by omega) h1 (by omega) (fun i hi => hr.wid i hi) hsw hsc)
            have HPL := Lib.hid hPl
            have HP1 := Lib.hid (ref3Pick_any wr.drew A n c (Gm.gen k n) (HA.out.ext xx.thenDrew) B k d (l.take k) ((HL.out.ext xx.thenDrew).take t2))
            have hBX := fun (W : World) (hW : Ext wr W) => (HB1.out.ext hx).ext hW
            have HBX := Lib.hid hBX
            have HPP := Lib.hid (show partOf k n l = pickM (Gm.gen k n) (l.take k) from rfl)
            have b1 := hBX wr (Ext.refl wr)
            have c0 := b1.c0
            have c2 := b1.c2
            have hSB : ∀ W : World, Ext wr W → (W.cell? ⟨w.heap.size, 0, none⟩ = some (.int .i64 (k : Int)) ∧ W.cell? ⟨w.heap.size, 2, none⟩ = some (.slice A n c)) := fun W hW => ⟨hW.cell c0, hW.cell c2⟩
            have HSB := Lib.hid hSB
            have XX := Lib.hid xx
            clear hto hPl hsk hsw hsc hBX b1 hSB HB HB1 HN xx
            generalize partOf k n l = PT at *
            go_wp2_with (fail)
            go_region_held3 (fun W => W.cell? ⟨w.heap.size, 0, none⟩ = some (.int .i64 (k : Int)) ∧ W.cell? ⟨w.heap.size, 2, none⟩ = some (.slice A n c))
              (first | exact HSB.out _ (Ext.drew _) | exact HSB.out _ x12)
              (first | (((with_reducible refine HP1.out.mono ?_); (intro e w2 hg; obtain ⟨A2, c2', rfl, m2, x2⟩ := gives_mx hg; have x12 : Ext wr w2 := (Ext.drew wr).trans x2))))
            all_goals
              rw [← HPP.out, HPL.out] at m2
              rw [← HPP.out, HPL.out]
              generalize pickE (Gm.gen k n) (List.take k l) = PE at *
              have HI := Lib.hid (ref3Invert_any w2 A2 k c2' PT m2)
              clear m2
              go_wp2_with (fail)
              refine HI.out.mono ?_
              rintro e w3 ⟨A3, c3, rfl, m3, x3⟩
              have x03 : Ext w w3 := (XX.out.trans x12).trans x3
              have y03 : Ext wr w3 := x12.trans x3
              by_cases hz : invE PT = 0
              · obtain ⟨rfl, rfl⟩ := HOK.out HTO.out hz
                rw [hz]
                have hrr := invM_rect hz HPL.out
                have hml : (invM PT).length = k := hrr.len
                rw [hml] at m3
                rw [hml]
                have HR3 := Lib.hid (HR.out w3 x03 A3 c3 (invM PT) m3 hrr)
                have c0 := (HSB.out w3 y03).1
                clear hrr hml m3 hz HOK HNO
                go_wp2_with (fail)
                refine HR3.out.mono ?_
                rintro e w4 ⟨v4, cs4, rfl, hq, x4⟩
                go_wp2_with (fail)
                go_ret2
                exact ⟨v4, cs4, rfl, hq.lower x03.size, x03.trans x4⟩
              · obtain ⟨rfl, rfl⟩ := HNO.out (fun q => hz q.2)
                have e3 : (invE PT != 0) = true := by rw [bne_iff_ne]; exact hz
                generalize invE PT = IE at *
                generalize (invM PT).length = IL at *
                clear hz m3 HOK HNO
                go_wp2_with (fail)
                go_ret2
                exact GivesQE.none 40 x03
      · obtain ⟨rfl, rfl⟩ := HNO.out (fun h => t3 (by have := h.1.1.2.2; rwa [LL.out] at this))
        rw [decide_eq_false t3] at HE
        clear HOK HNO t3
        go_enter Try.func32, Try.ntmps32
        go_wp2_with (fail)
        refine HE.out.mono ?_
        rintro e w1 ⟨rfl, x1⟩
        go_wp2_with (fail)
        go_ret2
        exact GivesQE.none 40 (xA.trans x1)
    · obtain ⟨rfl, rfl⟩ := HNO.out (fun h => t2 (by have := h.1.1.2.1; rwa [LL.out] at this))
      have e2 : (q : Int) < k := by omega
      clear HOK HNO
      go_enter Try.func32, Try.ntmps32
      go_wp2_with (fail)
      go_ret2
      exact GivesQE.none 40 xA
  · obtain ⟨rfl, rfl⟩ := HNO.out (fun h => t1 (by have := h.1.1.1; rwa [LL.out, LS.out] at this))
    have e1 : ((q : Int) != (m : Int)) = true := by rw [bne_iff_ne]; omega
    clear HOK HNO
    go_enter Try.func32, Try.ntmps32
    go_wp2_with (fail)
    go_ret2
    exact GivesQE.none 40 xA
end Go.Proofs.Ytfpcldkfmcnjkaa
