/- Several texts in one: The contract of the document's steps: rows made leading. The contracts of the document's Invert and Rank. The contract of the document's Decode (chapter 04). -/
import Derived.Test.YtfpglkacjecoeaaGreatCt26
import Derived.Test.YtfpglkacjecoeaaGreatCt25
import Derived.Test.YtfpglkacjecoeaaGreatCt32
import Derived.Test.YtfpglkacjecoeaaGreatCt19
import Derived.Test.YtfpglkacjecoeaaGreatCt18
import Derived.StillTailTactics
import Derived.Deep.DrawnRows
import Derived.Deep.DeepCutAuto
import Derived.Deep.CutBlock
import Derived.Test.YtfpglkacjecoeaaGreatCt20
import Derived.Test.YtfpglkacjecoeaaGreatCt7
import Derived.Test.YtfpglkacjecoeaaGreatCt31
import Derived.Deep.RegionHeld3
namespace Go.Proofs.YtfpglkacjecoeaaGreat
open Go.RowKit
set_option linter.unusedSimpArgs false
attribute [local go_sem ↓] Go.wp_at_zero Go.wp_at_succ

set_option maxRecDepth 100000 in
set_option maxHeartbeats 8000000 in
theorem steps_any (w : World) (A B : Option Addr) (n ca cb c c2 : Nat) (a b : Gm.L) (ha : Mx w A n ca a) (hb : Mx w B n cb b) (ra : Gm.Rect n c a) (rb : Gm.Rect n c2 b) (hn : 1 ≤ n) (hn2 : n ≤ 255) (hc : c ≤ 255) (hc2 : c2 ≤ 255) :
    Calls Tryz.prog 91 #[.slice A n ca, .slice B n cb] w fun e w' => ∃ A1 d1 A2 d2, e = .returned (.tuple #[.slice A1 n d1, .slice A2 n d2, .int .i64 ((Gm.elimTo a b c).2.2 : Int)]) ∧ Mx w' A2 n d2 (Gm.elimTo a b c).2.1 ∧ Ext w w' := by
  obtain ⟨i0, hi0, hz0, hz1, hz2⟩ := info_parts bytes_info
  obtain ⟨j1, hj1, hy0, hy1, hy2⟩ := info_parts u8_info
  have q1 := ha.max
  have q2 := ha.le
  have q3 := hb.max
  have q4 := hb.le
  have LA := Lib.hid ha.len
  have LB := Lib.hid hb.len
  have HA := Lib.hid ha
  have HB := Lib.hid hb
  have RA := Lib.hid ra
  have RB := Lib.hid rb
  obtain ⟨N2, hN2⟩ : ∃ N2, w.heap.size = N2 := ⟨_, rfl⟩
  have HN2 := Lib.hid hN2
  have hsz0 : N2 ≤ w.heap.size := by omega
  clear hN2 ha hb ra rb
  go_enter Tryz.func91, Tryz.ntmps91
  try dsimp only [List.append]
  go_upto_block 0 with (fail)
  go_cut [7, 8, 9, 10, 11] (fun v1 v2 _ _ _ wx => ∃ wv : World, wv = wx ∧ ∃ (cs1 cs2 : List Value), Two wx N2 v1 v2 n n cs1 cs2 a b ∧ Ext w wx ∧ N2 ≤ wx.heap.size)
  case first =>
    go_wp2_with (fail)
    go_loopw [7, 8, 9, 10, 11] (fun v1 v2 s _ _ wr => ∃ (t : Nat) (cs1 cs2 : List Value), t ≤ n ∧ s = .int .i64 (t : Int) ∧ Two wr N2 v1 v2 t t cs1 cs2 (a.take t) (b.take t) ∧ Ext w wr ∧ N2 ≤ wr.heap.size) (fun _ _ s _ _ _ => n - (intOf s).toNat)
    case atStart => exact ⟨0, [], [], by omega, rfl, by rw [List.take_zero, List.take_zero]; exact Two.nil _ _, Ext.refl w, hsz0⟩
    case round =>
      obtain ⟨t, cs1, cs2, ht, rfl, hT, hx, hsz⟩ := hrel
      clear hsz0
      by_cases htn : t < n
      · have r1 : (t : Int) < n := by omega
        obtain ⟨bm, om, Ai, ni, ci, rfl, hca0, hbi⟩ := HA.out.at_ htn
        obtain ⟨bn, on, Bi, mi, di, rfl, hcb0, hbj⟩ := HB.out.at_ htn
        have hni := hbi.len
        have hmi := hbj.len
        have hsa := take_rowC (m := a) (j := t) (by rw [LA.out]; exact htn)
        have hsb := take_rowC (m := b) (j := t) (by rw [LB.out]; exact htn)
        have hla : (Gm.row a t).length ≤ 255 := by rw [RA.out.wid t htn]; exact hc
        have hlb : (Gm.row b t).length ≤ 255 := by rw [RB.out.wid t htn]; exact hc2
        generalize Gm.row a t = r at *
        generalize Gm.row b t = s at *
        subst hni hmi
        have hca := hx.cell hca0
        have HCB := Lib.hid hcb0
        have HSA := Lib.hid hsa
        have HSB := Lib.hid hsb
        have HT := Lib.hid hT
        have HBI := Lib.hid hbi
        have HBJ := Lib.hid hbj
        have HX := Lib.hid hx
        have qc1 := hbi.max
        have qc2 := hbi.le
        have qc3 := hbj.max
        have qc4 := hbj.le
        clear hca0 hcb0 hsa hsb hT hbi hbj hx
        go_wp2_with (first
          | (at_builtin; refine wpList_append_rd _ rfl (.tmp 27) (.tmp 31) 46 rfl wr.heap.size 5 j1 _ 1 1 Tryz.underlying46 hj1 hy0 hy1 hy2 rfl (by omega) (.slice none 0 0) 0 [] rfl (World.ownsRow_nil _ _ _ _) Ai r.length ci (bcells r) rfl (HBI.out.ext HX.out).rd (bcells_one r) (by omega) (by unfold maxLen; omega) (Nat.le_refl _) ?_
             intro x1 w1 ho1 hg1 _
             have e1 : Ext wr w1 := Ext.ofGrown (Ext.refl wr) hg1 (fun k hk => by simp [Value.ownBlock] at hk)
             rw [Nat.zero_add, List.nil_append] at ho1
             obtain ⟨X1, d1, rfl, _, _⟩ := ownsRow_slice ho1
             have HO1 := Lib.hid (ownsRow_ext (ownsRow_ext HT.out.m1.own e1) (Ext.alloc w1 (.cells #[.slice X1 r.length d1] 46)))
             have HR1 := Lib.hid ho1
             have E1 := Lib.hid e1
             have hs1 := e1.size
             clear ho1 hg1 e1)
          | (at_builtin; refine wpList_append_rd _ rfl (.tmp 26) (.tmp 33) 39 rfl N2 46 i0 _ 1 24 Tryz.underlying39 hi0 hz0 hz1 hz2 rfl (by omega) u7 t cs1 rfl HO1.out (some ⟨w1.heap.size, 0, none⟩) 1 1 [.slice X1 r.length d1] rfl (Rd.lit w1 #[.slice X1 r.length d1] _) (by simp [Value.oneCell']) (by omega) (by unfold maxLen; omega) (by simp; omega) ?_
             intro y1 w2 hown1 hgr1 hat1
             have HT2 := Lib.hid (HT.out.grow1 E1.out HR1.out (Nat.le_refl _) hsz (Ext.alloc w1 (.cells #[.slice X1 r.length d1] 46)) hown1 hgr1 hat1)
             have x2 : Ext w w2 := ((HX.out.trans E1.out).thenAlloc _).ofGrown hgr1 (fun q hq => by have := own_row HT.out.m1.own q hq; have := HN2.out; omega)
             have hs2 := hgr1.size
             simp at hs2
             have hcb := x2.cell HCB.out
             have X2 := Lib.hid x2
             clear hown1 hgr1 hat1 x2)
          | (at_builtin; refine wpList_append_rd _ rfl (.tmp 36) (.tmp 40) 46 rfl w2.heap.size 5 j1 _ 1 1 Tryz.underlying46 hj1 hy0 hy1 hy2 rfl (by omega) (.slice none 0 0) 0 [] rfl (World.ownsRow_nil _ _ _ _) Bi s.length di (bcells s) rfl (HBJ.out.ext X2.out).rd (bcells_one s) (by omega) (by unfold maxLen; omega) (Nat.le_refl _) ?_
             intro x3 w3 ho3 hg3 _
             have e3 : Ext w2 w3 := Ext.ofGrown (Ext.refl w2) hg3 (fun k hk => by simp [Value.ownBlock] at hk)
             rw [Nat.zero_add, List.nil_append] at ho3
             obtain ⟨X3, d3, rfl, _, _⟩ := ownsRow_slice ho3
             have HO3 := Lib.hid (ownsRow_ext (ownsRow_ext HT2.out.m2.own e3) (Ext.alloc w3 (.cells #[.slice X3 s.length d3] 46)))
             have HR3 := Lib.hid ho3
             have E3 := Lib.hid e3
             have hs3 := e3.size
             clear ho3 hg3 e3)
          | (at_builtin; refine wpList_append_rd _ rfl (.tmp 35) (.tmp 42) 39 rfl N2 46 i0 _ 1 24 Tryz.underlying39 hi0 hz0 hz1 hz2 rfl (by omega) u8 t cs2 rfl HO3.out (some ⟨w3.heap.size, 0, none⟩) 1 1 [.slice X3 s.length d3] rfl (Rd.lit w3 #[.slice X3 s.length d3] _) (by simp [Value.oneCell']) (by omega) (by unfold maxLen; omega) (by simp; omega) ?_
             intro y3 w4 hown3 hgr3 hat3
             have HT4 := Lib.hid (HT2.out.symm.grow1 E3.out HR3.out (Nat.le_refl _) (by omega) (Ext.alloc w3 (.cells #[.slice X3 s.length d3] 46)) hown3 hgr3 hat3).symm
             have x4 : Ext w w4 := ((X2.out.trans E3.out).thenAlloc _).ofGrown hgr3 (fun q hq => by have := own_row HT2.out.m2.own q hq; have := HN2.out; omega)
             have hs4 := hgr3.size
             simp at hs4
             have X4 := Lib.hid x4
             clear hown3 hgr3 hat3 x4)
          | fail)
        refine ⟨⟨t + 1, _, _, by omega, by go_num, by rw [HSA.out, HSB.out]; exact HT4.out, X4.out, by omega⟩, by simp [intOf]; omega⟩
      · have r1 : ¬ (t : Int) < n := by omega
        obtain rfl : n = t := by omega
        rw [List.take_of_length_le (by rw [LA.out]; exact Nat.le_refl _), List.take_of_length_le (by rw [LB.out]; exact Nat.le_refl _)] at hT
        have HT := Lib.hid hT
        clear hT
        go_wp2_with (fail)
        go_meet
        exact ⟨_, rfl, cs1, cs2, HT.out, hx, hsz⟩
  case rest =>
    obtain ⟨w0, rfl, cs1, cs2, hT, hx0, hs0⟩ := hcut
    obtain ⟨V1, d1, rfl, hv1, hv2⟩ := ownsRow_slice hT.m1.own
    obtain ⟨V2, d2, rfl, hv3, hv4⟩ := ownsRow_slice hT.m2.own
    obtain ⟨g1, rfl, hg1, hg2⟩ := own_addr hT.m1.own hn
    obtain ⟨g2, rfl, hg3, hg4⟩ := own_addr hT.m2.own hn
    have HT0 := Lib.hid hT
    clear hT hsz0
    go_wp2_with (fail)
    go_loopw [12, 13, 14, 15, 16, 17, 18, 19] (fun lv s _ _ _ _ _ _ wr => ∃ (j l : Nat) (cs1 cs2 : List Value) (X Y : Gm.L), j ≤ c ∧ s = .int .i64 (j : Int) ∧ lv = .int .i64 (l : Int) ∧ RowKit.Hid (Gm.elimTo a b j = (X, Y, l)) ∧ RowKit.Hid (Two wr N2 (.slice (some ⟨g1, 0, none⟩) n d1) (.slice (some ⟨g2, 0, none⟩) n d2) n n cs1 cs2 X Y) ∧ Ext w wr ∧ l ≤ n ∧ N2 ≤ wr.heap.size) (fun _ s _ _ _ _ _ _ _ => c - (intOf s).toNat)
    case atStart => exact ⟨0, 0, cs1, cs2, a, b, by omega, rfl, rfl, Lib.hid rfl, HT0, hx0, by omega, hs0⟩
    case round =>
      obtain ⟨j, l, cs1, cs2, X, Y, hj, rfl, rfl, HE, HT, hx, hln, hsz⟩ := hrel
      clear HT0 hx0 hs0 hg2 hg4
      have hinv := Gm.inv_elimTo RA.out RB.out j hj
      rw [HE.out] at hinv
      have RX := Lib.hid (show Gm.Rect n c X from hinv.ra)
      have RY := Lib.hid (show Gm.Rect n c2 Y from hinv.rb)
      obtain ⟨A0, e0, hk0, hcell0, _, _⟩ := HT.out.m1.cellAt (show 0 < n by omega)
      rw [RX.out.wid 0 (by omega)] at hcell0
      clear hinv hk0
      have hend : Gm.elimTo a b c = (X, Y, l) → ∃ A1 d1' A2 d2', (.returned (.tuple #[.slice (some ⟨g1, 0, none⟩) n d1, .slice (some ⟨g2, 0, none⟩) n d2, .int .i64 (l : Int)]) : Ending) = .returned (.tuple #[.slice A1 n d1', .slice A2 n d2', .int .i64 ((Gm.elimTo a b c).2.2 : Int)]) ∧ Mx wr A2 n d2' (Gm.elimTo a b c).2.1 ∧ Ext w wr := fun e => by
        obtain ⟨A5, e5, h5, hm5⟩ := HT.out.m2.mx
        injection h5 with h5 _ h6
        subst h5 h6
        rw [e]
        exact ⟨_, d1, _, d2, rfl, hm5, hx⟩
      have HEND := Lib.hid hend
      clear hend
      by_cases hjc : j < c
      · have r1 : (j : Int) < c := by omega
        by_cases hl : l < n
        · have r2 : (l : Int) < n := by omega
          clear HEND
          obtain ⟨W0, hW0⟩ : ∃ W0 : World, wr = W0 := ⟨_, rfl⟩
          have HW0 := Lib.hid hW0
          clear hW0
          go_upto_block 4 with (fail)
          go_cut [14] (fun s wx => ∃ wv : World, wv = wx ∧ wv = W0 ∧ ∃ t : Nat, l ≤ t ∧ t ≤ n ∧ s = .int .i64 (t : Int) ∧ RowKit.Hid (∀ i, l ≤ i → i < t → Gm.at_ X i j = 0) ∧ RowKit.Hid (t < n → Gm.at_ X t j ≠ 0))
          case first =>
            go_wp2_with (fail)
            go_loopw [14] (fun s wx => ∃ t : Nat, l ≤ t ∧ t ≤ n ∧ s = .int .i64 (t : Int) ∧ RowKit.Hid (∀ i, l ≤ i → i < t → Gm.at_ X i j = 0) ∧ wx = wr) (fun s _ => n - (intOf s).toNat)
            case atStart => exact ⟨l, by omega, by omega, rfl, Lib.hid (fun i h1 h2 => by omega), rfl⟩
            case round =>
              obtain ⟨t, ht1, ht2, rfl, HZ, rfl⟩ := hrel
              by_cases htn : t < n
              · have r3 : (t : Int) < n := by omega
                obtain ⟨At, dt, _, hct, _, hot⟩ := HT.out.m1.cellAt htn
                have hbt := (Own.mk (base := N2) (e := 5) hot).bs
                have hrt := RX.out.wid t htn
                rw [hrt] at hct hbt
                obtain ⟨bt, ot, rfl, hce⟩ := hbt.rd.byte hjc
                have hmx := hbt.max
                have hle := hbt.le
                have hax : Gf.get (Gm.row X t) j = Gm.at_ X t j := rfl
                rw [hax] at hce
                generalize hxv : Gm.at_ X t j = x at *
                have HX := Lib.hid hxv
                clear hxv hax hot hbt hrt
                by_cases hz : x = 0
                · have e1 := u8_zero x hz
                  have HX0 := Lib.hid hz
                  clear hz
                  go_wp2_with (fail)
                  refine ⟨⟨t + 1, by omega, by omega, by go_num, Lib.hid (fun i h1 h2 => by
                    by_cases e : i = t
                    · rw [e, HX.out, HX0.out]
                    · exact HZ.out i h1 (by omega)), trivial⟩, by simp [intOf]; omega⟩
                · have e1 := u8_nonzero x hz
                  have HX0 := Lib.hid hz
                  clear hz
                  go_wp2_with (fail)
                  go_meet
                  exact ⟨_, rfl, HW0.out, t, ht1, ht2, rfl, HZ, Lib.hid (fun _ => by rw [HX.out]; exact HX0.out)⟩
              · have r3 : ¬ (t : Int) < n := by omega
                go_wp2_with (fail)
                go_meet
                exact ⟨_, rfl, HW0.out, t, ht1, ht2, rfl, HZ, Lib.hid (fun h => absurd h htn)⟩
          case rest =>
            obtain ⟨wv, rfl, hwv, t, ht1, ht2, rfl, HZ, HNZ⟩ := hcut
            obtain rfl : wr = wv := HW0.out.trans hwv.symm
            clear hwv HW0
            by_cases htn : t < n
            · have e1 : ((t : Int) == (n : Int)) = false := by rw [beq_eq_false_iff_ne]; omega
              have hnz := HNZ.out htn
              have hcol := col_found (b := Y) RX.out.len ht1 htn HZ.out hnz
              have hnx : Gm.elimTo a b (j + 1) = _ := (show Gm.elimTo a b (j + 1) = Gm.col X Y l j by show Gm.col (Gm.elimTo a b j).1 (Gm.elimTo a b j).2.1 (Gm.elimTo a b j).2.2 j = _; rw [HE.out]).trans hcol
              have HNX := Lib.hid hnx
              clear hnx hcol HNZ HZ HE hcell0
              obtain ⟨Al, dl, hkl, hcl, hfl, _⟩ := HT.out.m1.cellAt hl
              obtain ⟨At, dt, hkt, hct, hft, _⟩ := HT.out.m1.cellAt htn
              have hsw := HT.out.swap1 htn hl hkt hkl
              rw [RX.out.wid l hl] at hkl hcl hsw
              rw [RX.out.wid t htn] at hkt hct hsw
              have hsome : ∃ v', (wr.setCell ⟨g1, t, none⟩ (.slice Al c dl)).cell? ⟨g1, l, none⟩ = some v' := by
                by_cases e : t = l
                · subst e
                  exact ⟨_, World.cell?_setCell_same _ _ _ hct⟩
                · exact ⟨_, by rw [World.cell?_setCell_other _ _ _ _ (fun h => e (by injection h))]; exact hcl⟩
              obtain ⟨v', hv'⟩ := hsome
              have HSW := Lib.hid hsw
              have HXS := Lib.hid ((hx.set_ (p := ⟨g1, t, none⟩) (by have := HN2.out; show w.heap.size ≤ g1; omega) (.slice Al c dl)).set_ (p := ⟨g1, l, none⟩) (by have := HN2.out; show w.heap.size ≤ g1; omega) (.slice At c dt))
              clear hsw hkl hkt
              go_upto_region 16 with (fail)
              go_cut [] (fun wx => ∃ wv : World, wv = wx ∧ (∃ cs1 cs2, RowKit.Hid (Two wx N2 (.slice (some ⟨g1, 0, none⟩) n d1) (.slice (some ⟨g2, 0, none⟩) n d2) n n cs1 cs2 (Gm.swapL X t l) Y)) ∧ Ext w wx ∧ N2 ≤ wx.heap.size)
              case first =>
                as_aux_lemma =>
                  go_region
                  all_goals
                    go_wp2_with (fail)
                    go_meet
                    exact ⟨_, rfl, ⟨_, _, Lib.hid (HSW.out.ext (Ext.drew _))⟩, HXS.out.thenDrew, by simpa using hsz⟩
              case rest =>
                obtain ⟨w5, rfl, ⟨cs3, cs4, HT5⟩, hx5, hs5⟩ := hcut
                clear HSW HXS hv' hcl hct hfl hft HT hx hsz
                obtain ⟨Al, dl, hkl, hcl, hfl, _⟩ := HT5.out.m2.cellAt hl
                obtain ⟨At, dt, hkt, hct, hft, _⟩ := HT5.out.m2.cellAt htn
                have hsw := (HT5.out.symm.swap1 htn hl hkt hkl).symm
                rw [RY.out.wid l hl] at hkl hcl hsw
                rw [RY.out.wid t htn] at hkt hct hsw
                have hsome : ∃ v', (w5.setCell ⟨g2, t, none⟩ (.slice Al c2 dl)).cell? ⟨g2, l, none⟩ = some v' := by
                  by_cases e : t = l
                  · subst e
                    exact ⟨_, World.cell?_setCell_same _ _ _ hct⟩
                  · exact ⟨_, by rw [World.cell?_setCell_other _ _ _ _ (fun h => e (by injection h))]; exact hcl⟩
                obtain ⟨v', hv'⟩ := hsome
                have HSW := Lib.hid hsw
                have HXS := Lib.hid ((hx5.set_ (p := ⟨g2, t, none⟩) (by have := HN2.out; show w.heap.size ≤ g2; omega) (.slice Al c2 dl)).set_ (p := ⟨g2, l, none⟩) (by have := HN2.out; show w.heap.size ≤ g2; omega) (.slice At c2 dt))
                clear hsw hkl hkt
                go_upto_region 17 with (fail)
                go_cut [] (fun wx => ∃ wv : World, wv = wx ∧ (∃ cs1 cs2, RowKit.Hid (Two wx N2 (.slice (some ⟨g1, 0, none⟩) n d1) (.slice (some ⟨g2, 0, none⟩) n d2) n n cs1 cs2 (Gm.swapL X t l) (Gm.swapL Y t l))) ∧ Ext w wx ∧ N2 ≤ wx.heap.size)
                case first =>
                  as_aux_lemma =>
                    go_region
                    all_goals
                      go_wp2_with (fail)
                      go_meet
                      exact ⟨_, rfl, ⟨_, _, Lib.hid (HSW.out.ext (Ext.drew _))⟩, HXS.out.thenDrew, by simpa using hs5⟩
                case rest =>
                  obtain ⟨w6, rfl, ⟨cs5, cs6, HT6⟩, hx6, hs6⟩ := hcut
                  clear HSW HXS hv' hcl hct hfl hft HT5 hx5 hs5
                  have RX1 := Lib.hid (RX.out.swapL htn hl)
                  have RY1 := Lib.hid (RY.out.swapL htn hl)
                  have hrow : Gm.row (Gm.swapL X t l) l = Gm.row X t := by
                    rw [Gm.row_swapL (by rw [RX.out.len]; exact htn) (by rw [RX.out.len]; exact hl)]
                    unfold Gm.swapI
                    by_cases e : l = t
                    · rw [if_pos e, e]
                    · rw [if_neg e, if_pos rfl]
                  have hat : Gf.get (Gm.row (Gm.swapL X t l) l) j = Gm.at_ X t j := by rw [hrow]; rfl
                  have HAT := Lib.hid hat
                  clear hrow hat hnz RX RY e1 ht1 ht2
                  generalize Gm.swapL X t l = X1 at *
                  generalize Gm.swapL Y t l = Y1 at *
                  generalize Gm.at_ X t j = x at *
                  obtain ⟨Ar, dr, hkr, hcr, hfr, hor⟩ := HT6.out.m1.cellAt hl
                  rw [RX1.out.wid l hl] at hcr hor
                  obtain ⟨gr, or, rfl, hbyte⟩ := (Own.mk (base := N2) (e := 5) hor).bs.rd.byte hjc
                  rw [HAT.out] at hbyte
                  have hcap := (Own.mk (base := N2) (e := 5) hor).caps
                  obtain ⟨hp1, hp2⟩ := hcap
                  have hinv := inverse_any w6 x
                  rw [pow_254] at hinv
                  have HINV := Lib.hid hinv
                  generalize Gf.inv x = ci at *
                  clear hinv hkr hor HAT
                  go_wp2_with (fail)
                  refine HINV.out.mono ?_
                  rintro e w' ⟨rfl, rfl⟩
                  clear hcr hfr hbyte HINV hp1 hp2
                  go_upto_block 6 with (fail)
                  obtain ⟨R0, hR0⟩ : ∃ R0, Gm.row X1 l = R0 := ⟨_, rfl⟩
                  have hR0l : R0.length = c := by rw [← hR0]; exact RX1.out.wid l hl
                  have hxl : X1.length = n := RX1.out.len
                  have hyl : Y1.length = n := RY1.out.len
                  have hset0 : X1.set l (Gm.scTo R0 ci 0) = X1 := by rw [Gm.scTo_zero, ← hR0]; exact set_row_self (by rw [hxl]; exact hl)
                  have HSET := Lib.hid hset0
                  have HR0 := Lib.hid hR0
                  have HR0L := Lib.hid hR0l
                  have HXL := Lib.hid hxl
                  have HYL := Lib.hid hyl
                  clear hR0 hR0l hxl hyl hset0
                  go_cut [16] (fun _ wx => ∃ wv : World, wv = wx ∧ RowKit.Hid (Two wx N2 (.slice (some ⟨g1, 0, none⟩) n d1) (.slice (some ⟨g2, 0, none⟩) n d2) n n cs5 cs6 (Gm.scaleL X1 l ci) Y1) ∧ Ext w wx ∧ N2 ≤ wx.heap.size)
                  case first =>
                    as_aux_lemma =>
                      go_wp2_with (fail)
                      go_loopw [16] (fun s wr => ∃ k : Nat, k ≤ c ∧ s = .int .i64 (k : Int) ∧ RowKit.Hid (Two wr N2 (.slice (some ⟨g1, 0, none⟩) n d1) (.slice (some ⟨g2, 0, none⟩) n d2) n n cs5 cs6 (X1.set l (Gm.scTo R0 ci k)) Y1) ∧ Ext w wr ∧ N2 ≤ wr.heap.size) (fun s _ => c - (intOf s).toNat)
                      case atStart => exact ⟨0, by omega, rfl, by rw [HSET.out]; exact HT6, hx6, hs6⟩
                      case round =>
                        obtain ⟨k, hk, rfl, HT7, hx7, hs7⟩ := hrel
                        clear HT6 hx6 hs6
                        have hlen7 : (X1.set l (Gm.scTo R0 ci k)).length = n := by rw [List.length_set]; exact HXL.out
                        have hrow7 : Gm.row (X1.set l (Gm.scTo R0 ci k)) l = Gm.scTo R0 ci k := by rw [Gm.row_set _ (by rw [HXL.out]; exact hl), if_pos rfl]
                        have hw0 : (Gm.row (X1.set l (Gm.scTo R0 ci k)) 0).length = c := by
                          rw [Gm.row_set _ (by rw [HXL.out]; exact hl)]
                          by_cases e : l = 0
                          · rw [if_pos e, Gm.scTo_length]; exact HR0L.out
                          · rw [if_neg e]; exact RX1.out.wid 0 (by omega)
                        obtain ⟨A0, e0, _, hcell0, _, _⟩ := HT7.out.m1.cellAt (show 0 < n by omega)
                        rw [hw0] at hcell0
                        by_cases hkc : k < c
                        · have r4 : (k : Int) < c := by omega
                          obtain ⟨A7, e7, hk7, hc7, _, ho7⟩ := HT7.out.m1.cellAt hl
                          have HK7 := Lib.hid hk7
                          rw [hrow7, Gm.scTo_length, HR0L.out] at hc7 ho7
                          obtain ⟨g7, rfl, hg71, hg72⟩ := own_addr ho7 (by omega)
                          obtain ⟨b8, o8, e8, hb8⟩ := (Own.mk (base := N2) (e := 5) ho7).rd.byte hkc
                          injection e8 with e8
                          injection e8 with e8 e9
                          subst e8 e9
                          rw [Nat.zero_add, Gm.get_scTo (by rw [HR0L.out]; exact hkc), if_neg (Nat.lt_irrefl _)] at hb8
                          have hf8 : wr.frozen? ⟨g7, k, none⟩ = false := ho7.frozenAt k
                          have hcap := (Own.mk (base := N2) (e := 5) ho7).caps
                          obtain ⟨hp1, hp2⟩ := hcap
                          have hpk := (HT7.out.ext (Ext.drew wr)).poke1 hl HK7.out k (Gf.mul ci (Gf.get R0 k))
                          rw [hrow7, Gm.scTo_succ _ (by rw [HR0L.out]; exact hkc), List.set_set] at hpk
                          have HPK := Lib.hid hpk
                          have HMU := Lib.hid (fun W => refMul_any W ci (Gf.get R0 k))
                          have HXP := Lib.hid ((hx7.thenDrew).set_ (p := ⟨g7, k, none⟩) (by have := HN2.out; show w.heap.size ≤ g7; omega) (.int .u8 ((Gf.mul ci (Gf.get R0 k)).toNat : Int)))
                          generalize Gf.mul ci (Gf.get R0 k) = z at *
                          generalize Gf.get R0 k = y at *
                          clear hpk hk7 ho7 hrow7 hw0 hlen7 HT7
                          go_upto_region 22 with (fail)
                          go_still_tail 15, (by kernel_rfl)
                          still_call ((HMU.out _).mono (fun e w' h => ⟨h.1, h.2.symm⟩))
                          repeat still_step
                          refine wpStill_nil ?_
                          change wpList _ _ _ _ _ wr.drew
                          replace hb8 : wr.drew.cell? ⟨g7, k, none⟩ = _ := hb8
                          replace hf8 : wr.drew.frozen? ⟨g7, k, none⟩ = false := hf8
                          clear hcell0 hc7
                          go_wp2_with (fail)
                          exact ⟨⟨k + 1, by omega, by go_num, HPK, HXP.out, by simpa using hs7⟩, by simp [intOf]; omega⟩
                        · have r4 : ¬ (k : Int) < c := by omega
                          obtain rfl : c = k := by omega
                          have hfull : X1.set l (Gm.scTo R0 ci c) = Gm.scaleL X1 l ci := by unfold Gm.scaleL; rw [Gm.scTo_full ci (by rw [HR0L.out]; exact Nat.le_refl _), HR0.out]
                          rw [hfull] at HT7
                          clear hfull hrow7 hw0 hlen7
                          go_wp2_with (fail)
                          go_meet
                          exact ⟨_, rfl, HT7, hx7, hs7⟩
                  case rest =>
                    obtain ⟨w7, rfl, HT7, hx7, hs7⟩ := hcut
                    clear HT6 hx6 hs6 HSET
                    obtain ⟨S0, hS0⟩ : ∃ S0, Gm.row Y1 l = S0 := ⟨_, rfl⟩
                    have hS0l : S0.length = c2 := by rw [← hS0]; exact RY1.out.wid l hl
                    have hset0 : Y1.set l (Gm.scTo S0 ci 0) = Y1 := by rw [Gm.scTo_zero, ← hS0]; exact set_row_self (by rw [HYL.out]; exact hl)
                    have HSET := Lib.hid hset0
                    have HS0 := Lib.hid hS0
                    have HS0L := Lib.hid hS0l
                    clear hS0 hS0l hset0
                    go_upto_block 8 with (fail)
                    go_cut [17] (fun _ wx => ∃ wv : World, wv = wx ∧ RowKit.Hid (Two wx N2 (.slice (some ⟨g1, 0, none⟩) n d1) (.slice (some ⟨g2, 0, none⟩) n d2) n n cs5 cs6 (Gm.scaleL X1 l ci) (Gm.scaleL Y1 l ci)) ∧ Ext w wx ∧ N2 ≤ wx.heap.size)
                    case first =>
                      as_aux_lemma =>
                        go_wp2_with (fail)
                        go_loopw [17] (fun s wr => ∃ k : Nat, k ≤ c2 ∧ s = .int .i64 (k : Int) ∧ RowKit.Hid (Two wr N2 (.slice (some ⟨g1, 0, none⟩) n d1) (.slice (some ⟨g2, 0, none⟩) n d2) n n cs5 cs6 (Gm.scaleL X1 l ci) (Y1.set l (Gm.scTo S0 ci k))) ∧ Ext w wr ∧ N2 ≤ wr.heap.size) (fun s _ => c2 - (intOf s).toNat)
                        case atStart => exact ⟨0, by omega, rfl, by rw [HSET.out]; exact HT7, hx7, hs7⟩
                        case round =>
                          obtain ⟨k, hk, rfl, HT8, hx8, hs8⟩ := hrel
                          clear HT7 hx7 hs7
                          have hrow7 : Gm.row (Y1.set l (Gm.scTo S0 ci k)) l = Gm.scTo S0 ci k := by rw [Gm.row_set _ (by rw [HYL.out]; exact hl), if_pos rfl]
                          have hw0 : (Gm.row (Y1.set l (Gm.scTo S0 ci k)) 0).length = c2 := by
                            rw [Gm.row_set _ (by rw [HYL.out]; exact hl)]
                            by_cases e : l = 0
                            · rw [if_pos e, Gm.scTo_length]; exact HS0L.out
                            · rw [if_neg e]; exact RY1.out.wid 0 (by omega)
                          obtain ⟨A0, e0, _, hcell0, _, _⟩ := HT8.out.m2.cellAt (show 0 < n by omega)
                          rw [hw0] at hcell0
                          by_cases hkc : k < c2
                          · have r4 : (k : Int) < c2 := by omega
                            obtain ⟨A7, e7, hk7, hc7, _, ho7⟩ := HT8.out.m2.cellAt hl
                            have HK7 := Lib.hid hk7
                            rw [hrow7, Gm.scTo_length, HS0L.out] at hc7 ho7
                            obtain ⟨g7, rfl, hg71, hg72⟩ := own_addr ho7 (by omega)
                            obtain ⟨b8, o8, e8, hb8⟩ := (Own.mk (base := N2) (e := 5) ho7).rd.byte hkc
                            injection e8 with e8
                            injection e8 with e8 e9
                            subst e8 e9
                            rw [Nat.zero_add, Gm.get_scTo (by rw [HS0L.out]; exact hkc), if_neg (Nat.lt_irrefl _)] at hb8
                            have hf8 : wr.frozen? ⟨g7, k, none⟩ = false := ho7.frozenAt k
                            have hcap := (Own.mk (base := N2) (e := 5) ho7).caps
                            obtain ⟨hp1, hp2⟩ := hcap
                            have hpk := ((HT8.out.ext (Ext.drew wr)).symm.poke1 hl HK7.out k (Gf.mul ci (Gf.get S0 k))).symm
                            rw [hrow7, Gm.scTo_succ _ (by rw [HS0L.out]; exact hkc), List.set_set] at hpk
                            have HPK := Lib.hid hpk
                            have HMU := Lib.hid (fun W => refMul_any W ci (Gf.get S0 k))
                            have HXP := Lib.hid ((hx8.thenDrew).set_ (p := ⟨g7, k, none⟩) (by have := HN2.out; show w.heap.size ≤ g7; omega) (.int .u8 ((Gf.mul ci (Gf.get S0 k)).toNat : Int)))
                            generalize Gf.mul ci (Gf.get S0 k) = z at *
                            generalize Gf.get S0 k = y at *
                            clear hpk hk7 ho7 hrow7 hw0 HT8
                            go_upto_region 26 with (fail)
                            go_still_tail 15, (by kernel_rfl)
                            still_call ((HMU.out _).mono (fun e w' h => ⟨h.1, h.2.symm⟩))
                            repeat still_step
                            refine wpStill_nil ?_
                            change wpList _ _ _ _ _ wr.drew
                            replace hb8 : wr.drew.cell? ⟨g7, k, none⟩ = _ := hb8
                            replace hf8 : wr.drew.frozen? ⟨g7, k, none⟩ = false := hf8
                            clear hcell0 hc7
                            go_wp2_with (fail)
                            exact ⟨⟨k + 1, by omega, by go_num, HPK, HXP.out, by simpa using hs8⟩, by simp [intOf]; omega⟩
                          · have r4 : ¬ (k : Int) < c2 := by omega
                            obtain rfl : c2 = k := by omega
                            have hfull : Y1.set l (Gm.scTo S0 ci c2) = Gm.scaleL Y1 l ci := by unfold Gm.scaleL; rw [Gm.scTo_full ci (by rw [HS0L.out]; exact Nat.le_refl _), HS0.out]
                            rw [hfull] at HT8
                            clear hfull hrow7 hw0
                            go_wp2_with (fail)
                            go_meet
                            exact ⟨_, rfl, HT8, hx8, hs8⟩
                    case rest =>
                      obtain ⟨w8, rfl, HT8, hx8, hs8⟩ := hcut
                      clear HT7 hx7 hs7 HSET HS0 HS0L HR0 HR0L
                      have RA1 := Lib.hid (RX1.out.scaleL ci hl)
                      have RB1 := Lib.hid (RY1.out.scaleL ci hl)
                      clear RX1 RY1 HXL HYL
                      generalize Gm.scaleL X1 l ci = A1 at *
                      generalize Gm.scaleL Y1 l ci = B1 at *
                      obtain ⟨dd, hdd⟩ : ∃ dd : Nat → UInt8, (fun k => Gm.at_ A1 k j) = dd := ⟨_, rfl⟩
                      have hdk : ∀ k, Gm.at_ A1 k j = dd k := fun k => by rw [← hdd]
                      rw [hdd] at HNX
                      have HDK := Lib.hid hdk
                      clear hdd hdk
                      go_upto_block 10 with (fail)
                      go_cut [18, 19] (fun _ _ wx => ∃ wv : World, wv = wx ∧ (∃ cs1 cs2, RowKit.Hid (Two wx N2 (.slice (some ⟨g1, 0, none⟩) n d1) (.slice (some ⟨g2, 0, none⟩) n d2) n n cs1 cs2 (Gm.clearL A1 l dd) (Gm.clearL B1 l dd))) ∧ Ext w wx ∧ N2 ≤ wx.heap.size)
                      case first =>
                        as_aux_lemma =>
                          go_wp2_with (fail)
                          go_loopw [18, 19] (fun s _ wr => ∃ (i : Nat) (es fs : List Value), i ≤ n ∧ s = .int .i64 (i : Int) ∧ RowKit.Hid (Two wr N2 (.slice (some ⟨g1, 0, none⟩) n d1) (.slice (some ⟨g2, 0, none⟩) n d2) n n es fs (Gm.clearTo A1 l dd i) (Gm.clearTo B1 l dd i)) ∧ Ext w wr ∧ N2 ≤ wr.heap.size) (fun s _ _ => n - (intOf s).toNat)
                          case atStart => exact ⟨0, cs5, cs6, by omega, rfl, by rw [Gm.clearTo_zero, Gm.clearTo_zero]; exact HT8, hx8, hs8⟩
                          case round =>
                            obtain ⟨i, es, fs, hi, rfl, HTi, hxi, hsi⟩ := hrel
                            clear HT8 hx8 hs8
                            by_cases hin : i < n
                            · have r4 : (i : Int) < n := by omega
                              have hiA : i < A1.length := by rw [RA1.out.len]; exact hin
                              have hiB : i < B1.length := by rw [RB1.out.len]; exact hin
                              have hlA : l < A1.length := by rw [RA1.out.len]; exact hl
                              have hlB : l < B1.length := by rw [RB1.out.len]; exact hl
                              obtain ⟨Ai, ei, _, hci, _, hoi⟩ := HTi.out.m1.cellAt hin
                              rw [(RA1.out.clearTo l dd i).wid i hin] at hci hoi
                              have hcap := (Own.mk (base := N2) (e := 5) hoi).caps
                              obtain ⟨hp1, hp2⟩ := hcap
                              obtain ⟨gb, ob, rfl, hbyte⟩ := (Own.mk (base := N2) (e := 5) hoi).rd.byte hjc
                              have hdi : Gf.get (Gm.row (Gm.clearTo A1 l dd i) i) j = dd i := by rw [Gm.clearTo_later dd hiA (Nat.le_refl _)]; exact HDK.out i
                              rw [hdi] at hbyte
                              obtain ⟨x, hxd⟩ : ∃ x, dd i = x := ⟨_, rfl⟩
                              rw [hxd] at hbyte
                              have HXD := Lib.hid hxd
                              clear hdi hxd hoi
                              by_cases hil : i = l
                              · have e1 : ((i : Int) == (l : Int)) = true := by rw [hil]; simp
                                have HSM1 := Lib.hid (clearTo_same dd hiA (.inl hil))
                                have HSM2 := Lib.hid (clearTo_same dd hiB (.inl hil))
                                clear hil
                                go_wp2_with (fail)
                                exact ⟨⟨i + 1, es, fs, by omega, by go_num, by rw [HSM1.out, HSM2.out]; exact HTi, hxi, hsi⟩, by simp [intOf]; omega⟩
                              · have e1 : ((i : Int) == (l : Int)) = false := by rw [beq_eq_false_iff_ne]; omega
                                by_cases hx0 : x = 0
                                · have e2 := u8_zero x hx0
                                  have HSM1 := Lib.hid (clearTo_same dd hiA (p := l) (.inr (HXD.out.trans hx0)))
                                  have HSM2 := Lib.hid (clearTo_same dd hiB (p := l) (.inr (HXD.out.trans hx0)))
                                  clear hx0 hil
                                  go_wp2_with (fail)
                                  exact ⟨⟨i + 1, es, fs, by omega, by go_num, by rw [HSM1.out, HSM2.out]; exact HTi, hxi, hsi⟩, by simp [intOf]; omega⟩
                                · have e2 := u8_nonzero x hx0
                                  have HNA := Lib.hid (clearTo_next dd hiA hlA hil)
                                  have HNB := Lib.hid (clearTo_next dd hiB hlB hil)
                                  rw [HXD.out] at HNA HNB
                                  clear hx0 hil
                                  go_upto_region 32 with (fail)
                                  go_cut [] (fun wx => ∃ wv : World, wv = wx ∧ (∃ es, RowKit.Hid (Two wx N2 (.slice (some ⟨g1, 0, none⟩) n d1) (.slice (some ⟨g2, 0, none⟩) n d2) n n es fs (Gm.clearTo A1 l dd (i + 1)) (Gm.clearTo B1 l dd i))) ∧ Ext w wx ∧ N2 ≤ wx.heap.size)
                                  case first =>
                                    as_aux_lemma =>
                                      clear hci hbyte
                                      obtain ⟨Ak, ek, hkk, hck, hfk, hok⟩ := HTi.out.m1.cellAt hin
                                      obtain ⟨Al, el, _, hcl, _, hol⟩ := HTi.out.m1.cellAt hl
                                      have hbk := (Own.mk (base := N2) (e := 5) hok).bs
                                      have hbl := (Own.mk (base := N2) (e := 5) hol).bs
                                      have hlc := refLay_any wr.drew Ak Al _ ek _ el (Gm.row (Gm.clearTo A1 l dd i) i) (Gm.row (Gm.clearTo A1 l dd i) l) x (hbk.ext (Ext.drew _)) (hbl.ext (Ext.drew _)) (by rw [(RA1.out.clearTo l dd i).wid i hin]; omega)
                                      have hsl : (Gf.lay (Gm.row (Gm.clearTo A1 l dd i) i) x (Gm.row (Gm.clearTo A1 l dd i) l)).length = c := by rw [Gf.lay_length]; exact (RA1.out.clearTo l dd i).wid i hin
                                      rw [(RA1.out.clearTo l dd i).wid i hin] at hck hlc
                                      rw [(RA1.out.clearTo l dd i).wid l hl] at hcl hlc
                                      have hq1 := hbk.max
                                      have hq2 := hbk.le
                                      have hq3 := hbl.max
                                      have hq4 := hbl.le
                                      rw [(RA1.out.clearTo l dd i).wid i hin] at hq2
                                      rw [(RA1.out.clearTo l dd i).wid l hl] at hq4
                                      have HL := Lib.hid hlc
                                      have HSL := Lib.hid hsl
                                      have hS : ∀ W : World, Ext wr W → (W.cell? ⟨g1, l, none⟩ = some (.slice Al c el) ∧ W.cell? ⟨g1, i, none⟩ = some (.slice Ak c ek)) := fun W hW => ⟨hW.cell hcl, hW.cell hck⟩
                                      have HS := Lib.hid hS
                                      generalize Gf.lay (Gm.row (Gm.clearTo A1 l dd i) i) x (Gm.row (Gm.clearTo A1 l dd i) l) = RR at *
                                      clear hS hlc hsl hkk hok hol hbk hbl
                                      refine wp_region_last (S := (fun W => W.cell? ⟨g1, l, none⟩ = some (.slice Al c el) ∧ W.cell? ⟨g1, i, none⟩ = some (.slice Ak c ek))) (n := 13) (m := 14) (by simp only [List.dropLast]; rfl) (by simp only [List.getLast?, List.getLast]; rfl) rfl rfl (by kernel_rfl) (by kernel_rfl) (HS.out _ (Ext.drew _)) (fun hHeld => ?_)
                                      refine takeL (i := 0) (v := ?_) rfl (by kernel_rfl) (by kernel_rfl) (by kernel_rfl) (fun _ _ _ h => h) (Or.inl ⟨by rfl, ?_⟩) (by assumption) ?_
                                      rotate_left
                                      · (intro W9 hSw; (try dsimp only at hSw); go_simp; (try with_reducible rfl))
                                      try simp only [Act.put, List.setIfInBounds_toArray, List.set_cons_zero, List.set_cons_succ]
                                      refine takeL (i := 1) (v := ?_) rfl (by kernel_rfl) (by kernel_rfl) (by kernel_rfl) (fun _ _ _ h => h) (Or.inl ⟨by rfl, ?_⟩) (by assumption) ?_
                                      rotate_left
                                      · (intro W9 hSw; (try dsimp only at hSw); go_simp; (try with_reducible rfl))
                                      try simp only [Act.put, List.setIfInBounds_toArray, List.set_cons_zero, List.set_cons_succ]
                                      refine takeL (i := 2) (v := ?_) rfl (by kernel_rfl) (by kernel_rfl) (by kernel_rfl) (fun _ _ _ h => h) (Or.inl ⟨by rfl, ?_⟩) (by assumption) ?_
                                      rotate_left
                                      · (intro W9 hSw; (try dsimp only at hSw); go_simp; (try with_reducible rfl))
                                      try simp only [Act.put, List.setIfInBounds_toArray, List.set_cons_zero, List.set_cons_succ]
                                      refine takeL (i := 3) (v := ?_) rfl (by kernel_rfl) (by kernel_rfl) (by kernel_rfl) (fun _ _ _ h => h) (Or.inl ⟨by rfl, ?_⟩) (by assumption) ?_
                                      rotate_left
                                      · (intro W9 hSw; (try dsimp only at hSw); go_simp; (try with_reducible rfl))
                                      try simp only [Act.put, List.setIfInBounds_toArray, List.set_cons_zero, List.set_cons_succ]
                                      refine takeL (i := 4) (v := ?_) rfl (by kernel_rfl) (by kernel_rfl) (by kernel_rfl) (fun _ _ _ h => h) (Or.inl ⟨by rfl, ?_⟩) (by assumption) ?_
                                      rotate_left
                                      · (intro W9 hSw; (try dsimp only at hSw); go_simp; (try with_reducible rfl))
                                      try simp only [Act.put, List.setIfInBounds_toArray, List.set_cons_zero, List.set_cons_succ]
                                      refine takeL (i := 5) (v := ?_) rfl (by kernel_rfl) (by kernel_rfl) (by kernel_rfl) (fun _ _ _ h => h) (Or.inl ⟨by rfl, ?_⟩) (by assumption) ?_
                                      rotate_left
                                      · (intro W9 hSw; (try dsimp only at hSw); go_simp; (try with_reducible rfl))
                                      try simp only [Act.put, List.setIfInBounds_toArray, List.set_cons_zero, List.set_cons_succ]
                                      refine takeL (i := 6) (v := ?_) rfl (by kernel_rfl) (by kernel_rfl) (by kernel_rfl) (fun _ _ _ h => h) (Or.inl ⟨by rfl, ?_⟩) (by assumption) ?_
                                      rotate_left
                                      · (intro W9 hSw; (try dsimp only at hSw); go_simp; (try with_reducible rfl))
                                      try simp only [Act.put, List.setIfInBounds_toArray, List.set_cons_zero, List.set_cons_succ]
                                      refine takeL (i := 7) (v := ?_) rfl (by kernel_rfl) (by kernel_rfl) (by kernel_rfl) (fun _ _ _ h => h) (Or.inl ⟨by rfl, ?_⟩) (by assumption) ?_
                                      rotate_left
                                      · (intro W9 hSw; (try dsimp only at hSw); go_simp; (try with_reducible rfl))
                                      try simp only [Act.put, List.setIfInBounds_toArray, List.set_cons_zero, List.set_cons_succ]
                                      refine takeL (i := 8) (v := ?_) rfl (by kernel_rfl) (by kernel_rfl) (by kernel_rfl) (fun _ _ _ h => h) (Or.inl ⟨by rfl, ?_⟩) (by assumption) ?_
                                      rotate_left
                                      · (intro W9 hSw; (try dsimp only at hSw); go_simp; (try with_reducible rfl))
                                      try simp only [Act.put, List.setIfInBounds_toArray, List.set_cons_zero, List.set_cons_succ]
                                      refine takeL (i := 9) (v := ?_) rfl (by kernel_rfl) (by kernel_rfl) (by kernel_rfl) (fun _ _ _ h => h) (Or.inl ⟨by rfl, ?_⟩) (by assumption) ?_
                                      rotate_left
                                      · (intro W9 hSw; (try dsimp only at hSw); go_simp; (try with_reducible rfl))
                                      try simp only [Act.put, List.setIfInBounds_toArray, List.set_cons_zero, List.set_cons_succ]
                                      refine takeL (i := 10) (v := ?_) rfl (by kernel_rfl) (by kernel_rfl) (by kernel_rfl) (fun _ _ _ h => h) (Or.inl ⟨by rfl, ?_⟩) (by assumption) ?_
                                      rotate_left
                                      · (intro W9 hSw; (try dsimp only at hSw); go_simp; (try with_reducible rfl))
                                      try simp only [Act.put, List.setIfInBounds_toArray, List.set_cons_zero, List.set_cons_succ]
                                      refine callL (i := 11) rfl (by kernel_rfl) (fun K hK => ?_)
                                      go_wp2_with (((with_reducible refine HL.out.mono ?_); (rintro e w4 ⟨v4, rfl, hv⟩; obtain ⟨A4, c4, rfl, _⟩ := hv.bs; have x4 : Ext wr w4 := (Ext.drew wr).trans hv.ext; have hco4 := x4.cell hck; have hfo4 : w4.frozen? ⟨g1, i, none⟩ = false := (x4.frozen hck).trans hfk; rw [HSL.out])))
                                      refine hK.out _ _ (HS.out _ x4) (fun hHeld => ?_)
                                      clear hK K
                                      try simp only [Act.put, List.setIfInBounds_toArray, List.set_cons_zero, List.set_cons_succ]
                                      refine takeL (i := 12) (v := ?_) rfl (by kernel_rfl) (by kernel_rfl) (by kernel_rfl) (fun _ _ _ h => h) (Or.inl ⟨by rfl, ?_⟩) (by assumption) ?_
                                      rotate_left
                                      · (intro W9 hSw; (try dsimp only at hSw); go_simp; (try with_reducible rfl))
                                      try simp only [Act.put, List.setIfInBounds_toArray, List.set_cons_zero, List.set_cons_succ]
                                      refine wpAnyH_done (by kernel_rfl) ?_ _
                                      change wpList _ _ _ _ _ _
                                      go_wp2_with (fail)
                                      all_goals
                                        have hput := (HTi.out.put1 x4 hin hv.own ((Ext.drew wr).size) hsi)
                                        rw [HSL.out] at hput
                                        have hxp := (hxi.trans x4).set_ (p := ⟨g1, i, none⟩) (by have := HN2.out; show w.heap.size ≤ g1; omega) (.slice A4 c c4)
                                        have hs4 := x4.size
                                        have HP := Lib.hid hput
                                        have HXP := Lib.hid hxp
                                        clear hput hxp hv
                                        go_wp2_with (fail)
                                        go_meet
                                        exact ⟨_, rfl, ⟨_, by rw [← HNA.out]; exact HP⟩, HXP.out, by simp; omega⟩
                                  case rest =>
                                    obtain ⟨wq, rfl, ⟨es2, HTq⟩, hxq, hsq⟩ := hcut
                                    clear HTi hxi hsi hci hbyte HNA
                                    go_upto_region 33 with (fail)
                                    obtain ⟨Ak, ek, hkk, hck, hfk, hok⟩ := HTq.out.m2.cellAt hin
                                    obtain ⟨Al, el, _, hcl, _, hol⟩ := HTq.out.m2.cellAt hl
                                    have hbk := (Own.mk (base := N2) (e := 5) hok).bs
                                    have hbl := (Own.mk (base := N2) (e := 5) hol).bs
                                    have hlc := refLay_any wq.drew Ak Al _ ek _ el (Gm.row (Gm.clearTo B1 l dd i) i) (Gm.row (Gm.clearTo B1 l dd i) l) x (hbk.ext (Ext.drew _)) (hbl.ext (Ext.drew _)) (by rw [(RB1.out.clearTo l dd i).wid i hin]; omega)
                                    have hsl : (Gf.lay (Gm.row (Gm.clearTo B1 l dd i) i) x (Gm.row (Gm.clearTo B1 l dd i) l)).length = c2 := by rw [Gf.lay_length]; exact (RB1.out.clearTo l dd i).wid i hin
                                    rw [(RB1.out.clearTo l dd i).wid i hin] at hck hlc
                                    rw [(RB1.out.clearTo l dd i).wid l hl] at hcl hlc
                                    have hq1 := hbk.max
                                    have hq2 := hbk.le
                                    have hq3 := hbl.max
                                    have hq4 := hbl.le
                                    rw [(RB1.out.clearTo l dd i).wid i hin] at hq2
                                    rw [(RB1.out.clearTo l dd i).wid l hl] at hq4
                                    have HL := Lib.hid hlc
                                    have HSL := Lib.hid hsl
                                    have hS : ∀ W : World, Ext wq W → (W.cell? ⟨g2, l, none⟩ = some (.slice Al c2 el) ∧ W.cell? ⟨g2, i, none⟩ = some (.slice Ak c2 ek)) := fun W hW => ⟨hW.cell hcl, hW.cell hck⟩
                                    have HS := Lib.hid hS
                                    generalize Gf.lay (Gm.row (Gm.clearTo B1 l dd i) i) x (Gm.row (Gm.clearTo B1 l dd i) l) = RR at *
                                    clear hS hlc hsl hkk hok hol hbk hbl
                                    refine wp_region_last (S := (fun W => W.cell? ⟨g2, l, none⟩ = some (.slice Al c2 el) ∧ W.cell? ⟨g2, i, none⟩ = some (.slice Ak c2 ek))) (n := 13) (m := 14) (by simp only [List.dropLast]; rfl) (by simp only [List.getLast?, List.getLast]; rfl) rfl rfl (by kernel_rfl) (by kernel_rfl) (HS.out _ (Ext.drew _)) (fun hHeld => ?_)
                                    refine takeL (i := 0) (v := ?_) rfl (by kernel_rfl) (by kernel_rfl) (by kernel_rfl) (fun _ _ _ h => h) (Or.inl ⟨by rfl, ?_⟩) (by assumption) ?_
                                    rotate_left
                                    · (intro W9 hSw; (try dsimp only at hSw); go_simp; (try with_reducible rfl))
                                    try simp only [Act.put, List.setIfInBounds_toArray, List.set_cons_zero, List.set_cons_succ]
                                    refine takeL (i := 1) (v := ?_) rfl (by kernel_rfl) (by kernel_rfl) (by kernel_rfl) (fun _ _ _ h => h) (Or.inl ⟨by rfl, ?_⟩) (by assumption) ?_
                                    rotate_left
                                    · (intro W9 hSw; (try dsimp only at hSw); go_simp; (try with_reducible rfl))
                                    try simp only [Act.put, List.setIfInBounds_toArray, List.set_cons_zero, List.set_cons_succ]
                                    refine takeL (i := 2) (v := ?_) rfl (by kernel_rfl) (by kernel_rfl) (by kernel_rfl) (fun _ _ _ h => h) (Or.inl ⟨by rfl, ?_⟩) (by assumption) ?_
                                    rotate_left
                                    · (intro W9 hSw; (try dsimp only at hSw); go_simp; (try with_reducible rfl))
                                    try simp only [Act.put, List.setIfInBounds_toArray, List.set_cons_zero, List.set_cons_succ]
                                    refine takeL (i := 3) (v := ?_) rfl (by kernel_rfl) (by kernel_rfl) (by kernel_rfl) (fun _ _ _ h => h) (Or.inl ⟨by rfl, ?_⟩) (by assumption) ?_
                                    rotate_left
                                    · (intro W9 hSw; (try dsimp only at hSw); go_simp; (try with_reducible rfl))
                                    try simp only [Act.put, List.setIfInBounds_toArray, List.set_cons_zero, List.set_cons_succ]
                                    refine takeL (i := 4) (v := ?_) rfl (by kernel_rfl) (by kernel_rfl) (by kernel_rfl) (fun _ _ _ h => h) (Or.inl ⟨by rfl, ?_⟩) (by assumption) ?_
                                    rotate_left
                                    · (intro W9 hSw; (try dsimp only at hSw); go_simp; (try with_reducible rfl))
                                    try simp only [Act.put, List.setIfInBounds_toArray, List.set_cons_zero, List.set_cons_succ]
                                    refine takeL (i := 5) (v := ?_) rfl (by kernel_rfl) (by kernel_rfl) (by kernel_rfl) (fun _ _ _ h => h) (Or.inl ⟨by rfl, ?_⟩) (by assumption) ?_
                                    rotate_left
                                    · (intro W9 hSw; (try dsimp only at hSw); go_simp; (try with_reducible rfl))
                                    try simp only [Act.put, List.setIfInBounds_toArray, List.set_cons_zero, List.set_cons_succ]
                                    refine takeL (i := 6) (v := ?_) rfl (by kernel_rfl) (by kernel_rfl) (by kernel_rfl) (fun _ _ _ h => h) (Or.inl ⟨by rfl, ?_⟩) (by assumption) ?_
                                    rotate_left
                                    · (intro W9 hSw; (try dsimp only at hSw); go_simp; (try with_reducible rfl))
                                    try simp only [Act.put, List.setIfInBounds_toArray, List.set_cons_zero, List.set_cons_succ]
                                    refine takeL (i := 7) (v := ?_) rfl (by kernel_rfl) (by kernel_rfl) (by kernel_rfl) (fun _ _ _ h => h) (Or.inl ⟨by rfl, ?_⟩) (by assumption) ?_
                                    rotate_left
                                    · (intro W9 hSw; (try dsimp only at hSw); go_simp; (try with_reducible rfl))
                                    try simp only [Act.put, List.setIfInBounds_toArray, List.set_cons_zero, List.set_cons_succ]
                                    refine takeL (i := 8) (v := ?_) rfl (by kernel_rfl) (by kernel_rfl) (by kernel_rfl) (fun _ _ _ h => h) (Or.inl ⟨by rfl, ?_⟩) (by assumption) ?_
                                    rotate_left
                                    · (intro W9 hSw; (try dsimp only at hSw); go_simp; (try with_reducible rfl))
                                    try simp only [Act.put, List.setIfInBounds_toArray, List.set_cons_zero, List.set_cons_succ]
                                    refine takeL (i := 9) (v := ?_) rfl (by kernel_rfl) (by kernel_rfl) (by kernel_rfl) (fun _ _ _ h => h) (Or.inl ⟨by rfl, ?_⟩) (by assumption) ?_
                                    rotate_left
                                    · (intro W9 hSw; (try dsimp only at hSw); go_simp; (try with_reducible rfl))
                                    try simp only [Act.put, List.setIfInBounds_toArray, List.set_cons_zero, List.set_cons_succ]
                                    refine takeL (i := 10) (v := ?_) rfl (by kernel_rfl) (by kernel_rfl) (by kernel_rfl) (fun _ _ _ h => h) (Or.inl ⟨by rfl, ?_⟩) (by assumption) ?_
                                    rotate_left
                                    · (intro W9 hSw; (try dsimp only at hSw); go_simp; (try with_reducible rfl))
                                    try simp only [Act.put, List.setIfInBounds_toArray, List.set_cons_zero, List.set_cons_succ]
                                    refine callL (i := 11) rfl (by kernel_rfl) (fun K hK => ?_)
                                    go_wp2_with (((with_reducible refine HL.out.mono ?_); (rintro e w4 ⟨v4, rfl, hv⟩; obtain ⟨A4, c4, rfl, _⟩ := hv.bs; have x4 : Ext wq w4 := (Ext.drew wq).trans hv.ext; have hco4 := x4.cell hck; have hfo4 : w4.frozen? ⟨g2, i, none⟩ = false := (x4.frozen hck).trans hfk; rw [HSL.out])))
                                    refine hK.out _ _ (HS.out _ x4) (fun hHeld => ?_)
                                    clear hK K
                                    try simp only [Act.put, List.setIfInBounds_toArray, List.set_cons_zero, List.set_cons_succ]
                                    refine takeL (i := 12) (v := ?_) rfl (by kernel_rfl) (by kernel_rfl) (by kernel_rfl) (fun _ _ _ h => h) (Or.inl ⟨by rfl, ?_⟩) (by assumption) ?_
                                    rotate_left
                                    · (intro W9 hSw; (try dsimp only at hSw); go_simp; (try with_reducible rfl))
                                    try simp only [Act.put, List.setIfInBounds_toArray, List.set_cons_zero, List.set_cons_succ]
                                    refine wpAnyH_done (by kernel_rfl) ?_ _
                                    change wpList _ _ _ _ _ _
                                    go_wp2_with (fail)
                                    all_goals
                                      have hput := (HTq.out.symm.put1 x4 hin hv.own ((Ext.drew wq).size) hsq).symm
                                      rw [HSL.out] at hput
                                      have hxp := (hxq.trans x4).set_ (p := ⟨g2, i, none⟩) (by have := HN2.out; show w.heap.size ≤ g2; omega) (.slice A4 c2 c4)
                                      have hs4 := x4.size
                                      have HP := Lib.hid hput
                                      have HXP := Lib.hid hxp
                                      clear hput hxp hv
                                      go_wp2_with (fail)
                                      exact ⟨⟨i + 1, es2, _, by omega, by go_num, by rw [← HNB.out]; exact HP, HXP.out, by simp; omega⟩, by simp [intOf]; omega⟩
                            · have r4 : ¬ (i : Int) < n := by omega
                              obtain rfl : n = i := by omega
                              have hca : Gm.clearTo A1 l dd n = Gm.clearL A1 l dd := by unfold Gm.clearL; rw [RA1.out.len]
                              have hcb : Gm.clearTo B1 l dd n = Gm.clearL B1 l dd := by unfold Gm.clearL; rw [RB1.out.len]
                              rw [hca, hcb] at HTi
                              clear hca hcb
                              go_wp2_with (fail)
                              go_meet
                              exact ⟨_, rfl, ⟨es, fs, HTi⟩, hxi, hsi⟩
                      case rest =>
                        obtain ⟨w9, rfl, ⟨cs7, cs8, HT9⟩, hx9, hs9⟩ := hcut
                        clear HT8 hx8 hs8
                        go_wp2_with (fail)
                        exact ⟨⟨j + 1, l + 1, cs7, cs8, _, _, by omega, by go_num, by go_num, HNX, HT9, hx9, by omega, hs9⟩, by simp [intOf]; omega⟩
            · have htn' : t = n := by omega
              have e1 : ((t : Int) == (n : Int)) = true := by rw [htn']; simp
              have hcol := col_none (b := Y) RX.out.len hln (fun i h1 h2 => HZ.out i h1 (by omega))
              have hnx : Gm.elimTo a b (j + 1) = (X, Y, l) := (show Gm.elimTo a b (j + 1) = Gm.col X Y l j by show Gm.col (Gm.elimTo a b j).1 (Gm.elimTo a b j).2.1 (Gm.elimTo a b j).2.2 j = _; rw [HE.out]).trans hcol
              have HNX := Lib.hid hnx
              clear hnx hcol HNZ HZ HE htn'
              go_wp2_with (fail)
              exact ⟨⟨j + 1, l, cs1, cs2, X, Y, by omega, by go_num, rfl, HNX, HT, hx, hln, hsz⟩, by simp [intOf]; omega⟩
        · have r2 : ¬ (l : Int) < n := by omega
          have hfin : Gm.elimTo a b c = (X, Y, l) := by
            have h := elimTo_stays (a := a) (b := b) (j := j) (by rw [HE.out]; show l = X.length; rw [RX.out.len]; omega) (c - j)
            rw [show j + (c - j) = c by omega, HE.out] at h
            exact h
          have HF := Lib.hid (HEND.out hfin)
          clear hfin HEND
          go_wp2_with (fail)
          go_ret3
          exact HF.out
      · have r1 : ¬ (j : Int) < c := by omega
        obtain rfl : c = j := by omega
        have HF := Lib.hid (HEND.out HE.out)
        clear HEND
        go_wp2_with (fail)
        go_ret3
        exact HF.out
end Go.Proofs.YtfpglkacjecoeaaGreat
namespace Go.Proofs.YtfpglkacjecoeaaGreat
open Go.RowKit

set_option maxRecDepth 100000 in
set_option maxHeartbeats 2000000 in
theorem ref3Invert_any (w : World) (A : Option Addr) (n ca : Nat) (a : Gm.L) (ha : Mx w A n ca a) :
    Calls Tryz.prog 68 #[.slice A n ca] w (GivesME (invM a) (invE a) w) := by
  have hR := ref3Right_any w A n ca a ha
  have q1 := ha.max
  have q2 := ha.le
  have LA := Lib.hid ha.len
  by_cases h1 : Gm.right a
  · rw [decide_eq_true h1] at hR
    have hn : 0 < n := by have := h1.1; have := ha.len; omega
    have hn2 : n ≤ 255 := by have := h1.2.1; have := ha.len; omega
    obtain ⟨ba, oa, A0, n0, c0, rfl, hc0, hb0⟩ := ha.at_ hn
    rw [Nat.add_zero] at hc0
    have hcols : Gm.cols a = n0 := hb0.len
    have g0 : (0 : Int) < n := by omega
    have hm0 := hb0.max
    have hl0 := hb0.le
    by_cases h2 : n0 = n
    · subst h2
      have e1 : ((n0 : Int) != (n0 : Int)) = false := by simp
      have hsq : square a := ⟨h1, by rw [hcols, ha.len]⟩
      have hra : Gm.Rect n0 n0 a := ⟨ha.len, fun i hi => by rw [h1.2.2.2.2 i (by rw [ha.len]; exact hi), hcols]⟩
      have hst := fun (W : World) (hW : Ext w W) (B : Option Addr) (cb : Nat) (hm : Mx W B n0 cb (Gm.unit n0)) => steps_any W (some ⟨ba, oa, none⟩) B n0 ca cb n0 n0 a (Gm.unit n0) (ha.ext hW) hm hra (Gm.unit_rect n0) (by omega) hn2 hn2 hn2
      have hrk : (Gm.elimTo a (Gm.unit n0) n0).2.2 = Gm.rank a := by have := Gm.rank_of (m := a) (Gm.unit n0); rwa [hcols] at this
      have hiv : (Gm.elimTo a (Gm.unit n0) n0).2.1 = Gm.invert a := by unfold Gm.invert; rw [ha.len, hcols]
      rw [hrk, hiv] at hst
      have hul : (Gm.unit n0).length = n0 := (Gm.unit_rect n0).len
      have HUL := Lib.hid hul
      have HU := Lib.hid (fun W => ref3Unit_ok W n0 (by omega) hn2)
      have HST := Lib.hid hst
      have HR := Lib.hid hR
      have HC := Lib.hid hc0
      have hle := Gm.rank_le hra hn
      have hilen : ¬ Gm.rank a < n0 → (Gm.invert a).length = n0 := fun h => (Gm.inv_rect hra hn (by omega)).len
      have HIL := Lib.hid hilen
      by_cases h3 : Gm.rank a < n0
      · have eM : invM a = [] := by unfold invM; rw [if_pos hsq, if_pos (by rw [ha.len]; exact h3)]
        have eE : invE a = 31 := by unfold invE; rw [if_pos hsq, if_pos (by rw [ha.len]; exact h3)]
        rw [eM, eE]
        have h3' : (Gm.rank a : Int) < n0 := by omega
        clear eM eE hR hst hra hsq h1 ha hb0 hcols hc0 hrk hiv hul hilen
        generalize Gm.rank a = rk at *
        generalize Gm.invert a = iv at *
        generalize Gm.unit n0 = un at *
        go_enter Tryz.func68, Tryz.ntmps68
        go_wp2_with (fail)
        refine HR.out.mono ?_
        rintro e w1 ⟨rfl, x1⟩
        have hc1 := x1.cell HC.out
        go_wp2_with (fail)
        refine (HU.out w1).mono ?_
        intro e w2 hg
        obtain ⟨v2, cs2, rfl, hq2, x2⟩ := hg
        rw [HUL.out] at hq2
        obtain ⟨A2, c2, rfl, m2⟩ := hq2.mx
        have HST2 := Lib.hid (HST.out w2 (x1.trans x2) A2 c2 m2)
        clear hq2 m2
        go_wp2_with (fail)
        refine HST2.out.mono ?_
        rintro e w3 ⟨A3, c3, A4, c4, rfl, m3, x3⟩
        go_wp2_with (fail)
        go_ret2
        exact ⟨_, _, rfl, Mx.none _, (x1.trans x2).trans x3⟩
      · have eM : invM a = Gm.invert a := by unfold invM; rw [if_pos hsq, if_neg (by rw [ha.len]; exact h3)]
        have eE : invE a = 0 := by unfold invE; rw [if_pos hsq, if_neg (by rw [ha.len]; exact h3)]
        rw [eM, eE]
        have HIL2 := Lib.hid (HIL.out h3)
        have h3' : ¬ (Gm.rank a : Int) < n0 := by omega
        clear eM eE hR hst hra hsq h1 ha hb0 hcols hc0 hrk hiv hul hilen HIL
        generalize Gm.rank a = rk at *
        generalize Gm.invert a = iv at *
        generalize Gm.unit n0 = un at *
        go_enter Tryz.func68, Tryz.ntmps68
        go_wp2_with (fail)
        refine HR.out.mono ?_
        rintro e w1 ⟨rfl, x1⟩
        have hc1 := x1.cell HC.out
        go_wp2_with (fail)
        refine (HU.out w1).mono ?_
        intro e w2 hg
        obtain ⟨v2, cs2, rfl, hq2, x2⟩ := hg
        rw [HUL.out] at hq2
        obtain ⟨A2, c2, rfl, m2⟩ := hq2.mx
        have HST2 := Lib.hid (HST.out w2 (x1.trans x2) A2 c2 m2)
        clear hq2 m2
        go_wp2_with (fail)
        refine HST2.out.mono ?_
        rintro e w3 ⟨A3, c3, A4, c4, rfl, m3, x3⟩
        go_wp2_with (fail)
        go_ret2
        refine ⟨A4, c4, by rw [HIL2.out]; rfl, ?_, (x1.trans x2).trans x3⟩
        rw [HIL2.out]
        exact m3
    · have e1 : ((n0 : Int) != (n : Int)) = true := by rw [bne_iff_ne]; omega
      have hns : ¬ square a := fun q => h2 (by rw [← hcols, q.2, ha.len])
      have eM : invM a = [] := by unfold invM; rw [if_neg hns]
      have eE : invE a = 30 := by unfold invE; rw [if_neg hns]
      rw [eM, eE]
      have HR := Lib.hid hR
      have HC := Lib.hid hc0
      clear eM eE hR hns h1 ha hb0 hcols hc0 h2
      go_enter Tryz.func68, Tryz.ntmps68
      go_wp2_with (fail)
      refine HR.out.mono ?_
      rintro e w1 ⟨rfl, x1⟩
      have hc1 := x1.cell HC.out
      go_wp2_with (fail)
      go_ret2
      exact ⟨_, _, rfl, Mx.none _, x1⟩
  · rw [decide_eq_false h1] at hR
    have hns : ¬ square a := fun q => h1 q.1
    have eM : invM a = [] := by unfold invM; rw [if_neg hns]
    have eE : invE a = 30 := by unfold invE; rw [if_neg hns]
    rw [eM, eE]
    have HR := Lib.hid hR
    clear eM eE hR hns h1 ha
    go_enter Tryz.func68, Tryz.ntmps68
    go_wp2_with (fail)
    refine HR.out.mono ?_
    rintro e w1 ⟨rfl, x1⟩
    go_wp2_with (fail)
    go_ret2
    exact ⟨_, _, rfl, Mx.none _, x1⟩
end Go.Proofs.YtfpglkacjecoeaaGreat
namespace Go.Proofs.YtfpglkacjecoeaaGreat
open Go.RowKit
attribute [local go_sem ↓] Go.wp_at_zero Go.wp_at_succ

set_option maxRecDepth 100000 in
set_option maxHeartbeats 4000000 in
theorem ref4Decode_any (w : World) (k n : Nat) (A : Option Addr) (c : Nat) (hA : Mx w A n c (Gm.gen k n)) (h1 : 1 ≤ k) (h2 : k ≤ n) (h3 : n ≤ 255) (B : Option Addr) (q d : Nat) (l : List Int) (hl : Is w B q d l) (As : Option Addr) (m cs : Nat) (s : Gm.L) (hs : Mx w As m cs s) :
    Calls Tryz.prog 49 #[cval k n A n c, .slice B q d, .slice As m cs] w (GivesQE (decM k n l s) (decE k n l s) w) := by
  have xA : Ext w (wbox w k n A c) := Ext.alloc _ _
  have hB0 := bd_box w k n A c
  have hE := ref4Even_any (wbox w k n A c) As m cs s q (hs.ext xA)
  have q1 := hl.max
  have q2 := hl.le
  have q3 := hs.max
  have q4 := hs.le
  have q5 := hA.max
  have q6 := hA.le
  have hno : ¬ (toldOk k n l s ∧ invE (partOf k n l) = 0) → decM k n l s = [] ∧ decE k n l s = 40 := fun h => by
    unfold decM decE
    rw [if_neg (show ¬ decOk k n l s from h), if_neg (show ¬ decOk k n l s from h)]
    exact ⟨rfl, rfl⟩
  have hok : toldOk k n l s → invE (partOf k n l) = 0 → decM k n l s = Gm.mulL (invM (partOf k n l)) (s.take k) ∧ decE k n l s = 0 := fun h1 h2 => by
    unfold decM decE
    rw [if_pos (show decOk k n l s from ⟨h1, h2⟩), if_pos (show decOk k n l s from ⟨h1, h2⟩)]
    exact ⟨rfl, rfl⟩
  have HOK := Lib.hid hok
  have HNO := Lib.hid hno
  have HE := Lib.hid hE
  have HB := Lib.hid hB0
  have HL := Lib.hid hl
  have HS := Lib.hid hs
  have HA := Lib.hid hA
  have LL := Lib.hid hl.len
  have LS := Lib.hid hs.len
  have c0 := hB0.c0
  obtain ⟨DM, hDM⟩ : ∃ DM, decM k n l s = DM := ⟨_, rfl⟩
  obtain ⟨DE, hDE⟩ : ∃ DE, decE k n l s = DE := ⟨_, rfl⟩
  rw [hDM, hDE] at HNO HOK ⊢
  clear hok hno hE hB0 hl hs hA hDM hDE
  by_cases t1 : q = m
  · subst t1
    have e1 : ((q : Int) != (q : Int)) = false := by simp
    by_cases t2 : k ≤ q
    · have e2 : ¬ (q : Int) < k := by omega
      by_cases t3 : Gm.even s q
      · have HT3 := Lib.hid t3
        rw [decide_eq_true t3] at HE
        clear t3
        go_enter Tryz.func49, Tryz.ntmps49
        go_wp2_with (fail)
        refine HE.out.mono ?_
        rintro e w1 ⟨rfl, x1⟩
        have b1 := HB.out.ext x1
        have c0 := b1.c0
        have c1 := b1.c1
        have c2 := b1.c2
        have HB1 := Lib.hid b1
        clear b1
        go_wp2_with (fail)
        go_loopw [8, 9] (fun t _ wr => ∃ i : Nat, i ≤ q ∧ t = .int .i64 i ∧ Ext w1 wr ∧ RowKit.Hid (∀ i', i' < i → 0 ≤ Il.get l i' ∧ Il.get l i' < n ∧ ∀ j, j < i' → Il.get l j ≠ Il.get l i')) (fun t _ _ => q - (intOf t).toNat)
        case atStart => exact ⟨0, by omega, rfl, Ext.refl _, Lib.hid fun i hi => absurd hi (Nat.not_lt_zero _)⟩
        case round =>
          obtain ⟨i, hi, rfl, hx, HN⟩ := hrel
          have xx : Ext w wr := (xA.trans x1).trans hx
          by_cases hlt : i < q
          · have r1 : (i : Int) < q := by omega
            obtain ⟨bl, ol, rfl, hcl⟩ := (HL.out.ext xx).rd.intAt hlt
            obtain ⟨x, hxl⟩ : ∃ x, Il.get l i = x := ⟨_, rfl⟩
            have HXL := Lib.hid hxl
            rw [hxl] at hcl
            have c1' := hx.cell c1
            have hbad : ¬ (0 ≤ x ∧ x < n ∧ ∀ j, j < i → Il.get l j ≠ x) → DM = [] ∧ DE = 40 := fun h => HNO.out fun h9 => h (by have := h9.1.2 i (by rw [LL.out]; exact hlt); rwa [hxl] at this)
            have HBAD := Lib.hid hbad
            clear hxl hbad
            by_cases hx1 : x < 0
            · obtain ⟨rfl, rfl⟩ := HBAD.out (fun h => by omega)
              have e4 : decide (x < 0) = true := decide_eq_true hx1
              clear HOK HNO HBAD
              go_wp2_with (fail)
              go_region
              all_goals
                go_wp2_with (fail)
                go_ret2
                exact GivesQE.none 40 xx.thenDrew
            · have e4 : decide (x < 0) = false := decide_eq_false hx1
              by_cases hx2 : (n : Int) ≤ x
              · obtain ⟨rfl, rfl⟩ := HBAD.out (fun h => by omega)
                have e5 : decide ((n : Int) ≤ x) = true := decide_eq_true hx2
                clear HOK HNO HBAD
                go_wp2_with (fail)
                go_region
                all_goals
                  go_wp2_with (fail)
                  go_ret2
                  exact GivesQE.none 40 xx.thenDrew
              · have e5 : decide ((n : Int) ≤ x) = false := decide_eq_false hx2
                go_wp2_with (fail)
                go_region
                all_goals
                  go_wp2_with (fail)
                  go_loopw [9] (fun t wr' => ∃ j : Nat, j ≤ i ∧ t = .int .i64 j ∧ Ext wr wr' ∧ RowKit.Hid (∀ j', j' < j → Il.get l j' ≠ x)) (fun t _ => i - (intOf t).toNat)
                  case atStart => exact ⟨0, by omega, rfl, Ext.drew _, Lib.hid fun i hi => absurd hi (Nat.not_lt_zero _)⟩
                  case round =>
                    obtain ⟨j, hj, rfl, hxj, HJ⟩ := hrel
                    by_cases hji : j < i
                    · have r2 : (j : Int) < i := by omega
                      have hjq : j < q := by omega
                      have r3 : (j : Int) < q := by omega
                      obtain ⟨bl', ol', e8, hcj⟩ := (HL.out.ext (xx.trans hxj)).rd.intAt hjq
                      injection e8 with e8
                      injection e8 with e8 e9
                      subst e8 e9
                      have hci := hxj.cell hcl
                      obtain ⟨y, hyl⟩ : ∃ y, Il.get l j = y := ⟨_, rfl⟩
                      rw [hyl] at hcj
                      have HYL := Lib.hid hyl
                      clear hyl
                      by_cases hxy : y = x
                      · obtain ⟨rfl, rfl⟩ := HBAD.out (fun h => h.2.2 j hji (by rw [HYL.out, hxy]))
                        have e3 : (y == x) = true := by simp [hxy]
                        clear hxy HOK HNO HBAD
                        go_wp2_with (fail)
                        go_region
                        all_goals
                          go_wp2_with (fail)
                          go_ret2
                          exact GivesQE.none 40 (xx.trans hxj).thenDrew
                      · have e3 : (y == x) = false := by rw [beq_eq_false_iff_ne]; exact hxy
                        go_wp2_with (fail)
                        go_region
                        all_goals
                          go_wp2_with (fail)
                          refine ⟨⟨j + 1, by omega, by go_num, hxj.thenDrew, Lib.hid fun j' hj' => ?_⟩, by simp [intOf]; omega⟩
                          by_cases e : j' = j
                          · rw [e, HYL.out]; exact hxy
                          · exact HJ.out j' (by omega)
                    · have r2 : ¬ (j : Int) < i := by omega
                      obtain rfl : i = j := by omega
                      go_wp2_with (fail)
                      refine ⟨⟨i + 1, by omega, by go_num, hx.trans hxj, Lib.hid fun i' hi' => ?_⟩, by simp [intOf]; omega⟩
                      by_cases e : i' = i
                      · rw [e, HXL.out]; exact ⟨by omega, by omega, HJ.out⟩
                      · exact HN.out i' (by omega)
          · have r1 : ¬ (i : Int) < q := by omega
            obtain rfl : q = i := by omega
            have hto : toldOk k n l s := ⟨⟨by rw [LL.out, LS.out], by rw [LL.out]; exact t2, by rw [LL.out]; exact HT3.out⟩, by rw [LL.out]; exact HN.out⟩
            have HTO := Lib.hid hto
            have hPl := part_length h1 h3 h2 hto
            have hk2 : k ≤ 255 := by omega
            have g2 : (k : Int) ≤ cs := by omega
            have g3 : (0 : Int) ≤ k := by omega
            have g5 : (k : Int) ≤ d := by omega
            have hsk := HS.out.take (k := k) t2
            have hsw : ∀ i, i < k → (Gm.row (s.take k) i).length = Gm.cols (s.take k) := fun i hi => by rw [row_take hi, cols_take h1]; exact HT3.out.2.2.2 i (by omega)
            have hsc : Gm.cols (s.take k) ≤ 65536 := by rw [cols_take h1]; exact HT3.out.2.2.1
            have HR := Lib.hid (fun (W : World) (hW : Ext w W) (A : Option Addr) (c : Nat) (G : Gm.L) (hG : Mx W A k c G) (hr : Gm.Rect k k G) => ref4Times_any W A As k c k cs G (s.take k) hG (hsk.ext hW) (by omega) h1 (by omega) (fun i hi => hr.wid i hi) hsw hsc)
            have HPL := Lib.hid hPl
            have HP1 := Lib.hid (ref3Pick_any wr.drew A n c (Gm.gen k n) (HA.out.ext xx.thenDrew) B k d (l.take k) ((HL.out.ext xx.thenDrew).take t2))
            have hBX := fun (W : World) (hW : Ext wr W) => (HB1.out.ext hx).ext hW
            have HBX := Lib.hid hBX
            have HPP := Lib.hid (show partOf k n l = pickM (Gm.gen k n) (l.take k) from rfl)
            have b1 := hBX wr (Ext.refl wr)
            have c0 := b1.c0
            have c2 := b1.c2
            have hSB : ∀ W : World, Ext wr W → (W.cell? ⟨w.heap.size, 0, none⟩ = some (.int .i64 (k : Int)) ∧ W.cell? ⟨w.heap.size, 2, none⟩ = some (.slice A n c)) := fun W hW => ⟨hW.cell c0, hW.cell c2⟩
            have HSB := Lib.hid hSB
            have XX := Lib.hid xx
            clear hto hPl hsk hsw hsc hBX b1 hSB HB HB1 HN xx
            generalize partOf k n l = PT at *
            go_wp2_with (fail)
            go_region_held3 (fun W => W.cell? ⟨w.heap.size, 0, none⟩ = some (.int .i64 (k : Int)) ∧ W.cell? ⟨w.heap.size, 2, none⟩ = some (.slice A n c))
              (first | exact HSB.out _ (Ext.drew _) | exact HSB.out _ x12)
              (first | (((with_reducible refine HP1.out.mono ?_); (intro e w2 hg; obtain ⟨A2, c2', rfl, m2, x2⟩ := gives_mx hg; have x12 : Ext wr w2 := (Ext.drew wr).trans x2))))
            all_goals
              rw [← HPP.out, HPL.out] at m2
              rw [← HPP.out, HPL.out]
              generalize pickE (Gm.gen k n) (List.take k l) = PE at *
              have HI := Lib.hid (ref3Invert_any w2 A2 k c2' PT m2)
              clear m2
              go_wp2_with (fail)
              refine HI.out.mono ?_
              rintro e w3 ⟨A3, c3, rfl, m3, x3⟩
              have x03 : Ext w w3 := (XX.out.trans x12).trans x3
              have y03 : Ext wr w3 := x12.trans x3
              by_cases hz : invE PT = 0
              · obtain ⟨rfl, rfl⟩ := HOK.out HTO.out hz
                rw [hz]
                have hrr := invM_rect hz HPL.out
                have hml : (invM PT).length = k := hrr.len
                rw [hml] at m3
                rw [hml]
                have HR3 := Lib.hid (HR.out w3 x03 A3 c3 (invM PT) m3 hrr)
                have c0 := (HSB.out w3 y03).1
                clear hrr hml m3 hz HOK HNO
                go_wp2_with (fail)
                refine HR3.out.mono ?_
                rintro e w4 ⟨v4, cs4, rfl, hq, x4⟩
                go_wp2_with (fail)
                go_ret2
                exact ⟨v4, cs4, rfl, hq.lower x03.size, x03.trans x4⟩
              · obtain ⟨rfl, rfl⟩ := HNO.out (fun q => hz q.2)
                have e3 : (invE PT != 0) = true := by rw [bne_iff_ne]; exact hz
                generalize invE PT = IE at *
                generalize (invM PT).length = IL at *
                clear hz m3 HOK HNO
                go_wp2_with (fail)
                go_ret2
                exact GivesQE.none 40 x03
      · obtain ⟨rfl, rfl⟩ := HNO.out (fun h => t3 (by have := h.1.1.2.2; rwa [LL.out] at this))
        rw [decide_eq_false t3] at HE
        clear HOK HNO t3
        go_enter Tryz.func49, Tryz.ntmps49
        go_wp2_with (fail)
        refine HE.out.mono ?_
        rintro e w1 ⟨rfl, x1⟩
        go_wp2_with (fail)
        go_ret2
        exact GivesQE.none 40 (xA.trans x1)
    · obtain ⟨rfl, rfl⟩ := HNO.out (fun h => t2 (by have := h.1.1.2.1; rwa [LL.out] at this))
      have e2 : (q : Int) < k := by omega
      clear HOK HNO
      go_enter Tryz.func49, Tryz.ntmps49
      go_wp2_with (fail)
      go_ret2
      exact GivesQE.none 40 xA
  · obtain ⟨rfl, rfl⟩ := HNO.out (fun h => t1 (by have := h.1.1.1; rwa [LL.out, LS.out] at this))
    have e1 : ((q : Int) != (m : Int)) = true := by rw [bne_iff_ne]; omega
    clear HOK HNO
    go_enter Tryz.func49, Tryz.ntmps49
    go_wp2_with (fail)
    go_ret2
    exact GivesQE.none 40 xA
end Go.Proofs.YtfpglkacjecoeaaGreat
