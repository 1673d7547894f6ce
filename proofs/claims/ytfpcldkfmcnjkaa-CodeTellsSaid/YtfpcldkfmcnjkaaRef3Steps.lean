/- The contract of the document's steps: rows made leading. -/
import Derived.Test.YtfpcldkfmcnjkaaCt6
import Derived.Test.YtfpcldkfmcnjkaaCt5
import Derived.Test.YtfpcldkfmcnjkaaRef2Lists
import Derived.Test.YtfpcldkfmcnjkaaTwo
import Derived.Test.YtfpcldkfmcnjkaaColFind
import Derived.Test.YtfpcldkfmcnjkaaRegLast
import Derived.StillTailTactics
import Derived.Deep.DrawnRows
import Derived.Deep.DeepCutAuto
import Derived.Deep.CutBlock
namespace Go.Proofs.Ytfpcldkfmcnjkaa
open Go.RowKit
attribute [local go_sem ↓] Go.wp_at_zero Go.wp_at_succ

set_option maxRecDepth 100000 in
set_option maxHeartbeats 8000000 in
theorem steps_any (w : World) (A B : Option Addr) (n ca cb c c2 : Nat) (a b : Gm.L) (ha : Mx w A n ca a) (hb : Mx w B n cb b) (ra : Gm.Rect n c a) (rb : Gm.Rect n c2 b) (hn : 1 ≤ n) (hn2 : n ≤ 255) (hc : c ≤ 255) (hc2 : c2 ≤ 255) :
    Calls Try.prog 78 #[.slice A n ca, .slice B n cb] w fun e w' => ∃ A1 d1 A2 d2, e = .returned (.tuple #[.slice A1 n d1, .slice A2 n d2, .int .i64 ((Gm.elimTo a b c).2.2 : Int)]) ∧ Mx w' A2 n d2 (Gm.elimTo a b c).2.1 ∧ Ext w w' := by
  obtain ⟨i0, hi0, hz0, hz1, hz2⟩ := info_parts bytes_info
  obtain ⟨j1, hj1, hy0, hy1, hy2⟩ := info_parts u8_info
  have q1 := ha.max
  have q2 := ha.le
  have q3 := hb.max
  have q4 := hb.le
  have LA := Lib.hid ha.len
  have LB := Lib.hid hb.len
  have HA := Lib.hid ha
  have HB := Lib.hid hb
  have RA := Lib.hid ra
  have RB := Lib.hid rb
  obtain ⟨N2, hN2⟩ : ∃ N2, w.heap.size = N2 := ⟨_, rfl⟩
  have HN2 := Lib.hid hN2
  have hsz0 : N2 ≤ w.heap.size := by omega
  clear hN2 ha hb ra rb
  go_enter Try.func78, Try.ntmps78
  try dsimp only [List.append]
  go_upto_block 0 with (fail)
  go_cut [7, 8, 9, 10, 11] (fun v1 v2 _ _ _ wx => ∃ wv : World, wv = wx ∧ ∃ (cs1 cs2 : List Value), Two wx N2 v1 v2 n n cs1 cs2 a b ∧ Ext w wx ∧ N2 ≤ wx.heap.size)
  case first =>
    go_wp2_with (fail)
    go_loopw [7, 8, 9, 10, 11] (fun v1 v2 s _ _ wr => ∃ (t : Nat) (cs1 cs2 : List Value), t ≤ n ∧ s = .int .i64 (t : Int) ∧ Two wr N2 v1 v2 t t cs1 cs2 (a.take t) (b.take t) ∧ Ext w wr ∧ N2 ≤ wr.heap.size) (fun _ _ s _ _ _ => n - (intOf s).toNat)
    case atStart => exact ⟨0, [], [], by omega, rfl, by rw [List.take_zero, List.take_zero]; exact Two.nil _ _, Ext.refl w, hsz0⟩
    case round =>
      obtain ⟨t, cs1, cs2, ht, rfl, hT, hx, hsz⟩ := hrel
      clear hsz0
      by_cases htn : t < n
      · have r1 : (t : Int) < n := by omega
        obtain ⟨bm, om, Ai, ni, ci, rfl, hca0, hbi⟩ := HA.out.at_ htn
        obtain ⟨bn, on, Bi, mi, di, rfl, hcb0, hbj⟩ := HB.out.at_ htn
        have hni := hbi.len
        have hmi := hbj.len
        have hsa := take_row (m := a) (j := t) (by rw [LA.out]; exact htn)
        have hsb := take_row (m := b) (j := t) (by rw [LB.out]; exact htn)
        have hla : (Gm.row a t).length ≤ 255 := by rw [RA.out.wid t htn]; exact hc
        have hlb : (Gm.row b t).length ≤ 255 := by rw [RB.out.wid t htn]; exact hc2
        generalize Gm.row a t = r at *
        generalize Gm.row b t = s at *
        subst hni hmi
        have hca := hx.cell hca0
        have HCB := Lib.hid hcb0
        have HSA := Lib.hid hsa
        have HSB := Lib.hid hsb
        have HT := Lib.hid hT
        have HBI := Lib.hid hbi
        have HBJ := Lib.hid hbj
        have HX := Lib.hid hx
        have qc1 := hbi.max
        have qc2 := hbi.le
        have qc3 := hbj.max
        have qc4 := hbj.le
        clear hca0 hcb0 hsa hsb hT hbi hbj hx
        go_wp2_with (first
          | (at_builtin; refine wpList_append_rd _ rfl (.tmp 27) (.tmp 31) 22 rfl wr.heap.size 5 j1 _ 1 1 Try.underlying22 hj1 hy0 hy1 hy2 rfl (by omega) (.slice none 0 0) 0 [] rfl (World.ownsRow_nil _ _ _ _) Ai r.length ci (bcells r) rfl (HBI.out.ext HX.out).rd (bcells_one r) (by omega) (by unfold maxLen; omega) (Nat.le_refl _) ?_
             intro x1 w1 ho1 hg1 _
             have e1 : Ext wr w1 := Ext.ofGrown (Ext.refl wr) hg1 (fun k hk => by simp [Value.ownBlock] at hk)
             rw [Nat.zero_add, List.nil_append] at ho1
             obtain ⟨X1, d1, rfl, _, _⟩ := ownsRow_slice ho1
             have HO1 := Lib.hid (ownsRow_ext (ownsRow_ext HT.out.m1.own e1) (Ext.alloc w1 (.cells #[.slice X1 r.length d1] 22)))
             have HR1 := Lib.hid ho1
             have E1 := Lib.hid e1
             have hs1 := e1.size
             clear ho1 hg1 e1)
          | (at_builtin; refine wpList_append_rd _ rfl (.tmp 26) (.tmp 33) 60 rfl N2 22 i0 _ 1 24 Try.underlying60 hi0 hz0 hz1 hz2 rfl (by omega) u7 t cs1 rfl HO1.out (some ⟨w1.heap.size, 0, none⟩) 1 1 [.slice X1 r.length d1] rfl (Rd.lit w1 #[.slice X1 r.length d1] _) (by simp [Value.oneCell']) (by omega) (by unfold maxLen; omega) (by simp; omega) ?_
             intro y1 w2 hown1 hgr1 hat1
             have HT2 := Lib.hid (HT.out.grow1 E1.out HR1.out (Nat.le_refl _) hsz (Ext.alloc w1 (.cells #[.slice X1 r.length d1] 22)) hown1 hgr1 hat1)
             have x2 : Ext w w2 := ((HX.out.trans E1.out).thenAlloc _).ofGrown hgr1 (fun q hq => by have := own_row HT.out.m1.own q hq; have := HN2.out; omega)
             have hs2 := hgr1.size
             simp at hs2
             have hcb := x2.cell HCB.out
             have X2 := Lib.hid x2
             clear hown1 hgr1 hat1 x2)
          | (at_builtin; refine wpList_append_rd _ rfl (.tmp 36) (.tmp 40) 22 rfl w2.heap.size 5 j1 _ 1 1 Try.underlying22 hj1 hy0 hy1 hy2 rfl (by omega) (.slice none 0 0) 0 [] rfl (World.ownsRow_nil _ _ _ _) Bi s.length di (bcells s) rfl (HBJ.out.ext X2.out).rd (bcells_one s) (by omega) (by unfold maxLen; omega) (Nat.le_refl _) ?_
             intro x3 w3 ho3 hg3 _
             have e3 : Ext w2 w3 := Ext.ofGrown (Ext.refl w2) hg3 (fun k hk => by simp [Value.ownBlock] at hk)
             rw [Nat.zero_add, List.nil_append] at ho3
             obtain ⟨X3, d3, rfl, _, _⟩ := ownsRow_slice ho3
             have HO3 := Lib.hid (ownsRow_ext (ownsRow_ext HT2.out.m2.own e3) (Ext.alloc w3 (.cells #[.slice X3 s.length d3] 22)))
             have HR3 := Lib.hid ho3
             have E3 := Lib.hid e3
             have hs3 := e3.size
             clear ho3 hg3 e3)
          | (at_builtin; refine wpList_append_rd _ rfl (.tmp 35) (.tmp 42) 60 rfl N2 22 i0 _ 1 24 Try.underlying60 hi0 hz0 hz1 hz2 rfl (by omega) u8 t cs2 rfl HO3.out (some ⟨w3.heap.size, 0, none⟩) 1 1 [.slice X3 s.length d3] rfl (Rd.lit w3 #[.slice X3 s.length d3] _) (by simp [Value.oneCell']) (by omega) (by unfold maxLen; omega) (by simp; omega) ?_
             intro y3 w4 hown3 hgr3 hat3
             have HT4 := Lib.hid (HT2.out.symm.grow1 E3.out HR3.out (Nat.le_refl _) (by omega) (Ext.alloc w3 (.cells #[.slice X3 s.length d3] 22)) hown3 hgr3 hat3).symm
             have x4 : Ext w w4 := ((X2.out.trans E3.out).thenAlloc _).ofGrown hgr3 (fun q hq => by have := own_row HT2.out.m2.own q hq; have := HN2.out; omega)
             have hs4 := hgr3.size
             simp at hs4
             have X4 := Lib.hid x4
             clear hown3 hgr3 hat3 x4)
          | fail)
        refine ⟨⟨t + 1, _, _, by omega, by go_num, by rw [HSA.out, HSB.out]; exact HT4.out, X4.out, by omega⟩, by simp [intOf]; omega⟩
      · have r1 : ¬ (t : Int) < n := by omega
        obtain rfl : n = t := by omega
        rw [List.take_of_length_le (by rw [LA.out]; exact Nat.le_refl _), List.take_of_length_le (by rw [LB.out]; exact Nat.le_refl _)] at hT
        have HT := Lib.hid hT
        clear hT
        go_wp2_with (fail)
        go_meet
        exact ⟨_, rfl, cs1, cs2, HT.out, hx, hsz⟩
  case rest =>
    obtain ⟨w0, rfl, cs1, cs2, hT, hx0, hs0⟩ := hcut
    obtain ⟨V1, d1, rfl, hv1, hv2⟩ := ownsRow_slice hT.m1.own
    obtain ⟨V2, d2, rfl, hv3, hv4⟩ := ownsRow_slice hT.m2.own
    obtain ⟨g1, rfl, hg1, hg2⟩ := own_addr hT.m1.own hn
    obtain ⟨g2, rfl, hg3, hg4⟩ := own_addr hT.m2.own hn
    have HT0 := Lib.hid hT
    clear hT hsz0
    go_wp2_with (fail)
    go_loopw [12, 13, 14, 15, 16, 17, 18, 19] (fun lv s _ _ _ _ _ _ wr => ∃ (j l : Nat) (cs1 cs2 : List Value) (X Y : Gm.L), j ≤ c ∧ s = .int .i64 (j : Int) ∧ lv = .int .i64 (l : Int) ∧ RowKit.Hid (Gm.elimTo a b j = (X, Y, l)) ∧ RowKit.Hid (Two wr N2 (.slice (some ⟨g1, 0, none⟩) n d1) (.slice (some ⟨g2, 0, none⟩) n d2) n n cs1 cs2 X Y) ∧ Ext w wr ∧ l ≤ n ∧ N2 ≤ wr.heap.size) (fun _ s _ _ _ _ _ _ _ => c - (intOf s).toNat)
    case atStart => exact ⟨0, 0, cs1, cs2, a, b, by omega, rfl, rfl, Lib.hid rfl, HT0, hx0, by omega, hs0⟩
    case round =>
      obtain ⟨j, l, cs1, cs2, X, Y, hj, rfl, rfl, HE, HT, hx, hln, hsz⟩ := hrel
      clear HT0 hx0 hs0 hg2 hg4
      have hinv := Gm.inv_elimTo RA.out RB.out j hj
      rw [HE.out] at hinv
      have RX := Lib.hid (show Gm.Rect n c X from hinv.ra)
      have RY := Lib.hid (show Gm.Rect n c2 Y from hinv.rb)
      obtain ⟨A0, e0, hk0, hcell0, _, _⟩ := HT.out.m1.cellAt (show 0 < n by omega)
      rw [RX.out.wid 0 (by omega)] at hcell0
      clear hinv hk0
      have hend : Gm.elimTo a b c = (X, Y, l) → ∃ A1 d1' A2 d2', (.returned (.tuple #[.slice (some ⟨g1, 0, none⟩) n d1, .slice (some ⟨g2, 0, none⟩) n d2, .int .i64 (l : Int)]) : Ending) = .returned (.tuple #[.slice A1 n d1', .slice A2 n d2', .int .i64 ((Gm.elimTo a b c).2.2 : Int)]) ∧ Mx wr A2 n d2' (Gm.elimTo a b c).2.1 ∧ Ext w wr := fun e => by
        obtain ⟨A5, e5, h5, hm5⟩ := HT.out.m2.mx
        injection h5 with h5 _ h6
        subst h5 h6
        rw [e]
        exact ⟨_, d1, _, d2, rfl, hm5, hx⟩
      have HEND := Lib.hid hend
      clear hend
      by_cases hjc : j < c
      · have r1 : (j : Int) < c := by omega
        by_cases hl : l < n
        · have r2 : (l : Int) < n := by omega
          clear HEND
          obtain ⟨W0, hW0⟩ : ∃ W0 : World, wr = W0 := ⟨_, rfl⟩
          have HW0 := Lib.hid hW0
          clear hW0
          go_upto_block 4 with (fail)
          go_cut [14] (fun s wx => ∃ wv : World, wv = wx ∧ wv = W0 ∧ ∃ t : Nat, l ≤ t ∧ t ≤ n ∧ s = .int .i64 (t : Int) ∧ RowKit.Hid (∀ i, l ≤ i → i < t → Gm.at_ X i j = 0) ∧ RowKit.Hid (t < n → Gm.at_ X t j ≠ 0))
          case first =>
            go_wp2_with (fail)
            go_loopw [14] (fun s wx => ∃ t : Nat, l ≤ t ∧ t ≤ n ∧ s = .int .i64 (t : Int) ∧ RowKit.Hid (∀ i, l ≤ i → i < t → Gm.at_ X i j = 0) ∧ wx = wr) (fun s _ => n - (intOf s).toNat)
            case atStart => exact ⟨l, by omega, by omega, rfl, Lib.hid (fun i h1 h2 => by omega), rfl⟩
            case round =>
              obtain ⟨t, ht1, ht2, rfl, HZ, rfl⟩ := hrel
              by_cases htn : t < n
              · have r3 : (t : Int) < n := by omega
                obtain ⟨At, dt, _, hct, _, hot⟩ := HT.out.m1.cellAt htn
                have hbt := (Own.mk (base := N2) (e := 5) hot).bs
                have hrt := RX.out.wid t htn
                rw [hrt] at hct hbt
                obtain ⟨bt, ot, rfl, hce⟩ := hbt.rd.byte hjc
                have hmx := hbt.max
                have hle := hbt.le
                have hax : Gf.get (Gm.row X t) j = Gm.at_ X t j := rfl
                rw [hax] at hce
                generalize hxv : Gm.at_ X t j = x at *
                have HX := Lib.hid hxv
                clear hxv hax hot hbt hrt
                by_cases hz : x = 0
                · have e1 := u8_zero x hz
                  have HX0 := Lib.hid hz
                  clear hz
                  go_wp2_with (fail)
                  refine ⟨⟨t + 1, by omega, by omega, by go_num, Lib.hid (fun i h1 h2 => by
                    by_cases e : i = t
                    · rw [e, HX.out, HX0.out]
                    · exact HZ.out i h1 (by omega)), trivial⟩, by simp [intOf]; omega⟩
                · have e1 := u8_nonzero x hz
                  have HX0 := Lib.hid hz
                  clear hz
                  go_wp2_with (fail)
                  go_meet
                  exact ⟨_, rfl, HW0.out, t, ht1, ht2, rfl, HZ, Lib.hid (fun _ => by rw [HX.out]; exact HX0.out)⟩
              · have r3 : ¬ (t : Int) < n := by omega
                go_wp2_with (fail)
                go_meet
                exact ⟨_, rfl, HW0.out, t, ht1, ht2, rfl, HZ, Lib.hid (fun h => absurd h htn)⟩
          case rest =>
            obtain ⟨wv, rfl, hwv, t, ht1, ht2, rfl, HZ, HNZ⟩ := hcut
            obtain rfl : wr = wv := HW0.out.trans hwv.symm
            clear hwv HW0
            by_cases htn : t < n
            · have e1 : ((t : Int) == (n : Int)) = false := by rw [beq_eq_false_iff_ne]; omega
              have hnz := HNZ.out htn
              have hcol := col_found (b := Y) RX.out.len ht1 htn HZ.out hnz
              have hnx : Gm.elimTo a b (j + 1) = _ := (show Gm.elimTo a b (j + 1) = Gm.col X Y l j by show Gm.col (Gm.elimTo a b j).1 (Gm.elimTo a b j).2.1 (Gm.elimTo a b j).2.2 j = _; rw [HE.out]).trans hcol
              have HNX := Lib.hid hnx
              clear hnx hcol HNZ HZ HE hcell0
              obtain ⟨Al, dl, hkl, hcl, hfl, _⟩ := HT.out.m1.cellAt hl
              obtain ⟨At, dt, hkt, hct, hft, _⟩ := HT.out.m1.cellAt htn
              have hsw := HT.out.swap1 htn hl hkt hkl
              rw [RX.out.wid l hl] at hkl hcl hsw
              rw [RX.out.wid t htn] at hkt hct hsw
              have hsome : ∃ v', (wr.setCell ⟨g1, t, none⟩ (.slice Al c dl)).cell? ⟨g1, l, none⟩ = some v' := by
                by_cases e : t = l
                · subst e
                  exact ⟨_, World.cell?_setCell_same _ _ _ hct⟩
                · exact ⟨_, by rw [World.cell?_setCell_other _ _ _ _ (fun h => e (by injection h))]; exact hcl⟩
              obtain ⟨v', hv'⟩ := hsome
              have HSW := Lib.hid hsw
              have HXS := Lib.hid ((hx.set_ (p := ⟨g1, t, none⟩) (by have := HN2.out; show w.heap.size ≤ g1; omega) (.slice Al c dl)).set_ (p := ⟨g1, l, none⟩) (by have := HN2.out; show w.heap.size ≤ g1; omega) (.slice At c dt))
              clear hsw hkl hkt
              go_upto_region 16 with (fail)
              go_cut [] (fun wx => ∃ wv : World, wv = wx ∧ (∃ cs1 cs2, RowKit.Hid (Two wx N2 (.slice (some ⟨g1, 0, none⟩) n d1) (.slice (some ⟨g2, 0, none⟩) n d2) n n cs1 cs2 (Gm.swapL X t l) Y)) ∧ Ext w wx ∧ N2 ≤ wx.heap.size)
              case first =>
                as_aux_lemma =>
                  go_region
                  all_goals
                    go_wp2_with (fail)
                    go_meet
                    exact ⟨_, rfl, ⟨_, _, Lib.hid (HSW.out.ext (Ext.drew _))⟩, HXS.out.thenDrew, by simpa using hsz⟩
              case rest =>
                obtain ⟨w5, rfl, ⟨cs3, cs4, HT5⟩, hx5, hs5⟩ := hcut
                clear HSW HXS hv' hcl hct hfl hft HT hx hsz
                obtain ⟨Al, dl, hkl, hcl, hfl, _⟩ := HT5.out.m2.cellAt hl
                obtain ⟨At, dt, hkt, hct, hft, _⟩ := HT5.out.m2.cellAt htn
                have hsw := (HT5.out.symm.swap1 htn hl hkt hkl).symm
                rw [RY.out.wid l hl] at hkl hcl hsw
                rw [RY.out.wid t htn] at hkt hct hsw
                have hsome : ∃ v', (w5.setCell ⟨g2, t, none⟩ (.slice Al c2 dl)).cell? ⟨g2, l, none⟩ = some v' := by
                  by_cases e : t = l
                  · subst e
                    exact ⟨_, World.cell?_setCell_same _ _ _ hct⟩
                  · exact ⟨_, by rw [World.cell?_setCell_other _ _ _ _ (fun h => e (by injection h))]; exact hcl⟩
                obtain ⟨v', hv'⟩ := hsome
                have HSW := Lib.hid hsw
                have HXS := Lib.hid ((hx5.set_ (p := ⟨g2, t, none⟩) (by have := HN2.out; show w.heap.size ≤ g2; omega) (.slice Al c2 dl)).set_ (p := ⟨g2, l, none⟩) (by have := HN2.out; show w.heap.size ≤ g2; omega) (.slice At c2 dt))
                clear hsw hkl hkt
                go_upto_region 17 with (fail)
                go_cut [] (fun wx => ∃ wv : World, wv = wx ∧ (∃ cs1 cs2, RowKit.Hid (Two wx N2 (.slice (some ⟨g1, 0, none⟩) n d1) (.slice (some ⟨g2, 0, none⟩) n d2) n n cs1 cs2 (Gm.swapL X t l) (Gm.swapL Y t l))) ∧ Ext w wx ∧ N2 ≤ wx.heap.size)
                case first =>
                  as_aux_lemma =>
                    go_region
                    all_goals
                      go_wp2_with (fail)
                      go_meet
                      exact ⟨_, rfl, ⟨_, _, Lib.hid (HSW.out.ext (Ext.drew _))⟩, HXS.out.thenDrew, by simpa using hs5⟩
                case rest =>
                  obtain ⟨w6, rfl, ⟨cs5, cs6, HT6⟩, hx6, hs6⟩ := hcut
                  clear HSW HXS hv' hcl hct hfl hft HT5 hx5 hs5
                  have RX1 := Lib.hid (RX.out.swapL htn hl)
                  have RY1 := Lib.hid (RY.out.swapL htn hl)
                  have hrow : Gm.row (Gm.swapL X t l) l = Gm.row X t := by
                    rw [Gm.row_swapL (by rw [RX.out.len]; exact htn) (by rw [RX.out.len]; exact hl)]
                    unfold Gm.swapI
                    by_cases e : l = t
                    · rw [if_pos e, e]
                    · rw [if_neg e, if_pos rfl]
                  have hat : Gf.get (Gm.row (Gm.swapL X t l) l) j = Gm.at_ X t j := by rw [hrow]; rfl
                  have HAT := Lib.hid hat
                  clear hrow hat hnz RX RY e1 ht1 ht2
                  generalize Gm.swapL X t l = X1 at *
                  generalize Gm.swapL Y t l = Y1 at *
                  generalize Gm.at_ X t j = x at *
                  obtain ⟨Ar, dr, hkr, hcr, hfr, hor⟩ := HT6.out.m1.cellAt hl
                  rw [RX1.out.wid l hl] at hcr hor
                  obtain ⟨gr, or, rfl, hbyte⟩ := (Own.mk (base := N2) (e := 5) hor).bs.rd.byte hjc
                  rw [HAT.out] at hbyte
                  have hcap := (Own.mk (base := N2) (e := 5) hor).caps
                  obtain ⟨hp1, hp2⟩ := hcap
                  have hinv := inverse_any w6 x
                  rw [pow_254] at hinv
                  have HINV := Lib.hid hinv
                  generalize Gf.inv x = ci at *
                  clear hinv hkr hor HAT
                  go_wp2_with (fail)
                  refine HINV.out.mono ?_
                  rintro e w' ⟨rfl, rfl⟩
                  clear hcr hfr hbyte HINV hp1 hp2
                  go_upto_block 6 with (fail)
                  obtain ⟨R0, hR0⟩ : ∃ R0, Gm.row X1 l = R0 := ⟨_, rfl⟩
                  have hR0l : R0.length = c := by rw [← hR0]; exact RX1.out.wid l hl
                  have hxl : X1.length = n := RX1.out.len
                  have hyl : Y1.length = n := RY1.out.len
                  have hset0 : X1.set l (Gm.scTo R0 ci 0) = X1 := by rw [Gm.scTo_zero, ← hR0]; exact set_row_self (by rw [hxl]; exact hl)
                  have HSET := Lib.hid hset0
                  have HR0 := Lib.hid hR0
                  have HR0L := Lib.hid hR0l
                  have HXL := Lib.hid hxl
                  have HYL := Lib.hid hyl
                  clear hR0 hR0l hxl hyl hset0
                  go_cut [16] (fun _ wx => ∃ wv : World, wv = wx ∧ RowKit.Hid (Two wx N2 (.slice (some ⟨g1, 0, none⟩) n d1) (.slice (some ⟨g2, 0, none⟩) n d2) n n cs5 cs6 (Gm.scaleL X1 l ci) Y1) ∧ Ext w wx ∧ N2 ≤ wx.heap.size)
                  case first =>
                    as_aux_lemma =>
                      go_wp2_with (fail)
                      go_loopw [16] (fun s wr => ∃ k : Nat, k ≤ c ∧ s = .int .i64 (k : Int) ∧ RowKit.Hid (Two wr N2 (.slice (some ⟨g1, 0, none⟩) n d1) (.slice (some ⟨g2, 0, none⟩) n d2) n n cs5 cs6 (X1.set l (Gm.scTo R0 ci k)) Y1) ∧ Ext w wr ∧ N2 ≤ wr.heap.size) (fun s _ => c - (intOf s).toNat)
                      case atStart => exact ⟨0, by omega, rfl, by rw [HSET.out]; exact HT6, hx6, hs6⟩
                      case round =>
                        obtain ⟨k, hk, rfl, HT7, hx7, hs7⟩ := hrel
                        clear HT6 hx6 hs6
                        have hlen7 : (X1.set l (Gm.scTo R0 ci k)).length = n := by rw [List.length_set]; exact HXL.out
                        have hrow7 : Gm.row (X1.set l (Gm.scTo R0 ci k)) l = Gm.scTo R0 ci k := by rw [Gm.row_set _ (by rw [HXL.out]; exact hl), if_pos rfl]
                        have hw0 : (Gm.row (X1.set l (Gm.scTo R0 ci k)) 0).length = c := by
                          rw [Gm.row_set _ (by rw [HXL.out]; exact hl)]
                          by_cases e : l = 0
                          · rw [if_pos e, Gm.scTo_length]; exact HR0L.out
                          · rw [if_neg e]; exact RX1.out.wid 0 (by omega)
                        obtain ⟨A0, e0, _, hcell0, _, _⟩ := HT7.out.m1.cellAt (show 0 < n by omega)
                        rw [hw0] at hcell0
                        by_cases hkc : k < c
                        · have r4 : (k : Int) < c := by omega
                          obtain ⟨A7, e7, hk7, hc7, _, ho7⟩ := HT7.out.m1.cellAt hl
                          have HK7 := Lib.hid hk7
                          rw [hrow7, Gm.scTo_length, HR0L.out] at hc7 ho7
                          obtain ⟨g7, rfl, hg71, hg72⟩ := own_addr ho7 (by omega)
                          obtain ⟨b8, o8, e8, hb8⟩ := (Own.mk (base := N2) (e := 5) ho7).rd.byte hkc
                          injection e8 with e8
                          injection e8 with e8 e9
                          subst e8 e9
                          rw [Nat.zero_add, Gm.get_scTo (by rw [HR0L.out]; exact hkc), if_neg (Nat.lt_irrefl _)] at hb8
                          have hf8 : wr.frozen? ⟨g7, k, none⟩ = false := ho7.frozenAt k
                          have hcap := (Own.mk (base := N2) (e := 5) ho7).caps
                          obtain ⟨hp1, hp2⟩ := hcap
                          have hpk := (HT7.out.ext (Ext.drew wr)).poke1 hl HK7.out k (Gf.mul ci (Gf.get R0 k))
                          rw [hrow7, Gm.scTo_succ _ (by rw [HR0L.out]; exact hkc), List.set_set] at hpk
                          have HPK := Lib.hid hpk
                          have HMU := Lib.hid (fun W => refMul_any W ci (Gf.get R0 k))
                          have HXP := Lib.hid ((hx7.thenDrew).set_ (p := ⟨g7, k, none⟩) (by have := HN2.out; show w.heap.size ≤ g7; omega) (.int .u8 ((Gf.mul ci (Gf.get R0 k)).toNat : Int)))
                          generalize Gf.mul ci (Gf.get R0 k) = z at *
                          generalize Gf.get R0 k = y at *
                          clear hpk hk7 ho7 hrow7 hw0 hlen7 HT7
                          go_upto_region 22 with (fail)
                          go_still_tail 15, (by kernel_rfl)
                          still_call ((HMU.out _).mono (fun e w' h => ⟨h.1, h.2.symm⟩))
                          repeat still_step
                          refine wpStill_nil ?_
                          change wpList _ _ _ _ _ wr.drew
                          replace hb8 : wr.drew.cell? ⟨g7, k, none⟩ = _ := hb8
                          replace hf8 : wr.drew.frozen? ⟨g7, k, none⟩ = false := hf8
                          clear hcell0 hc7
                          go_wp2_with (fail)
                          exact ⟨⟨k + 1, by omega, by go_num, HPK, HXP.out, by simpa using hs7⟩, by simp [intOf]; omega⟩
                        · have r4 : ¬ (k : Int) < c := by omega
                          obtain rfl : c = k := by omega
                          have hfull : X1.set l (Gm.scTo R0 ci c) = Gm.scaleL X1 l ci := by unfold Gm.scaleL; rw [Gm.scTo_full ci (by rw [HR0L.out]; exact Nat.le_refl _), HR0.out]
                          rw [hfull] at HT7
                          clear hfull hrow7 hw0 hlen7
                          go_wp2_with (fail)
                          go_meet
                          exact ⟨_, rfl, HT7, hx7, hs7⟩
                  case rest =>
                    obtain ⟨w7, rfl, HT7, hx7, hs7⟩ := hcut
                    clear HT6 hx6 hs6 HSET
                    obtain ⟨S0, hS0⟩ : ∃ S0, Gm.row Y1 l = S0 := ⟨_, rfl⟩
                    have hS0l : S0.length = c2 := by rw [← hS0]; exact RY1.out.wid l hl
                    have hset0 : Y1.set l (Gm.scTo S0 ci 0) = Y1 := by rw [Gm.scTo_zero, ← hS0]; exact set_row_self (by rw [HYL.out]; exact hl)
                    have HSET := Lib.hid hset0
                    have HS0 := Lib.hid hS0
                    have HS0L := Lib.hid hS0l
                    clear hS0 hS0l hset0
                    go_upto_block 8 with (fail)
                    go_cut [17] (fun _ wx => ∃ wv : World, wv = wx ∧ RowKit.Hid (Two wx N2 (.slice (some ⟨g1, 0, none⟩) n d1) (.slice (some ⟨g2, 0, none⟩) n d2) n n cs5 cs6 (Gm.scaleL X1 l ci) (Gm.scaleL Y1 l ci)) ∧ Ext w wx ∧ N2 ≤ wx.heap.size)
                    case first =>
                      as_aux_lemma =>
                        go_wp2_with (fail)
                        go_loopw [17] (fun s wr => ∃ k : Nat, k ≤ c2 ∧ s = .int .i64 (k : Int) ∧ RowKit.Hid (Two wr N2 (.slice (some ⟨g1, 0, none⟩) n d1) (.slice (some ⟨g2, 0, none⟩) n d2) n n cs5 cs6 (Gm.scaleL X1 l ci) (Y1.set l (Gm.scTo S0 ci k))) ∧ Ext w wr ∧ N2 ≤ wr.heap.size) (fun s _ => c2 - (intOf s).toNat)
                        case atStart => exact ⟨0, by omega, rfl, by rw [HSET.out]; exact HT7, hx7, hs7⟩
                        case round =>
                          obtain ⟨k, hk, rfl, HT8, hx8, hs8⟩ := hrel
                          clear HT7 hx7 hs7
                          have hrow7 : Gm.row (Y1.set l (Gm.scTo S0 ci k)) l = Gm.scTo S0 ci k := by rw [Gm.row_set _ (by rw [HYL.out]; exact hl), if_pos rfl]
                          have hw0 : (Gm.row (Y1.set l (Gm.scTo S0 ci k)) 0).length = c2 := by
                            rw [Gm.row_set _ (by rw [HYL.out]; exact hl)]
                            by_cases e : l = 0
                            · rw [if_pos e, Gm.scTo_length]; exact HS0L.out
                            · rw [if_neg e]; exact RY1.out.wid 0 (by omega)
                          obtain ⟨A0, e0, _, hcell0, _, _⟩ := HT8.out.m2.cellAt (show 0 < n by omega)
                          rw [hw0] at hcell0
                          by_cases hkc : k < c2
                          · have r4 : (k : Int) < c2 := by omega
                            obtain ⟨A7, e7, hk7, hc7, _, ho7⟩ := HT8.out.m2.cellAt hl
                            have HK7 := Lib.hid hk7
                            rw [hrow7, Gm.scTo_length, HS0L.out] at hc7 ho7
                            obtain ⟨g7, rfl, hg71, hg72⟩ := own_addr ho7 (by omega)
                            obtain ⟨b8, o8, e8, hb8⟩ := (Own.mk (base := N2) (e := 5) ho7).rd.byte hkc
                            injection e8 with e8
                            injection e8 with e8 e9
                            subst e8 e9
                            rw [Nat.zero_add, Gm.get_scTo (by rw [HS0L.out]; exact hkc), if_neg (Nat.lt_irrefl _)] at hb8
                            have hf8 : wr.frozen? ⟨g7, k, none⟩ = false := ho7.frozenAt k
                            have hcap := (Own.mk (base := N2) (e := 5) ho7).caps
                            obtain ⟨hp1, hp2⟩ := hcap
                            have hpk := ((HT8.out.ext (Ext.drew wr)).symm.poke1 hl HK7.out k (Gf.mul ci (Gf.get S0 k))).symm
                            rw [hrow7, Gm.scTo_succ _ (by rw [HS0L.out]; exact hkc), List.set_set] at hpk
                            have HPK := Lib.hid hpk
                            have HMU := Lib.hid (fun W => refMul_any W ci (Gf.get S0 k))
                            have HXP := Lib.hid ((hx8.thenDrew).set_ (p := ⟨g7, k, none⟩) (by have := HN2.out; show w.heap.size ≤ g7; omega) (.int .u8 ((Gf.mul ci (Gf.get S0 k)).toNat : Int)))
                            generalize Gf.mul ci (Gf.get S0 k) = z at *
                            generalize Gf.get S0 k = y at *
                            clear hpk hk7 ho7 hrow7 hw0 HT8
                            go_upto_region 26 with (fail)
                            go_still_tail 15, (by kernel_rfl)
                            still_call ((HMU.out _).mono (fun e w' h => ⟨h.1, h.2.symm⟩))
                            repeat still_step
                            refine wpStill_nil ?_
                            change wpList _ _ _ _ _ wr.drew
                            replace hb8 : wr.drew.cell? ⟨g7, k, none⟩ = _ := hb8
                            replace hf8 : wr.drew.frozen? ⟨g7, k, none⟩ = false := hf8
                            clear hcell0 hc7
                            go_wp2_with (fail)
                            exact ⟨⟨k + 1, by omega, by go_num, HPK, HXP.out, by simpa using hs8⟩, by simp [intOf]; omega⟩
                          · have r4 : ¬ (k : Int) < c2 := by omega
                            obtain rfl : c2 = k := by omega
                            have hfull : Y1.set l (Gm.scTo S0 ci c2) = Gm.scaleL Y1 l ci := by unfold Gm.scaleL; rw [Gm.scTo_full ci (by rw [HS0L.out]; exact Nat.le_refl _), HS0.out]
                            rw [hfull] at HT8
                            clear hfull hrow7 hw0
                            go_wp2_with (fail)
                            go_meet
                            exact ⟨_, rfl, HT8, hx8, hs8⟩
                    case rest =>
                      obtain ⟨w8, rfl, HT8, hx8, hs8⟩ := hcut
                      clear HT7 hx7 hs7 HSET HS0 HS0L HR0 HR0L
                      have RA1 := Lib.hid (RX1.out.scaleL ci hl)
                      have RB1 := Lib.hid (RY1.out.scaleL ci hl)
                      clear RX1 RY1 HXL HYL
                      generalize Gm.scaleL X1 l ci = A1 at *
                      generalize Gm.scaleL Y1 l ci = B1 at *
                      obtain ⟨dd, hdd⟩ : ∃ dd : Nat → UInt8, (fun k => Gm.at_ A1 k j) = dd := ⟨_, rfl⟩
                      have hdk : ∀ k, Gm.at_ A1 k j = dd k := fun k => by rw [← hdd]
                      rw [hdd] at HNX
                      have HDK := Lib.hid hdk
                      clear hdd hdk
                      go_upto_block 10 with (fail)
                      go_cut [18, 19] (fun _ _ wx => ∃ wv : World, wv = wx ∧ (∃ cs1 cs2, RowKit.Hid (Two wx N2 (.slice (some ⟨g1, 0, none⟩) n d1) (.slice (some ⟨g2, 0, none⟩) n d2) n n cs1 cs2 (Gm.clearL A1 l dd) (Gm.clearL B1 l dd))) ∧ Ext w wx ∧ N2 ≤ wx.heap.size)
                      case first =>
                        as_aux_lemma =>
                          go_wp2_with (fail)
                          go_loopw [18, 19] (fun s _ wr => ∃ (i : Nat) (es fs : List Value), i ≤ n ∧ s = .int .i64 (i : Int) ∧ RowKit.Hid (Two wr N2 (.slice (some ⟨g1, 0, none⟩) n d1) (.slice (some ⟨g2, 0, none⟩) n d2) n n es fs (Gm.clearTo A1 l dd i) (Gm.clearTo B1 l dd i)) ∧ Ext w wr ∧ N2 ≤ wr.heap.size) (fun s _ _ => n - (intOf s).toNat)
                          case atStart => exact ⟨0, cs5, cs6, by omega, rfl, by rw [Gm.clearTo_zero, Gm.clearTo_zero]; exact HT8, hx8, hs8⟩
                          case round =>
                            obtain ⟨i, es, fs, hi, rfl, HTi, hxi, hsi⟩ := hrel
                            clear HT8 hx8 hs8
                            by_cases hin : i < n
                            · have r4 : (i : Int) < n := by omega
                              have hiA : i < A1.length := by rw [RA1.out.len]; exact hin
                              have hiB : i < B1.length := by rw [RB1.out.len]; exact hin
                              have hlA : l < A1.length := by rw [RA1.out.len]; exact hl
                              have hlB : l < B1.length := by rw [RB1.out.len]; exact hl
                              obtain ⟨Ai, ei, _, hci, _, hoi⟩ := HTi.out.m1.cellAt hin
                              rw [(RA1.out.clearTo l dd i).wid i hin] at hci hoi
                              have hcap := (Own.mk (base := N2) (e := 5) hoi).caps
                              obtain ⟨hp1, hp2⟩ := hcap
                              obtain ⟨gb, ob, rfl, hbyte⟩ := (Own.mk (base := N2) (e := 5) hoi).rd.byte hjc
                              have hdi : Gf.get (Gm.row (Gm.clearTo A1 l dd i) i) j = dd i := by rw [Gm.clearTo_later dd hiA (Nat.le_refl _)]; exact HDK.out i
                              rw [hdi] at hbyte
                              obtain ⟨x, hxd⟩ : ∃ x, dd i = x := ⟨_, rfl⟩
                              rw [hxd] at hbyte
                              have HXD := Lib.hid hxd
                              clear hdi hxd hoi
                              by_cases hil : i = l
                              · have e1 : ((i : Int) == (l : Int)) = true := by rw [hil]; simp
                                have HSM1 := Lib.hid (clearTo_same dd hiA (.inl hil))
                                have HSM2 := Lib.hid (clearTo_same dd hiB (.inl hil))
                                clear hil
                                go_wp2_with (fail)
                                exact ⟨⟨i + 1, es, fs, by omega, by go_num, by rw [HSM1.out, HSM2.out]; exact HTi, hxi, hsi⟩, by simp [intOf]; omega⟩
                              · have e1 : ((i : Int) == (l : Int)) = false := by rw [beq_eq_false_iff_ne]; omega
                                by_cases hx0 : x = 0
                                · have e2 := u8_zero x hx0
                                  have HSM1 := Lib.hid (clearTo_same dd hiA (p := l) (.inr (HXD.out.trans hx0)))
                                  have HSM2 := Lib.hid (clearTo_same dd hiB (p := l) (.inr (HXD.out.trans hx0)))
                                  clear hx0 hil
                                  go_wp2_with (fail)
                                  exact ⟨⟨i + 1, es, fs, by omega, by go_num, by rw [HSM1.out, HSM2.out]; exact HTi, hxi, hsi⟩, by simp [intOf]; omega⟩
                                · have e2 := u8_nonzero x hx0
                                  have HNA := Lib.hid (clearTo_next dd hiA hlA hil)
                                  have HNB := Lib.hid (clearTo_next dd hiB hlB hil)
                                  rw [HXD.out] at HNA HNB
                                  clear hx0 hil
                                  go_upto_region 32 with (fail)
                                  go_cut [] (fun wx => ∃ wv : World, wv = wx ∧ (∃ es, RowKit.Hid (Two wx N2 (.slice (some ⟨g1, 0, none⟩) n d1) (.slice (some ⟨g2, 0, none⟩) n d2) n n es fs (Gm.clearTo A1 l dd (i + 1)) (Gm.clearTo B1 l dd i))) ∧ Ext w wx ∧ N2 ≤ wx.heap.size)
                                  case first =>
                                    as_aux_lemma =>
                                      clear hci hbyte
                                      obtain ⟨Ak, ek, hkk, hck, hfk, hok⟩ := HTi.out.m1.cellAt hin
                                      obtain ⟨Al, el, _, hcl, _, hol⟩ := HTi.out.m1.cellAt hl
                                      have hbk := (Own.mk (base := N2) (e := 5) hok).bs
                                      have hbl := (Own.mk (base := N2) (e := 5) hol).bs
                                      have hlc := refLay_any wr.drew Ak Al _ ek _ el (Gm.row (Gm.clearTo A1 l dd i) i) (Gm.row (Gm.clearTo A1 l dd i) l) x (hbk.ext (Ext.drew _)) (hbl.ext (Ext.drew _)) (by rw [(RA1.out.clearTo l dd i).wid i hin]; omega)
                                      have hsl : (Gf.lay (Gm.row (Gm.clearTo A1 l dd i) i) x (Gm.row (Gm.clearTo A1 l dd i) l)).length = c := by rw [Gf.lay_length]; exact (RA1.out.clearTo l dd i).wid i hin
                                      rw [(RA1.out.clearTo l dd i).wid i hin] at hck hlc
                                      rw [(RA1.out.clearTo l dd i).wid l hl] at hcl hlc
                                      have hq1 := hbk.max
                                      have hq2 := hbk.le
                                      have hq3 := hbl.max
                                      have hq4 := hbl.le
                                      rw [(RA1.out.clearTo l dd i).wid i hin] at hq2
                                      rw [(RA1.out.clearTo l dd i).wid l hl] at hq4
                                      have HL := Lib.hid hlc
                                      have HSL := Lib.hid hsl
                                      have hS : ∀ W : World, Ext wr W → (W.cell? ⟨g1, l, none⟩ = some (.slice Al c el) ∧ W.cell? ⟨g1, i, none⟩ = some (.slice Ak c ek)) := fun W hW => ⟨hW.cell hcl, hW.cell hck⟩
                                      have HS := Lib.hid hS
                                      generalize Gf.lay (Gm.row (Gm.clearTo A1 l dd i) i) x (Gm.row (Gm.clearTo A1 l dd i) l) = RR at *
                                      clear hS hlc hsl hkk hok hol hbk hbl
                                      refine wp_region_last (S := (fun W => W.cell? ⟨g1, l, none⟩ = some (.slice Al c el) ∧ W.cell? ⟨g1, i, none⟩ = some (.slice Ak c ek))) (n := 13) (m := 14) (by simp only [List.dropLast]; rfl) (by simp only [List.getLast?, List.getLast]; rfl) rfl rfl (by kernel_rfl) (by kernel_rfl) (HS.out _ (Ext.drew _)) (fun hHeld => ?_)
                                      refine takeL (i := 0) (v := ?_) rfl (by kernel_rfl) (by kernel_rfl) (by kernel_rfl) (fun _ _ _ h => h) (Or.inl ⟨by rfl, ?_⟩) (by assumption) ?_
                                      rotate_left
                                      · (intro W9 hSw; (try dsimp only at hSw); go_simp; (try with_reducible rfl))
                                      try simp only [Act.put, List.setIfInBounds_toArray, List.set_cons_zero, List.set_cons_succ]
                                      refine takeL (i := 1) (v := ?_) rfl (by kernel_rfl) (by kernel_rfl) (by kernel_rfl) (fun _ _ _ h => h) (Or.inl ⟨by rfl, ?_⟩) (by assumption) ?_
                                      rotate_left
                                      · (intro W9 hSw; (try dsimp only at hSw); go_simp; (try with_reducible rfl))
                                      try simp only [Act.put, List.setIfInBounds_toArray, List.set_cons_zero, List.set_cons_succ]
                                      refine takeL (i := 2) (v := ?_) rfl (by kernel_rfl) (by kernel_rfl) (by kernel_rfl) (fun _ _ _ h => h) (Or.inl ⟨by rfl, ?_⟩) (by assumption) ?_
                                      rotate_left
                                      · (intro W9 hSw; (try dsimp only at hSw); go_simp; (try with_reducible rfl))
                                      try simp only [Act.put, List.setIfInBounds_toArray, List.set_cons_zero, List.set_cons_succ]
                                      refine takeL (i := 3) (v := ?_) rfl (by kernel_rfl) (by kernel_rfl) (by kernel_rfl) (fun _ _ _ h => h) (Or.inl ⟨by rfl, ?_⟩) (by assumption) ?_
                                      rotate_left
                                      · (intro W9 hSw; (try dsimp only at hSw); go_simp; (try with_reducible rfl))
                                      try simp only [Act.put, List.setIfInBounds_toArray, List.set_cons_zero, List.set_cons_succ]
                                      refine takeL (i := 4) (v := ?_) rfl (by kernel_rfl) (by kernel_rfl) (by kernel_rfl) (fun _ _ _ h => h) (Or.inl ⟨by rfl, ?_⟩) (by assumption) ?_
                                      rotate_left
                                      · (intro W9 hSw; (try dsimp only at hSw); go_simp; (try with_reducible rfl))
                                      try simp only [Act.put, List.setIfInBounds_toArray, List.set_cons_zero, List.set_cons_succ]
                                      refine takeL (i := 5) (v := ?_) rfl (by kernel_rfl) (by kernel_rfl) (by kernel_rfl) (fun _ _ _ h => h) (Or.inl ⟨by rfl, ?_⟩) (by assumption) ?_
                                      rotate_left
                                      · (intro W9 hSw; (try dsimp only at hSw); go_simp; (try with_reducible rfl))
                                      try simp only [Act.put, List.setIfInBounds_toArray, List.set_cons_zero, List.set_cons_succ]
                                      refine takeL (i := 6) (v := ?_) rfl (by kernel_rfl) (by kernel_rfl) (by kernel_rfl) (fun _ _ _ h => h) (Or.inl ⟨by rfl, ?_⟩) (by assumption) ?_
                                      rotate_left
                                      · (intro W9 hSw; (try dsimp only at hSw); go_simp; (try with_reducible rfl))
                                      try simp only [Act.put, List.setIfInBounds_toArray, List.set_cons_zero, List.set_cons_succ]
                                      refine takeL (i := 7) (v := ?_) rfl (by kernel_rfl) (by kernel_rfl) (by kernel_rfl) (fun _ _ _ h => h) (Or.inl ⟨by rfl, ?_⟩) (by assumption) ?_
                                      rotate_left
                                      · (intro W9 hSw; (try dsimp only at hSw); go_simp; (try with_reducible rfl))
                                      try simp only [Act.put, List.setIfInBounds_toArray, List.set_cons_zero, List.set_cons_succ]
                                      refine takeL (i := 8) (v := ?_) rfl (by kernel_rfl) (by kernel_rfl) (by kernel_rfl) (fun _ _ _ h => h) (Or.inl ⟨by rfl, ?_⟩) (by assumption) ?_
                                      rotate_left
                                      · (intro W9 hSw; (try dsimp only at hSw); go_simp; (try with_reducible rfl))
                                      try simp only [Act.put, List.setIfInBounds_toArray, List.set_cons_zero, List.set_cons_succ]
                                      refine takeL (i := 9) (v := ?_) rfl (by kernel_rfl) (by kernel_rfl) (by kernel_rfl) (fun _ _ _ h => h) (Or.inl ⟨by rfl, ?_⟩) (by assumption) ?_
                                      rotate_left
                                      · (intro W9 hSw; (try dsimp only at hSw); go_simp; (try with_reducible rfl))
                                      try simp only [Act.put, List.setIfInBounds_toArray, List.set_cons_zero, List.set_cons_succ]
                                      refine takeL (i := 10) (v := ?_) rfl (by kernel_rfl) (by kernel_rfl) (by kernel_rfl) (fun _ _ _ h => h) (Or.inl ⟨by rfl, ?_⟩) (by assumption) ?_
                                      rotate_left
                                      · (intro W9 hSw; (try dsimp only at hSw); go_simp; (try with_reducible rfl))
                                      try simp only [Act.put, List.setIfInBounds_toArray, List.set_cons_zero, List.set_cons_succ]
                                      refine callL (i := 11) rfl (by kernel_rfl) (fun K hK => ?_)
                                      go_wp2_with (((with_reducible refine HL.out.mono ?_); (rintro e w4 ⟨v4, rfl, hv⟩; obtain ⟨A4, c4, rfl, _⟩ := hv.bs; have x4 : Ext wr w4 := (Ext.drew wr).trans hv.ext; have hco4 := x4.cell hck; have hfo4 : w4.frozen? ⟨g1, i, none⟩ = false := (x4.frozen hck).trans hfk; rw [HSL.out])))
                                      refine hK.out _ _ (HS.out _ x4) (fun hHeld => ?_)
                                      clear hK K
                                      try simp only [Act.put, List.setIfInBounds_toArray, List.set_cons_zero, List.set_cons_succ]
                                      refine takeL (i := 12) (v := ?_) rfl (by kernel_rfl) (by kernel_rfl) (by kernel_rfl) (fun _ _ _ h => h) (Or.inl ⟨by rfl, ?_⟩) (by assumption) ?_
                                      rotate_left
                                      · (intro W9 hSw; (try dsimp only at hSw); go_simp; (try with_reducible rfl))
                                      try simp only [Act.put, List.setIfInBounds_toArray, List.set_cons_zero, List.set_cons_succ]
                                      refine wpAnyH_done (by kernel_rfl) ?_ _
                                      change wpList _ _ _ _ _ _
                                      go_wp2_with (fail)
                                      all_goals
                                        have hput := (HTi.out.put1 x4 hin hv.own ((Ext.drew wr).size) hsi)
                                        rw [HSL.out] at hput
                                        have hxp := (hxi.trans x4).set_ (p := ⟨g1, i, none⟩) (by have := HN2.out; show w.heap.size ≤ g1; omega) (.slice A4 c c4)
                                        have hs4 := x4.size
                                        have HP := Lib.hid hput
                                        have HXP := Lib.hid hxp
                                        clear hput hxp hv
                                        go_wp2_with (fail)
                                        go_meet
                                        exact ⟨_, rfl, ⟨_, by rw [← HNA.out]; exact HP⟩, HXP.out, by simp; omega⟩
                                  case rest =>
                                    obtain ⟨wq, rfl, ⟨es2, HTq⟩, hxq, hsq⟩ := hcut
                                    clear HTi hxi hsi hci hbyte HNA
                                    go_upto_region 33 with (fail)
                                    obtain ⟨Ak, ek, hkk, hck, hfk, hok⟩ := HTq.out.m2.cellAt hin
                                    obtain ⟨Al, el, _, hcl, _, hol⟩ := HTq.out.m2.cellAt hl
                                    have hbk := (Own.mk (base := N2) (e := 5) hok).bs
                                    have hbl := (Own.mk (base := N2) (e := 5) hol).bs
                                    have hlc := refLay_any wq.drew Ak Al _ ek _ el (Gm.row (Gm.clearTo B1 l dd i) i) (Gm.row (Gm.clearTo B1 l dd i) l) x (hbk.ext (Ext.drew _)) (hbl.ext (Ext.drew _)) (by rw [(RB1.out.clearTo l dd i).wid i hin]; omega)
                                    have hsl : (Gf.lay (Gm.row (Gm.clearTo B1 l dd i) i) x (Gm.row (Gm.clearTo B1 l dd i) l)).length = c2 := by rw [Gf.lay_length]; exact (RB1.out.clearTo l dd i).wid i hin
                                    rw [(RB1.out.clearTo l dd i).wid i hin] at hck hlc
                                    rw [(RB1.out.clearTo l dd i).wid l hl] at hcl hlc
                                    have hq1 := hbk.max
                                    have hq2 := hbk.le
                                    have hq3 := hbl.max
                                    have hq4 := hbl.le
                                    rw [(RB1.out.clearTo l dd i).wid i hin] at hq2
                                    rw [(RB1.out.clearTo l dd i).wid l hl] at hq4
                                    have HL := Lib.hid hlc
                                    have HSL := Lib.hid hsl
                                    have hS : ∀ W : World, Ext wq W → (W.cell? ⟨g2, l, none⟩ = some (.slice Al c2 el) ∧ W.cell? ⟨g2, i, none⟩ = some (.slice Ak c2 ek)) := fun W hW => ⟨hW.cell hcl, hW.cell hck⟩
                                    have HS := Lib.hid hS
                                    generalize Gf.lay (Gm.row (Gm.clearTo B1 l dd i) i) x (Gm.row (Gm.clearTo B1 l dd i) l) = RR at *
                                    clear hS hlc hsl hkk hok hol hbk hbl
                                    refine wp_region_last (S := (fun W => W.cell? ⟨g2, l, none⟩ = some (.slice Al c2 el) ∧ W.cell? ⟨g2, i, none⟩ = some (.slice Ak c2 ek))) (n := 13) (m := 14) (by simp only [List.dropLast]; rfl) (by simp only [List.getLast?, List.getLast]; rfl) rfl rfl (by kernel_rfl) (by kernel_rfl) (HS.out _ (Ext.drew _)) (fun hHeld => ?_)
                                    refine takeL (i := 0) (v := ?_) rfl (by kernel_rfl) (by kernel_rfl) (by kernel_rfl) (fun _ _ _ h => h) (Or.inl ⟨by rfl, ?_⟩) (by assumption) ?_
                                    rotate_left
                                    · (intro W9 hSw; (try dsimp only at hSw); go_simp; (try with_reducible rfl))
                                    try simp only [Act.put, List.setIfInBounds_toArray, List.set_cons_zero, List.set_cons_succ]
                                    refine takeL (i := 1) (v := ?_) rfl (by kernel_rfl) (by kernel_rfl) (by kernel_rfl) (fun _ _ _ h => h) (Or.inl ⟨by rfl, ?_⟩) (by assumption) ?_
                                    rotate_left
                                    · (intro W9 hSw; (try dsimp only at hSw); go_simp; (try with_reducible rfl))
                                    try simp only [Act.put, List.setIfInBounds_toArray, List.set_cons_zero, List.set_cons_succ]
                                    refine takeL (i := 2) (v := ?_) rfl (by kernel_rfl) (by kernel_rfl) (by kernel_rfl) (fun _ _ _ h => h) (Or.inl ⟨by rfl, ?_⟩) (by assumption) ?_
                                    rotate_left
                                    · (intro W9 hSw; (try dsimp only at hSw); go_simp; (try with_reducible rfl))
                                    try simp only [Act.put, List.setIfInBounds_toArray, List.set_cons_zero, List.set_cons_succ]
                                    refine takeL (i := 3) (v := ?_) rfl (by kernel_rfl) (by kernel_rfl) (by kernel_rfl) (fun _ _ _ h => h) (Or.inl ⟨by rfl, ?_⟩) (by assumption) ?_
                                    rotate_left
                                    · (intro W9 hSw; (try dsimp only at hSw); go_simp; (try with_reducible rfl))
                                    try simp only [Act.put, List.setIfInBounds_toArray, List.set_cons_zero, List.set_cons_succ]
                                    refine takeL (i := 4) (v := ?_) rfl (by kernel_rfl) (by kernel_rfl) (by kernel_rfl) (fun _ _ _ h => h) (Or.inl ⟨by rfl, ?_⟩) (by assumption) ?_
                                    rotate_left
                                    · (intro W9 hSw; (try dsimp only at hSw); go_simp; (try with_reducible rfl))
                                    try simp only [Act.put, List.setIfInBounds_toArray, List.set_cons_zero, List.set_cons_succ]
                                    refine takeL (i := 5) (v := ?_) rfl (by kernel_rfl) (by kernel_rfl) (by kernel_rfl) (fun _ _ _ h => h) (Or.inl ⟨by rfl, ?_⟩) (by assumption) ?_
                                    rotate_left
                                    · (intro W9 hSw; (try dsimp only at hSw); go_simp; (try with_reducible rfl))
                                    try simp only [Act.put, List.setIfInBounds_toArray, List.set_cons_zero, List.set_cons_succ]
                                    refine takeL (i := 6) (v := ?_) rfl (by kernel_rfl) (by kernel_rfl) (by kernel_rfl) (fun _ _ _ h => h) (Or.inl ⟨by rfl, ?_⟩) (by assumption) ?_
                                    rotate_left
                                    · (intro W9 hSw; (try dsimp only at hSw); go_simp; (try with_reducible rfl))
                                    try simp only [Act.put, List.setIfInBounds_toArray, List.set_cons_zero, List.set_cons_succ]
                                    refine takeL (i := 7) (v := ?_) rfl (by kernel_rfl) (by kernel_rfl) (by kernel_rfl) (fun _ _ _ h => h) (Or.inl ⟨by rfl, ?_⟩) (by assumption) ?_
                                    rotate_left
                                    · (intro W9 hSw; (try dsimp only at hSw); go_simp; (try with_reducible rfl))
                                    try simp only [Act.put, List.setIfInBounds_toArray, List.set_cons_zero, List.set_cons_succ]
                                    refine takeL (i := 8) (v := ?_) rfl (by kernel_rfl) (by kernel_rfl) (by kernel_rfl) (fun _ _ _ h => h) (Or.inl ⟨by rfl, ?_⟩) (by assumption) ?_
                                    rotate_left
                                    · (intro W9 hSw; (try dsimp only at hSw); go_simp; (try with_reducible rfl))
                                    try simp only [Act.put, List.setIfInBounds_toArray, List.set_cons_zero, List.set_cons_succ]
                                    refine takeL (i := 9) (v := ?_) rfl (by kernel_rfl) (by kernel_rfl) (by kernel_rfl) (fun _ _ _ h => h) (Or.inl ⟨by rfl, ?_⟩) (by assumption) ?_
                                    rotate_left
                                    · (intro W9 hSw; (try dsimp only at hSw); go_simp; (try with_reducible rfl))
                                    try simp only [Act.put, List.setIfInBounds_toArray, List.set_cons_zero, List.set_cons_succ]
                                    refine takeL (i := 10) (v := ?_) rfl (by kernel_rfl) (by kernel_rfl) (by kernel_rfl) (fun _ _ _ h => h) (Or.inl ⟨by rfl, ?_⟩) (by assumption) ?_
                                    rotate_left
                                    · (intro W9 hSw; (try dsimp only at hSw); go_simp; (try with_reducible rfl))
                                    try simp only [Act.put, List.setIfInBounds_toArray, List.set_cons_zero, List.set_cons_succ]
                                    refine callL (i := 11) rfl (by kernel_rfl) (fun K hK => ?_)
                                    go_wp2_with (((with_reducible refine HL.out.mono ?_); (rintro e w4 ⟨v4, rfl, hv⟩; obtain ⟨A4, c4, rfl, _⟩ := hv.bs; have x4 : Ext wq w4 := (Ext.drew wq).trans hv.ext; have hco4 := x4.cell hck; have hfo4 : w4.frozen? ⟨g2, i, none⟩ = false := (x4.frozen hck).trans hfk; rw [HSL.out])))
                                    refine hK.out _ _ (HS.out _ x4) (fun hHeld => ?_)
                                    clear hK K
                                    try simp only [Act.put, List.setIfInBounds_toArray, List.set_cons_zero, List.set_cons_succ]
                                    refine takeL (i := 12) (v := ?_) rfl (by kernel_rfl) (by kernel_rfl) (by kernel_rfl) (fun _ _ _ h => h) (Or.inl ⟨by rfl, ?_⟩) (by assumption) ?_
                                    rotate_left
                                    · (intro W9 hSw; (try dsimp only at hSw); go_simp; (try with_reducible rfl))
                                    try simp only [Act.put, List.setIfInBounds_toArray, List.set_cons_zero, List.set_cons_succ]
                                    refine wpAnyH_done (by kernel_rfl) ?_ _
                                    change wpList _ _ _ _ _ _
                                    go_wp2_with (fail)
                                    all_goals
                                      have hput := (HTq.out.symm.put1 x4 hin hv.own ((Ext.drew wq).size) hsq).symm
                                      rw [HSL.out] at hput
                                      have hxp := (hxq.trans x4).set_ (p := ⟨g2, i, none⟩) (by have := HN2.out; show w.heap.size ≤ g2; omega) (.slice A4 c2 c4)
                                      have hs4 := x4.size
                                      have HP := Lib.hid hput
                                      have HXP := Lib.hid hxp
                                      clear hput hxp hv
                                      go_wp2_with (fail)
                                      exact ⟨⟨i + 1, es2, _, by omega, by go_num, by rw [← HNB.out]; exact HP, HXP.out, by simp; omega⟩, by simp [intOf]; omega⟩
                            · have r4 : ¬ (i : Int) < n := by omega
                              obtain rfl : n = i := by omega
                              have hca : Gm.clearTo A1 l dd n = Gm.clearL A1 l dd := by unfold Gm.clearL; rw [RA1.out.len]
                              have hcb : Gm.clearTo B1 l dd n = Gm.clearL B1 l dd := by unfold Gm.clearL; rw [RB1.out.len]
                              rw [hca, hcb] at HTi
                              clear hca hcb
                              go_wp2_with (fail)
                              go_meet
                              exact ⟨_, rfl, ⟨es, fs, HTi⟩, hxi, hsi⟩
                      case rest =>
                        obtain ⟨w9, rfl, ⟨cs7, cs8, HT9⟩, hx9, hs9⟩ := hcut
                        clear HT8 hx8 hs8
                        go_wp2_with (fail)
                        exact ⟨⟨j + 1, l + 1, cs7, cs8, _, _, by omega, by go_num, by go_num, HNX, HT9, hx9, by omega, hs9⟩, by simp [intOf]; omega⟩
            · have htn' : t = n := by omega
              have e1 : ((t : Int) == (n : Int)) = true := by rw [htn']; simp
              have hcol := col_none (b := Y) RX.out.len hln (fun i h1 h2 => HZ.out i h1 (by omega))
              have hnx : Gm.elimTo a b (j + 1) = (X, Y, l) := (show Gm.elimTo a b (j + 1) = Gm.col X Y l j by show Gm.col (Gm.elimTo a b j).1 (Gm.elimTo a b j).2.1 (Gm.elimTo a b j).2.2 j = _; rw [HE.out]).trans hcol
              have HNX := Lib.hid hnx
              clear hnx hcol HNZ HZ HE htn'
              go_wp2_with (fail)
              exact ⟨⟨j + 1, l, cs1, cs2, X, Y, by omega, by go_num, rfl, HNX, HT, hx, hln, hsz⟩, by simp [intOf]; omega⟩
        · have r2 : ¬ (l : Int) < n := by omega
          have hfin : Gm.elimTo a b c = (X, Y, l) := by
            have h := elimTo_stays (a := a) (b := b) (j := j) (by rw [HE.out]; show l = X.length; rw [RX.out.len]; omega) (c - j)
            rw [show j + (c - j) = c by omega, HE.out] at h
            exact h
          have HF := Lib.hid (HEND.out hfin)
          clear hfin HEND
          go_wp2_with (fail)
          go_ret3
          exact HF.out
      · have r1 : ¬ (j : Int) < c := by omega
        obtain rfl : c = j := by omega
        have HF := Lib.hid (HEND.out HE.out)
        clear HEND
        go_wp2_with (fail)
        go_ret3
        exact HF.out
end Go.Proofs.Ytfpcldkfmcnjkaa
