/- MatrixRows' walk. -/
import Derived.Test.YtiianhlppkocgaaMatPicks
import Derived.Test.YtiianhlppkocgaaMatAwake
import Derived.Test.YtiianhlppkocgaaHold
import Derived.Deep.CutBlock
import Derived.Deep.DeepCutAuto
namespace Go.Proofs.Ytiianhlppkocgaa
open Go.RowKit

namespace matrixRows
set_option maxRecDepth 100000 in
set_option maxHeartbeats 4000000 in
theorem walk (w : World) (a0 : Int) (A1 : Option Addr) (n1 c1 : Nat) (z1 : List Int) (A2 : Option Addr) (n2 c2 : Nat) (z2 : List Int) (A3 : Option Addr) (n3 c3 : Nat) (z3 : List Int) (w0 : (Lit.int .u8 a0).wf = true) (w1 : IsRow .u8 w A1 n1 c1 z1) (w2 : IsRow .u8 w A2 n2 c2 z2) (w3 : IsRow .u8 w A3 n3 c3 z3) :
    Calls Try.prog 8 #[.int .u8 a0, .slice A1 n1 c1, .slice A2 n2 c2, .slice A3 n3 c3] w fun e w' => e = .returned (.bool true) ∧ Ext w w' := by
  obtain ⟨i0, hi0, hz0, hz1, hz2⟩ := info_parts int_info
  obtain ⟨b0, rfl⟩ := wf_u8 w0
  obtain ⟨b1, h1⟩ := w1.bytes
  obtain ⟨b2, h2⟩ := w2.bytes
  obtain ⟨b3, h3⟩ := w3.bytes
  clear w0 w1 w2 w3
  obtain ⟨n, hn⟩ : ∃ n, 1 + b0.toNat % 8 = n := ⟨_, rfl⟩
  have hn1 : 1 ≤ n ∧ n ≤ 10 := by omega
  have HN := Lib.hid (show 1 ≤ n ∧ n ≤ 255 by omega)
  have en2 : (1 + (b0.toNat : Int) % 8) = (n : Int) := by omega
  have EN2 := Lib.hid en2
  have RX := Lib.hid (square_rect n b1)
  have RY := Lib.hid (square_rect n b2)
  have RXY := Lib.hid (Gm.mulL_rect' RX.out RY.out HN.out.1)
  have lx := b0.toNat_lt
  have hm3 := h3.max
  have hl3 := h3.le
  clear en2
  go_enter Try.func8, Try.ntmps8
  try dsimp only [List.append]
  go_wp2_with (fail)
  refine (new_any _).mono ?_
  rintro e w1 ⟨rfl, hf, y1⟩
  generalize hb : w.heap.size = fb at *
  have Hb := Lib.hid hb
  clear hb
  have y0 := y1
  replace h1 := h1.ext y0
  replace h2 := h2.ext y0
  replace h3 := h3.ext y0
  have x0 := y0
  clear y0
  clear y1
  go_wp2_with (fail)
  rw [EN2.out]
  refine (square_r _ n _ _ _ b1 h1 (by omega)).mono ?_
  rintro e u1 ⟨Ax, cx, rfl, hx, y1⟩
  clear h1
  have y0 := y1
  replace h2 := h2.ext y0
  replace h3 := h3.ext y0
  replace hf := hf.ext y0
  replace x0 := Ext.trans x0 y0
  clear y0
  clear y1
  generalize squareL n b1 = x at *
  go_wp2_with (fail)
  refine (square_r _ n _ _ _ b2 h2 (by omega)).mono ?_
  rintro e u2 ⟨Ay, cy, rfl, hy, y1⟩
  clear h2
  have y0 := y1
  replace h3 := h3.ext y0
  replace hf := hf.ext y0
  replace hx := hx.ext y0
  replace x0 := Ext.trans x0 y0
  clear y0
  clear y1
  generalize squareL n b2 = y at *
  obtain ⟨wo, rfl⟩ : ∃ wo : World, wo = u2 := ⟨_, rfl⟩
  obtain ⟨q, hq⟩ : ∃ q, min n3 16 = q := ⟨_, rfl⟩
  have hq2 : q ≤ n3 ∧ q ≤ 16 ∧ (q = n3 ∨ q = 16) := by omega
  have HX := Lib.hid hx
  have HY := Lib.hid hy
  have HF := Lib.hid hf
  have X0 := Lib.hid x0
  clear hx hy hf x0 hn hq
  go_upto_block 0 with (fail)
  go_cut [13] (fun s13 wx => ∃ wv : World, wv = wx ∧ ∃ (A : Option Addr) (c : Nat), s13 = .slice A q c ∧ Is wx A q c (modTo n b3 q) ∧ Ext wo wx)
  case first =>
    go_wp2_with (fail)
    go_loopw [13, 14] (fun v s wr => ∃ t : Nat, t ≤ q ∧ s = .int .i64 t ∧ wr.ownsRow wo.heap.size 3 1 v t (icells (modTo n b3 t)) ∧ Ext wo wr) (fun _ s _ => q - (intOf s).toNat)
    case atStart => exact ⟨0, by omega, rfl, World.ownsRow_nil _ _ _ _, Ext.refl wo⟩
    case round =>
      obtain ⟨t, ht, rfl, hown, hx⟩ := hrel
      by_cases hlt : t < q
      · have q1 : (t : Int) < n3 := by omega
        have q2 : (t : Int) < 16 := by omega
        obtain ⟨bb, ob, rfl, hce⟩ := (h3.ext hx).rd.byte (show t < n3 by omega)
        have hor := ownsRow_ext hown (Ext.alloc wr (.cells #[.int .i64 (((Gf.get b3 t).toNat % n : Nat) : Int)] 3))
        have hs := hx.size
        have HO := Lib.hid hor
        have HW := Lib.hid hown
        clear hor hown
        have em : (wrap64 ((Gf.get b3 t).toNat : Int)).tmod (n : Int) = (((Gf.get b3 t).toNat % n : Nat) : Int) := by
          have := (Gf.get b3 t).toNat_lt
          rw [show wrap64 ((Gf.get b3 t).toNat : Int) = ((Gf.get b3 t).toNat : Int) by unfold wrap64; omega, Int.tmod_eq_emod_of_nonneg (by omega)]; rfl
        go_wp2_with (at_builtin; refine wpList_append_rd _ rfl (.tmp 51) (.tmp 59) 29 rfl wo.heap.size 3 i0 _ 1 8 Try.underlying29 hi0 hz0 hz1 hz2 rfl (by omega) u13 t (icells (modTo n b3 t)) rfl HO.out (some ⟨wr.heap.size, 0, none⟩) 1 1 [.int .i64 (((Gf.get b3 t).toNat % n : Nat) : Int)] rfl (Rd.lit _ #[.int .i64 (((Gf.get b3 t).toNat % n : Nat) : Int)] _) (by simp [Value.oneCell']) (by omega) (by unfold maxLen; omega) (by simp; omega) ?_; intro v5 w5 hown hgr hat)
        have hown' : w5.ownsRow wo.heap.size 3 1 v5 (t + 1) (icells (modTo n b3 (t + 1))) := by rw [modTo_succ, icells_append]; exact hown
        exact ⟨⟨t + 1, by omega, by go_num, hown', (hx.thenAlloc _).ofGrown hgr (own_row HW.out)⟩, by simp [intOf]; omega⟩
      · obtain rfl : t = q := by omega
        obtain ⟨A, c, rfl, _, _⟩ := ownsRow_slice hown
        have his := (Own.mk (base := wo.heap.size) (e := 3) hown).ints
        have HI := Lib.hid his
        clear hown his
        rcases hq2.2.2 with rfl | rfl
        · have q1 : ¬ (t : Int) < t := by omega
          go_wp2_with (fail)
          go_meet
          exact ⟨_, rfl, A, c, rfl, HI.out, hx⟩
        · by_cases h3n : 16 < n3
          · have q1 : (16 : Int) < n3 := by omega
            go_wp2_with (fail)
            go_meet
            exact ⟨_, rfl, A, c, rfl, HI.out, hx⟩
          · have q1 : ¬ (16 : Int) < n3 := by omega
            go_wp2_with (fail)
            go_meet
            exact ⟨_, rfl, A, c, rfl, HI.out, hx⟩
  case rest =>
    obtain ⟨wv, rfl, A, c, rfl, his, xb⟩ := hcut
    have hq16 := hq2.2.1
    clear h3 hq2 hl3 hm3
    go_upto_if 63 with (fail)
    go_cut [13] (fun s13 wx => ∃ wv : World, wv = wx ∧ ∃ (A : Option Addr) (m c : Nat) (L : List Int), s13 = .slice A m c ∧ Is wx A m c L ∧ Places n L ∧ m ≤ 16 ∧ Ext wo wx)
    case first =>
      rcases Nat.eq_zero_or_pos q with hq0 | hq0
      · subst hq0
        have hl0 := is_one _ 3 0 (g := wv.heap.size) rfl
        go_wp2_with (fail)
        go_meet
        exact ⟨_, rfl, _, _, _, _, rfl, is_one wv _ 0 rfl, zero_places HN.out.1, by omega, xb.thenAlloc _⟩
      · have q1 : ((q : Int) == 0) = false := by rw [beq_eq_false_iff_ne]; omega
        have HP := Lib.hid (modTo_places b3 HN.out.1 hq0)
        have HI := Lib.hid his
        clear his
        go_wp2_with (fail)
        go_meet
        exact ⟨_, rfl, _, _, _, _, rfl, HI.out, HP.out, by omega, xb⟩
    case rest =>
      clear his xb
      obtain ⟨wv, rfl, A, m, c, L, rfl, his, hpl, hm16, xb⟩ := hcut
      have hx := HX.out.ext xb
      have hy := HY.out.ext xb
      have hf := HF.out.ext xb
      have x0 := X0.out.trans xb
      have hmc := his.max
      have hlc := his.le
      have HPL := Lib.hid hpl
      have HPL2 := Lib.hid hpl.twice
      have LL := Lib.hid his.len
      have hm1 : 1 ≤ m := by have := hpl.pos; have := his.len; omega
      have HM := Lib.hid (show 1 ≤ m ∧ m ≤ 255 by omega)
      have RP := picked_rect RX.out hpl
      rw [his.len] at RP
      have HRP := Lib.hid RP
      have RQ := picked_rect RX.out hpl.twice
      rw [show (L ++ L).length = m + m by rw [List.length_append, his.len]] at RQ
      have HRQ := Lib.hid RQ
      have RT := picked_rect RX.out (back_places HN.out.1)
      rw [backTo_length] at RT
      have HRT := Lib.hid RT
      clear RT
      clear xb hpl RP RQ HX HY HF X0
      go_wp2_with (fail)
      refine (mul_r _ _ _ _ n _ n _ n x y hf hx hy RX.out RY.out HN.out HN.out HN.out).mono ?_
      rintro e u5 ⟨Axy, cxy, rfl, hxy, y1⟩
      have y0 := y1
      replace hx := hx.ext y0
      replace hy := hy.ext y0
      replace hf := hf.ext y0
      replace his := his.ext y0
      replace x0 := Ext.trans x0 y0
      clear y0
      clear y1
      go_wp2_with (fail)
      refine (pick_r _ _ n _ n (Gm.mulL x y) hxy RXY.out HN.out HN.out _ m _ L his HM.out.2 HPL.out).mono ?_
      rintro e u6 ⟨Aone, cone, rfl, hone, y1⟩
      have y0 := y1
      replace hx := hx.ext y0
      replace hy := hy.ext y0
      replace hf := hf.ext y0
      replace his := his.ext y0
      replace hxy := hxy.ext y0
      replace x0 := Ext.trans x0 y0
      clear y0
      clear y1
      go_wp2_with (fail)
      refine (pick_r _ _ n _ n x hx RX.out HN.out HN.out _ m _ L his HM.out.2 HPL.out).mono ?_
      rintro e u7 ⟨Apart, cpart, rfl, hpart, y1⟩
      have y0 := y1
      replace hx := hx.ext y0
      replace hy := hy.ext y0
      replace hf := hf.ext y0
      replace his := his.ext y0
      replace hxy := hxy.ext y0
      replace hone := hone.ext y0
      replace x0 := Ext.trans x0 y0
      clear y0
      clear y1
      go_wp2_with (fail)
      refine (mul_r _ _ _ _ m _ n _ n (picked x L) y hf hpart hy HRP.out RY.out HM.out HN.out HN.out).mono ?_
      rintro e u8 ⟨Atwo, ctwo, rfl, htwo, y1⟩
      have y0 := y1
      replace hx := hx.ext y0
      replace hy := hy.ext y0
      replace hf := hf.ext y0
      replace his := his.ext y0
      replace hxy := hxy.ext y0
      replace hone := hone.ext y0
      replace hpart := hpart.ext y0
      replace x0 := Ext.trans x0 y0
      clear y0
      clear y1
      go_wp2_with (fail)
      refine (same_r _ _ _ m _ m _ _ _ hone htwo (picked_mul RX.out RY.out HN.out.1 HPL.out)).mono ?_
      rintro e u9 ⟨rfl, y1⟩
      have y0 := y1
      replace hx := hx.ext y0
      replace hy := hy.ext y0
      replace hf := hf.ext y0
      replace his := his.ext y0
      replace hxy := hxy.ext y0
      replace hone := hone.ext y0
      replace hpart := hpart.ext y0
      replace htwo := htwo.ext y0
      replace x0 := Ext.trans x0 y0
      clear y0
      clear y1
      clear hone htwo
      
      have hbase := ownsRow_empty u9 3
      have HB := Lib.hid hbase
      have HI := Lib.hid his
      have HIL := Lib.hid (icells_one L)
      clear hbase his
      go_wp2_with (
        first
        | (at_builtin; refine wpList_append_rd _ rfl (.tmp 107) (.tmp 108) 29 rfl u9.heap.size 3 i0 _ 1 8 Try.underlying29 hi0 hz0 hz1 hz2 rfl (by omega) (.slice (some ⟨u9.heap.size, 0, none⟩) 0 0) 0 [] rfl HB.out A m c (icells L) rfl (HI.out.ext (Ext.alloc _ _)).rd HIL.out (by omega) (by unfold maxLen; omega) (by simp) ?_; (intro v3 w3 hown hgr hat); have y3 := (Ext.alloc u9 (.cells #[] 3)).ofGrown hgr (own_row HB.out); (have hs3 := y3.size); have HO := Lib.hid hown; clear hown)
        | (at_builtin; refine wpList_append_rd _ rfl (.tmp 109) (.tmp 110) 29 rfl u9.heap.size 3 i0 _ 1 8 Try.underlying29 hi0 hz0 hz1 hz2 rfl (by omega) v3 (0 + m) ([] ++ icells L) rfl HO.out A m c (icells L) rfl (HI.out.ext y3).rd HIL.out (by omega) (by unfold maxLen; omega) hs3 ?_; (intro v4 w4 hown4 hgr4 hat4); have y4 := y3.ofGrown hgr4 (own_row HO.out)))
      obtain ⟨A4, c4, rfl, _, _⟩ := ownsRow_slice hown4
      have hb := (Own.mk (base := u9.heap.size) (e := 3) hown4)
      rw [List.nil_append, ← icells_append, Nat.zero_add] at hb
      have h2 := hb.ints
      have hm2 : m + m ≤ 255 := by omega
      rw [Nat.zero_add]
      clear hb hown4 hgr4 hat4 hgr hat hs3 HO y3 HB
      
      have his := HI.out
      clear HI
      have y0 := y4
      replace hx := hx.ext y0
      replace hy := hy.ext y0
      replace hf := hf.ext y0
      replace his := his.ext y0
      replace hxy := hxy.ext y0
      replace hpart := hpart.ext y0
      replace x0 := Ext.trans x0 y0
      clear y0
      clear y4
      refine (pick_r _ _ n _ n x hx RX.out HN.out HN.out _ (m + m) _ (L ++ L) h2 hm2 HPL2.out).mono ?_
      rintro e u10 ⟨A2p, c2p, rfl, h2p, y1⟩
      have y0 := y1
      replace hx := hx.ext y0
      replace hy := hy.ext y0
      replace hf := hf.ext y0
      replace his := his.ext y0
      replace hxy := hxy.ext y0
      replace hpart := hpart.ext y0
      replace x0 := Ext.trans x0 y0
      clear y0
      clear y1 h2 his
      obtain ⟨wq, rfl⟩ : ∃ wq : World, wq = u10 := ⟨_, rfl⟩
      go_wp2_with (fail)
      go_loopw [25, 26] (fun v s wr => ∃ t : Nat, t ≤ n ∧ s = .int .i64 ((n : Int) - 1 - t) ∧ wr.ownsRow wq.heap.size 3 1 v t (icells (backTo n t)) ∧ Ext wq wr) (fun _ s _ => (intOf s + 1).toNat)
      case atStart => exact ⟨0, by omega, by simp, World.ownsRow_nil _ _ _ _, Ext.refl wq⟩
      case round =>
        obtain ⟨t, ht, rfl, hown, hxx⟩ := hrel
        by_cases hlt : t < n
        · have q1 : (0 : Int) ≤ (n : Int) - 1 - t := by omega
          have hor := ownsRow_ext hown (Ext.alloc wr (.cells #[.int .i64 ((n : Int) - 1 - t)] 3))
          have hs := hxx.size
          have HO := Lib.hid hor
          have HW := Lib.hid hown
          clear hor hown
          go_wp2_with (at_builtin; refine wpList_append_rd _ rfl (.tmp 121) (.tmp 123) 29 rfl wq.heap.size 3 i0 _ 1 8 Try.underlying29 hi0 hz0 hz1 hz2 rfl (by omega) u25 t (icells (backTo n t)) rfl HO.out (some ⟨wr.heap.size, 0, none⟩) 1 1 [.int .i64 ((n : Int) - 1 - t)] rfl (Rd.lit _ #[.int .i64 ((n : Int) - 1 - t)] _) (by simp [Value.oneCell']) (by omega) (by unfold maxLen; omega) (by simp; omega) ?_; intro v5 w5 hown hgr hat)
          have hown' : w5.ownsRow wq.heap.size 3 1 v5 (t + 1) (icells (backTo n (t + 1))) := by
            rw [backTo_succ, icells_append, show ((n - 1 - t : Nat) : Int) = (n : Int) - 1 - t by omega]; exact hown
          exact ⟨⟨t + 1, by omega, by go_num, hown', (hxx.thenAlloc _).ofGrown hgr (own_row HW.out)⟩, by simp [intOf]; omega⟩
        · obtain rfl : t = n := by omega
          have q1 : ¬ (0 : Int) ≤ (t : Int) - 1 - t := by omega
          obtain ⟨Ab, cb, rfl, _, _⟩ := ownsRow_slice hown
          have hbk := (Own.mk (base := wq.heap.size) (e := 3) hown).ints
          clear hown
          go_wp2_with (fail)
      
          have y0 := hxx
          replace hx := hx.ext y0
          replace hy := hy.ext y0
          replace hf := hf.ext y0
          replace hxy := hxy.ext y0
          replace hpart := hpart.ext y0
          replace h2p := h2p.ext y0
          replace x0 := Ext.trans x0 y0
          clear y0
          clear hxx
          refine (pick_r _ _ t _ t x hx RX.out HN.out HN.out _ t _ (backTo t t) hbk HN.out.2 (back_places HN.out.1)).mono ?_
          rintro e u11 ⟨A3p, c3p, rfl, h3p, y1⟩
          have y0 := y1
          replace hx := hx.ext y0
          replace hy := hy.ext y0
          replace hf := hf.ext y0
          replace hxy := hxy.ext y0
          replace hpart := hpart.ext y0
          replace h2p := h2p.ext y0
          replace x0 := Ext.trans x0 y0
          clear y0
          clear y1 hbk
          obtain ⟨rp, hrp⟩ : ∃ r, Gm.rank (picked x L) = r := ⟨_, rfl⟩
          obtain ⟨rx, hrx⟩ : ∃ r, Gm.rank x = r := ⟨_, rfl⟩
          obtain ⟨ry, hry⟩ : ∃ r, Gm.rank y = r := ⟨_, rfl⟩
          obtain ⟨rxy, hrxy⟩ : ∃ r, Gm.rank (Gm.mulL x y) = r := ⟨_, rfl⟩
          have l1 : rp ≤ t := by rw [← hrp]; exact Gm.rank_cols HRP.out HM.out.1
          have l2 : rp ≤ m := by rw [← hrp]; exact Gm.rank_le HRP.out HM.out.1
          have l3 : rxy ≤ rx := by rw [← hrx, ← hrxy]; exact Gm.rank_mul_left RX.out RY.out HN.out.1 HN.out.1
          have l4 : rxy ≤ ry := by rw [← hry, ← hrxy]; exact Gm.rank_mul_right RX.out RY.out HN.out.1 HN.out.1
          have E1 := Lib.hid hrp
          have E2 := Lib.hid hrx
          have E3 := Lib.hid hry
          have E4 := Lib.hid hrxy
          have E5 := Lib.hid ((rank_twice RX.out HPL.out).trans hrp)
          have E6 := Lib.hid ((rank_back RX.out HN.out.1).trans hrx)
          have HM2 := Lib.hid (show 1 ≤ m + m ∧ m + m ≤ 255 by omega)
          clear hrp hrx hry hrxy
          go_wp2_with (fail)
          refine (rank_r _ _ _ m _ t (picked x L) hf hpart HRP.out HM.out HN.out rp E1.out).mono ?_
          rintro e v1 ⟨rfl, y1⟩
          have y0 := y1
          replace hx := hx.ext y0
          replace hy := hy.ext y0
          replace hf := hf.ext y0
          replace hxy := hxy.ext y0
          replace hpart := hpart.ext y0
          replace h2p := h2p.ext y0
          replace h3p := h3p.ext y0
          replace x0 := Ext.trans x0 y0
          clear y0
          clear y1
          go_wp2_with (fail)
          refine (rank_r _ _ _ (m + m) _ t (picked x (L ++ L)) hf h2p HRQ.out HM2.out HN.out rp E5.out).mono ?_
          rintro e v2 ⟨rfl, y1⟩
          have y0 := y1
          replace hx := hx.ext y0
          replace hy := hy.ext y0
          replace hf := hf.ext y0
          replace hxy := hxy.ext y0
          replace hpart := hpart.ext y0
          replace h2p := h2p.ext y0
          replace h3p := h3p.ext y0
          replace x0 := Ext.trans x0 y0
          clear y0
          clear y1
          have i1 : (rp : Int) ≤ t := by omega
          have i2 : (rp : Int) ≤ m := by omega
          go_wp2_with (fail)
          all_goals
            refine (rank_r _ _ _ t _ t (picked x (backTo t t)) hf h3p HRT.out HN.out HN.out rx E6.out).mono ?_
            rintro e v3 ⟨rfl, y1⟩
            have y0 := y1
            replace hx := hx.ext y0
            replace hy := hy.ext y0
            replace hf := hf.ext y0
            replace hxy := hxy.ext y0
            replace hpart := hpart.ext y0
            replace h2p := h2p.ext y0
            replace h3p := h3p.ext y0
            replace x0 := Ext.trans x0 y0
            clear y0
            clear y1
            go_wp2_with (fail)
            refine (rank_r _ _ _ t _ t x hf hx RX.out HN.out HN.out rx E2.out).mono ?_
            rintro e v4 ⟨rfl, y1⟩
            have y0 := y1
            replace hx := hx.ext y0
            replace hy := hy.ext y0
            replace hf := hf.ext y0
            replace hxy := hxy.ext y0
            replace hpart := hpart.ext y0
            replace h2p := h2p.ext y0
            replace h3p := h3p.ext y0
            replace x0 := Ext.trans x0 y0
            clear y0
            clear y1
            go_wp2_with (fail)
            refine (rank_r _ _ _ t _ t (Gm.mulL x y) hf hxy RXY.out HN.out HN.out rxy E4.out).mono ?_
            rintro e v5 ⟨rfl, y1⟩
            have y0 := y1
            replace hx := hx.ext y0
            replace hy := hy.ext y0
            replace hf := hf.ext y0
            replace hxy := hxy.ext y0
            replace hpart := hpart.ext y0
            replace h2p := h2p.ext y0
            replace h3p := h3p.ext y0
            replace x0 := Ext.trans x0 y0
            clear y0
            clear y1
            go_wp2_with (fail)
            refine (rank_r _ _ _ t _ t x hf hx RX.out HN.out HN.out rx E2.out).mono ?_
            rintro e v6 ⟨rfl, y1⟩
            have y0 := y1
            replace hx := hx.ext y0
            replace hy := hy.ext y0
            replace hf := hf.ext y0
            replace hxy := hxy.ext y0
            replace hpart := hpart.ext y0
            replace h2p := h2p.ext y0
            replace h3p := h3p.ext y0
            replace x0 := Ext.trans x0 y0
            clear y0
            clear y1
            go_wp2_with (fail)
            refine (rank_r _ _ _ t _ t y hf hy RY.out HN.out HN.out ry E3.out).mono ?_
            rintro e v7 ⟨rfl, y1⟩
            have y0 := y1
            replace hx := hx.ext y0
            replace hy := hy.ext y0
            replace hf := hf.ext y0
            replace hxy := hxy.ext y0
            replace hpart := hpart.ext y0
            replace h2p := h2p.ext y0
            replace h3p := h3p.ext y0
            replace x0 := Ext.trans x0 y0
            clear y0
            clear y1
            have i3 : (rxy : Int) ≤ rx := by omega
            have i4 : (rxy : Int) ≤ ry := by omega
            go_wp2_with (fail)
            all_goals
              refine (awake_any3 _).mono ?_
              rintro e v8 ⟨rfl, y1⟩
              have y0 := y1
              replace hx := hx.ext y0
              replace hy := hy.ext y0
              replace hf := hf.ext y0
              replace hxy := hxy.ext y0
              replace hpart := hpart.ext y0
              replace h2p := h2p.ext y0
              replace h3p := h3p.ext y0
              replace x0 := Ext.trans x0 y0
              clear y0
              clear y1
              go_wp2_with (fail)
              go_ret
              exact ⟨rfl, x0⟩
end matrixRows
end Go.Proofs.Ytiianhlppkocgaa
