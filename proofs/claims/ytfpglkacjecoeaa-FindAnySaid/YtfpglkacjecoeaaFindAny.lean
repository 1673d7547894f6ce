/- FindAny's walk. -/
import Derived.Test.YtfpglkacjecoeaaCt34
import Derived.Test.YtfpglkacjecoeaaCt37
import Derived.Test.YtfpglkacjecoeaaBools
namespace Go.Proofs.Ytfpglkacjecoeaa
open Go.ChangeShapes Go.WideShapes Go.ChangeAt Go.RowKit

/-- Has an index no shard? -/
def nn13 (q : Nat) (l : List Bool) (j : Nat) : Bool := decide (j < q) && bget l j
theorem begin13_any (W : World) (n k : Nat) (h1 : 1 ≤ k) (h2 : k ≤ n) (h3 : n ≤ 255) : Calls Try.prog 8 #[.int .i64 1, .int .i64 1, .int .i64 (n : Int), .int .i64 (k : Int)] W fun e w' => ∃ A q c B m d C k9 e9, e = .returned (.tuple #[fval (Finds.beginF 1 1 n k).stripe (Finds.beginF 1 1 n k).version (Finds.beginF 1 1 n k).need (Finds.beginF 1 1 n k).phase (.slice A q c) (.slice B m d) (.slice C k9 e9), .int .i64 0]) ∧ Fd w' (Finds.beginF 1 1 n k) A q c B m d C k9 e9 ∧ Ext W w' := by
  have h := fBegin_any W 1 1 n k
  rw [show Finds.beginE 1 1 (n : Int) (k : Int) = 0 from (Finds.asks_begin (fun _ => false) [] 0 h1 h2 h3).2.1] at h
  refine h.mono ?_
  rintro e w' ⟨U, V, S, rfl, ⟨A, q, c, B, m, d, C, k9, e9, rfl, rfl, rfl, hd⟩, hx, _⟩
  exact ⟨A, q, c, B, m, d, C, k9, e9, rfl, hd, hx⟩
theorem wants4_at {l : List Int} {j : Nat} (h : j < l.length) : wget (wants4 l) j = (Il.get l j, 4) := by
  unfold wget wants4
  rw [Il.get_of_lt h]
  simp [h]
set_option maxRecDepth 100000 in
set_option maxHeartbeats 8000000 in
theorem findAny_any (w : World) (x y v : UInt8) (A0 : Option Addr) (q0 c0 : Nat) (l0 : List UInt8) (hb0 : Bs w A0 q0 c0 l0) (A1 : Option Addr) (q1 c1 : Nat) (nl : List Bool) (hn : Bls w A1 q1 c1 nl) (A2 : Option Addr) (q2 c2 : Nat) (ol : List UInt8) (ho : Bs w A2 q2 c2 ol) :
    Calls Try.prog 7 #[.agg #[.int .u8 (x.toNat : Int), .int .u8 (y.toNat : Int), .int .u8 (v.toNat : Int), .slice A0 q0 c0], .slice A1 q1 c1, .slice A2 q2 c2] w fun e w' => e = .returned (.bool true) ∧ Ext w w' := by
  have p1 := hb0.max
  have p2 := hb0.le
  have p3 := hn.max
  have p4 := hn.le
  have p5 := ho.max
  have p6 := ho.le
  have HN := Lib.hid hn
  have HO := Lib.hid ho
  obtain ⟨wb, hwb⟩ : ∃ wb, w.alloc (.cells #[.int .u8 (x.toNat : Int), .int .u8 (y.toNat : Int), .int .u8 (v.toNat : Int), .slice A0 q0 c0] 67) = wb := ⟨_, rfl⟩
  have xb : Ext w wb := by rw [← hwb]; exact Ext.alloc _ _
  have XB := Lib.hid xb
  have hbk : wb.heap[w.heap.size]? = some (.cells #[.int .u8 (x.toNat : Int), .int .u8 (y.toNat : Int), .int .u8 (v.toNat : Int), .slice A0 q0 c0] 67 (0, 0)) := by rw [← hwb]; exact heap_alloc_new _ _
  have BK := Lib.hid hbk
  have HWB := Lib.hid hwb
  have hsh := shards13_any wb x y v A0 q0 c0 l0 (hb0.ext xb)
  obtain ⟨K, hK⟩ : ∃ K, 1 + x.toNat % 6 = K := ⟨_, rfl⟩
  obtain ⟨N, hN⟩ : ∃ N, K + y.toNat % 6 = N := ⟨_, rfl⟩
  obtain ⟨size, hsz⟩ : ∃ size, v.toNat % 13 = size := ⟨_, rfl⟩
  have b1 : 1 ≤ K ∧ K ≤ N ∧ N ≤ 11 ∧ size ≤ 12 := by omega
  obtain ⟨b1, b2, b3, b4⟩ := b1
  rw [hK, hN, hsz] at hsh
  have HSH := Lib.hid hsh
  have HREC := Lib.hid (stripe_rect l0 K size 0)
  clear hb0 hn ho hwb hbk hsh hK hN hsz xb
  go_enter Try.func7, Try.ntmps7
  try dsimp only [List.append]
  go_upto_region 1 with (fail)
  rw [HWB.out]
  have k0 : wb.cell? ⟨w.heap.size, 0, none⟩ = some (.int .u8 (x.toNat : Int)) := by rw [cell_of_row wb _ _ _ _ _ BK.out]; rfl
  have k1 : wb.cell? ⟨w.heap.size, 1, none⟩ = some (.int .u8 (y.toNat : Int)) := by rw [cell_of_row wb _ _ _ _ _ BK.out]; rfl
  have k2 : wb.cell? ⟨w.heap.size, 2, none⟩ = some (.int .u8 (v.toNat : Int)) := by rw [cell_of_row wb _ _ _ _ _ BK.out]; rfl
  have k3 : wb.cell? ⟨w.heap.size, 3, none⟩ = some (.slice A0 q0 c0) := by rw [cell_of_row wb _ _ _ _ _ BK.out]; rfl
  go_wp2_with (fail)
  with_reducible refine HSH.out.mono ?_
  rintro e w2 ⟨b, fb, Ad, cd, Aa, ca, rfl, hC, hD, hAl, x2⟩
  have HX2 := Lib.hid (XB.out.trans x2)
  have HC := Lib.hid hC
  have HD := Lib.hid hD
  have HA := Lib.hid hAl
  have p7 := hD.max
  have p8 := hD.le
  have p9 := hAl.max
  have p10 := hAl.le
  obtain ⟨M, hM⟩ : ∃ M, stripeAt l0 K size 0 = M := ⟨_, rfl⟩
  rw [hM] at HD HA HREC
  clear hM hC hD hAl x2 k0 k1 k2 k3
  go_wp2_with (fail)
  with_reducible refine (all_any _ b fb K N HC.out).mono ?_
  rintro e w3 ⟨rfl, rfl⟩
  go_wp2_with (fail)
  with_reducible refine (all_any _ b fb K N HC.out).mono ?_
  rintro e w3 ⟨rfl, rfl⟩
  go_wp2_with (fail)
  with_reducible refine (need_any _ b fb K N HC.out).mono ?_
  rintro e w3 ⟨rfl, rfl⟩
  go_wp2_with (fail)
  with_reducible refine (begin13_any _ N K b1 b2 (by omega)).mono ?_
  rintro e w3 ⟨Af, nf, cf, Bf, mf, df, Cf, kf, ef, rfl, hd, x3⟩
  have p11 := hd.u.max
  have p12 := hd.u.le
  have p13 := hd.v.max
  have p14 := hd.v.le
  have p15 := hd.s.max
  have p16 := hd.s.le
  have HAB := Lib.hid (Finds.asks_begin (nn13 q1 nl) (Gm.mulL (Gm.gen K N) M) size b1 b2 (by omega))
  obtain ⟨F0, hF0⟩ : ∃ F0, Finds.beginF 1 1 (N : Int) (K : Int) = F0 := ⟨_, rfl⟩
  rw [hF0] at hd HAB ⊢
  have HDF := Lib.hid hd
  have HX3 := Lib.hid (HX2.out.trans x3)
  have HX23 := Lib.hid x3
  clear hF0 hd x3
  go_upto_block 0 with (fail)
  obtain ⟨g, hg⟩ : ∃ g, w3.heap.size = g := ⟨_, rfl⟩
  obtain ⟨w4, hw4⟩ : ∃ w4, w3.alloc (.cells #[.int .i64 F0.stripe, .int .i64 F0.version, .int .i64 F0.need, .int .i64 F0.phase, .slice Af nf cf, .slice Bf mf df, .slice Cf kf ef] 27) = w4 := ⟨_, rfl⟩
  rw [hg, hw4]
  have FH0 := Lib.hid (show Fh w4 g (g + 1) g F0 by rw [← hw4]; exact Fh.new (HDF.out.x (Ext.refl w3) (by rw [hg]; exact Nat.le_refl _)) hg)
  have x34 : Ext w3 w4 := by rw [← hw4]; exact Ext.alloc _ _
  have HX4 := Lib.hid (HX3.out.trans x34)
  have HG4 := Lib.hid (show w3.heap.size ≤ g by rw [hg]; exact Nat.le_refl _)
  have HC3 := Lib.hid (HC.out.ext HX23.out)
  have HD3 := Lib.hid (HD.out.ext HX23.out)
  have HA3 := Lib.hid (HA.out.ext HX23.out)
  have X34 := Lib.hid x34
  obtain ⟨nn, hnn⟩ : ∃ nn, nn13 q1 nl = nn := ⟨_, rfl⟩
  rw [hnn] at HAB
  have HNN := Lib.hid hnn
  have HROW := Lib.hid (fun j (hj : j < N) => ((Gm.mulL_rect' (Gm.gen_rect b2) HREC.out (by omega)).wid j hj))
  clear hg hw4 x34 hnn
  go_cut [13] (fun s13 wx => ∃ wv : World, wv = wx ∧ w4 = wx ∧ s13 = .int .i64 ((Finds.upto (Finds.hz nn N) 1 N).length : Int))
  case first =>
    go_wp2_with (fail)
    go_loopw [13, 14, 53] (fun s13 _ s53 wr => ∃ j : Nat, j ≤ N ∧ s53 = .int .i64 (j : Int) ∧ s13 = .int .i64 ((Finds.upto (Finds.hz nn N) 1 j).length : Int) ∧ w4 = wr) (fun _ _ s _ => N - (intOf s).toNat)
    case atStart => exact ⟨0, Nat.zero_le _, rfl, rfl, rfl⟩
    case round =>
      obtain ⟨j, hj, rfl, rfl, rfl⟩ := hrel
      by_cases hjn : j < N
      · have r1 : (j : Int) < N := by omega
        have hs := Finds.hz_succ (nn := nn) hjn
        have hle := Finds.upto_length_le (Finds.hz nn N) 1 j
        by_cases hq : j < q1
        · have r2 : ¬ (q1 : Int) ≤ j := by omega
          have r2' : (j : Int) < q1 := by omega
          obtain ⟨bn, on, rfl, hcn⟩ := (HN.out.ext HX4.out).rd j hq
          obtain ⟨bv, hbv⟩ : ∃ bv, bget nl j = bv := ⟨_, rfl⟩
          rw [hbv] at hcn
          have hnj : nn j = bv := by rw [← HNN.out]; unfold nn13; rw [decide_eq_true hq, hbv]; rfl
          rw [hnj] at hs
          have HS := Lib.hid hs
          clear hs hbv hnj
          cases bv with
          | true =>
            go_wp2_with (fail)
            exact ⟨⟨j + 1, by omega, by go_num, by rw [HS.out]; simp, by trivial⟩, by simp [intOf]; omega⟩
          | false =>
            go_wp2_with (fail)
            exact ⟨⟨j + 1, by omega, by go_num, by rw [HS.out]; go_num, by trivial⟩, by simp [intOf]; omega⟩
        · have r2 : (q1 : Int) ≤ j := by omega
          have hnj : nn j = false := by rw [← HNN.out]; unfold nn13; rw [decide_eq_false hq]; rfl
          rw [hnj] at hs
          have HS := Lib.hid hs
          clear hs hnj
          go_wp2_with (fail)
          exact ⟨⟨j + 1, by omega, by go_num, by rw [HS.out]; go_num, by trivial⟩, by simp [intOf]; omega⟩
      · have r1 : ¬ (j : Int) < N := by omega
        obtain rfl : N = j := by omega
        go_wp2_with (fail)
        go_meet
        exact ⟨_, rfl, rfl, rfl⟩
  case rest =>
  obtain ⟨_, rfl, rfl, rfl⟩ := hcut
  go_upto_block 2 with (fail)
  go_cut [] (fun wx => ∃ wv : World, wv = wx ∧ ∃ F : Finds.F, RowKit.Hid (Fh wx g (g + 1) g F) ∧ RowKit.Hid (Finds.Asks nn (Gm.mulL (Gm.gen K N) M) N K size F) ∧ RowKit.Hid (F.phase ≠ 1) ∧ RowKit.Hid (Ext w3 wx))
  case first =>
    go_wp2_with (fail)
    go_loopw [12, 15, 16, 17, 18, 19, 20] (fun _ s15 _ _ _ _ _ wr => ∃ (i : Nat) (F : Finds.F), i ≤ N ∧ s15 = .int .i64 (i : Int) ∧ RowKit.Hid (Fh wr g (g + 1) g F) ∧ RowKit.Hid (Finds.Asks nn (Gm.mulL (Gm.gen K N) M) N K size F ∧ i + Finds.cnt F.marks 0 = N) ∧ RowKit.Hid (Ext w3 wr)) (fun _ s _ _ _ _ _ _ => N - (intOf s).toNat)
    case atStart => exact ⟨0, F0, by omega, rfl, FH0, Lib.hid ⟨HAB.out.1, by rw [HAB.out.2.2]; omega⟩, X34⟩
    case round =>
      obtain ⟨i, F, hi, rfl, HF, HAS, HX⟩ := hrel
      obtain ⟨A1', n1, c1', B1, m1, d1, C1, kk1, e1', sb, fx⟩ := HF.out
      have fd := fx.fd
      have hlq := Finds.right_len HAS.out.1.r
      have hwq := Finds.which_len HAS.out.1.r
      have hcq := Finds.cnt_le F.marks 1
      have HWa := Lib.hid (fun (W : World) (hW : Ext wr W) => fWants_any W F A1' n1 c1' B1 m1 d1 C1 kk1 e1' (fd.ext hW) (by have := fd.u.len; omega) (by have := fd.v.len; omega))
      have y1 := fd.u.max
      have y2 := fd.u.le
      have y3 := fd.v.max
      have y4 := fd.v.le
      have y5 := fd.s.max
      have y6 := fd.s.le
      have g0 := sb.c0
      have g1 := sb.c1
      have g2 := sb.c2
      have g3 := sb.c3
      have g4 := sb.c4
      have g5 := sb.c5
      have g6 := sb.c6
      have SB := Lib.hid sb
      have FX := Lib.hid fx
      have r300 : (i : Int) < 300 := by omega
      clear sb fx fd hlq hwq hcq
      by_cases hw : Finds.wantsL F = []
      · have HPH := Lib.hid (Finds.wants_none HAS.out.1.r hw)
        have hw2 : wants4 (Finds.wantsL F) = [] := by rw [hw]; rfl
        rw [hw2] at HWa
        clear hw hw2
        go_wp2_with (fail)
        with_reducible refine (HWa.out _ (Ext.refl _)).mono ?_
        rintro e w5 ⟨Aw, nw, cw, rfl, hws, x5⟩
        obtain rfl : nw = 0 := hws.len.symm
        have X5 := Lib.hid x5
        clear hws x5
        go_wp2_with (fail)
        go_meet
        exact ⟨_, rfl, F, Lib.hid (HF.out.ext X5.out), Lib.hid HAS.out.1, HPH, Lib.hid (HX.out.trans X5.out)⟩
      · have hwp : 0 < (Finds.wantsL F).length := by
          rcases Nat.eq_zero_or_pos (Finds.wantsL F).length with h | h
          · exact absurd (List.eq_nil_of_length_eq_zero h) hw
          · exact h
        have HPH := Lib.hid (show F.phase = 1 from (Finds.wants_get (j := 0) hwp).2.1)
        have hiN : i < N := by have := Finds.asks_some HAS.out.1.r HPH.out; have := HAS.out.2; omega
        have HWP := Lib.hid hwp
        clear hw hwp
        go_wp2_with (fail)
        with_reducible refine (HWa.out _ (Ext.refl _)).mono ?_
        rintro e w5 ⟨Aw, nw5, cw, rfl, hws, x5⟩
        have hnw5 : 0 < nw5 := by have := hws.len; rw [wants4_length] at this; have := HWP.out; omega
        have r2 : (0 : Int) < nw5 := by omega
        have z1 := hws.max
        have z2 := hws.le
        have HX5 := Lib.hid x5
        have sb5 := SB.out.ext x5
        have j0 := sb5.c0
        have j1 := sb5.c1
        have j2 := sb5.c2
        have j3 := sb5.c3
        have j4 := sb5.c4
        have j5 := sb5.c5
        have j6 := sb5.c6
        clear hws x5 sb5 g0 g1 g2 g3 g4 g5 g6
        go_upto_block 3 with (fail)
        go_wp2_with (fail)
        with_reducible refine (HWa.out _ HX5.out).mono ?_
        rintro e w7 ⟨Aw7, nw, cw7, rfl, hws7, x7⟩
        have HNW := Lib.hid (show (Finds.wantsL F).length = nw by rw [← hws7.len, wants4_length])
        have hnw : 0 < nw := by have := HNW.out; have := HWP.out; omega
        have r3 : (0 : Int) < nw := by omega
        have r4 : nw ≤ 11 := by have h1 := Finds.cnt_le F.marks 0; have h2 := HAS.out.1.len; have h3 : (Finds.wantsL F).length = Finds.cnt F.marks 0 := (by rw [show Finds.wantsL F = Finds.ofL F.marks 0 from if_pos ⟨HAS.out.1.r, HPH.out⟩]; rfl); have := HNW.out; omega
        have z3 := hws7.max
        have z4 := hws7.le
        have HWS := Lib.hid hws7
        have HX7 := Lib.hid (HX5.out.trans x7)
        clear hws7 x7 j0 j1 j2 j3 j4 j5 j6
        by_cases ho2 : i < q2
        · have r5 : (i : Int) < q2 := by omega
          obtain ⟨bo, oo, rfl, hco⟩ := (HO.out.ext (HX3.out.trans (HX.out.trans HX7.out))).rd.byte (k := i) ho2
          obtain ⟨xo, hxo⟩ : ∃ xo, Gf.get ol i = xo := ⟨_, rfl⟩
          rw [hxo] at hco
          obtain ⟨T, hTe⟩ : ∃ T, xo.toNat % nw = T := ⟨_, rfl⟩
          have hT : T < nw := by rw [← hTe]; exact Nat.mod_lt _ hnw
          have t1 : (xo.toNat : Int) % (nw : Int) = (T : Int) := by rw [← hTe]; simp
          have t2 : (xo.toNat : Int).tmod (nw : Int) = (T : Int) := by rw [Int.tmod_eq_emod_of_nonneg (by omega)]; exact t1
          have t3 := u8_int_lt xo
          clear hxo hTe ho2
          have hTl : T < (Finds.wantsL F).length := by rw [HNW.out]; exact hT
          have hxx := Finds.wants_get (j := T) hTl
          have hx0 := hxx.2.2.1
          have hxN := hxx.2.2.2.1
          have hxm := hxx.2.2.2.2
          clear hxx
          obtain ⟨b6, o6, rfl, hc6, _⟩ := HWS.out.at_ (k := T) hT
          rw [show wget (wants4 (Finds.wantsL F)) T = (Il.get (Finds.wantsL F) T, 4) from wants4_at hTl] at hc6
          obtain ⟨xk, hxk⟩ : ∃ xk : Nat, Il.get (Finds.wantsL F) T = (xk : Int) := ⟨(Il.get (Finds.wantsL F) T).toNat, by omega⟩
          rw [hxk] at hxN hxm hc6
          simp only at hc6
          rw [Int.toNat_natCast] at hxm
          have hxkN : xk < N := by have := HAS.out.1.len; omega
          have hTI : (T : Int) < nw := by omega
          obtain ⟨ba, oa, Ar, nr, cr, rfl, hca, hbr⟩ := (HA3.out.ext (HX.out.trans HX7.out)).at_ (i := xk) hxkN
          have HBR := Lib.hid hbr
          have p21 := hbr.max
          have p22 := hbr.le
          have hxkI : (xk : Int) < N := by omega
          have HTO := Lib.hid (HAS.out.1.told HROW.out (by omega) hxkN HPH.out hxm)
          clear hTl hx0 hxN hxm hxk hbr
          by_cases hq : xk < q1
          · have r7 : (xk : Int) < q1 := by omega
            obtain ⟨bn, on, rfl, hcn⟩ := (HN.out.ext (HX3.out.trans (HX.out.trans HX7.out))).rd xk hq
            obtain ⟨bv, hbv⟩ : ∃ bv, bget nl xk = bv := ⟨_, rfl⟩
            have HBV := Lib.hid hbv
            rw [hbv] at hcn
            clear hbv
            cases bv with
            | true =>
              have hnn : nn xk = true := by rw [← HNN.out]; unfold nn13; rw [decide_eq_true hq, HBV.out]; rfl
              have h2 := HTO.out
              rw [hnn] at h2
              simp only [if_true] at h2
              obtain ⟨F2, hF2⟩ : ∃ F2, Finds.toldF F (xk : Int) 60 [] = F2 := ⟨_, rfl⟩
              rw [hF2] at h2
              have HF2 := Lib.hid hF2
              have HA2 := Lib.hid h2
              clear hnn h2 hF2
              have ht := fTold_ok (er := 60) (FX.out.fd.ext HX7.out) HAS.out.1.r (show (0 : Int) ≤ (xk : Int) by omega) (show (xk : Int) < F.marks.length by rw [HAS.out.1.len]; omega) (bs_none _)
              rw [HF2.out] at ht
              have HT := Lib.hid ht
              have sb7 := SB.out.ext HX7.out
              have j0 := sb7.c0
              have j1 := sb7.c1
              have j2 := sb7.c2
              have j3 := sb7.c3
              have j4 := sb7.c4
              have j5 := sb7.c5
              have j6 := sb7.c6
              clear ht sb7
              go_wp2_with (fail)
              with_reducible refine HT.out.mono ?_
              rintro e w8 ⟨A4, n4, c4, B4, m4, d4, C4, k4', e4', rfl, hx8, ho8⟩
              rename_i hKK
              have hfd8 := ho8.fdOf
              have y9 := hfd8.u.max
              have y10 := hfd8.u.le
              have y11 := hfd8.v.max
              have y12 := hfd8.v.le
              have y13 := hfd8.s.max
              have y14 := hfd8.s.le
              have HX8 := Lib.hid (HX7.out.trans hx8)
              have HO8 := Lib.hid ho8
              refine hKK _ _ ?_
              have HX78 := Lib.hid hx8
              clear hKK hfd8 ho8 hx8 j0 j1 j2 j3 j4 j5 j6
              have bb4 := (SB.out.ext HX8.out).blk
              refine wpList_val rfl (.tuple #[fval F2.stripe F2.version F2.need F2.phase (.slice A4 n4 c4) (.slice B4 m4 d4) (.slice C4 k4' e4'), .int .i64 0]) (by rfl) ?_
              refine wpList_val rfl (fval F2.stripe F2.version F2.need F2.phase (.slice A4 n4 c4) (.slice B4 m4 d4) (.slice C4 k4' e4')) (by rfl) ?_
              refine wpList_val rfl (.int .i64 0) (by rfl) ?_
              refine wpList_store_row rfl 27 (.tmp 11) (.tmp 119) rfl g (frow F2.stripe F2.version F2.need F2.phase (.slice A4 n4 c4) (.slice B4 m4 d4) (.slice C4 k4' e4')) rfl rfl 27 _ bb4 (by kernel_rfl) rfl (by simp [Value.oneCell']) ?_
              have HP := Lib.hid ((HF.out.ext HX8.out).put (HO8.out.x (lo := g) (hi := g + 1) (by have := HF.out.lt; have := HX7.out.size; omega)) (Nat.le_refl g) (by omega))
              have HXr := Lib.hid (HX.out.trans HX8.out)
              have HPW := Lib.hid (HXr.out.row HG4.out (frow F2.stripe F2.version F2.need F2.phase (.slice A4 n4 c4) (.slice B4 m4 d4) (.slice C4 k4' e4')))
              clear bb4
              go_wp2_with (fail)
              exact ⟨⟨i + 1, F2, by omega, by go_num, HP, Lib.hid ⟨HA2.out.1, by have := HA2.out.2; have := HAS.out.2; omega⟩, HPW⟩, by simp [intOf]; omega⟩
            | false =>
              have hnn : nn xk = false := by rw [← HNN.out]; unfold nn13; rw [HBV.out, Bool.and_false]
              have h2 := HTO.out
              rw [hnn] at h2
              simp only [Bool.false_eq_true, if_false] at h2
              obtain ⟨F2, hF2⟩ : ∃ F2, Finds.toldF F (xk : Int) 0 (Gm.row (Gm.mulL (Gm.gen K N) M) xk) = F2 := ⟨_, rfl⟩
              rw [hF2] at h2
              have HF2 := Lib.hid hF2
              have HA2 := Lib.hid h2
              clear hnn h2 hF2
              have ht := fTold_ok (er := 0) (FX.out.fd.ext HX7.out) HAS.out.1.r (show (0 : Int) ≤ (xk : Int) by omega) (show (xk : Int) < F.marks.length by rw [HAS.out.1.len]; omega) HBR.out
              rw [HF2.out] at ht
              have HT := Lib.hid ht
              have sb7 := SB.out.ext HX7.out
              have j0 := sb7.c0
              have j1 := sb7.c1
              have j2 := sb7.c2
              have j3 := sb7.c3
              have j4 := sb7.c4
              have j5 := sb7.c5
              have j6 := sb7.c6
              clear ht sb7
              go_wp2_with (fail)
              with_reducible refine HT.out.mono ?_
              rintro e w8 ⟨A4, n4, c4, B4, m4, d4, C4, k4', e4', rfl, hx8, ho8⟩
              rename_i hKK
              have hfd8 := ho8.fdOf
              have y9 := hfd8.u.max
              have y10 := hfd8.u.le
              have y11 := hfd8.v.max
              have y12 := hfd8.v.le
              have y13 := hfd8.s.max
              have y14 := hfd8.s.le
              have HX8 := Lib.hid (HX7.out.trans hx8)
              have HO8 := Lib.hid ho8
              refine hKK _ _ ?_
              have HX78 := Lib.hid hx8
              clear hKK hfd8 ho8 hx8 j0 j1 j2 j3 j4 j5 j6
              have bb4 := (SB.out.ext HX8.out).blk
              refine wpList_val rfl (.tuple #[fval F2.stripe F2.version F2.need F2.phase (.slice A4 n4 c4) (.slice B4 m4 d4) (.slice C4 k4' e4'), .int .i64 0]) (by rfl) ?_
              refine wpList_val rfl (fval F2.stripe F2.version F2.need F2.phase (.slice A4 n4 c4) (.slice B4 m4 d4) (.slice C4 k4' e4')) (by rfl) ?_
              refine wpList_val rfl (.int .i64 0) (by rfl) ?_
              refine wpList_store_row rfl 27 (.tmp 11) (.tmp 119) rfl g (frow F2.stripe F2.version F2.need F2.phase (.slice A4 n4 c4) (.slice B4 m4 d4) (.slice C4 k4' e4')) rfl rfl 27 _ bb4 (by kernel_rfl) rfl (by simp [Value.oneCell']) ?_
              have HP := Lib.hid ((HF.out.ext HX8.out).put (HO8.out.x (lo := g) (hi := g + 1) (by have := HF.out.lt; have := HX7.out.size; omega)) (Nat.le_refl g) (by omega))
              have HXr := Lib.hid (HX.out.trans HX8.out)
              have HPW := Lib.hid (HXr.out.row HG4.out (frow F2.stripe F2.version F2.need F2.phase (.slice A4 n4 c4) (.slice B4 m4 d4) (.slice C4 k4' e4')))
              clear bb4
              go_wp2_with (fail)
              exact ⟨⟨i + 1, F2, by omega, by go_num, HP, Lib.hid ⟨HA2.out.1, by have := HA2.out.2; have := HAS.out.2; omega⟩, HPW⟩, by simp [intOf]; omega⟩
          · have r7 : ¬ (xk : Int) < q1 := by omega
            have hnn : nn xk = false := by rw [← HNN.out]; unfold nn13; rw [decide_eq_false hq]; rfl
            have h2 := HTO.out
            rw [hnn] at h2
            simp only [Bool.false_eq_true, if_false] at h2
            obtain ⟨F2, hF2⟩ : ∃ F2, Finds.toldF F (xk : Int) 0 (Gm.row (Gm.mulL (Gm.gen K N) M) xk) = F2 := ⟨_, rfl⟩
            rw [hF2] at h2
            have HF2 := Lib.hid hF2
            have HA2 := Lib.hid h2
            clear hnn h2 hF2
            have ht := fTold_ok (er := 0) (FX.out.fd.ext HX7.out) HAS.out.1.r (show (0 : Int) ≤ (xk : Int) by omega) (show (xk : Int) < F.marks.length by rw [HAS.out.1.len]; omega) HBR.out
            rw [HF2.out] at ht
            have HT := Lib.hid ht
            have sb7 := SB.out.ext HX7.out
            have j0 := sb7.c0
            have j1 := sb7.c1
            have j2 := sb7.c2
            have j3 := sb7.c3
            have j4 := sb7.c4
            have j5 := sb7.c5
            have j6 := sb7.c6
            clear ht sb7
            go_wp2_with (fail)
            with_reducible refine HT.out.mono ?_
            rintro e w8 ⟨A4, n4, c4, B4, m4, d4, C4, k4', e4', rfl, hx8, ho8⟩
            rename_i hKK
            have hfd8 := ho8.fdOf
            have y9 := hfd8.u.max
            have y10 := hfd8.u.le
            have y11 := hfd8.v.max
            have y12 := hfd8.v.le
            have y13 := hfd8.s.max
            have y14 := hfd8.s.le
            have HX8 := Lib.hid (HX7.out.trans hx8)
            have HO8 := Lib.hid ho8
            refine hKK _ _ ?_
            have HX78 := Lib.hid hx8
            clear hKK hfd8 ho8 hx8 j0 j1 j2 j3 j4 j5 j6
            have bb4 := (SB.out.ext HX8.out).blk
            refine wpList_val rfl (.tuple #[fval F2.stripe F2.version F2.need F2.phase (.slice A4 n4 c4) (.slice B4 m4 d4) (.slice C4 k4' e4'), .int .i64 0]) (by rfl) ?_
            refine wpList_val rfl (fval F2.stripe F2.version F2.need F2.phase (.slice A4 n4 c4) (.slice B4 m4 d4) (.slice C4 k4' e4')) (by rfl) ?_
            refine wpList_val rfl (.int .i64 0) (by rfl) ?_
            refine wpList_store_row rfl 27 (.tmp 11) (.tmp 119) rfl g (frow F2.stripe F2.version F2.need F2.phase (.slice A4 n4 c4) (.slice B4 m4 d4) (.slice C4 k4' e4')) rfl rfl 27 _ bb4 (by kernel_rfl) rfl (by simp [Value.oneCell']) ?_
            have HP := Lib.hid ((HF.out.ext HX8.out).put (HO8.out.x (lo := g) (hi := g + 1) (by have := HF.out.lt; have := HX7.out.size; omega)) (Nat.le_refl g) (by omega))
            have HXr := Lib.hid (HX.out.trans HX8.out)
            have HPW := Lib.hid (HXr.out.row HG4.out (frow F2.stripe F2.version F2.need F2.phase (.slice A4 n4 c4) (.slice B4 m4 d4) (.slice C4 k4' e4')))
            clear bb4
            go_wp2_with (fail)
            exact ⟨⟨i + 1, F2, by omega, by go_num, HP, Lib.hid ⟨HA2.out.1, by have := HA2.out.2; have := HAS.out.2; omega⟩, HPW⟩, by simp [intOf]; omega⟩
        · have r5 : ¬ (i : Int) < q2 := by omega
          have hTl : 0 < (Finds.wantsL F).length := by rw [HNW.out]; exact hnw
          have hxx := Finds.wants_get (j := 0) hTl
          have hx0 := hxx.2.2.1
          have hxN := hxx.2.2.2.1
          have hxm := hxx.2.2.2.2
          clear hxx
          obtain ⟨b6, o6, rfl, hc6, _⟩ := HWS.out.at_ (k := 0) hnw
          rw [show wget (wants4 (Finds.wantsL F)) 0 = (Il.get (Finds.wantsL F) 0, 4) from wants4_at hTl] at hc6
          obtain ⟨xk, hxk⟩ : ∃ xk : Nat, Il.get (Finds.wantsL F) 0 = (xk : Int) := ⟨(Il.get (Finds.wantsL F) 0).toNat, by omega⟩
          rw [hxk] at hxN hxm hc6
          simp only [Nat.zero_mul, Nat.add_zero] at hc6
          rw [Int.toNat_natCast] at hxm
          have hxkN : xk < N := by have := HAS.out.1.len; omega
          have hTI : (0 : Int) < nw := by omega
          obtain ⟨ba, oa, Ar, nr, cr, rfl, hca, hbr⟩ := (HA3.out.ext (HX.out.trans HX7.out)).at_ (i := xk) hxkN
          have HBR := Lib.hid hbr
          have p21 := hbr.max
          have p22 := hbr.le
          have hxkI : (xk : Int) < N := by omega
          have HTO := Lib.hid (HAS.out.1.told HROW.out (by omega) hxkN HPH.out hxm)
          clear hTl hx0 hxN hxm hxk hbr
          by_cases hq : xk < q1
          · have r7 : (xk : Int) < q1 := by omega
            obtain ⟨bn, on, rfl, hcn⟩ := (HN.out.ext (HX3.out.trans (HX.out.trans HX7.out))).rd xk hq
            obtain ⟨bv, hbv⟩ : ∃ bv, bget nl xk = bv := ⟨_, rfl⟩
            have HBV := Lib.hid hbv
            rw [hbv] at hcn
            clear hbv
            cases bv with
            | true =>
              have hnn : nn xk = true := by rw [← HNN.out]; unfold nn13; rw [decide_eq_true hq, HBV.out]; rfl
              have h2 := HTO.out
              rw [hnn] at h2
              simp only [if_true] at h2
              obtain ⟨F2, hF2⟩ : ∃ F2, Finds.toldF F (xk : Int) 60 [] = F2 := ⟨_, rfl⟩
              rw [hF2] at h2
              have HF2 := Lib.hid hF2
              have HA2 := Lib.hid h2
              clear hnn h2 hF2
              have ht := fTold_ok (er := 60) (FX.out.fd.ext HX7.out) HAS.out.1.r (show (0 : Int) ≤ (xk : Int) by omega) (show (xk : Int) < F.marks.length by rw [HAS.out.1.len]; omega) (bs_none _)
              rw [HF2.out] at ht
              have HT := Lib.hid ht
              have sb7 := SB.out.ext HX7.out
              have j0 := sb7.c0
              have j1 := sb7.c1
              have j2 := sb7.c2
              have j3 := sb7.c3
              have j4 := sb7.c4
              have j5 := sb7.c5
              have j6 := sb7.c6
              clear ht sb7
              go_wp2_with (fail)
              with_reducible refine HT.out.mono ?_
              rintro e w8 ⟨A4, n4, c4, B4, m4, d4, C4, k4', e4', rfl, hx8, ho8⟩
              rename_i hKK
              have hfd8 := ho8.fdOf
              have y9 := hfd8.u.max
              have y10 := hfd8.u.le
              have y11 := hfd8.v.max
              have y12 := hfd8.v.le
              have y13 := hfd8.s.max
              have y14 := hfd8.s.le
              have HX8 := Lib.hid (HX7.out.trans hx8)
              have HO8 := Lib.hid ho8
              refine hKK _ _ ?_
              have HX78 := Lib.hid hx8
              clear hKK hfd8 ho8 hx8 j0 j1 j2 j3 j4 j5 j6
              have bb4 := (SB.out.ext HX8.out).blk
              refine wpList_val rfl (.tuple #[fval F2.stripe F2.version F2.need F2.phase (.slice A4 n4 c4) (.slice B4 m4 d4) (.slice C4 k4' e4'), .int .i64 0]) (by rfl) ?_
              refine wpList_val rfl (fval F2.stripe F2.version F2.need F2.phase (.slice A4 n4 c4) (.slice B4 m4 d4) (.slice C4 k4' e4')) (by rfl) ?_
              refine wpList_val rfl (.int .i64 0) (by rfl) ?_
              refine wpList_store_row rfl 27 (.tmp 11) (.tmp 119) rfl g (frow F2.stripe F2.version F2.need F2.phase (.slice A4 n4 c4) (.slice B4 m4 d4) (.slice C4 k4' e4')) rfl rfl 27 _ bb4 (by kernel_rfl) rfl (by simp [Value.oneCell']) ?_
              have HP := Lib.hid ((HF.out.ext HX8.out).put (HO8.out.x (lo := g) (hi := g + 1) (by have := HF.out.lt; have := HX7.out.size; omega)) (Nat.le_refl g) (by omega))
              have HXr := Lib.hid (HX.out.trans HX8.out)
              have HPW := Lib.hid (HXr.out.row HG4.out (frow F2.stripe F2.version F2.need F2.phase (.slice A4 n4 c4) (.slice B4 m4 d4) (.slice C4 k4' e4')))
              clear bb4
              go_wp2_with (fail)
              exact ⟨⟨i + 1, F2, by omega, by go_num, HP, Lib.hid ⟨HA2.out.1, by have := HA2.out.2; have := HAS.out.2; omega⟩, HPW⟩, by simp [intOf]; omega⟩
            | false =>
              have hnn : nn xk = false := by rw [← HNN.out]; unfold nn13; rw [HBV.out, Bool.and_false]
              have h2 := HTO.out
              rw [hnn] at h2
              simp only [Bool.false_eq_true, if_false] at h2
              obtain ⟨F2, hF2⟩ : ∃ F2, Finds.toldF F (xk : Int) 0 (Gm.row (Gm.mulL (Gm.gen K N) M) xk) = F2 := ⟨_, rfl⟩
              rw [hF2] at h2
              have HF2 := Lib.hid hF2
              have HA2 := Lib.hid h2
              clear hnn h2 hF2
              have ht := fTold_ok (er := 0) (FX.out.fd.ext HX7.out) HAS.out.1.r (show (0 : Int) ≤ (xk : Int) by omega) (show (xk : Int) < F.marks.length by rw [HAS.out.1.len]; omega) HBR.out
              rw [HF2.out] at ht
              have HT := Lib.hid ht
              have sb7 := SB.out.ext HX7.out
              have j0 := sb7.c0
              have j1 := sb7.c1
              have j2 := sb7.c2
              have j3 := sb7.c3
              have j4 := sb7.c4
              have j5 := sb7.c5
              have j6 := sb7.c6
              clear ht sb7
              go_wp2_with (fail)
              with_reducible refine HT.out.mono ?_
              rintro e w8 ⟨A4, n4, c4, B4, m4, d4, C4, k4', e4', rfl, hx8, ho8⟩
              rename_i hKK
              have hfd8 := ho8.fdOf
              have y9 := hfd8.u.max
              have y10 := hfd8.u.le
              have y11 := hfd8.v.max
              have y12 := hfd8.v.le
              have y13 := hfd8.s.max
              have y14 := hfd8.s.le
              have HX8 := Lib.hid (HX7.out.trans hx8)
              have HO8 := Lib.hid ho8
              refine hKK _ _ ?_
              have HX78 := Lib.hid hx8
              clear hKK hfd8 ho8 hx8 j0 j1 j2 j3 j4 j5 j6
              have bb4 := (SB.out.ext HX8.out).blk
              refine wpList_val rfl (.tuple #[fval F2.stripe F2.version F2.need F2.phase (.slice A4 n4 c4) (.slice B4 m4 d4) (.slice C4 k4' e4'), .int .i64 0]) (by rfl) ?_
              refine wpList_val rfl (fval F2.stripe F2.version F2.need F2.phase (.slice A4 n4 c4) (.slice B4 m4 d4) (.slice C4 k4' e4')) (by rfl) ?_
              refine wpList_val rfl (.int .i64 0) (by rfl) ?_
              refine wpList_store_row rfl 27 (.tmp 11) (.tmp 119) rfl g (frow F2.stripe F2.version F2.need F2.phase (.slice A4 n4 c4) (.slice B4 m4 d4) (.slice C4 k4' e4')) rfl rfl 27 _ bb4 (by kernel_rfl) rfl (by simp [Value.oneCell']) ?_
              have HP := Lib.hid ((HF.out.ext HX8.out).put (HO8.out.x (lo := g) (hi := g + 1) (by have := HF.out.lt; have := HX7.out.size; omega)) (Nat.le_refl g) (by omega))
              have HXr := Lib.hid (HX.out.trans HX8.out)
              have HPW := Lib.hid (HXr.out.row HG4.out (frow F2.stripe F2.version F2.need F2.phase (.slice A4 n4 c4) (.slice B4 m4 d4) (.slice C4 k4' e4')))
              clear bb4
              go_wp2_with (fail)
              exact ⟨⟨i + 1, F2, by omega, by go_num, HP, Lib.hid ⟨HA2.out.1, by have := HA2.out.2; have := HAS.out.2; omega⟩, HPW⟩, by simp [intOf]; omega⟩
          · have r7 : ¬ (xk : Int) < q1 := by omega
            have hnn : nn xk = false := by rw [← HNN.out]; unfold nn13; rw [decide_eq_false hq]; rfl
            have h2 := HTO.out
            rw [hnn] at h2
            simp only [Bool.false_eq_true, if_false] at h2
            obtain ⟨F2, hF2⟩ : ∃ F2, Finds.toldF F (xk : Int) 0 (Gm.row (Gm.mulL (Gm.gen K N) M) xk) = F2 := ⟨_, rfl⟩
            rw [hF2] at h2
            have HF2 := Lib.hid hF2
            have HA2 := Lib.hid h2
            clear hnn h2 hF2
            have ht := fTold_ok (er := 0) (FX.out.fd.ext HX7.out) HAS.out.1.r (show (0 : Int) ≤ (xk : Int) by omega) (show (xk : Int) < F.marks.length by rw [HAS.out.1.len]; omega) HBR.out
            rw [HF2.out] at ht
            have HT := Lib.hid ht
            have sb7 := SB.out.ext HX7.out
            have j0 := sb7.c0
            have j1 := sb7.c1
            have j2 := sb7.c2
            have j3 := sb7.c3
            have j4 := sb7.c4
            have j5 := sb7.c5
            have j6 := sb7.c6
            clear ht sb7
            go_wp2_with (fail)
            with_reducible refine HT.out.mono ?_
            rintro e w8 ⟨A4, n4, c4, B4, m4, d4, C4, k4', e4', rfl, hx8, ho8⟩
            rename_i hKK
            have hfd8 := ho8.fdOf
            have y9 := hfd8.u.max
            have y10 := hfd8.u.le
            have y11 := hfd8.v.max
            have y12 := hfd8.v.le
            have y13 := hfd8.s.max
            have y14 := hfd8.s.le
            have HX8 := Lib.hid (HX7.out.trans hx8)
            have HO8 := Lib.hid ho8
            refine hKK _ _ ?_
            have HX78 := Lib.hid hx8
            clear hKK hfd8 ho8 hx8 j0 j1 j2 j3 j4 j5 j6
            have bb4 := (SB.out.ext HX8.out).blk
            refine wpList_val rfl (.tuple #[fval F2.stripe F2.version F2.need F2.phase (.slice A4 n4 c4) (.slice B4 m4 d4) (.slice C4 k4' e4'), .int .i64 0]) (by rfl) ?_
            refine wpList_val rfl (fval F2.stripe F2.version F2.need F2.phase (.slice A4 n4 c4) (.slice B4 m4 d4) (.slice C4 k4' e4')) (by rfl) ?_
            refine wpList_val rfl (.int .i64 0) (by rfl) ?_
            refine wpList_store_row rfl 27 (.tmp 11) (.tmp 119) rfl g (frow F2.stripe F2.version F2.need F2.phase (.slice A4 n4 c4) (.slice B4 m4 d4) (.slice C4 k4' e4')) rfl rfl 27 _ bb4 (by kernel_rfl) rfl (by simp [Value.oneCell']) ?_
            have HP := Lib.hid ((HF.out.ext HX8.out).put (HO8.out.x (lo := g) (hi := g + 1) (by have := HF.out.lt; have := HX7.out.size; omega)) (Nat.le_refl g) (by omega))
            have HXr := Lib.hid (HX.out.trans HX8.out)
            have HPW := Lib.hid (HXr.out.row HG4.out (frow F2.stripe F2.version F2.need F2.phase (.slice A4 n4 c4) (.slice B4 m4 d4) (.slice C4 k4' e4')))
            clear bb4
            go_wp2_with (fail)
            exact ⟨⟨i + 1, F2, by omega, by go_num, HP, Lib.hid ⟨HA2.out.1, by have := HA2.out.2; have := HAS.out.2; omega⟩, HPW⟩, by simp [intOf]; omega⟩
  case rest =>
  obtain ⟨w5, rfl, F, HF, HAS, HPH, HX⟩ := hcut
  obtain ⟨A5, n5, c5, B5, m5, d5, C5, k5, e5, sb, fx⟩ := HF.out
  have fd := fx.fd
  have hlq := Finds.right_len HAS.out.r
  have hwq := Finds.which_len HAS.out.r
  have hcq := Finds.cnt_le F.marks 1
  have hda := fData_any w5 b fb K N (HC3.out.ext HX.out) F A5 n5 c5 B5 m5 d5 C5 k5 e5 fd (by have := fd.u.len; omega) (by have := fd.v.len; omega)
  have HEN := Lib.hid (HAS.out.ends HPH.out b2)
  have y1 := fd.u.max
  have y2 := fd.u.le
  have y3 := fd.v.max
  have y4 := fd.v.le
  have y5 := fd.s.max
  have y6 := fd.s.le
  have g0 := sb.c0
  have g1 := sb.c1
  have g2 := sb.c2
  have g3 := sb.c3
  have g4 := sb.c4
  have g5 := sb.c5
  have g6 := sb.c6
  have HC5 := Lib.hid (HC3.out.ext HX.out)
  have HD5 := Lib.hid (HD3.out.ext HX.out)
  have SB := Lib.hid sb
  clear sb fx fd hlq hwq hcq
  have hup := Finds.upto_length_le (Finds.hz nn N) 1 N
  obtain ⟨H, hH⟩ : ∃ H, (Finds.upto (Finds.hz nn N) 1 N).length = H := ⟨_, rfl⟩
  rw [hH] at hup HEN ⊢
  clear hH
  by_cases hHK : H < K
  · have r1 : (H : Int) < K := by omega
    have hp3 := HEN.out.1 hHK
    have he : dataE F (K : Int) (N : Int) (decE K N F.which F.shards) = 80 := by
      unfold dataE
      rw [if_neg (fun q => q HAS.out.r), if_pos (by rw [hp3]; decide)]
    have hm : dataM F (K : Int) (N : Int) (decM K N F.which F.shards) = [] := if_neg (fun q => by have := q.2.1; omega)
    rw [he, hm] at hda
    have HDA := Lib.hid hda
    have HP3 := Lib.hid hp3
    clear hda he hm hp3 hHK
    go_wp2_with (fail)
    with_reducible refine (need_any _ b fb K N HC5.out).mono ?_
    rintro e w6 ⟨rfl, rfl⟩
    go_wp2_with (fail)
    with_reducible refine HDA.out.mono ?_
    rintro e w6 ⟨A9, c9, rfl, hm9, x9⟩
    have s6 := SB.out.ext x9
    have g3 := s6.c3
    have X9 := Lib.hid x9
    have z1 := hm9.max
    have z2 := hm9.le
    have e1 : (F.phase == 3) = true := by rw [beq_iff_eq]; exact HP3.out
    clear s6 hm9 x9
    go_wp2_with (fail)
    refine (awake_any13 _).mono ?_
    rintro e w9 ⟨rfl, x9⟩
    go_wp2_with (fail)
    go_ret
    exact ⟨rfl, HX3.out.trans (HX.out.trans (X9.out.trans x9))⟩
  · have r1 : ¬ (H : Int) < K := by omega
    obtain ⟨hp2, hwl⟩ := HEN.out.2 hHK
    have hsl := HAS.out.lens
    have hback := dec_back (k := K) (n := N) (c := size) (q := K) (d := M) (s := F.shards) (l := F.which) b1 b2 (by omega) HREC.out (by omega) hwl (by rw [hsl]; exact hwl) (Nat.le_refl K)
      (fun t ht => HAS.out.which (t := t) (by rw [hwl]; exact ht))
      (fun i j hi hj hij e => by
        have hnd := Finds.which_nodup HAS.out.r
        rw [Il.get_of_lt (by rw [hwl]; exact hi), Il.get_of_lt (by rw [hwl]; exact hj)] at e
        exact hij ((List.getElem_inj hnd).1 e))
      (fun i hi => by
        rw [HAS.out.rows i (by rw [hsl, hwl]; exact hi)]
        have h1 := HAS.out.which (t := i) (by rw [hwl]; exact hi)
        exact HROW.out _ (by omega))
      (fun i hi => HAS.out.rows i (by rw [hsl, hwl]; exact hi))
    have hmd : mayData F (K : Int) (N : Int) := ⟨HAS.out.r, hp2, HAS.out.need.symm, by rw [HAS.out.len]⟩
    have he : dataE F (K : Int) (N : Int) (decE K N F.which F.shards) = 0 := by
      unfold dataE
      rw [if_neg (fun q => q HAS.out.r), if_neg (fun q => q hp2), if_neg (fun q => by have h1 := HAS.out.need; have h2 := HAS.out.len; omega)]
      unfold decE
      rw [if_pos hback.1]
    have hm : dataM F (K : Int) (N : Int) (decM K N F.which F.shards) = M := by
      unfold dataM
      rw [if_pos hmd]
      exact hback.2
    rw [he, hm] at hda
    have HDA := Lib.hid hda
    have HP2 := Lib.hid hp2
    have HML := Lib.hid (show M.length = K from HREC.out.len)
    clear hda he hm hp2 hHK hwl hsl hback hmd
    go_wp2_with (fail)
    with_reducible refine (need_any _ b fb K N HC5.out).mono ?_
    rintro e w6 ⟨rfl, rfl⟩
    go_wp2_with (fail)
    with_reducible refine HDA.out.mono ?_
    rintro e w6 ⟨A9, c9, rfl, hm9, x9⟩
    have s6 := SB.out.ext x9
    have g3 := s6.c3
    have X9 := Lib.hid x9
    have z1 := hm9.max
    have z2 := hm9.le
    have HSL := Lib.hid (sameLists_any w6 A9 Ad M.length c9 K cd M M hm9 (HD5.out.ext x9))
    have e1 : (F.phase == 2) = true := by rw [beq_iff_eq]; exact HP2.out
    clear s6 hm9 x9
    go_wp2_with (fail)
    with_reducible refine HSL.out.mono ?_
    rintro e w7 ⟨hee, x7⟩
    obtain rfl : e = .returned (.bool true) := hee.trans (by simp)
    have X7 := Lib.hid x7
    clear x7
    go_wp2_with (fail)
    refine (awake_any13 _).mono ?_
    rintro e w9 ⟨rfl, x9⟩
    go_wp2_with (fail)
    go_ret
    exact ⟨rfl, HX3.out.trans (HX.out.trans (X9.out.trans (X7.out.trans x9)))⟩
namespace findAny
set_option maxRecDepth 100000 in
theorem walk {H : Type} {enc : TypeId × Value → H} {base : Nat} (w : World) (v0 : Value) (d0 : DataW H) (p0 : List MemPlace) (v1 : Value) (d1 : DataW H) (p1 : List MemPlace) (v2 : Value) (d2 : DataW H) (p2 : List MemPlace) (o0 : Value.okWide Try.prog w .any base 67 v0) (h0 : DataW.Trod enc Try.prog w 0 (fun _ => true) true 67 v0 d0 p0) (o1 : Value.okWide Try.prog w .any base 61 v1) (h1 : DataW.Trod enc Try.prog w 0 (fun _ => true) true 61 v1 d1 p1) (o2 : Value.okWide Try.prog w .any base 35 v2) (h2 : DataW.Trod enc Try.prog w 0 (fun _ => true) true 35 v2 d2 p2) :
    Calls Try.prog 7 #[v0, v1, v2] w fun e w' => e = .returned (.bool true) ∧ Ext w w' := by
  obtain ⟨x, y, z, A, n, c, l, rfl, hb⟩ := stripe_open o0 h0
  obtain ⟨A1, n1, c1, rfl⟩ := okWide_slice Try.underlying61 o1
  obtain ⟨nl, hn⟩ := Bls.of_trod Try.underlying61 Try.underlying4 (by kernel_rfl) h1
  obtain ⟨A2, n2, c2, rfl⟩ := okWide_slice Try.underlying35 o2
  obtain ⟨zs, hz⟩ := IsRow.of_trod (k := .u8) (e := 5) Try.underlying35 Try.underlying5 (by kernel_rfl) h2
  obtain ⟨ol, ho⟩ := hz.bytes
  exact findAny_any w x y z A n c l hb A1 n1 c1 nl hn A2 n2 c2 ol ho
end findAny
end Go.Proofs.Ytfpglkacjecoeaa
