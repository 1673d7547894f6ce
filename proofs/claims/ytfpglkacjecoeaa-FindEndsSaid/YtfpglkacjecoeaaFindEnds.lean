/- FindEnds' walk. -/
import Derived.Test.YtfpglkacjecoeaaCt34
import Derived.Test.YtfpglkacjecoeaaCt35
import Derived.Test.YtfpglkacjecoeaaPickNum
namespace Go.Proofs.Ytfpglkacjecoeaa
open Go.ChangeShapes Go.WideShapes Go.ChangeAt Go.RowKit

theorem Finds.replicate_cnt (n : Nat) : Finds.cnt (List.replicate n (0 : Int)) 0 = n := by
  have zero : ∀ k, k ≤ n → (Finds.upto (List.replicate n (0 : Int)) 0 k).length = k := fun k => by
    induction k with
    | zero => intro _; rfl
    | succ k ih =>
      intro hk
      rw [Finds.upto_succ, if_pos (by rw [Il.get_of_lt (by rw [List.length_replicate]; omega)]; simp), List.length_append, ih (by omega)]
      rfl
  unfold Finds.cnt Finds.ofL
  rw [List.length_replicate]
  exact zero _ (Nat.le_refl _)
theorem begun_ends (n d : UInt8) : Finds.right (begunF n d) ∧ (begunF n d).marks.length = manyOf n ∧ Finds.cnt (begunF n d).marks 0 = manyOf n := by
  have h := Finds.begun_right (begun_named n d)
  rw [(begun_begin n d).1] at h
  exact ⟨h, by show (List.replicate (manyOf n) (0 : Int)).length = _; rw [List.length_replicate], Finds.replicate_cnt _⟩
theorem wants4_first {l : List Int} (h : l ≠ []) : wget (wants4 l) 0 = (Il.get l 0, 4) := by
  cases l with
  | nil => exact absurd rfl h
  | cons a l => rfl
set_option maxRecDepth 100000 in
set_option maxHeartbeats 8000000 in
theorem findEnds_any (w : World) (n d : UInt8) (D : Option Addr) (q c : Nat) (o : Nat → Op13) (ho : Os13 w D q c o) (E : Option Addr) (mL cL : Nat) (bL : List UInt8) (hbL : Bs w E mL cL bL) :
    Calls Try.prog 4 #[.int .u8 (n.toNat : Int), .int .u8 (d.toNat : Int), .slice D q c, .slice E mL cL] w fun e w' => e = .returned (.bool true) ∧ Ext w w' := by
  have q1 := ho.max
  have q2 := ho.le
  have q3 := hbL.max
  have q4 := hbL.le
  have HO := Lib.hid ho
  have HBL := Lib.hid hbL
  clear ho hbL
  have hm1 : 1 ≤ manyOf n ∧ manyOf n ≤ 10 := by unfold manyOf; omega
  go_enter Try.func4, Try.ntmps4
  try dsimp only [List.append]
  go_upto_region 1 with (fail)
  go_cut [9, 10, 11] (fun s7 s8 s9 wx => ∃ wv : World, wv = wx ∧ ∃ g lo, s7 = .pointer (some ⟨g, 0, none⟩) ∧ s8 = .int .i64 (manyOf n : Int) ∧ s9 = .bool true ∧ RowKit.Hid (∃ A n1 c B m d1 C k e9, Fb wx g (begunF n d).stripe (begunF n d).version (begunF n d).need (begunF n d).phase (.slice A n1 c) (.slice B m d1) (.slice C k e9) ∧ Fd lo (begunF n d) A n1 c B m d1 C k e9) ∧ RowKit.Hid (lo.heap.size = g ∧ wx.heap.size = g + 1 ∧ Ext lo wx) ∧ RowKit.Hid (w.heap.size ≤ g) ∧ RowKit.Hid (Ext w wx))
  case first =>
    go_wp2_with (fail)
    with_reducible refine (begun13_any w n d).mono ?_
    rintro e w1 ⟨U, V, S, rfl, ho, hx⟩
    obtain ⟨A, c1, B, d1, C, e1, rfl, rfl, rfl, hd⟩ := ho.fd
    have q1 := hd.u.max
    have q2 := hd.u.le
    have q3 := hd.v.max
    have q4 := hd.v.le
    have q5 := hd.s.max
    have q6 := hd.s.le
    have HD := Lib.hid hd
    have X1 := Lib.hid hx
    clear hd ho hx
    go_wp2_with (fail)
    go_meet
    exact ⟨_, rfl, _, w1, rfl, rfl, rfl, Lib.hid ⟨_, _, _, _, _, _, _, _, _, Fb.new w1 _ _ _ _ _ _ _ rfl, HD.out⟩, Lib.hid ⟨rfl, by simp, Ext.alloc _ _⟩, Lib.hid X1.out.size, Lib.hid (X1.out.thenAlloc _)⟩
  case rest =>
  obtain ⟨w1, rfl, g, w0, rfl, rfl, rfl, HF0, HZ, HGW, X1⟩ := hcut
  obtain ⟨bl1, bl2, bl3⟩ := begun_ends n d
  have BL1 := Lib.hid bl1
  have BL2 := Lib.hid bl2
  have BL3 := Lib.hid bl3
  obtain ⟨F0, hF0⟩ : ∃ F0, begunF n d = F0 := ⟨_, rfl⟩
  rw [hF0] at HF0 BL1 BL2 BL3
  obtain ⟨N, hN⟩ : ∃ N, manyOf n = N := ⟨_, rfl⟩
  rw [hN] at BL2 BL3 hm1 ⊢
  have FH0 := Lib.hid (show Fh w1 g (g + 1) g F0 by
    obtain ⟨A, n1, c, B, m, d1, C, k, e9, h1, h2⟩ := HF0.out
    exact ⟨A, n1, c, B, m, d1, C, k, e9, h1, h2.x HZ.out.2.2 (by rw [HZ.out.1]; exact Nat.le_refl _)⟩)
  clear bl1 bl2 bl3 hF0 hN HF0 HZ
  by_cases hml : 100 < mL
  · have r0 : (100 : Int) < mL := by omega
    go_wp2_with (fail)
    refine (awake_any13 _).mono ?_
    rintro e w9 ⟨rfl, x9⟩
    go_wp2_with (fail)
    go_ret
    exact ⟨rfl, X1.out.trans x9⟩
  have r0 : ¬ (100 : Int) < mL := by omega
  have hml2 : mL ≤ 100 := by omega
  clear hml
  go_wp2_with (fail)
  go_loopw [12, 13, 14, 15, 16, 17, 18] (fun s12 s13 _ _ _ _ _ wr => ∃ (i k : Nat) (F : Finds.F), i ≤ 40 + N ∧ k ≤ N ∧ s13 = .int .i64 (i : Int) ∧ s12 = .int .i64 (k : Int) ∧ RowKit.Hid (Fh wr g (g + 1) g F) ∧ RowKit.Hid (Finds.right F ∧ F.marks.length = N ∧ k + Finds.cnt F.marks 0 = N ∧ (40 ≤ i → Finds.cnt F.marks 0 + i ≤ 40 + N)) ∧ RowKit.Hid (Ext w wr)) (fun _ s _ _ _ _ _ _ => 40 + N - (intOf s).toNat)
  case atStart => exact ⟨0, 0, F0, by omega, by omega, rfl, rfl, FH0, Lib.hid ⟨BL1.out, BL2.out, by rw [BL3.out]; omega, fun h => by omega⟩, X1⟩
  case round =>
    obtain ⟨i, k, F, hi, hk, rfl, rfl, HF, HR, HX⟩ := hrel
    obtain ⟨A1, n1, c1, B1, m1, d1, C1, kk1, e1', sb, fx⟩ := HF.out
    have fd := fx.fd
    have hlq := Finds.right_len HR.out.1
    have hwq := Finds.which_len HR.out.1
    have hcq := Finds.cnt_le F.marks 1
    have HWa := Lib.hid (fun (W : World) (hW : Ext wr W) => fWants_any W F A1 n1 c1 B1 m1 d1 C1 kk1 e1' (fd.ext hW) (by have := fd.u.len; omega) (by have := fd.v.len; omega))
    have y1 := fd.u.max
    have y2 := fd.u.le
    have y3 := fd.v.max
    have y4 := fd.v.le
    have y5 := fd.s.max
    have y6 := fd.s.le
    have g0 := sb.c0
    have g1 := sb.c1
    have g2 := sb.c2
    have g3 := sb.c3
    have g4 := sb.c4
    have g5 := sb.c5
    have g6 := sb.c6
    have SB := Lib.hid sb
    have FX := Lib.hid fx
    clear sb fx fd hlq hwq hcq
    by_cases hi2 : i < 40 + N
    · have r1 : (i : Int) < 40 + N := by omega
      by_cases hw : Finds.wantsL F = []
      · have HPH := Lib.hid (Finds.wants_none HR.out.1 hw)
        have hw2 : wants4 (Finds.wantsL F) = [] := by rw [hw]; rfl
        rw [hw2] at HWa
        clear hw hw2
        go_wp2_with (fail)
        with_reducible refine (HWa.out _ (Ext.refl _)).mono ?_
        rintro e w2 ⟨Aw, nw, cw, rfl, hws, x2⟩
        obtain rfl : nw = 0 := hws.len.symm
        have HF2 := Lib.hid (HF.out.ext x2)
        have HX2 := Lib.hid (HX.out.trans x2)
        clear hws x2 g0 g1 g2 g3 g4 g5 g6
        obtain ⟨A2, n2, c2, B2, m2, d2, C2, kk2, e2', sb2, fx2⟩ := HF2.out
        have fd2 := fx2.fd
        have ht := fTold_ok (i := 0) (er := 0) fd2 HR.out.1 (Int.le_refl 0) (show (0 : Int) < F.marks.length by have := HR.out.2.1; omega) (HBL.out.ext HX2.out)
        rw [Finds.toldF_late HPH.out] at ht
        have HT := Lib.hid ht
        have z1 := fd2.u.max
        have z2 := fd2.u.le
        have z3 := fd2.v.max
        have z4 := fd2.v.le
        have z5 := fd2.s.max
        have z6 := fd2.s.le
        have h0 := sb2.c0
        have h1 := sb2.c1
        have h2 := sb2.c2
        have h3 := sb2.c3
        have h4 := sb2.c4
        have h5 := sb2.c5
        have h6 := sb2.c6
        have SB2 := Lib.hid sb2
        have FD2 := Lib.hid fd2
        have e1 : (F.phase == 1) = false := by rw [beq_eq_false_iff_ne]; exact HPH.out
        have r9 : ¬ (N : Int) < k := by omega
        clear sb2 fx2 fd2 ht
        go_wp2_with (fail)
        with_reducible refine HT.out.mono ?_
        rintro e w6 ⟨A4, n4, c4, B4, m4, d4, C4, k4', e4', rfl, hx4, ho4⟩
        have hfd4 := ho4.fdOf
        have y9 := hfd4.u.max
        have y10 := hfd4.u.le
        have y11 := hfd4.v.max
        have y12 := hfd4.v.le
        have y13 := hfd4.s.max
        have y14 := hfd4.s.le
        have HX4 := Lib.hid hx4
        have HS4 := Lib.hid (fun (W : World) (hW : Ext w6 W) => sameFind_any W F F A4 n4 c4 B4 m4 d4 C4 k4' e4' A2 n2 c2 B2 m2 d2 C2 kk2 e2' (hfd4.ext hW) (FD2.out.ext (HX4.out.trans hW)))
        have XA := Lib.hid (Ext.alloc w6 (.cells #[.int .i64 F.stripe, .int .i64 F.version, .int .i64 F.need, .int .i64 F.phase, .slice A4 n4 c4, .slice B4 m4 d4, .slice C4 k4' e4'] 27))
        have sb6 := SB2.out.ext (HX4.out.trans XA.out)
        clear h0 h1 h2 h3 h4 h5 h6 hfd4 ho4 hx4
        have h0 := sb6.c0
        have h1 := sb6.c1
        have h2 := sb6.c2
        have h3 := sb6.c3
        have h4 := sb6.c4
        have h5 := sb6.c5
        have h6 := sb6.c6
        clear sb6
        go_wp2_with (fail)
        with_reducible refine (HS4.out _ XA.out).mono ?_
        rintro e w7 ⟨he, x7⟩
        obtain rfl : e = .returned (.bool true) := he.trans (by rw [sameF_refl])
        have X7 := Lib.hid x7
        clear x7
        go_wp2_with (fail)
        refine (awake_any13 _).mono ?_
        rintro e w9 ⟨rfl, x9⟩
        go_wp2_with (fail)
        go_ret
        exact ⟨rfl, HX2.out.trans (HX4.out.trans (XA.out.trans (X7.out.trans x9)))⟩
      · have hwp : 0 < (Finds.wantsL F).length := by
          rcases Nat.eq_zero_or_pos (Finds.wantsL F).length with h | h
          · exact absurd (List.eq_nil_of_length_eq_zero h) hw
          · exact h
        obtain ⟨_, hph, hx0, hxN, hxm⟩ := Finds.wants_get (j := 0) hwp
        have hwg := wants4_first hw
        obtain ⟨xn, hxn⟩ : ∃ xn : Nat, Il.get (Finds.wantsL F) 0 = (xn : Int) := ⟨(Il.get (Finds.wantsL F) 0).toNat, by omega⟩
        rw [hxn] at hxN hxm hwg
        rw [Int.toNat_natCast] at hxm
        have hxN2 : xn < N := by have := HR.out.2.1; omega
        have HXM := Lib.hid hxm
        have HPH := Lib.hid hph
        have HWG := Lib.hid hwg
        have hwl : 0 < (wants4 (Finds.wantsL F)).length := by rw [wants4_length]; exact hwp
        obtain ⟨L4, hL4⟩ : ∃ L4, wants4 (Finds.wantsL F) = L4 := ⟨_, rfl⟩
        rw [hL4] at HWa HWG hwl
        have HWL := Lib.hid hwl
        clear hw hwp hph hx0 hxN hxm hwg hxn hL4 hwl
        go_wp2_with (fail)
        with_reducible refine (HWa.out _ (Ext.refl _)).mono ?_
        rintro e w2 ⟨Aw, nw, cw, rfl, hws, x2⟩
        have hnw : 0 < nw := by have := hws.len; have := HWL.out; omega
        have r2 : (0 : Int) < nw := by omega
        have z1 := hws.max
        have z2 := hws.le
        have HX2 := Lib.hid x2
        have sb2 := SB.out.ext x2
        have j0 := sb2.c0
        have j1 := sb2.c1
        have j2 := sb2.c2
        have j3 := sb2.c3
        have j4 := sb2.c4
        have j5 := sb2.c5
        have j6 := sb2.c6
        clear hws x2 sb2 g0 g1 g2 g3 g4 g5 g6
        go_upto_block 1 with (fail)
        go_wp2_with (fail)
        with_reducible refine (HWa.out _ HX2.out).mono ?_
        rintro e w3 ⟨Aw3, nw3, cw3, rfl, hws3, x3⟩
        have hnw3 : 0 < nw3 := by have := hws3.len; have := HWL.out; omega
        have r3 : (0 : Int) < nw3 := by omega
        have z3 := hws3.max
        have z4 := hws3.le
        obtain ⟨b3, o3, rfl, hc3, _⟩ := hws3.at_ (k := 0) hnw3
        rw [HWG.out] at hc3
        rw [Nat.zero_mul, Nat.add_zero] at hc3
        have HX3 := Lib.hid (HX2.out.trans x3)
        clear hws3 x3 j0 j1 j2 j3 j4 j5 j6
        go_upto_region 11 with (fail)
        obtain ⟨ob, hob⟩ : ∃ ob, w3.heap.size = ob := ⟨_, rfl⟩
        obtain ⟨w4, hw4⟩ : ∃ w4, w3.alloc (.cells #[.bool false, .int .i64 (xn : Int), .int .i64 0, .slice E mL cL] 37) = w4 := ⟨_, rfl⟩
        have OB := Lib.hid (show w4.heap[ob]? = some (.cells #[.bool false, .int .i64 (xn : Int), .int .i64 0, .slice E mL cL] 37 (0, 0)) by rw [← hw4, ← hob]; exact heap_alloc_new _ _)
        have HX4 := Lib.hid (show Ext wr w4 by rw [← hw4]; exact HX3.out.thenAlloc _)
        have HOB := Lib.hid (show wr.heap.size ≤ ob by rw [← hob]; exact HX3.out.size)
        rw [hob, hw4]
        clear hob hw4 hc3
        by_cases hA : i < q ∧ i < 40
        · obtain ⟨hA1, hA2⟩ := hA
          have r4 : (i : Int) < q := by omega
          have r5 : (i : Int) < 40 := by omega
          have hob0 := HO.out.bs hA1
          obtain ⟨bo, oo, rfl, ho0, ho1, ho2, ho3, _⟩ := (HO.out.ext (HX.out.trans HX4.out)).at_ i hA1
          generalize o i = oi at *
          obtain ⟨lo, ix, er, Ao, mo, co, bb⟩ := oi
          simp only at ho0 ho1 ho2 ho3 hob0
          have HB0 := Lib.hid hob0
          have p1 := hob0.max
          have p2 := hob0.le
          clear hob0
          obtain ⟨x, hx, hxN⟩ : ∃ x : Nat, pick ix N = (x : Int) ∧ x < N := by
            have := pick_range ix N (by omega)
            exact ⟨(pick ix N).toNat, by omega, by omega⟩
          have hpk := fun W => pick_any W ix N (by omega)
          rw [hx] at hpk
          have HPK := Lib.hid hpk
          clear hpk hx
          have t0 : w4.cell? ⟨ob, 0, none⟩ = some (.bool false) := by rw [cell_of_row w4 _ _ _ _ _ OB.out]; rfl
          have t1 : w4.cell? ⟨ob, 1, none⟩ = some (.int .i64 (xn : Int)) := by rw [cell_of_row w4 _ _ _ _ _ OB.out]; rfl
          have t2 : w4.cell? ⟨ob, 2, none⟩ = some (.int .i64 0) := by rw [cell_of_row w4 _ _ _ _ _ OB.out]; rfl
          have t3 : w4.cell? ⟨ob, 3, none⟩ = some (.slice E mL cL) := by rw [cell_of_row w4 _ _ _ _ _ OB.out]; rfl
          have tf : ∀ j, w4.frozen? ⟨ob, j, none⟩ = false := fun j => frozen_of_row w4 _ _ _ _ OB.out
          go_upto_region 14 with (with_reducible refine (HPK.out _).mono ?_; rintro e w5 ⟨rfl, rfl⟩)
          obtain ⟨w5, hw5⟩ : ∃ w5, ((((w4.setCell ⟨ob, 0, none⟩ (.bool lo)).setCell ⟨ob, 1, none⟩ (.int .i64 ix)).setCell ⟨ob, 2, none⟩ (.int .i64 er)).setCell ⟨ob, 3, none⟩ (.slice Ao mo co)).setCell ⟨ob, 1, none⟩ (.int .i64 (x : Int)) = w5 := ⟨_, rfl⟩
          have OB5 := Lib.hid (show w5.heap[ob]? = some (.cells #[.bool lo, .int .i64 (x : Int), .int .i64 er, .slice Ao mo co] 37 (0, 0)) by
            rw [← hw5]
            exact heap_setCell_same _ ob 1 _ _ _ (heap_setCell_same _ ob 3 _ _ _ (heap_setCell_same _ ob 2 _ _ _ (heap_setCell_same _ ob 1 _ _ _ (heap_setCell_same _ ob 0 _ _ _ OB.out)))))
          have HX5 := Lib.hid (show Ext wr w5 by
            rw [← hw5]
            exact ((((HX4.out.set_ (p := ⟨ob, 0, none⟩) HOB.out _).set_ (p := ⟨ob, 1, none⟩) HOB.out _).set_ (p := ⟨ob, 2, none⟩) HOB.out _).set_ (p := ⟨ob, 3, none⟩) HOB.out _).set_ (p := ⟨ob, 1, none⟩) HOB.out _)
          rw [hw5]
          have t3 : w5.cell? ⟨ob, 3, none⟩ = some (.slice Ao mo co) := by rw [cell_of_row w5 _ _ _ _ _ OB5.out]; rfl
          clear hw5 t0 t1 t2 tf ho0 ho1 ho2 ho3
          by_cases hmo : 100 < mo
          · have r6 : (100 : Int) < mo := by omega
            go_wp2_with (fail)
            exact ⟨⟨i + 1, k, F, by omega, by omega, by go_num, rfl, Lib.hid (HF.out.ext HX5.out), Lib.hid ⟨HR.out.1, HR.out.2.1, HR.out.2.2.1, fun h => by have := HR.out.2.2.1; omega⟩, Lib.hid (HX.out.trans HX5.out)⟩, by simp [intOf]; omega⟩
          have r6 : ¬ (100 : Int) < mo := by omega
          have HC := Lib.hid (show 40 ≤ i → Il.get F.marks x = 0 from fun h => by omega)
          clear hmo
          go_upto_region 15 with (fail)
          clear t3
          -- AUX
          as_aux_lemma =>
            obtain ⟨F2, hF2⟩ : ∃ F2, Finds.toldF F (x : Int) er bb = F2 := ⟨_, rfl⟩
            have HF2 := Lib.hid hF2
            have hn1 : n1 = N := by have h1 := FX.out.fd.u.len; have h2 := HR.out.2.1; omega
            have ht := fTold_ok (er := er) (FX.out.fd.ext HX5.out) HR.out.1 (show (0 : Int) ≤ (x : Int) by omega) (show (x : Int) < F.marks.length by rw [HR.out.2.1]; omega) (HB0.out.ext (HX.out.trans HX5.out))
            rw [hF2] at ht
            have HT := Lib.hid ht
            have hxn1 : x < n1 := by omega
            have hxI : (x : Int) < n1 := by omega
            have HN1 := Lib.hid hn1
            clear hF2 ht hn1
            have sb5 := SB.out.ext HX5.out
            have g0 := sb5.c0
            have g1 := sb5.c1
            have g2 := sb5.c2
            have g3 := sb5.c3
            have g4 := sb5.c4
            have g5 := sb5.c5
            have g6 := sb5.c6
            have t1 : w5.cell? ⟨ob, 1, none⟩ = some (.int .i64 (x : Int)) := by rw [cell_of_row w5 _ _ _ _ _ OB5.out]; rfl
            have t2 : w5.cell? ⟨ob, 2, none⟩ = some (.int .i64 er) := by rw [cell_of_row w5 _ _ _ _ _ OB5.out]; rfl
            have t3 : w5.cell? ⟨ob, 3, none⟩ = some (.slice Ao mo co) := by rw [cell_of_row w5 _ _ _ _ _ OB5.out]; rfl
            clear sb5
            go_wp2_with (fail)
            with_reducible refine HT.out.mono ?_
            rintro e w6 ⟨A4, n4, c4, B4, m4, d4, C4, k4', e4', rfl, hx6, ho4⟩
            have hfd4 := ho4.fdOf
            have y9 := hfd4.u.max
            have y10 := hfd4.u.le
            have y11 := hfd4.v.max
            have y12 := hfd4.v.le
            have y13 := hfd4.s.max
            have y14 := hfd4.s.le
            have HO6 := Lib.hid ho4
            have HX6 := Lib.hid hx6
            clear hfd4 ho4 hx6 g0 g1 g2 g3 g4 g5 g6 t1 t2 t3
            go_upto_region 16 with (fail)
            obtain ⟨gn, hgn⟩ : ∃ gn, w6.heap.size = gn := ⟨_, rfl⟩
            have nb := Fb.new w6 F2.stripe F2.version F2.need F2.phase (.slice A4 n4 c4) (.slice B4 m4 d4) (.slice C4 k4' e4') hgn
            have x7 := Ext.alloc w6 (.cells #[.int .i64 F2.stripe, .int .i64 F2.version, .int .i64 F2.need, .int .i64 F2.phase, .slice A4 n4 c4, .slice B4 m4 d4, .slice C4 k4' e4'] 27)
            obtain ⟨w7, hw7⟩ : ∃ w7, w6.alloc (.cells #[.int .i64 F2.stripe, .int .i64 F2.version, .int .i64 F2.need, .int .i64 F2.phase, .slice A4 n4 c4, .slice B4 m4 d4, .slice C4 k4' e4'] 27) = w7 := ⟨_, rfl⟩
            rw [hw7] at nb x7 ⊢
            rw [hgn]
            have NB := Lib.hid nb
            have HO7 := Lib.hid (HO6.out.ext x7)
            have HX7 := Lib.hid (HX5.out.trans (HX6.out.trans x7))
            have X57 := Lib.hid (HX6.out.trans x7)
            have HR2 := Lib.hid (show Finds.right F2 ∧ F2.marks.length = N ∧ F2.need = F.need by rw [← HF2.out]; exact ⟨Finds.right_told HR.out.1 _ _ _, by rw [Finds.toldF_marks_length]; exact HR.out.2.1, Finds.toldF_need _ _ _ _⟩)
            have hl4 : n4 ≤ 1000 := by have := HO7.out.fdOf.u.len; have := HR2.out.2.1; omega
            have K1 := Lib.hid (fun (u : Ex w7) => marks13_any u.w F2.stripe F2.version F2.need F2.phase A4 n4 c4 (.slice B4 m4 d4) (.slice C4 k4' e4') 1 F2.marks (HO7.out.fdOf.u.ext u.ext) hl4)
            have K2 := Lib.hid (fun (u : Ex w7) => marks13_any u.w F2.stripe F2.version F2.need F2.phase A4 n4 c4 (.slice B4 m4 d4) (.slice C4 k4' e4') 2 F2.marks (HO7.out.fdOf.u.ext u.ext) hl4)
            have hS : ∀ u : Ex w7, u.w.cell? ⟨gn, 0, none⟩ = some (.int .i64 F2.stripe) ∧ u.w.cell? ⟨gn, 1, none⟩ = some (.int .i64 F2.version) ∧ u.w.cell? ⟨gn, 2, none⟩ = some (.int .i64 F2.need) ∧ u.w.cell? ⟨gn, 3, none⟩ = some (.int .i64 F2.phase) ∧ u.w.cell? ⟨gn, 4, none⟩ = some (.slice A4 n4 c4) ∧ u.w.cell? ⟨gn, 5, none⟩ = some (.slice B4 m4 d4) ∧ u.w.cell? ⟨gn, 6, none⟩ = some (.slice C4 k4' e4') :=
              fun u => ⟨(nb.ext u.ext).c0, (nb.ext u.ext).c1, (nb.ext u.ext).c2, (nb.ext u.ext).c3, (nb.ext u.ext).c4, (nb.ext u.ext).c5, (nb.ext u.ext).c6⟩
            clear nb x7 hw7 hgn
            refine wp_region_grow (by kernel_rfl) (by kernel_rfl) ?_
            repeat (go_big_quiet_step (first | (with_reducible exact Ex.call _ (K1.out _)) | (with_reducible exact Ex.call _ (K2.out _))))
            refine wpQuiet_nil ?_
            rintro _ ⟨u, rfl⟩
            have X8 := Lib.hid u.ext
            clear hS K1 K2
            obtain ⟨w8, hw8⟩ : ∃ w8, u.w = w8 := ⟨_, rfl⟩
            rw [hw8] at X8 ⊢
            clear hw8
            have nb8 := NB.out.ext X8.out
            have fb8 := SB.out.ext (HX7.out.trans X8.out)
            have v0 := nb8.c0
            have v1 := nb8.c1
            have v2 := nb8.c2
            have v3 := nb8.c3
            have v4 := nb8.c4
            have v5 := nb8.c5
            have v6 := nb8.c6
            have hc1 := Finds.cnt_le F2.marks 1
            have hc2 := Finds.cnt_le F2.marks 2
            have hw2 := Finds.which_len HR2.out.1
            have HRt := Lib.hid (fRight_any w8 F2 A4 n4 c4 B4 m4 d4 C4 k4' e4' (HO7.out.fdOf.ext X8.out) hl4 (by have := HO7.out.fdOf.v.len; have := HR2.out.2.1; omega))
            rw [decide_eq_true HR2.out.1] at HRt
            have FB8 := Lib.hid fb8
            have NB8 := Lib.hid nb8
            have hc1N : Finds.cnt F2.marks 1 ≤ N := by have := HR2.out.2.1; omega
            have hc2N : Finds.cnt F2.marks 2 ≤ N := by have := HR2.out.2.1; omega
            obtain ⟨G1, hG1⟩ : ∃ G1, Finds.cnt F2.marks 1 = G1 := ⟨_, rfl⟩
            obtain ⟨G2, hG2⟩ : ∃ G2, Finds.cnt F2.marks 2 = G2 := ⟨_, rfl⟩
            have HG1 := Lib.hid hG1
            have HG2 := Lib.hid hG2
            rw [hG1] at hc1N ⊢
            rw [hG2] at hc2N ⊢
            clear nb8 fb8 hc1 hc2 hw2 hG1 hG2
            go_wp2_with (fail)
            with_reducible refine HRt.out.mono ?_
            rintro e w9 ⟨rfl, x9⟩
            have X9 := Lib.hid x9
            have nb9 := NB8.out.ext x9
            have fb9 := FB8.out.ext x9
            clear v0 v1 v2 v3 v4 v5 v6 x9
            have v0 := nb9.c0
            have v1 := nb9.c1
            have v2 := nb9.c2
            have v3 := nb9.c3
            have v4 := nb9.c4
            have v5 := nb9.c5
            have v6 := nb9.c6
            have g0 := fb9.c0
            have g1 := fb9.c1
            have g2 := fb9.c2
            have g3 := fb9.c3
            have g4 := fb9.c4
            have g5 := fb9.c5
            have g6 := fb9.c6
            have t1 : w9.cell? ⟨ob, 1, none⟩ = some (.int .i64 (x : Int)) := by
              have X59 := X57.out.trans (X8.out.trans X9.out)
              refine X59.cell (v := .int .i64 (x : Int)) ?_
              rw [cell_of_row w5 _ _ _ _ _ OB5.out]
              rfl
            have hX9 := HX7.out.trans (X8.out.trans X9.out)
            obtain ⟨bA, oA, rfl, hcA⟩ := (FX.out.fd.u.ext hX9).rd.intAt hxn1
            have HSF := Lib.hid (sameFind_any w9 F2 F A4 n4 c4 B4 m4 d4 C4 k4' e4' _ _ _ _ _ _ _ _ _ (HO7.out.fdOf.ext (X8.out.trans X9.out)) (FX.out.fd.ext hX9))
            have HX9 := Lib.hid hX9
            have NB9 := Lib.hid nb9
            have FB9 := Lib.hid fb9
            obtain ⟨MX, hMX⟩ : ∃ MX, Il.get F.marks x = MX := ⟨_, rfl⟩
            have HMX := Lib.hid hMX
            rw [hMX] at hcA
            obtain ⟨ND, hND⟩ : ∃ ND, F.need = ND := ⟨_, rfl⟩
            have HND := Lib.hid hND
            have hnd := Finds.right_need HR.out.1
            have hndN : 1 ≤ ND ∧ ND ≤ N := by have := HR.out.2.1; omega
            have hndl : ND ≤ (N : Int) := hndN.2
            have hndg : 1 ≤ ND := hndN.1
            rw [hND] at g2 HSF
            have HSTO := Lib.hid (fun (W : World) (hW : Ext w9 W) => (HF.out.ext (HX9.out.trans hW)).put ((HO7.out.ext (X8.out.trans (X9.out.trans hW))).x (lo := g) (hi := g + 1) (by have := HF.out.lt; have := HX5.out.size; omega)) (Nat.le_refl g) (by omega))
            clear nb9 fb9 hX9 hMX hND hnd hndN
            have hcase : (F2.phase = 1 ∧ (G1 : Int) < ND ∧ ¬ (N : Int) - ND < G2) ∨ (F2.phase = 2 ∧ (G1 : Int) = ND) ∨ (F2.phase = 3 ∧ (G1 : Int) < ND ∧ (N : Int) - ND < G2) := by
              have h1 := HR2.out.1.2.2.2.2.2
              rw [HR2.out.2.2, HR2.out.2.1, HG1.out, HG2.out, HND.out] at h1
              unfold Finds.phaseOk at h1
              omega
            rcases hcase with ⟨ph, u1, u2⟩ | ⟨ph, u1⟩ | ⟨ph, u1, u2⟩
            · have e1 : (F2.phase == 2) = false := by rw [ph]; rfl
              have e2 : (F2.phase == 3) = false := by rw [ph]; rfl
              have e3 : ((G1 : Int) == ND) = false := by rw [beq_eq_false_iff_ne]; omega
              clear ph
              by_cases hz : MX = 0
              · have e4 : (MX != 0) = false := by rw [bne_eq_false_iff_eq]; exact hz
                have e5 : (MX == 0) = true := by rw [beq_iff_eq]; exact hz
                have hF := Lib.hid (show k + 1 + Finds.cnt F2.marks 0 = N ∧ (40 ≤ i + 1 → Finds.cnt F2.marks 0 + (i + 1) ≤ 40 + N) by
                  have h1 := Finds.told_cnt0 (f := F) (i := (x : Int)) HR.out.1 (by omega) (by rw [HR.out.2.1]; omega) HPH.out (by rw [Int.toNat_natCast]; exact HMX.out.trans hz) er bb
                  rw [HF2.out] at h1
                  have h2 := HR.out.2.2.1
                  have h3 := HR.out.2.2.2
                  exact ⟨by omega, fun h => by
                    by_cases h40 : 40 ≤ i
                    · have := h3 h40; omega
                    · omega⟩)
                clear hz
                go_upto_region 21 with (fail)
                have ab := (NB9.out.ext (Ext.refl w9)).blk
                have zb := (FB9.out.ext (Ext.refl w9)).blk
                refine wp_region_lit ?_
                refine wpList_load_row rfl 27 (.tmp 15) rfl gn rfl 27 _ (0, 0) _ ab Try.underlying27 rfl (by kernel_rfl) ?_
                refine wpList_store_row rfl 27 (.tmp 9) (.tmp 148) rfl g (frow F2.stripe F2.version F2.need F2.phase (.slice A4 n4 c4) (.slice B4 m4 d4) (.slice C4 k4' e4')) rfl rfl 27 _ zb (by kernel_rfl) rfl (by simp [Value.oneCell']) ?_
                have hP := Lib.hid (HSTO.out _ (Ext.refl w9))
                have hXr := Lib.hid ((HX.out.trans (HX9.out.trans (Ext.refl w9))).row HGW.out (frow F2.stripe F2.version F2.need F2.phase (.slice A4 n4 c4) (.slice B4 m4 d4) (.slice C4 k4' e4')))
                clear ab zb
                go_wp2_with (fail)
                exact ⟨⟨i + 1, k + 1, F2, by omega, by have := hF.out.1; omega, by go_num, by first | rfl | go_num, hP, Lib.hid ⟨HR2.out.1, HR2.out.2.1, hF.out.1, hF.out.2⟩, hXr⟩, by simp [intOf]; omega⟩
              · have e4 : (MX != 0) = true := by rw [bne_iff_ne]; exact hz
                have e5 : (MX == 0) = false := by rw [beq_eq_false_iff_ne]; exact hz
                have HSAME := Lib.hid (show F2 = F by rw [← HF2.out]; exact Finds.toldF_shut (fun h => hz (by have := h.2; rw [Int.toNat_natCast] at this; exact HMX.out.symm.trans this)) er bb)
                have hF := Lib.hid (show k + Finds.cnt F2.marks 0 = N ∧ (40 ≤ i + 1 → Finds.cnt F2.marks 0 + (i + 1) ≤ 40 + N) by
                  have h2 := HR.out.2.2.1
                  rw [HSAME.out]
                  exact ⟨h2, fun h => by
                    by_cases h40 : 40 ≤ i
                    · exact absurd (HMX.out.symm.trans (HC.out h40)) hz
                    · omega⟩)
                clear hz
                go_wp2_with (fail)
                with_reducible refine HSF.out.mono ?_
                rintro e w10 ⟨he, x10⟩
                obtain rfl : e = .returned (.bool true) := he.trans (by rw [HSAME.out, sameF_refl])
                have X10 := Lib.hid x10
                clear x10
                clear g0 g1 g2 g3 g4 g5 g6 v0 v1 v2 v3 v4 v5 v6 hcA t1
                have g4 := (FB9.out.ext X10.out).c4
                have t1 : w10.cell? ⟨ob, 1, none⟩ = some (.int .i64 (x : Int)) := (by refine (X57.out.trans (X8.out.trans (X9.out.trans X10.out))).cell (v := .int .i64 (x : Int)) ?_; rw [cell_of_row w5 _ _ _ _ _ OB5.out]; rfl)
                obtain ⟨bA2, oA2, eA2, hcA⟩ := (FX.out.fd.u.ext (HX9.out.trans X10.out)).rd.intAt hxn1
                injection eA2 with eA2
                injection eA2 with eA2 eA3
                subst eA2 eA3
                rw [HMX.out] at hcA
                go_upto_region 21 with (fail)
                have ab := (NB9.out.ext X10.out).blk
                have zb := (FB9.out.ext X10.out).blk
                refine wp_region_lit ?_
                refine wpList_load_row rfl 27 (.tmp 15) rfl gn rfl 27 _ (0, 0) _ ab Try.underlying27 rfl (by kernel_rfl) ?_
                refine wpList_store_row rfl 27 (.tmp 9) (.tmp 148) rfl g (frow F2.stripe F2.version F2.need F2.phase (.slice A4 n4 c4) (.slice B4 m4 d4) (.slice C4 k4' e4')) rfl rfl 27 _ zb (by kernel_rfl) rfl (by simp [Value.oneCell']) ?_
                have hP := Lib.hid (HSTO.out _ X10.out)
                have hXr := Lib.hid ((HX.out.trans (HX9.out.trans X10.out)).row HGW.out (frow F2.stripe F2.version F2.need F2.phase (.slice A4 n4 c4) (.slice B4 m4 d4) (.slice C4 k4' e4')))
                clear ab zb
                go_wp2_with (fail)
                exact ⟨⟨i + 1, k, F2, by omega, by have := hF.out.1; omega, by go_num, by first | rfl | go_num, hP, Lib.hid ⟨HR2.out.1, HR2.out.2.1, hF.out.1, hF.out.2⟩, hXr⟩, by simp [intOf]; omega⟩
            · have e1 : (F2.phase == 2) = true := by rw [ph]; rfl
              have e2 : (F2.phase == 3) = false := by rw [ph]; rfl
              have e3 : ((G1 : Int) == ND) = true := by rw [beq_iff_eq]; exact u1
              have u2 : ¬ (G1 : Int) < ND := by omega
              clear ph u1
              by_cases hz : MX = 0
              · have e4 : (MX != 0) = false := by rw [bne_eq_false_iff_eq]; exact hz
                have e5 : (MX == 0) = true := by rw [beq_iff_eq]; exact hz
                have hF := Lib.hid (show k + 1 + Finds.cnt F2.marks 0 = N ∧ (40 ≤ i + 1 → Finds.cnt F2.marks 0 + (i + 1) ≤ 40 + N) by
                  have h1 := Finds.told_cnt0 (f := F) (i := (x : Int)) HR.out.1 (by omega) (by rw [HR.out.2.1]; omega) HPH.out (by rw [Int.toNat_natCast]; exact HMX.out.trans hz) er bb
                  rw [HF2.out] at h1
                  have h2 := HR.out.2.2.1
                  have h3 := HR.out.2.2.2
                  exact ⟨by omega, fun h => by
                    by_cases h40 : 40 ≤ i
                    · have := h3 h40; omega
                    · omega⟩)
                clear hz
                go_upto_region 21 with (fail)
                have ab := (NB9.out.ext (Ext.refl w9)).blk
                have zb := (FB9.out.ext (Ext.refl w9)).blk
                refine wp_region_lit ?_
                refine wpList_load_row rfl 27 (.tmp 15) rfl gn rfl 27 _ (0, 0) _ ab Try.underlying27 rfl (by kernel_rfl) ?_
                refine wpList_store_row rfl 27 (.tmp 9) (.tmp 148) rfl g (frow F2.stripe F2.version F2.need F2.phase (.slice A4 n4 c4) (.slice B4 m4 d4) (.slice C4 k4' e4')) rfl rfl 27 _ zb (by kernel_rfl) rfl (by simp [Value.oneCell']) ?_
                have hP := Lib.hid (HSTO.out _ (Ext.refl w9))
                have hXr := Lib.hid ((HX.out.trans (HX9.out.trans (Ext.refl w9))).row HGW.out (frow F2.stripe F2.version F2.need F2.phase (.slice A4 n4 c4) (.slice B4 m4 d4) (.slice C4 k4' e4')))
                clear ab zb
                go_wp2_with (fail)
                exact ⟨⟨i + 1, k + 1, F2, by omega, by have := hF.out.1; omega, by go_num, by first | rfl | go_num, hP, Lib.hid ⟨HR2.out.1, HR2.out.2.1, hF.out.1, hF.out.2⟩, hXr⟩, by simp [intOf]; omega⟩
              · have e4 : (MX != 0) = true := by rw [bne_iff_ne]; exact hz
                have e5 : (MX == 0) = false := by rw [beq_eq_false_iff_ne]; exact hz
                have HSAME := Lib.hid (show F2 = F by rw [← HF2.out]; exact Finds.toldF_shut (fun h => hz (by have := h.2; rw [Int.toNat_natCast] at this; exact HMX.out.symm.trans this)) er bb)
                have hF := Lib.hid (show k + Finds.cnt F2.marks 0 = N ∧ (40 ≤ i + 1 → Finds.cnt F2.marks 0 + (i + 1) ≤ 40 + N) by
                  have h2 := HR.out.2.2.1
                  rw [HSAME.out]
                  exact ⟨h2, fun h => by
                    by_cases h40 : 40 ≤ i
                    · exact absurd (HMX.out.symm.trans (HC.out h40)) hz
                    · omega⟩)
                clear hz
                go_wp2_with (fail)
                with_reducible refine HSF.out.mono ?_
                rintro e w10 ⟨he, x10⟩
                obtain rfl : e = .returned (.bool true) := he.trans (by rw [HSAME.out, sameF_refl])
                have X10 := Lib.hid x10
                clear x10
                clear g0 g1 g2 g3 g4 g5 g6 v0 v1 v2 v3 v4 v5 v6 hcA t1
                have g4 := (FB9.out.ext X10.out).c4
                have t1 : w10.cell? ⟨ob, 1, none⟩ = some (.int .i64 (x : Int)) := (by refine (X57.out.trans (X8.out.trans (X9.out.trans X10.out))).cell (v := .int .i64 (x : Int)) ?_; rw [cell_of_row w5 _ _ _ _ _ OB5.out]; rfl)
                obtain ⟨bA2, oA2, eA2, hcA⟩ := (FX.out.fd.u.ext (HX9.out.trans X10.out)).rd.intAt hxn1
                injection eA2 with eA2
                injection eA2 with eA2 eA3
                subst eA2 eA3
                rw [HMX.out] at hcA
                go_upto_region 21 with (fail)
                have ab := (NB9.out.ext X10.out).blk
                have zb := (FB9.out.ext X10.out).blk
                refine wp_region_lit ?_
                refine wpList_load_row rfl 27 (.tmp 15) rfl gn rfl 27 _ (0, 0) _ ab Try.underlying27 rfl (by kernel_rfl) ?_
                refine wpList_store_row rfl 27 (.tmp 9) (.tmp 148) rfl g (frow F2.stripe F2.version F2.need F2.phase (.slice A4 n4 c4) (.slice B4 m4 d4) (.slice C4 k4' e4')) rfl rfl 27 _ zb (by kernel_rfl) rfl (by simp [Value.oneCell']) ?_
                have hP := Lib.hid (HSTO.out _ X10.out)
                have hXr := Lib.hid ((HX.out.trans (HX9.out.trans X10.out)).row HGW.out (frow F2.stripe F2.version F2.need F2.phase (.slice A4 n4 c4) (.slice B4 m4 d4) (.slice C4 k4' e4')))
                clear ab zb
                go_wp2_with (fail)
                exact ⟨⟨i + 1, k, F2, by omega, by have := hF.out.1; omega, by go_num, by first | rfl | go_num, hP, Lib.hid ⟨HR2.out.1, HR2.out.2.1, hF.out.1, hF.out.2⟩, hXr⟩, by simp [intOf]; omega⟩
            · have e1 : (F2.phase == 2) = false := by rw [ph]; rfl
              have e2 : (F2.phase == 3) = true := by rw [ph]; rfl
              have e3 : ((G1 : Int) == ND) = false := by rw [beq_eq_false_iff_ne]; omega
              clear ph
              by_cases hz : MX = 0
              · have e4 : (MX != 0) = false := by rw [bne_eq_false_iff_eq]; exact hz
                have e5 : (MX == 0) = true := by rw [beq_iff_eq]; exact hz
                have hF := Lib.hid (show k + 1 + Finds.cnt F2.marks 0 = N ∧ (40 ≤ i + 1 → Finds.cnt F2.marks 0 + (i + 1) ≤ 40 + N) by
                  have h1 := Finds.told_cnt0 (f := F) (i := (x : Int)) HR.out.1 (by omega) (by rw [HR.out.2.1]; omega) HPH.out (by rw [Int.toNat_natCast]; exact HMX.out.trans hz) er bb
                  rw [HF2.out] at h1
                  have h2 := HR.out.2.2.1
                  have h3 := HR.out.2.2.2
                  exact ⟨by omega, fun h => by
                    by_cases h40 : 40 ≤ i
                    · have := h3 h40; omega
                    · omega⟩)
                clear hz
                go_upto_region 21 with (fail)
                have ab := (NB9.out.ext (Ext.refl w9)).blk
                have zb := (FB9.out.ext (Ext.refl w9)).blk
                refine wp_region_lit ?_
                refine wpList_load_row rfl 27 (.tmp 15) rfl gn rfl 27 _ (0, 0) _ ab Try.underlying27 rfl (by kernel_rfl) ?_
                refine wpList_store_row rfl 27 (.tmp 9) (.tmp 148) rfl g (frow F2.stripe F2.version F2.need F2.phase (.slice A4 n4 c4) (.slice B4 m4 d4) (.slice C4 k4' e4')) rfl rfl 27 _ zb (by kernel_rfl) rfl (by simp [Value.oneCell']) ?_
                have hP := Lib.hid (HSTO.out _ (Ext.refl w9))
                have hXr := Lib.hid ((HX.out.trans (HX9.out.trans (Ext.refl w9))).row HGW.out (frow F2.stripe F2.version F2.need F2.phase (.slice A4 n4 c4) (.slice B4 m4 d4) (.slice C4 k4' e4')))
                clear ab zb
                go_wp2_with (fail)
                exact ⟨⟨i + 1, k + 1, F2, by omega, by have := hF.out.1; omega, by go_num, by first | rfl | go_num, hP, Lib.hid ⟨HR2.out.1, HR2.out.2.1, hF.out.1, hF.out.2⟩, hXr⟩, by simp [intOf]; omega⟩
              · have e4 : (MX != 0) = true := by rw [bne_iff_ne]; exact hz
                have e5 : (MX == 0) = false := by rw [beq_eq_false_iff_ne]; exact hz
                have HSAME := Lib.hid (show F2 = F by rw [← HF2.out]; exact Finds.toldF_shut (fun h => hz (by have := h.2; rw [Int.toNat_natCast] at this; exact HMX.out.symm.trans this)) er bb)
                have hF := Lib.hid (show k + Finds.cnt F2.marks 0 = N ∧ (40 ≤ i + 1 → Finds.cnt F2.marks 0 + (i + 1) ≤ 40 + N) by
                  have h2 := HR.out.2.2.1
                  rw [HSAME.out]
                  exact ⟨h2, fun h => by
                    by_cases h40 : 40 ≤ i
                    · exact absurd (HMX.out.symm.trans (HC.out h40)) hz
                    · omega⟩)
                clear hz
                go_wp2_with (fail)
                with_reducible refine HSF.out.mono ?_
                rintro e w10 ⟨he, x10⟩
                obtain rfl : e = .returned (.bool true) := he.trans (by rw [HSAME.out, sameF_refl])
                have X10 := Lib.hid x10
                clear x10
                clear g0 g1 g2 g3 g4 g5 g6 v0 v1 v2 v3 v4 v5 v6 hcA t1
                have g4 := (FB9.out.ext X10.out).c4
                have t1 : w10.cell? ⟨ob, 1, none⟩ = some (.int .i64 (x : Int)) := (by refine (X57.out.trans (X8.out.trans (X9.out.trans X10.out))).cell (v := .int .i64 (x : Int)) ?_; rw [cell_of_row w5 _ _ _ _ _ OB5.out]; rfl)
                obtain ⟨bA2, oA2, eA2, hcA⟩ := (FX.out.fd.u.ext (HX9.out.trans X10.out)).rd.intAt hxn1
                injection eA2 with eA2
                injection eA2 with eA2 eA3
                subst eA2 eA3
                rw [HMX.out] at hcA
                go_upto_region 21 with (fail)
                have ab := (NB9.out.ext X10.out).blk
                have zb := (FB9.out.ext X10.out).blk
                refine wp_region_lit ?_
                refine wpList_load_row rfl 27 (.tmp 15) rfl gn rfl 27 _ (0, 0) _ ab Try.underlying27 rfl (by kernel_rfl) ?_
                refine wpList_store_row rfl 27 (.tmp 9) (.tmp 148) rfl g (frow F2.stripe F2.version F2.need F2.phase (.slice A4 n4 c4) (.slice B4 m4 d4) (.slice C4 k4' e4')) rfl rfl 27 _ zb (by kernel_rfl) rfl (by simp [Value.oneCell']) ?_
                have hP := Lib.hid (HSTO.out _ X10.out)
                have hXr := Lib.hid ((HX.out.trans (HX9.out.trans X10.out)).row HGW.out (frow F2.stripe F2.version F2.need F2.phase (.slice A4 n4 c4) (.slice B4 m4 d4) (.slice C4 k4' e4')))
                clear ab zb
                go_wp2_with (fail)
                exact ⟨⟨i + 1, k, F2, by omega, by have := hF.out.1; omega, by go_num, by first | rfl | go_num, hP, Lib.hid ⟨HR2.out.1, HR2.out.2.1, hF.out.1, hF.out.2⟩, hXr⟩, by simp [intOf]; omega⟩
        · have r4 : ¬ ((i : Int) < q ∧ (i : Int) < 40) := by omega
          have OB5 := OB
          have HX5 := HX4
          have HB0 := HBL
          have HC := Lib.hid (show 40 ≤ i → Il.get F.marks xn = 0 from fun _ => HXM.out)
          by_cases hq : i < q
          · have r5 : (i : Int) < q := by omega
            have r6 : ¬ (i : Int) < 40 := by omega
            clear hA r4
            go_upto_region 15 with (fail)
            -- AUX
            as_aux_lemma =>
              obtain ⟨F2, hF2⟩ : ∃ F2, Finds.toldF F (xn : Int) 0 bL = F2 := ⟨_, rfl⟩
              have HF2 := Lib.hid hF2
              have hn1 : n1 = N := by have h1 := FX.out.fd.u.len; have h2 := HR.out.2.1; omega
              have ht := fTold_ok (er := 0) (FX.out.fd.ext HX5.out) HR.out.1 (show (0 : Int) ≤ (xn : Int) by omega) (show (xn : Int) < F.marks.length by rw [HR.out.2.1]; omega) (HB0.out.ext (HX.out.trans HX5.out))
              rw [hF2] at ht
              have HT := Lib.hid ht
              have hxn1 : xn < n1 := by omega
              have hxI : (xn : Int) < n1 := by omega
              have HN1 := Lib.hid hn1
              clear hF2 ht hn1
              have sb5 := SB.out.ext HX5.out
              have g0 := sb5.c0
              have g1 := sb5.c1
              have g2 := sb5.c2
              have g3 := sb5.c3
              have g4 := sb5.c4
              have g5 := sb5.c5
              have g6 := sb5.c6
              have t1 : w4.cell? ⟨ob, 1, none⟩ = some (.int .i64 (xn : Int)) := by rw [cell_of_row w4 _ _ _ _ _ OB5.out]; rfl
              have t2 : w4.cell? ⟨ob, 2, none⟩ = some (.int .i64 0) := by rw [cell_of_row w4 _ _ _ _ _ OB5.out]; rfl
              have t3 : w4.cell? ⟨ob, 3, none⟩ = some (.slice E mL cL) := by rw [cell_of_row w4 _ _ _ _ _ OB5.out]; rfl
              clear sb5
              go_wp2_with (fail)
              with_reducible refine HT.out.mono ?_
              rintro e w6 ⟨A4, n4, c4, B4, m4, d4, C4, k4', e4', rfl, hx6, ho4⟩
              have hfd4 := ho4.fdOf
              have y9 := hfd4.u.max
              have y10 := hfd4.u.le
              have y11 := hfd4.v.max
              have y12 := hfd4.v.le
              have y13 := hfd4.s.max
              have y14 := hfd4.s.le
              have HO6 := Lib.hid ho4
              have HX6 := Lib.hid hx6
              clear hfd4 ho4 hx6 g0 g1 g2 g3 g4 g5 g6 t1 t2 t3
              go_upto_region 16 with (fail)
              obtain ⟨gn, hgn⟩ : ∃ gn, w6.heap.size = gn := ⟨_, rfl⟩
              have nb := Fb.new w6 F2.stripe F2.version F2.need F2.phase (.slice A4 n4 c4) (.slice B4 m4 d4) (.slice C4 k4' e4') hgn
              have x7 := Ext.alloc w6 (.cells #[.int .i64 F2.stripe, .int .i64 F2.version, .int .i64 F2.need, .int .i64 F2.phase, .slice A4 n4 c4, .slice B4 m4 d4, .slice C4 k4' e4'] 27)
              obtain ⟨w7, hw7⟩ : ∃ w7, w6.alloc (.cells #[.int .i64 F2.stripe, .int .i64 F2.version, .int .i64 F2.need, .int .i64 F2.phase, .slice A4 n4 c4, .slice B4 m4 d4, .slice C4 k4' e4'] 27) = w7 := ⟨_, rfl⟩
              rw [hw7] at nb x7 ⊢
              rw [hgn]
              have NB := Lib.hid nb
              have HO7 := Lib.hid (HO6.out.ext x7)
              have HX7 := Lib.hid (HX5.out.trans (HX6.out.trans x7))
              have X57 := Lib.hid (HX6.out.trans x7)
              have HR2 := Lib.hid (show Finds.right F2 ∧ F2.marks.length = N ∧ F2.need = F.need by rw [← HF2.out]; exact ⟨Finds.right_told HR.out.1 _ _ _, by rw [Finds.toldF_marks_length]; exact HR.out.2.1, Finds.toldF_need _ _ _ _⟩)
              have hl4 : n4 ≤ 1000 := by have := HO7.out.fdOf.u.len; have := HR2.out.2.1; omega
              have K1 := Lib.hid (fun (u : Ex w7) => marks13_any u.w F2.stripe F2.version F2.need F2.phase A4 n4 c4 (.slice B4 m4 d4) (.slice C4 k4' e4') 1 F2.marks (HO7.out.fdOf.u.ext u.ext) hl4)
              have K2 := Lib.hid (fun (u : Ex w7) => marks13_any u.w F2.stripe F2.version F2.need F2.phase A4 n4 c4 (.slice B4 m4 d4) (.slice C4 k4' e4') 2 F2.marks (HO7.out.fdOf.u.ext u.ext) hl4)
              have hS : ∀ u : Ex w7, u.w.cell? ⟨gn, 0, none⟩ = some (.int .i64 F2.stripe) ∧ u.w.cell? ⟨gn, 1, none⟩ = some (.int .i64 F2.version) ∧ u.w.cell? ⟨gn, 2, none⟩ = some (.int .i64 F2.need) ∧ u.w.cell? ⟨gn, 3, none⟩ = some (.int .i64 F2.phase) ∧ u.w.cell? ⟨gn, 4, none⟩ = some (.slice A4 n4 c4) ∧ u.w.cell? ⟨gn, 5, none⟩ = some (.slice B4 m4 d4) ∧ u.w.cell? ⟨gn, 6, none⟩ = some (.slice C4 k4' e4') :=
                fun u => ⟨(nb.ext u.ext).c0, (nb.ext u.ext).c1, (nb.ext u.ext).c2, (nb.ext u.ext).c3, (nb.ext u.ext).c4, (nb.ext u.ext).c5, (nb.ext u.ext).c6⟩
              clear nb x7 hw7 hgn
              refine wp_region_grow (by kernel_rfl) (by kernel_rfl) ?_
              repeat (go_big_quiet_step (first | (with_reducible exact Ex.call _ (K1.out _)) | (with_reducible exact Ex.call _ (K2.out _))))
              refine wpQuiet_nil ?_
              rintro _ ⟨u, rfl⟩
              have X8 := Lib.hid u.ext
              clear hS K1 K2
              obtain ⟨w8, hw8⟩ : ∃ w8, u.w = w8 := ⟨_, rfl⟩
              rw [hw8] at X8 ⊢
              clear hw8
              have nb8 := NB.out.ext X8.out
              have fb8 := SB.out.ext (HX7.out.trans X8.out)
              have v0 := nb8.c0
              have v1 := nb8.c1
              have v2 := nb8.c2
              have v3 := nb8.c3
              have v4 := nb8.c4
              have v5 := nb8.c5
              have v6 := nb8.c6
              have hc1 := Finds.cnt_le F2.marks 1
              have hc2 := Finds.cnt_le F2.marks 2
              have hw2 := Finds.which_len HR2.out.1
              have HRt := Lib.hid (fRight_any w8 F2 A4 n4 c4 B4 m4 d4 C4 k4' e4' (HO7.out.fdOf.ext X8.out) hl4 (by have := HO7.out.fdOf.v.len; have := HR2.out.2.1; omega))
              rw [decide_eq_true HR2.out.1] at HRt
              have FB8 := Lib.hid fb8
              have NB8 := Lib.hid nb8
              have hc1N : Finds.cnt F2.marks 1 ≤ N := by have := HR2.out.2.1; omega
              have hc2N : Finds.cnt F2.marks 2 ≤ N := by have := HR2.out.2.1; omega
              obtain ⟨G1, hG1⟩ : ∃ G1, Finds.cnt F2.marks 1 = G1 := ⟨_, rfl⟩
              obtain ⟨G2, hG2⟩ : ∃ G2, Finds.cnt F2.marks 2 = G2 := ⟨_, rfl⟩
              have HG1 := Lib.hid hG1
              have HG2 := Lib.hid hG2
              rw [hG1] at hc1N ⊢
              rw [hG2] at hc2N ⊢
              clear nb8 fb8 hc1 hc2 hw2 hG1 hG2
              go_wp2_with (fail)
              with_reducible refine HRt.out.mono ?_
              rintro e w9 ⟨rfl, x9⟩
              have X9 := Lib.hid x9
              have nb9 := NB8.out.ext x9
              have fb9 := FB8.out.ext x9
              clear v0 v1 v2 v3 v4 v5 v6 x9
              have v0 := nb9.c0
              have v1 := nb9.c1
              have v2 := nb9.c2
              have v3 := nb9.c3
              have v4 := nb9.c4
              have v5 := nb9.c5
              have v6 := nb9.c6
              have g0 := fb9.c0
              have g1 := fb9.c1
              have g2 := fb9.c2
              have g3 := fb9.c3
              have g4 := fb9.c4
              have g5 := fb9.c5
              have g6 := fb9.c6
              have t1 : w9.cell? ⟨ob, 1, none⟩ = some (.int .i64 (xn : Int)) := by
                have X59 := X57.out.trans (X8.out.trans X9.out)
                refine X59.cell (v := .int .i64 (xn : Int)) ?_
                rw [cell_of_row w4 _ _ _ _ _ OB5.out]
                rfl
              have hX9 := HX7.out.trans (X8.out.trans X9.out)
              obtain ⟨bA, oA, rfl, hcA⟩ := (FX.out.fd.u.ext hX9).rd.intAt hxn1
              have HSF := Lib.hid (sameFind_any w9 F2 F A4 n4 c4 B4 m4 d4 C4 k4' e4' _ _ _ _ _ _ _ _ _ (HO7.out.fdOf.ext (X8.out.trans X9.out)) (FX.out.fd.ext hX9))
              have HX9 := Lib.hid hX9
              have NB9 := Lib.hid nb9
              have FB9 := Lib.hid fb9
              obtain ⟨MX, hMX⟩ : ∃ MX, Il.get F.marks xn = MX := ⟨_, rfl⟩
              have HMX := Lib.hid hMX
              rw [hMX] at hcA
              obtain ⟨ND, hND⟩ : ∃ ND, F.need = ND := ⟨_, rfl⟩
              have HND := Lib.hid hND
              have hnd := Finds.right_need HR.out.1
              have hndN : 1 ≤ ND ∧ ND ≤ N := by have := HR.out.2.1; omega
              have hndl : ND ≤ (N : Int) := hndN.2
              have hndg : 1 ≤ ND := hndN.1
              rw [hND] at g2 HSF
              have HSTO := Lib.hid (fun (W : World) (hW : Ext w9 W) => (HF.out.ext (HX9.out.trans hW)).put ((HO7.out.ext (X8.out.trans (X9.out.trans hW))).x (lo := g) (hi := g + 1) (by have := HF.out.lt; have := HX5.out.size; omega)) (Nat.le_refl g) (by omega))
              clear nb9 fb9 hX9 hMX hND hnd hndN
              have hcase : (F2.phase = 1 ∧ (G1 : Int) < ND ∧ ¬ (N : Int) - ND < G2) ∨ (F2.phase = 2 ∧ (G1 : Int) = ND) ∨ (F2.phase = 3 ∧ (G1 : Int) < ND ∧ (N : Int) - ND < G2) := by
                have h1 := HR2.out.1.2.2.2.2.2
                rw [HR2.out.2.2, HR2.out.2.1, HG1.out, HG2.out, HND.out] at h1
                unfold Finds.phaseOk at h1
                omega
              rcases hcase with ⟨ph, u1, u2⟩ | ⟨ph, u1⟩ | ⟨ph, u1, u2⟩
              · have e1 : (F2.phase == 2) = false := by rw [ph]; rfl
                have e2 : (F2.phase == 3) = false := by rw [ph]; rfl
                have e3 : ((G1 : Int) == ND) = false := by rw [beq_eq_false_iff_ne]; omega
                clear ph
                by_cases hz : MX = 0
                · have e4 : (MX != 0) = false := by rw [bne_eq_false_iff_eq]; exact hz
                  have e5 : (MX == 0) = true := by rw [beq_iff_eq]; exact hz
                  have hF := Lib.hid (show k + 1 + Finds.cnt F2.marks 0 = N ∧ (40 ≤ i + 1 → Finds.cnt F2.marks 0 + (i + 1) ≤ 40 + N) by
                    have h1 := Finds.told_cnt0 (f := F) (i := (xn : Int)) HR.out.1 (by omega) (by rw [HR.out.2.1]; omega) HPH.out (by rw [Int.toNat_natCast]; exact HMX.out.trans hz) 0 bL
                    rw [HF2.out] at h1
                    have h2 := HR.out.2.2.1
                    have h3 := HR.out.2.2.2
                    exact ⟨by omega, fun h => by
                      by_cases h40 : 40 ≤ i
                      · have := h3 h40; omega
                      · omega⟩)
                  clear hz
                  go_upto_region 21 with (fail)
                  have ab := (NB9.out.ext (Ext.refl w9)).blk
                  have zb := (FB9.out.ext (Ext.refl w9)).blk
                  refine wp_region_lit ?_
                  refine wpList_load_row rfl 27 (.tmp 15) rfl gn rfl 27 _ (0, 0) _ ab Try.underlying27 rfl (by kernel_rfl) ?_
                  refine wpList_store_row rfl 27 (.tmp 9) (.tmp 148) rfl g (frow F2.stripe F2.version F2.need F2.phase (.slice A4 n4 c4) (.slice B4 m4 d4) (.slice C4 k4' e4')) rfl rfl 27 _ zb (by kernel_rfl) rfl (by simp [Value.oneCell']) ?_
                  have hP := Lib.hid (HSTO.out _ (Ext.refl w9))
                  have hXr := Lib.hid ((HX.out.trans (HX9.out.trans (Ext.refl w9))).row HGW.out (frow F2.stripe F2.version F2.need F2.phase (.slice A4 n4 c4) (.slice B4 m4 d4) (.slice C4 k4' e4')))
                  clear ab zb
                  go_wp2_with (fail)
                  exact ⟨⟨i + 1, k + 1, F2, by omega, by have := hF.out.1; omega, by go_num, by first | rfl | go_num, hP, Lib.hid ⟨HR2.out.1, HR2.out.2.1, hF.out.1, hF.out.2⟩, hXr⟩, by simp [intOf]; omega⟩
                · have e4 : (MX != 0) = true := by rw [bne_iff_ne]; exact hz
                  have e5 : (MX == 0) = false := by rw [beq_eq_false_iff_ne]; exact hz
                  have HSAME := Lib.hid (show F2 = F by rw [← HF2.out]; exact Finds.toldF_shut (fun h => hz (by have := h.2; rw [Int.toNat_natCast] at this; exact HMX.out.symm.trans this)) 0 bL)
                  have hF := Lib.hid (show k + Finds.cnt F2.marks 0 = N ∧ (40 ≤ i + 1 → Finds.cnt F2.marks 0 + (i + 1) ≤ 40 + N) by
                    have h2 := HR.out.2.2.1
                    rw [HSAME.out]
                    exact ⟨h2, fun h => by
                      by_cases h40 : 40 ≤ i
                      · exact absurd (HMX.out.symm.trans (HC.out h40)) hz
                      · omega⟩)
                  clear hz
                  go_wp2_with (fail)
                  with_reducible refine HSF.out.mono ?_
                  rintro e w10 ⟨he, x10⟩
                  obtain rfl : e = .returned (.bool true) := he.trans (by rw [HSAME.out, sameF_refl])
                  have X10 := Lib.hid x10
                  clear x10
                  clear g0 g1 g2 g3 g4 g5 g6 v0 v1 v2 v3 v4 v5 v6 hcA t1
                  have g4 := (FB9.out.ext X10.out).c4
                  have t1 : w10.cell? ⟨ob, 1, none⟩ = some (.int .i64 (xn : Int)) := (by refine (X57.out.trans (X8.out.trans (X9.out.trans X10.out))).cell (v := .int .i64 (xn : Int)) ?_; rw [cell_of_row w4 _ _ _ _ _ OB5.out]; rfl)
                  obtain ⟨bA2, oA2, eA2, hcA⟩ := (FX.out.fd.u.ext (HX9.out.trans X10.out)).rd.intAt hxn1
                  injection eA2 with eA2
                  injection eA2 with eA2 eA3
                  subst eA2 eA3
                  rw [HMX.out] at hcA
                  go_upto_region 21 with (fail)
                  have ab := (NB9.out.ext X10.out).blk
                  have zb := (FB9.out.ext X10.out).blk
                  refine wp_region_lit ?_
                  refine wpList_load_row rfl 27 (.tmp 15) rfl gn rfl 27 _ (0, 0) _ ab Try.underlying27 rfl (by kernel_rfl) ?_
                  refine wpList_store_row rfl 27 (.tmp 9) (.tmp 148) rfl g (frow F2.stripe F2.version F2.need F2.phase (.slice A4 n4 c4) (.slice B4 m4 d4) (.slice C4 k4' e4')) rfl rfl 27 _ zb (by kernel_rfl) rfl (by simp [Value.oneCell']) ?_
                  have hP := Lib.hid (HSTO.out _ X10.out)
                  have hXr := Lib.hid ((HX.out.trans (HX9.out.trans X10.out)).row HGW.out (frow F2.stripe F2.version F2.need F2.phase (.slice A4 n4 c4) (.slice B4 m4 d4) (.slice C4 k4' e4')))
                  clear ab zb
                  go_wp2_with (fail)
                  exact ⟨⟨i + 1, k, F2, by omega, by have := hF.out.1; omega, by go_num, by first | rfl | go_num, hP, Lib.hid ⟨HR2.out.1, HR2.out.2.1, hF.out.1, hF.out.2⟩, hXr⟩, by simp [intOf]; omega⟩
              · have e1 : (F2.phase == 2) = true := by rw [ph]; rfl
                have e2 : (F2.phase == 3) = false := by rw [ph]; rfl
                have e3 : ((G1 : Int) == ND) = true := by rw [beq_iff_eq]; exact u1
                have u2 : ¬ (G1 : Int) < ND := by omega
                clear ph u1
                by_cases hz : MX = 0
                · have e4 : (MX != 0) = false := by rw [bne_eq_false_iff_eq]; exact hz
                  have e5 : (MX == 0) = true := by rw [beq_iff_eq]; exact hz
                  have hF := Lib.hid (show k + 1 + Finds.cnt F2.marks 0 = N ∧ (40 ≤ i + 1 → Finds.cnt F2.marks 0 + (i + 1) ≤ 40 + N) by
                    have h1 := Finds.told_cnt0 (f := F) (i := (xn : Int)) HR.out.1 (by omega) (by rw [HR.out.2.1]; omega) HPH.out (by rw [Int.toNat_natCast]; exact HMX.out.trans hz) 0 bL
                    rw [HF2.out] at h1
                    have h2 := HR.out.2.2.1
                    have h3 := HR.out.2.2.2
                    exact ⟨by omega, fun h => by
                      by_cases h40 : 40 ≤ i
                      · have := h3 h40; omega
                      · omega⟩)
                  clear hz
                  go_upto_region 21 with (fail)
                  have ab := (NB9.out.ext (Ext.refl w9)).blk
                  have zb := (FB9.out.ext (Ext.refl w9)).blk
                  refine wp_region_lit ?_
                  refine wpList_load_row rfl 27 (.tmp 15) rfl gn rfl 27 _ (0, 0) _ ab Try.underlying27 rfl (by kernel_rfl) ?_
                  refine wpList_store_row rfl 27 (.tmp 9) (.tmp 148) rfl g (frow F2.stripe F2.version F2.need F2.phase (.slice A4 n4 c4) (.slice B4 m4 d4) (.slice C4 k4' e4')) rfl rfl 27 _ zb (by kernel_rfl) rfl (by simp [Value.oneCell']) ?_
                  have hP := Lib.hid (HSTO.out _ (Ext.refl w9))
                  have hXr := Lib.hid ((HX.out.trans (HX9.out.trans (Ext.refl w9))).row HGW.out (frow F2.stripe F2.version F2.need F2.phase (.slice A4 n4 c4) (.slice B4 m4 d4) (.slice C4 k4' e4')))
                  clear ab zb
                  go_wp2_with (fail)
                  exact ⟨⟨i + 1, k + 1, F2, by omega, by have := hF.out.1; omega, by go_num, by first | rfl | go_num, hP, Lib.hid ⟨HR2.out.1, HR2.out.2.1, hF.out.1, hF.out.2⟩, hXr⟩, by simp [intOf]; omega⟩
                · have e4 : (MX != 0) = true := by rw [bne_iff_ne]; exact hz
                  have e5 : (MX == 0) = false := by rw [beq_eq_false_iff_ne]; exact hz
                  have HSAME := Lib.hid (show F2 = F by rw [← HF2.out]; exact Finds.toldF_shut (fun h => hz (by have := h.2; rw [Int.toNat_natCast] at this; exact HMX.out.symm.trans this)) 0 bL)
                  have hF := Lib.hid (show k + Finds.cnt F2.marks 0 = N ∧ (40 ≤ i + 1 → Finds.cnt F2.marks 0 + (i + 1) ≤ 40 + N) by
                    have h2 := HR.out.2.2.1
                    rw [HSAME.out]
                    exact ⟨h2, fun h => by
                      by_cases h40 : 40 ≤ i
                      · exact absurd (HMX.out.symm.trans (HC.out h40)) hz
                      · omega⟩)
                  clear hz
                  go_wp2_with (fail)
                  with_reducible refine HSF.out.mono ?_
                  rintro e w10 ⟨he, x10⟩
                  obtain rfl : e = .returned (.bool true) := he.trans (by rw [HSAME.out, sameF_refl])
                  have X10 := Lib.hid x10
                  clear x10
                  clear g0 g1 g2 g3 g4 g5 g6 v0 v1 v2 v3 v4 v5 v6 hcA t1
                  have g4 := (FB9.out.ext X10.out).c4
                  have t1 : w10.cell? ⟨ob, 1, none⟩ = some (.int .i64 (xn : Int)) := (by refine (X57.out.trans (X8.out.trans (X9.out.trans X10.out))).cell (v := .int .i64 (xn : Int)) ?_; rw [cell_of_row w4 _ _ _ _ _ OB5.out]; rfl)
                  obtain ⟨bA2, oA2, eA2, hcA⟩ := (FX.out.fd.u.ext (HX9.out.trans X10.out)).rd.intAt hxn1
                  injection eA2 with eA2
                  injection eA2 with eA2 eA3
                  subst eA2 eA3
                  rw [HMX.out] at hcA
                  go_upto_region 21 with (fail)
                  have ab := (NB9.out.ext X10.out).blk
                  have zb := (FB9.out.ext X10.out).blk
                  refine wp_region_lit ?_
                  refine wpList_load_row rfl 27 (.tmp 15) rfl gn rfl 27 _ (0, 0) _ ab Try.underlying27 rfl (by kernel_rfl) ?_
                  refine wpList_store_row rfl 27 (.tmp 9) (.tmp 148) rfl g (frow F2.stripe F2.version F2.need F2.phase (.slice A4 n4 c4) (.slice B4 m4 d4) (.slice C4 k4' e4')) rfl rfl 27 _ zb (by kernel_rfl) rfl (by simp [Value.oneCell']) ?_
                  have hP := Lib.hid (HSTO.out _ X10.out)
                  have hXr := Lib.hid ((HX.out.trans (HX9.out.trans X10.out)).row HGW.out (frow F2.stripe F2.version F2.need F2.phase (.slice A4 n4 c4) (.slice B4 m4 d4) (.slice C4 k4' e4')))
                  clear ab zb
                  go_wp2_with (fail)
                  exact ⟨⟨i + 1, k, F2, by omega, by have := hF.out.1; omega, by go_num, by first | rfl | go_num, hP, Lib.hid ⟨HR2.out.1, HR2.out.2.1, hF.out.1, hF.out.2⟩, hXr⟩, by simp [intOf]; omega⟩
              · have e1 : (F2.phase == 2) = false := by rw [ph]; rfl
                have e2 : (F2.phase == 3) = true := by rw [ph]; rfl
                have e3 : ((G1 : Int) == ND) = false := by rw [beq_eq_false_iff_ne]; omega
                clear ph
                by_cases hz : MX = 0
                · have e4 : (MX != 0) = false := by rw [bne_eq_false_iff_eq]; exact hz
                  have e5 : (MX == 0) = true := by rw [beq_iff_eq]; exact hz
                  have hF := Lib.hid (show k + 1 + Finds.cnt F2.marks 0 = N ∧ (40 ≤ i + 1 → Finds.cnt F2.marks 0 + (i + 1) ≤ 40 + N) by
                    have h1 := Finds.told_cnt0 (f := F) (i := (xn : Int)) HR.out.1 (by omega) (by rw [HR.out.2.1]; omega) HPH.out (by rw [Int.toNat_natCast]; exact HMX.out.trans hz) 0 bL
                    rw [HF2.out] at h1
                    have h2 := HR.out.2.2.1
                    have h3 := HR.out.2.2.2
                    exact ⟨by omega, fun h => by
                      by_cases h40 : 40 ≤ i
                      · have := h3 h40; omega
                      · omega⟩)
                  clear hz
                  go_upto_region 21 with (fail)
                  have ab := (NB9.out.ext (Ext.refl w9)).blk
                  have zb := (FB9.out.ext (Ext.refl w9)).blk
                  refine wp_region_lit ?_
                  refine wpList_load_row rfl 27 (.tmp 15) rfl gn rfl 27 _ (0, 0) _ ab Try.underlying27 rfl (by kernel_rfl) ?_
                  refine wpList_store_row rfl 27 (.tmp 9) (.tmp 148) rfl g (frow F2.stripe F2.version F2.need F2.phase (.slice A4 n4 c4) (.slice B4 m4 d4) (.slice C4 k4' e4')) rfl rfl 27 _ zb (by kernel_rfl) rfl (by simp [Value.oneCell']) ?_
                  have hP := Lib.hid (HSTO.out _ (Ext.refl w9))
                  have hXr := Lib.hid ((HX.out.trans (HX9.out.trans (Ext.refl w9))).row HGW.out (frow F2.stripe F2.version F2.need F2.phase (.slice A4 n4 c4) (.slice B4 m4 d4) (.slice C4 k4' e4')))
                  clear ab zb
                  go_wp2_with (fail)
                  exact ⟨⟨i + 1, k + 1, F2, by omega, by have := hF.out.1; omega, by go_num, by first | rfl | go_num, hP, Lib.hid ⟨HR2.out.1, HR2.out.2.1, hF.out.1, hF.out.2⟩, hXr⟩, by simp [intOf]; omega⟩
                · have e4 : (MX != 0) = true := by rw [bne_iff_ne]; exact hz
                  have e5 : (MX == 0) = false := by rw [beq_eq_false_iff_ne]; exact hz
                  have HSAME := Lib.hid (show F2 = F by rw [← HF2.out]; exact Finds.toldF_shut (fun h => hz (by have := h.2; rw [Int.toNat_natCast] at this; exact HMX.out.symm.trans this)) 0 bL)
                  have hF := Lib.hid (show k + Finds.cnt F2.marks 0 = N ∧ (40 ≤ i + 1 → Finds.cnt F2.marks 0 + (i + 1) ≤ 40 + N) by
                    have h2 := HR.out.2.2.1
                    rw [HSAME.out]
                    exact ⟨h2, fun h => by
                      by_cases h40 : 40 ≤ i
                      · exact absurd (HMX.out.symm.trans (HC.out h40)) hz
                      · omega⟩)
                  clear hz
                  go_wp2_with (fail)
                  with_reducible refine HSF.out.mono ?_
                  rintro e w10 ⟨he, x10⟩
                  obtain rfl : e = .returned (.bool true) := he.trans (by rw [HSAME.out, sameF_refl])
                  have X10 := Lib.hid x10
                  clear x10
                  clear g0 g1 g2 g3 g4 g5 g6 v0 v1 v2 v3 v4 v5 v6 hcA t1
                  have g4 := (FB9.out.ext X10.out).c4
                  have t1 : w10.cell? ⟨ob, 1, none⟩ = some (.int .i64 (xn : Int)) := (by refine (X57.out.trans (X8.out.trans (X9.out.trans X10.out))).cell (v := .int .i64 (xn : Int)) ?_; rw [cell_of_row w4 _ _ _ _ _ OB5.out]; rfl)
                  obtain ⟨bA2, oA2, eA2, hcA⟩ := (FX.out.fd.u.ext (HX9.out.trans X10.out)).rd.intAt hxn1
                  injection eA2 with eA2
                  injection eA2 with eA2 eA3
                  subst eA2 eA3
                  rw [HMX.out] at hcA
                  go_upto_region 21 with (fail)
                  have ab := (NB9.out.ext X10.out).blk
                  have zb := (FB9.out.ext X10.out).blk
                  refine wp_region_lit ?_
                  refine wpList_load_row rfl 27 (.tmp 15) rfl gn rfl 27 _ (0, 0) _ ab Try.underlying27 rfl (by kernel_rfl) ?_
                  refine wpList_store_row rfl 27 (.tmp 9) (.tmp 148) rfl g (frow F2.stripe F2.version F2.need F2.phase (.slice A4 n4 c4) (.slice B4 m4 d4) (.slice C4 k4' e4')) rfl rfl 27 _ zb (by kernel_rfl) rfl (by simp [Value.oneCell']) ?_
                  have hP := Lib.hid (HSTO.out _ X10.out)
                  have hXr := Lib.hid ((HX.out.trans (HX9.out.trans X10.out)).row HGW.out (frow F2.stripe F2.version F2.need F2.phase (.slice A4 n4 c4) (.slice B4 m4 d4) (.slice C4 k4' e4')))
                  clear ab zb
                  go_wp2_with (fail)
                  exact ⟨⟨i + 1, k, F2, by omega, by have := hF.out.1; omega, by go_num, by first | rfl | go_num, hP, Lib.hid ⟨HR2.out.1, HR2.out.2.1, hF.out.1, hF.out.2⟩, hXr⟩, by simp [intOf]; omega⟩
          · have r5 : ¬ (i : Int) < q := by omega
            clear hA r4
            go_upto_region 15 with (fail)
            -- AUX
            as_aux_lemma =>
              obtain ⟨F2, hF2⟩ : ∃ F2, Finds.toldF F (xn : Int) 0 bL = F2 := ⟨_, rfl⟩
              have HF2 := Lib.hid hF2
              have hn1 : n1 = N := by have h1 := FX.out.fd.u.len; have h2 := HR.out.2.1; omega
              have ht := fTold_ok (er := 0) (FX.out.fd.ext HX5.out) HR.out.1 (show (0 : Int) ≤ (xn : Int) by omega) (show (xn : Int) < F.marks.length by rw [HR.out.2.1]; omega) (HB0.out.ext (HX.out.trans HX5.out))
              rw [hF2] at ht
              have HT := Lib.hid ht
              have hxn1 : xn < n1 := by omega
              have hxI : (xn : Int) < n1 := by omega
              have HN1 := Lib.hid hn1
              clear hF2 ht hn1
              have sb5 := SB.out.ext HX5.out
              have g0 := sb5.c0
              have g1 := sb5.c1
              have g2 := sb5.c2
              have g3 := sb5.c3
              have g4 := sb5.c4
              have g5 := sb5.c5
              have g6 := sb5.c6
              have t1 : w4.cell? ⟨ob, 1, none⟩ = some (.int .i64 (xn : Int)) := by rw [cell_of_row w4 _ _ _ _ _ OB5.out]; rfl
              have t2 : w4.cell? ⟨ob, 2, none⟩ = some (.int .i64 0) := by rw [cell_of_row w4 _ _ _ _ _ OB5.out]; rfl
              have t3 : w4.cell? ⟨ob, 3, none⟩ = some (.slice E mL cL) := by rw [cell_of_row w4 _ _ _ _ _ OB5.out]; rfl
              clear sb5
              go_wp2_with (fail)
              with_reducible refine HT.out.mono ?_
              rintro e w6 ⟨A4, n4, c4, B4, m4, d4, C4, k4', e4', rfl, hx6, ho4⟩
              have hfd4 := ho4.fdOf
              have y9 := hfd4.u.max
              have y10 := hfd4.u.le
              have y11 := hfd4.v.max
              have y12 := hfd4.v.le
              have y13 := hfd4.s.max
              have y14 := hfd4.s.le
              have HO6 := Lib.hid ho4
              have HX6 := Lib.hid hx6
              clear hfd4 ho4 hx6 g0 g1 g2 g3 g4 g5 g6 t1 t2 t3
              go_upto_region 16 with (fail)
              obtain ⟨gn, hgn⟩ : ∃ gn, w6.heap.size = gn := ⟨_, rfl⟩
              have nb := Fb.new w6 F2.stripe F2.version F2.need F2.phase (.slice A4 n4 c4) (.slice B4 m4 d4) (.slice C4 k4' e4') hgn
              have x7 := Ext.alloc w6 (.cells #[.int .i64 F2.stripe, .int .i64 F2.version, .int .i64 F2.need, .int .i64 F2.phase, .slice A4 n4 c4, .slice B4 m4 d4, .slice C4 k4' e4'] 27)
              obtain ⟨w7, hw7⟩ : ∃ w7, w6.alloc (.cells #[.int .i64 F2.stripe, .int .i64 F2.version, .int .i64 F2.need, .int .i64 F2.phase, .slice A4 n4 c4, .slice B4 m4 d4, .slice C4 k4' e4'] 27) = w7 := ⟨_, rfl⟩
              rw [hw7] at nb x7 ⊢
              rw [hgn]
              have NB := Lib.hid nb
              have HO7 := Lib.hid (HO6.out.ext x7)
              have HX7 := Lib.hid (HX5.out.trans (HX6.out.trans x7))
              have X57 := Lib.hid (HX6.out.trans x7)
              have HR2 := Lib.hid (show Finds.right F2 ∧ F2.marks.length = N ∧ F2.need = F.need by rw [← HF2.out]; exact ⟨Finds.right_told HR.out.1 _ _ _, by rw [Finds.toldF_marks_length]; exact HR.out.2.1, Finds.toldF_need _ _ _ _⟩)
              have hl4 : n4 ≤ 1000 := by have := HO7.out.fdOf.u.len; have := HR2.out.2.1; omega
              have K1 := Lib.hid (fun (u : Ex w7) => marks13_any u.w F2.stripe F2.version F2.need F2.phase A4 n4 c4 (.slice B4 m4 d4) (.slice C4 k4' e4') 1 F2.marks (HO7.out.fdOf.u.ext u.ext) hl4)
              have K2 := Lib.hid (fun (u : Ex w7) => marks13_any u.w F2.stripe F2.version F2.need F2.phase A4 n4 c4 (.slice B4 m4 d4) (.slice C4 k4' e4') 2 F2.marks (HO7.out.fdOf.u.ext u.ext) hl4)
              have hS : ∀ u : Ex w7, u.w.cell? ⟨gn, 0, none⟩ = some (.int .i64 F2.stripe) ∧ u.w.cell? ⟨gn, 1, none⟩ = some (.int .i64 F2.version) ∧ u.w.cell? ⟨gn, 2, none⟩ = some (.int .i64 F2.need) ∧ u.w.cell? ⟨gn, 3, none⟩ = some (.int .i64 F2.phase) ∧ u.w.cell? ⟨gn, 4, none⟩ = some (.slice A4 n4 c4) ∧ u.w.cell? ⟨gn, 5, none⟩ = some (.slice B4 m4 d4) ∧ u.w.cell? ⟨gn, 6, none⟩ = some (.slice C4 k4' e4') :=
                fun u => ⟨(nb.ext u.ext).c0, (nb.ext u.ext).c1, (nb.ext u.ext).c2, (nb.ext u.ext).c3, (nb.ext u.ext).c4, (nb.ext u.ext).c5, (nb.ext u.ext).c6⟩
              clear nb x7 hw7 hgn
              refine wp_region_grow (by kernel_rfl) (by kernel_rfl) ?_
              repeat (go_big_quiet_step (first | (with_reducible exact Ex.call _ (K1.out _)) | (with_reducible exact Ex.call _ (K2.out _))))
              refine wpQuiet_nil ?_
              rintro _ ⟨u, rfl⟩
              have X8 := Lib.hid u.ext
              clear hS K1 K2
              obtain ⟨w8, hw8⟩ : ∃ w8, u.w = w8 := ⟨_, rfl⟩
              rw [hw8] at X8 ⊢
              clear hw8
              have nb8 := NB.out.ext X8.out
              have fb8 := SB.out.ext (HX7.out.trans X8.out)
              have v0 := nb8.c0
              have v1 := nb8.c1
              have v2 := nb8.c2
              have v3 := nb8.c3
              have v4 := nb8.c4
              have v5 := nb8.c5
              have v6 := nb8.c6
              have hc1 := Finds.cnt_le F2.marks 1
              have hc2 := Finds.cnt_le F2.marks 2
              have hw2 := Finds.which_len HR2.out.1
              have HRt := Lib.hid (fRight_any w8 F2 A4 n4 c4 B4 m4 d4 C4 k4' e4' (HO7.out.fdOf.ext X8.out) hl4 (by have := HO7.out.fdOf.v.len; have := HR2.out.2.1; omega))
              rw [decide_eq_true HR2.out.1] at HRt
              have FB8 := Lib.hid fb8
              have NB8 := Lib.hid nb8
              have hc1N : Finds.cnt F2.marks 1 ≤ N := by have := HR2.out.2.1; omega
              have hc2N : Finds.cnt F2.marks 2 ≤ N := by have := HR2.out.2.1; omega
              obtain ⟨G1, hG1⟩ : ∃ G1, Finds.cnt F2.marks 1 = G1 := ⟨_, rfl⟩
              obtain ⟨G2, hG2⟩ : ∃ G2, Finds.cnt F2.marks 2 = G2 := ⟨_, rfl⟩
              have HG1 := Lib.hid hG1
              have HG2 := Lib.hid hG2
              rw [hG1] at hc1N ⊢
              rw [hG2] at hc2N ⊢
              clear nb8 fb8 hc1 hc2 hw2 hG1 hG2
              go_wp2_with (fail)
              with_reducible refine HRt.out.mono ?_
              rintro e w9 ⟨rfl, x9⟩
              have X9 := Lib.hid x9
              have nb9 := NB8.out.ext x9
              have fb9 := FB8.out.ext x9
              clear v0 v1 v2 v3 v4 v5 v6 x9
              have v0 := nb9.c0
              have v1 := nb9.c1
              have v2 := nb9.c2
              have v3 := nb9.c3
              have v4 := nb9.c4
              have v5 := nb9.c5
              have v6 := nb9.c6
              have g0 := fb9.c0
              have g1 := fb9.c1
              have g2 := fb9.c2
              have g3 := fb9.c3
              have g4 := fb9.c4
              have g5 := fb9.c5
              have g6 := fb9.c6
              have t1 : w9.cell? ⟨ob, 1, none⟩ = some (.int .i64 (xn : Int)) := by
                have X59 := X57.out.trans (X8.out.trans X9.out)
                refine X59.cell (v := .int .i64 (xn : Int)) ?_
                rw [cell_of_row w4 _ _ _ _ _ OB5.out]
                rfl
              have hX9 := HX7.out.trans (X8.out.trans X9.out)
              obtain ⟨bA, oA, rfl, hcA⟩ := (FX.out.fd.u.ext hX9).rd.intAt hxn1
              have HSF := Lib.hid (sameFind_any w9 F2 F A4 n4 c4 B4 m4 d4 C4 k4' e4' _ _ _ _ _ _ _ _ _ (HO7.out.fdOf.ext (X8.out.trans X9.out)) (FX.out.fd.ext hX9))
              have HX9 := Lib.hid hX9
              have NB9 := Lib.hid nb9
              have FB9 := Lib.hid fb9
              obtain ⟨MX, hMX⟩ : ∃ MX, Il.get F.marks xn = MX := ⟨_, rfl⟩
              have HMX := Lib.hid hMX
              rw [hMX] at hcA
              obtain ⟨ND, hND⟩ : ∃ ND, F.need = ND := ⟨_, rfl⟩
              have HND := Lib.hid hND
              have hnd := Finds.right_need HR.out.1
              have hndN : 1 ≤ ND ∧ ND ≤ N := by have := HR.out.2.1; omega
              have hndl : ND ≤ (N : Int) := hndN.2
              have hndg : 1 ≤ ND := hndN.1
              rw [hND] at g2 HSF
              have HSTO := Lib.hid (fun (W : World) (hW : Ext w9 W) => (HF.out.ext (HX9.out.trans hW)).put ((HO7.out.ext (X8.out.trans (X9.out.trans hW))).x (lo := g) (hi := g + 1) (by have := HF.out.lt; have := HX5.out.size; omega)) (Nat.le_refl g) (by omega))
              clear nb9 fb9 hX9 hMX hND hnd hndN
              have hcase : (F2.phase = 1 ∧ (G1 : Int) < ND ∧ ¬ (N : Int) - ND < G2) ∨ (F2.phase = 2 ∧ (G1 : Int) = ND) ∨ (F2.phase = 3 ∧ (G1 : Int) < ND ∧ (N : Int) - ND < G2) := by
                have h1 := HR2.out.1.2.2.2.2.2
                rw [HR2.out.2.2, HR2.out.2.1, HG1.out, HG2.out, HND.out] at h1
                unfold Finds.phaseOk at h1
                omega
              rcases hcase with ⟨ph, u1, u2⟩ | ⟨ph, u1⟩ | ⟨ph, u1, u2⟩
              · have e1 : (F2.phase == 2) = false := by rw [ph]; rfl
                have e2 : (F2.phase == 3) = false := by rw [ph]; rfl
                have e3 : ((G1 : Int) == ND) = false := by rw [beq_eq_false_iff_ne]; omega
                clear ph
                by_cases hz : MX = 0
                · have e4 : (MX != 0) = false := by rw [bne_eq_false_iff_eq]; exact hz
                  have e5 : (MX == 0) = true := by rw [beq_iff_eq]; exact hz
                  have hF := Lib.hid (show k + 1 + Finds.cnt F2.marks 0 = N ∧ (40 ≤ i + 1 → Finds.cnt F2.marks 0 + (i + 1) ≤ 40 + N) by
                    have h1 := Finds.told_cnt0 (f := F) (i := (xn : Int)) HR.out.1 (by omega) (by rw [HR.out.2.1]; omega) HPH.out (by rw [Int.toNat_natCast]; exact HMX.out.trans hz) 0 bL
                    rw [HF2.out] at h1
                    have h2 := HR.out.2.2.1
                    have h3 := HR.out.2.2.2
                    exact ⟨by omega, fun h => by
                      by_cases h40 : 40 ≤ i
                      · have := h3 h40; omega
                      · omega⟩)
                  clear hz
                  go_upto_region 21 with (fail)
                  have ab := (NB9.out.ext (Ext.refl w9)).blk
                  have zb := (FB9.out.ext (Ext.refl w9)).blk
                  refine wp_region_lit ?_
                  refine wpList_load_row rfl 27 (.tmp 15) rfl gn rfl 27 _ (0, 0) _ ab Try.underlying27 rfl (by kernel_rfl) ?_
                  refine wpList_store_row rfl 27 (.tmp 9) (.tmp 148) rfl g (frow F2.stripe F2.version F2.need F2.phase (.slice A4 n4 c4) (.slice B4 m4 d4) (.slice C4 k4' e4')) rfl rfl 27 _ zb (by kernel_rfl) rfl (by simp [Value.oneCell']) ?_
                  have hP := Lib.hid (HSTO.out _ (Ext.refl w9))
                  have hXr := Lib.hid ((HX.out.trans (HX9.out.trans (Ext.refl w9))).row HGW.out (frow F2.stripe F2.version F2.need F2.phase (.slice A4 n4 c4) (.slice B4 m4 d4) (.slice C4 k4' e4')))
                  clear ab zb
                  go_wp2_with (fail)
                  exact ⟨⟨i + 1, k + 1, F2, by omega, by have := hF.out.1; omega, by go_num, by first | rfl | go_num, hP, Lib.hid ⟨HR2.out.1, HR2.out.2.1, hF.out.1, hF.out.2⟩, hXr⟩, by simp [intOf]; omega⟩
                · have e4 : (MX != 0) = true := by rw [bne_iff_ne]; exact hz
                  have e5 : (MX == 0) = false := by rw [beq_eq_false_iff_ne]; exact hz
                  have HSAME := Lib.hid (show F2 = F by rw [← HF2.out]; exact Finds.toldF_shut (fun h => hz (by have := h.2; rw [Int.toNat_natCast] at this; exact HMX.out.symm.trans this)) 0 bL)
                  have hF := Lib.hid (show k + Finds.cnt F2.marks 0 = N ∧ (40 ≤ i + 1 → Finds.cnt F2.marks 0 + (i + 1) ≤ 40 + N) by
                    have h2 := HR.out.2.2.1
                    rw [HSAME.out]
                    exact ⟨h2, fun h => by
                      by_cases h40 : 40 ≤ i
                      · exact absurd (HMX.out.symm.trans (HC.out h40)) hz
                      · omega⟩)
                  clear hz
                  go_wp2_with (fail)
                  with_reducible refine HSF.out.mono ?_
                  rintro e w10 ⟨he, x10⟩
                  obtain rfl : e = .returned (.bool true) := he.trans (by rw [HSAME.out, sameF_refl])
                  have X10 := Lib.hid x10
                  clear x10
                  clear g0 g1 g2 g3 g4 g5 g6 v0 v1 v2 v3 v4 v5 v6 hcA t1
                  have g4 := (FB9.out.ext X10.out).c4
                  have t1 : w10.cell? ⟨ob, 1, none⟩ = some (.int .i64 (xn : Int)) := (by refine (X57.out.trans (X8.out.trans (X9.out.trans X10.out))).cell (v := .int .i64 (xn : Int)) ?_; rw [cell_of_row w4 _ _ _ _ _ OB5.out]; rfl)
                  obtain ⟨bA2, oA2, eA2, hcA⟩ := (FX.out.fd.u.ext (HX9.out.trans X10.out)).rd.intAt hxn1
                  injection eA2 with eA2
                  injection eA2 with eA2 eA3
                  subst eA2 eA3
                  rw [HMX.out] at hcA
                  go_upto_region 21 with (fail)
                  have ab := (NB9.out.ext X10.out).blk
                  have zb := (FB9.out.ext X10.out).blk
                  refine wp_region_lit ?_
                  refine wpList_load_row rfl 27 (.tmp 15) rfl gn rfl 27 _ (0, 0) _ ab Try.underlying27 rfl (by kernel_rfl) ?_
                  refine wpList_store_row rfl 27 (.tmp 9) (.tmp 148) rfl g (frow F2.stripe F2.version F2.need F2.phase (.slice A4 n4 c4) (.slice B4 m4 d4) (.slice C4 k4' e4')) rfl rfl 27 _ zb (by kernel_rfl) rfl (by simp [Value.oneCell']) ?_
                  have hP := Lib.hid (HSTO.out _ X10.out)
                  have hXr := Lib.hid ((HX.out.trans (HX9.out.trans X10.out)).row HGW.out (frow F2.stripe F2.version F2.need F2.phase (.slice A4 n4 c4) (.slice B4 m4 d4) (.slice C4 k4' e4')))
                  clear ab zb
                  go_wp2_with (fail)
                  exact ⟨⟨i + 1, k, F2, by omega, by have := hF.out.1; omega, by go_num, by first | rfl | go_num, hP, Lib.hid ⟨HR2.out.1, HR2.out.2.1, hF.out.1, hF.out.2⟩, hXr⟩, by simp [intOf]; omega⟩
              · have e1 : (F2.phase == 2) = true := by rw [ph]; rfl
                have e2 : (F2.phase == 3) = false := by rw [ph]; rfl
                have e3 : ((G1 : Int) == ND) = true := by rw [beq_iff_eq]; exact u1
                have u2 : ¬ (G1 : Int) < ND := by omega
                clear ph u1
                by_cases hz : MX = 0
                · have e4 : (MX != 0) = false := by rw [bne_eq_false_iff_eq]; exact hz
                  have e5 : (MX == 0) = true := by rw [beq_iff_eq]; exact hz
                  have hF := Lib.hid (show k + 1 + Finds.cnt F2.marks 0 = N ∧ (40 ≤ i + 1 → Finds.cnt F2.marks 0 + (i + 1) ≤ 40 + N) by
                    have h1 := Finds.told_cnt0 (f := F) (i := (xn : Int)) HR.out.1 (by omega) (by rw [HR.out.2.1]; omega) HPH.out (by rw [Int.toNat_natCast]; exact HMX.out.trans hz) 0 bL
                    rw [HF2.out] at h1
                    have h2 := HR.out.2.2.1
                    have h3 := HR.out.2.2.2
                    exact ⟨by omega, fun h => by
                      by_cases h40 : 40 ≤ i
                      · have := h3 h40; omega
                      · omega⟩)
                  clear hz
                  go_upto_region 21 with (fail)
                  have ab := (NB9.out.ext (Ext.refl w9)).blk
                  have zb := (FB9.out.ext (Ext.refl w9)).blk
                  refine wp_region_lit ?_
                  refine wpList_load_row rfl 27 (.tmp 15) rfl gn rfl 27 _ (0, 0) _ ab Try.underlying27 rfl (by kernel_rfl) ?_
                  refine wpList_store_row rfl 27 (.tmp 9) (.tmp 148) rfl g (frow F2.stripe F2.version F2.need F2.phase (.slice A4 n4 c4) (.slice B4 m4 d4) (.slice C4 k4' e4')) rfl rfl 27 _ zb (by kernel_rfl) rfl (by simp [Value.oneCell']) ?_
                  have hP := Lib.hid (HSTO.out _ (Ext.refl w9))
                  have hXr := Lib.hid ((HX.out.trans (HX9.out.trans (Ext.refl w9))).row HGW.out (frow F2.stripe F2.version F2.need F2.phase (.slice A4 n4 c4) (.slice B4 m4 d4) (.slice C4 k4' e4')))
                  clear ab zb
                  go_wp2_with (fail)
                  exact ⟨⟨i + 1, k + 1, F2, by omega, by have := hF.out.1; omega, by go_num, by first | rfl | go_num, hP, Lib.hid ⟨HR2.out.1, HR2.out.2.1, hF.out.1, hF.out.2⟩, hXr⟩, by simp [intOf]; omega⟩
                · have e4 : (MX != 0) = true := by rw [bne_iff_ne]; exact hz
                  have e5 : (MX == 0) = false := by rw [beq_eq_false_iff_ne]; exact hz
                  have HSAME := Lib.hid (show F2 = F by rw [← HF2.out]; exact Finds.toldF_shut (fun h => hz (by have := h.2; rw [Int.toNat_natCast] at this; exact HMX.out.symm.trans this)) 0 bL)
                  have hF := Lib.hid (show k + Finds.cnt F2.marks 0 = N ∧ (40 ≤ i + 1 → Finds.cnt F2.marks 0 + (i + 1) ≤ 40 + N) by
                    have h2 := HR.out.2.2.1
                    rw [HSAME.out]
                    exact ⟨h2, fun h => by
                      by_cases h40 : 40 ≤ i
                      · exact absurd (HMX.out.symm.trans (HC.out h40)) hz
                      · omega⟩)
                  clear hz
                  go_wp2_with (fail)
                  with_reducible refine HSF.out.mono ?_
                  rintro e w10 ⟨he, x10⟩
                  obtain rfl : e = .returned (.bool true) := he.trans (by rw [HSAME.out, sameF_refl])
                  have X10 := Lib.hid x10
                  clear x10
                  clear g0 g1 g2 g3 g4 g5 g6 v0 v1 v2 v3 v4 v5 v6 hcA t1
                  have g4 := (FB9.out.ext X10.out).c4
                  have t1 : w10.cell? ⟨ob, 1, none⟩ = some (.int .i64 (xn : Int)) := (by refine (X57.out.trans (X8.out.trans (X9.out.trans X10.out))).cell (v := .int .i64 (xn : Int)) ?_; rw [cell_of_row w4 _ _ _ _ _ OB5.out]; rfl)
                  obtain ⟨bA2, oA2, eA2, hcA⟩ := (FX.out.fd.u.ext (HX9.out.trans X10.out)).rd.intAt hxn1
                  injection eA2 with eA2
                  injection eA2 with eA2 eA3
                  subst eA2 eA3
                  rw [HMX.out] at hcA
                  go_upto_region 21 with (fail)
                  have ab := (NB9.out.ext X10.out).blk
                  have zb := (FB9.out.ext X10.out).blk
                  refine wp_region_lit ?_
                  refine wpList_load_row rfl 27 (.tmp 15) rfl gn rfl 27 _ (0, 0) _ ab Try.underlying27 rfl (by kernel_rfl) ?_
                  refine wpList_store_row rfl 27 (.tmp 9) (.tmp 148) rfl g (frow F2.stripe F2.version F2.need F2.phase (.slice A4 n4 c4) (.slice B4 m4 d4) (.slice C4 k4' e4')) rfl rfl 27 _ zb (by kernel_rfl) rfl (by simp [Value.oneCell']) ?_
                  have hP := Lib.hid (HSTO.out _ X10.out)
                  have hXr := Lib.hid ((HX.out.trans (HX9.out.trans X10.out)).row HGW.out (frow F2.stripe F2.version F2.need F2.phase (.slice A4 n4 c4) (.slice B4 m4 d4) (.slice C4 k4' e4')))
                  clear ab zb
                  go_wp2_with (fail)
                  exact ⟨⟨i + 1, k, F2, by omega, by have := hF.out.1; omega, by go_num, by first | rfl | go_num, hP, Lib.hid ⟨HR2.out.1, HR2.out.2.1, hF.out.1, hF.out.2⟩, hXr⟩, by simp [intOf]; omega⟩
              · have e1 : (F2.phase == 2) = false := by rw [ph]; rfl
                have e2 : (F2.phase == 3) = true := by rw [ph]; rfl
                have e3 : ((G1 : Int) == ND) = false := by rw [beq_eq_false_iff_ne]; omega
                clear ph
                by_cases hz : MX = 0
                · have e4 : (MX != 0) = false := by rw [bne_eq_false_iff_eq]; exact hz
                  have e5 : (MX == 0) = true := by rw [beq_iff_eq]; exact hz
                  have hF := Lib.hid (show k + 1 + Finds.cnt F2.marks 0 = N ∧ (40 ≤ i + 1 → Finds.cnt F2.marks 0 + (i + 1) ≤ 40 + N) by
                    have h1 := Finds.told_cnt0 (f := F) (i := (xn : Int)) HR.out.1 (by omega) (by rw [HR.out.2.1]; omega) HPH.out (by rw [Int.toNat_natCast]; exact HMX.out.trans hz) 0 bL
                    rw [HF2.out] at h1
                    have h2 := HR.out.2.2.1
                    have h3 := HR.out.2.2.2
                    exact ⟨by omega, fun h => by
                      by_cases h40 : 40 ≤ i
                      · have := h3 h40; omega
                      · omega⟩)
                  clear hz
                  go_upto_region 21 with (fail)
                  have ab := (NB9.out.ext (Ext.refl w9)).blk
                  have zb := (FB9.out.ext (Ext.refl w9)).blk
                  refine wp_region_lit ?_
                  refine wpList_load_row rfl 27 (.tmp 15) rfl gn rfl 27 _ (0, 0) _ ab Try.underlying27 rfl (by kernel_rfl) ?_
                  refine wpList_store_row rfl 27 (.tmp 9) (.tmp 148) rfl g (frow F2.stripe F2.version F2.need F2.phase (.slice A4 n4 c4) (.slice B4 m4 d4) (.slice C4 k4' e4')) rfl rfl 27 _ zb (by kernel_rfl) rfl (by simp [Value.oneCell']) ?_
                  have hP := Lib.hid (HSTO.out _ (Ext.refl w9))
                  have hXr := Lib.hid ((HX.out.trans (HX9.out.trans (Ext.refl w9))).row HGW.out (frow F2.stripe F2.version F2.need F2.phase (.slice A4 n4 c4) (.slice B4 m4 d4) (.slice C4 k4' e4')))
                  clear ab zb
                  go_wp2_with (fail)
                  exact ⟨⟨i + 1, k + 1, F2, by omega, by have := hF.out.1; omega, by go_num, by first | rfl | go_num, hP, Lib.hid ⟨HR2.out.1, HR2.out.2.1, hF.out.1, hF.out.2⟩, hXr⟩, by simp [intOf]; omega⟩
                · have e4 : (MX != 0) = true := by rw [bne_iff_ne]; exact hz
                  have e5 : (MX == 0) = false := by rw [beq_eq_false_iff_ne]; exact hz
                  have HSAME := Lib.hid (show F2 = F by rw [← HF2.out]; exact Finds.toldF_shut (fun h => hz (by have := h.2; rw [Int.toNat_natCast] at this; exact HMX.out.symm.trans this)) 0 bL)
                  have hF := Lib.hid (show k + Finds.cnt F2.marks 0 = N ∧ (40 ≤ i + 1 → Finds.cnt F2.marks 0 + (i + 1) ≤ 40 + N) by
                    have h2 := HR.out.2.2.1
                    rw [HSAME.out]
                    exact ⟨h2, fun h => by
                      by_cases h40 : 40 ≤ i
                      · exact absurd (HMX.out.symm.trans (HC.out h40)) hz
                      · omega⟩)
                  clear hz
                  go_wp2_with (fail)
                  with_reducible refine HSF.out.mono ?_
                  rintro e w10 ⟨he, x10⟩
                  obtain rfl : e = .returned (.bool true) := he.trans (by rw [HSAME.out, sameF_refl])
                  have X10 := Lib.hid x10
                  clear x10
                  clear g0 g1 g2 g3 g4 g5 g6 v0 v1 v2 v3 v4 v5 v6 hcA t1
                  have g4 := (FB9.out.ext X10.out).c4
                  have t1 : w10.cell? ⟨ob, 1, none⟩ = some (.int .i64 (xn : Int)) := (by refine (X57.out.trans (X8.out.trans (X9.out.trans X10.out))).cell (v := .int .i64 (xn : Int)) ?_; rw [cell_of_row w4 _ _ _ _ _ OB5.out]; rfl)
                  obtain ⟨bA2, oA2, eA2, hcA⟩ := (FX.out.fd.u.ext (HX9.out.trans X10.out)).rd.intAt hxn1
                  injection eA2 with eA2
                  injection eA2 with eA2 eA3
                  subst eA2 eA3
                  rw [HMX.out] at hcA
                  go_upto_region 21 with (fail)
                  have ab := (NB9.out.ext X10.out).blk
                  have zb := (FB9.out.ext X10.out).blk
                  refine wp_region_lit ?_
                  refine wpList_load_row rfl 27 (.tmp 15) rfl gn rfl 27 _ (0, 0) _ ab Try.underlying27 rfl (by kernel_rfl) ?_
                  refine wpList_store_row rfl 27 (.tmp 9) (.tmp 148) rfl g (frow F2.stripe F2.version F2.need F2.phase (.slice A4 n4 c4) (.slice B4 m4 d4) (.slice C4 k4' e4')) rfl rfl 27 _ zb (by kernel_rfl) rfl (by simp [Value.oneCell']) ?_
                  have hP := Lib.hid (HSTO.out _ X10.out)
                  have hXr := Lib.hid ((HX.out.trans (HX9.out.trans X10.out)).row HGW.out (frow F2.stripe F2.version F2.need F2.phase (.slice A4 n4 c4) (.slice B4 m4 d4) (.slice C4 k4' e4')))
                  clear ab zb
                  go_wp2_with (fail)
                  exact ⟨⟨i + 1, k, F2, by omega, by have := hF.out.1; omega, by go_num, by first | rfl | go_num, hP, Lib.hid ⟨HR2.out.1, HR2.out.2.1, hF.out.1, hF.out.2⟩, hXr⟩, by simp [intOf]; omega⟩
    · have r1 : ¬ (i : Int) < 40 + N := by omega
      have HPH := Lib.hid (show F.phase ≠ 1 from fun h => by
        have h1 := Finds.asks_some HR.out.1 h
        have h2 := HR.out.2.2.2 (by omega)
        omega)
      clear g0 g1 g2 g3 g4 g5 g6
      obtain ⟨A2, n2, c2, B2, m2, d2, C2, kk2, e2', sb2, fx2⟩ := HF.out
      have fd2 := fx2.fd
      have ht := fTold_ok (i := 0) (er := 0) fd2 HR.out.1 (Int.le_refl 0) (show (0 : Int) < F.marks.length by have := HR.out.2.1; omega) (HBL.out.ext HX.out)
      rw [Finds.toldF_late HPH.out] at ht
      have HT := Lib.hid ht
      have z1 := fd2.u.max
      have z2 := fd2.u.le
      have z3 := fd2.v.max
      have z4 := fd2.v.le
      have z5 := fd2.s.max
      have z6 := fd2.s.le
      have h0 := sb2.c0
      have h1 := sb2.c1
      have h2 := sb2.c2
      have h3 := sb2.c3
      have h4 := sb2.c4
      have h5 := sb2.c5
      have h6 := sb2.c6
      have SB2 := Lib.hid sb2
      have FD2 := Lib.hid fd2
      have e1 : (F.phase == 1) = false := by rw [beq_eq_false_iff_ne]; exact HPH.out
      have r9 : ¬ (N : Int) < k := by omega
      clear sb2 fx2 fd2 ht
      go_wp2_with (fail)
      with_reducible refine HT.out.mono ?_
      rintro e w6 ⟨A4, n4, c4, B4, m4, d4, C4, k4', e4', rfl, hx4, ho4⟩
      have hfd4 := ho4.fdOf
      have y9 := hfd4.u.max
      have y10 := hfd4.u.le
      have y11 := hfd4.v.max
      have y12 := hfd4.v.le
      have y13 := hfd4.s.max
      have y14 := hfd4.s.le
      have HX4 := Lib.hid hx4
      have HS4 := Lib.hid (fun (W : World) (hW : Ext w6 W) => sameFind_any W F F A4 n4 c4 B4 m4 d4 C4 k4' e4' A2 n2 c2 B2 m2 d2 C2 kk2 e2' (hfd4.ext hW) (FD2.out.ext (HX4.out.trans hW)))
      have XA := Lib.hid (Ext.alloc w6 (.cells #[.int .i64 F.stripe, .int .i64 F.version, .int .i64 F.need, .int .i64 F.phase, .slice A4 n4 c4, .slice B4 m4 d4, .slice C4 k4' e4'] 27))
      have sb6 := SB2.out.ext (HX4.out.trans XA.out)
      clear h0 h1 h2 h3 h4 h5 h6 hfd4 ho4 hx4
      have h0 := sb6.c0
      have h1 := sb6.c1
      have h2 := sb6.c2
      have h3 := sb6.c3
      have h4 := sb6.c4
      have h5 := sb6.c5
      have h6 := sb6.c6
      clear sb6
      go_wp2_with (fail)
      with_reducible refine (HS4.out _ XA.out).mono ?_
      rintro e w7 ⟨he, x7⟩
      obtain rfl : e = .returned (.bool true) := he.trans (by rw [sameF_refl])
      have X7 := Lib.hid x7
      clear x7
      go_wp2_with (fail)
      refine (awake_any13 _).mono ?_
      rintro e w9 ⟨rfl, x9⟩
      go_wp2_with (fail)
      go_ret
      exact ⟨rfl, HX.out.trans (HX4.out.trans (XA.out.trans (X7.out.trans x9)))⟩
namespace findEnds
set_option maxRecDepth 100000 in
theorem walk {H : Type} {enc : TypeId × Value → H} {base : Nat} (w : World) (a0 a1 : Int) (v2 : Value) (d2 : DataW H) (p2 : List MemPlace) (v3 : Value) (d3 : DataW H) (p3 : List MemPlace) (w0 : (Lit.int .u8 a0).wf = true) (w1 : (Lit.int .u8 a1).wf = true) (o2 : Value.okWide Try.prog w .any base 52 v2) (h2 : DataW.Trod enc Try.prog w 0 (fun _ => true) true 52 v2 d2 p2) (o3 : Value.okWide Try.prog w .any base 35 v3) (h3 : DataW.Trod enc Try.prog w 0 (fun _ => true) true 35 v3 d3 p3) :
    Calls Try.prog 4 #[.int .u8 a0, .int .u8 a1, v2, v3] w fun e w' => e = .returned (.bool true) ∧ Ext w w' := by
  obtain ⟨n, rfl⟩ := wf_u8 w0
  obtain ⟨d, rfl⟩ := wf_u8 w1
  obtain ⟨A, m, c, o, rfl, ho⟩ := os13_open o2 h2
  obtain ⟨B, n3, c3, rfl⟩ := okWide_slice Try.underlying35 o3
  obtain ⟨zs, hz⟩ := IsRow.of_trod (k := .u8) (e := 5) Try.underlying35 Try.underlying5 (by kernel_rfl) h3
  obtain ⟨l, hl⟩ := hz.bytes
  exact findEnds_any w n d A m c o ho B n3 c3 l hl
end findEnds
end Go.Proofs.Ytfpglkacjecoeaa
