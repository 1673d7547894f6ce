/- ScrubOnce's walk. -/
import Derived.Test.YtkclimblcipmlaaScOps
import Derived.Test.YtkclimblcipmlaaScrubQueue
namespace Go.Proofs.Ytkclimblcipmlaa
open Go.ChangeShapes Go.WideShapes Go.ChangeAt Go.RowKit

set_option maxRecDepth 100000 in
set_option maxHeartbeats 8000000 in
theorem scrubOnce_any (w : World) (A0 A1 : Option Addr) (n0 c0 q c1 : Nat) (fl : Nat → Bool) (op : Nat → Op16) (hf : Bl w A0 n0 c0 fl) (hos : Oss w A1 q c1 op) :
    Calls Try.prog 6 #[.slice A0 n0 c0, .slice A1 q c1] w fun e w' => e = .returned (.bool true) ∧ Ext w w' := by
  have q1 := hf.max
  have q2 := hf.le
  have q3 := hos.max
  have q4 := hos.le
  have HF := Lib.hid hf
  have HOS := Lib.hid hos
  clear hf hos
  go_enter Try.func6, Try.ntmps6
  try dsimp only [List.append]
  go_wp2_with (fail)
  refine (list_law w A0 n0 c0 fl HF.out).mono ?_
  rintro e w1 ⟨v, l, rfl, hv, hl1, hl2, hl3⟩
  obtain ⟨Al, cl, rfl, hil⟩ := own_is hv.own
  have XW := Lib.hid hv.ext
  have q5 := hil.max
  have q6 := hil.le
  obtain ⟨L, hL⟩ : ∃ L, l.length = L := ⟨_, rfl⟩
  rw [hL] at hl3 q6 hil
  rw [hL]
  have HL := Lib.hid hil
  obtain ⟨b0, hb0⟩ : ∃ b0, w1.heap.size = b0 := ⟨_, rfl⟩
  have HB0 := Lib.hid hb0
  clear hv hl1 hl2 hil hb0 hL
  go_upto_region 2 with (fail)
  go_cut [6] (fun s6 wx => ∃ wv : World, wv = wx ∧ ∃ g, s6 = .pointer (some ⟨g, 0, none⟩) ∧ RowKit.Hid (Hs b0 wx g ⟨-1, true, [], []⟩) ∧ RowKit.Hid (b0 ≤ g) ∧ RowKit.Hid (Ext w1 wx))
  case first =>
    go_wp2_with (fail)
    refine (scNew_any _).mono ?_
    rintro e w2 ⟨rfl, x2⟩
    go_wp2_with (fail)
    go_meet
    exact ⟨_, rfl, _, rfl, Lib.hid ⟨none, 0, 0, none, 0, 0, Sb.new _ _ _ _ _ rfl, (Ls.none b0 w2 (-1) true).ext (Ext.alloc _ _)⟩, Lib.hid (by have := x2.size; have := HB0.out; omega), Lib.hid (x2.thenAlloc _)⟩
  case rest =>
    obtain ⟨w2, rfl, g, rfl, HS, HG, HX⟩ := hcut
    go_upto_block 0 with (fail)
    go_cut [] (fun wx => ∃ wv : World, wv = wx ∧ Ext w1 wx)
    case rest =>
      obtain ⟨w6, rfl, x6⟩ := hcut
      go_wp2_with (fail)
      refine (awake_any16 _).mono ?_
      rintro e w9 ⟨rfl, x9⟩
      go_wp2_with (fail)
      go_ret
      exact ⟨rfl, (XW.out.trans x6).trans x9⟩
    case first =>
      go_wp2_with (fail)
      go_loopw [7, 8, 9, 10, 11, 12, 13, 14, 16, 18, 20, 22, 37, 54, 68, 82, 96] (fun s _ _ _ _ _ _ _ _ _ _ _ _ _ _ _ _ wr => ∃ (i : Nat) (s0 : Scrubs.S), i ≤ q ∧ i ≤ 150 ∧ s = .int .i64 (i : Int) ∧ RowKit.Hid (Hs b0 wr g s0) ∧ RowKit.Hid (Scrubs.right s0) ∧ RowKit.Hid (Ext w1 wr)) (fun s _ _ _ _ _ _ _ _ _ _ _ _ _ _ _ _ _ => 150 - (intOf s).toNat)
      case atStart => exact ⟨0, _, by omega, by omega, rfl, HS, Lib.hid (Scrubs.right_iff.2 (by decide)), HX⟩
      case round =>
        obtain ⟨i, s0, hi, hi2, rfl, HH, HR, HXr⟩ := hrel
        by_cases hlt : i < q
        · have r1 : (i : Int) < q := by omega
          by_cases h20 : i < 150
          · have r2 : (i : Int) < 150 := by omega
            obtain ⟨wo, rfl⟩ : ∃ wo : World, wo = wr := ⟨_, rfl⟩
            obtain ⟨A, n, c, B, m, d, sb, ls⟩ := HH.out
            have k0 := sb.c0
            have k1 := sb.c1
            have k2 := sb.c2
            have k3 := sb.c3
            have q7 := ls.u.max
            have q8 := ls.u.le
            have q9 := ls.b.max
            have q10 := ls.b.le
            obtain ⟨wq, hwq⟩ : ∃ wq, wo.alloc (.cells #[.int .i64 s0.cur, .bool s0.queue, .slice A n c, .slice B m d] 24) = wq := ⟨_, rfl⟩
            have xq : Ext wo wq := by rw [← hwq]; exact Ext.alloc _ _
            have w8 : Sb wq wo.heap.size s0.cur s0.queue (.slice A n c) (.slice B m d) := by rw [← hwq]; exact Sb.new _ _ _ _ _ rfl
            have HWQ := Lib.hid hwq
            have SBq := Lib.hid (sb.ext xq)
            have LSq := Lib.hid (ls.ext xq)
            have SB8 := Lib.hid w8
            have XQ := Lib.hid xq
            obtain ⟨bo, oo, rfl, ho0, ho1, ho2, ho3⟩ := ((HOS.out.ext XW.out).ext (HXr.out.trans xq)).at_ i hlt
            obtain ⟨ki, hki⟩ : ∃ x, (op i).kind = x := ⟨_, rfl⟩
            obtain ⟨ni, hni⟩ : ∃ x, (op i).n = x := ⟨_, rfl⟩
            rw [hki] at ho0
            rw [hni] at ho1
            generalize (op i).A = Lo_ at *
            generalize (op i).m = Lm at *
            generalize (op i).c = Lc at *
            have hml : m ≤ 1000 := by have := HR.out.2.2.1; have := ls.b.len; omega
            have HD := Lib.hid (fun (W : World) (hW : Ext wq W) => does_law b0 W (by have := (HXr.out.trans (xq.trans hW)).size; have := HB0.out; omega) s0 A n c B m d (LSq.out.ext hW) ki ni Lo_ Lm Lc Al L cl l (HL.out.ext (HXr.out.trans (xq.trans hW))) (by omega))
            have HRS := Lib.hid (Scrubs.right_does HR.out ki ni l)
            have HFA := Lib.hid (fun h => Scrubs.does_facts (s := s0) (k := ki) (n := ni) (l := l) h)
            obtain ⟨S', hS'⟩ : ∃ S', Scrubs.doesS s0 ki ni l = S' := ⟨_, rfl⟩
            obtain ⟨X, hX⟩ : ∃ X, Scrubs.doesN s0 ki l = X := ⟨_, rfl⟩
            rw [hS'] at HD HRS HFA
            rw [hX] at HD HFA
            have j0 := SBq.out.c0
            have j1 := SBq.out.c1
            have j2 := SBq.out.c2
            have j3 := SBq.out.c3
            clear hwq xq w8 sb ls ho3 hki hni hS' hX
            go_upto_region 7 with (fail)
            rw [HWQ.out]
            clear k0 k1 k2 k3
            go_cut [9, 10, 37] (fun s9 s10 _ wx => ∃ wv : World, wv = wx ∧ ∃ g9, s9 = .pointer (some ⟨g9, 0, none⟩) ∧ s10 = .int .i64 X ∧ RowKit.Hid (Hs b0 wx g9 S') ∧ RowKit.Hid (Ext wq wx))
            case first =>
              have y0 := (Ext.alloc wq.drew (.cells #[.int .i64 0, .bool false, .slice none 0 0, .slice none 0 0] 24)).cell ((Ext.drew wq).cell j0)
              have y1 := (Ext.alloc wq.drew (.cells #[.int .i64 0, .bool false, .slice none 0 0, .slice none 0 0] 24)).cell ((Ext.drew wq).cell j1)
              have y2 := (Ext.alloc wq.drew (.cells #[.int .i64 0, .bool false, .slice none 0 0, .slice none 0 0] 24)).cell ((Ext.drew wq).cell j2)
              have y3 := (Ext.alloc wq.drew (.cells #[.int .i64 0, .bool false, .slice none 0 0, .slice none 0 0] 24)).cell ((Ext.drew wq).cell j3)
              have y4 := (Ext.alloc wq.drew (.cells #[.int .i64 0, .bool false, .slice none 0 0, .slice none 0 0] 24)).cell ((Ext.drew wq).cell ho0)
              have y5 := (Ext.alloc wq.drew (.cells #[.int .i64 0, .bool false, .slice none 0 0, .slice none 0 0] 24)).cell ((Ext.drew wq).cell ho1)
              have y6 := (Ext.alloc wq.drew (.cells #[.int .i64 0, .bool false, .slice none 0 0, .slice none 0 0] 24)).cell ((Ext.drew wq).cell ho2)
              have v0 := (Ext.drew (wq.alloc (.cells #[.int .i64 0, .bool false, .slice none 0 0, .slice none 0 0] 24))).cell ((Ext.alloc wq (.cells #[.int .i64 0, .bool false, .slice none 0 0, .slice none 0 0] 24)).cell j0)
              have v1 := (Ext.drew (wq.alloc (.cells #[.int .i64 0, .bool false, .slice none 0 0, .slice none 0 0] 24))).cell ((Ext.alloc wq (.cells #[.int .i64 0, .bool false, .slice none 0 0, .slice none 0 0] 24)).cell j1)
              have v2 := (Ext.drew (wq.alloc (.cells #[.int .i64 0, .bool false, .slice none 0 0, .slice none 0 0] 24))).cell ((Ext.alloc wq (.cells #[.int .i64 0, .bool false, .slice none 0 0, .slice none 0 0] 24)).cell j2)
              have v3 := (Ext.drew (wq.alloc (.cells #[.int .i64 0, .bool false, .slice none 0 0, .slice none 0 0] 24))).cell ((Ext.alloc wq (.cells #[.int .i64 0, .bool false, .slice none 0 0, .slice none 0 0] 24)).cell j3)
              have v4 := (Ext.drew (wq.alloc (.cells #[.int .i64 0, .bool false, .slice none 0 0, .slice none 0 0] 24))).cell ((Ext.alloc wq (.cells #[.int .i64 0, .bool false, .slice none 0 0, .slice none 0 0] 24)).cell ho0)
              have v5 := (Ext.drew (wq.alloc (.cells #[.int .i64 0, .bool false, .slice none 0 0, .slice none 0 0] 24))).cell ((Ext.alloc wq (.cells #[.int .i64 0, .bool false, .slice none 0 0, .slice none 0 0] 24)).cell ho1)
              have v6 := (Ext.drew (wq.alloc (.cells #[.int .i64 0, .bool false, .slice none 0 0, .slice none 0 0] 24))).cell ((Ext.alloc wq (.cells #[.int .i64 0, .bool false, .slice none 0 0, .slice none 0 0] 24)).cell ho2)
              go_region_with (first
                | (((with_reducible refine (HD.out _ (Ext.drew _)).mono ?_); (rintro e w3 ⟨A2, n2, c2, B2, m2, d2, rfl, ls2, x2⟩; have z2 : Ext wq w3 := (Ext.drew _).trans x2; have LS2 := Lib.hid ls2; clear ls2 x2)))
                | (((with_reducible refine (HD.out _ ((Ext.drew _).thenAlloc _)).mono ?_); (rintro e w3 ⟨A2, n2, c2, B2, m2, d2, rfl, ls2, x2⟩; have z2 : Ext wq w3 := ((Ext.drew _).thenAlloc _).trans x2; have nb := (Sb.new wq.drew 0 false (.slice none 0 0) (.slice none 0 0) rfl).ext x2; have t0 := nb.c0; have t1 := nb.c1; have t2 := nb.c2; have t3 := nb.c3; have t4 := nb.fz 0; have t5 := nb.fz 1; have t6 := nb.fz 2; have t7 := nb.fz 3; have NB := Lib.hid nb; have LS2 := Lib.hid ls2; clear ls2 x2 nb)))
                | (((with_reducible refine (HD.out _ ((Ext.alloc _ _).thenDrew)).mono ?_); (rintro e w3 ⟨A2, n2, c2, B2, m2, d2, rfl, ls2, x2⟩; have z2 : Ext wq w3 := ((Ext.alloc _ _).thenDrew).trans x2; have nb := ((Sb.new wq 0 false (.slice none 0 0) (.slice none 0 0) rfl).ext (Ext.drew _)).ext x2; have t0 := nb.c0; have t1 := nb.c1; have t2 := nb.c2; have t3 := nb.c3; have t4 := nb.fz 0; have t5 := nb.fz 1; have t6 := nb.fz 2; have t7 := nb.fz 3; have NB := Lib.hid nb; have LS2 := Lib.hid ls2; clear ls2 x2 nb)))
                | fail)
              all_goals
                go_wp2_with (fail)
                go_meet
                first
                  | exact ⟨_, rfl, _, rfl, rfl, Lib.hid ⟨A2, n2, c2, B2, m2, d2, Sb.new _ _ _ _ _ rfl, LS2.out.ext (Ext.alloc _ _)⟩, Lib.hid (z2.thenAlloc _)⟩
                  | exact ⟨_, rfl, _, rfl, rfl, Lib.hid ⟨A2, n2, c2, B2, m2, d2, NB.out.whole _ _ _ _, LS2.out.put NB.out (by have := (HXr.out.trans XQ.out).size; have := HB0.out; simp; omega) _ _ _ _⟩, Lib.hid (z2.four (by simp) _ _ _ _)⟩
            case rest =>
              obtain ⟨w4, rfl, g9, rfl, rfl, HN, HX4⟩ := hcut
              obtain ⟨A', n', c', B', m', d', sb9, ls9⟩ := HN.out
              have hr9 := scRight_any w4 S' A' n' c' B' m' d' ls9.u ls9.b
              rw [decide_eq_true HRS.out] at hr9
              have HR9 := Lib.hid hr9
              have k0 := sb9.c0
              have k1 := sb9.c1
              have k2 := sb9.c2
              have k3 := sb9.c3
              have q11 := ls9.u.max
              have q12 := ls9.u.le
              have q13 := ls9.b.max
              have q14 := ls9.b.le
              have SB9 := Lib.hid sb9
              have LS9 := Lib.hid ls9
              clear sb9 ls9 hr9 j0 j1 j2 j3 ho0 ho1 ho2
              go_wp2_with (fail)
              refine HR9.out.mono ?_
              rintro e w5 ⟨rfl, x5⟩
              have HX5 := Lib.hid (HX4.out.trans x5)
              have s5 := SBq.out.ext HX5.out
              have s8 := SB8.out.ext HX5.out
              have s9 := SB9.out.ext x5
              have HU5 := Lib.hid (LSq.out.u.ext HX5.out)
              have HB5 := Lib.hid (LSq.out.b.ext HX5.out)
              have HB9 := Lib.hid (LS9.out.b.ext x5)
              have HL5 := Lib.hid (HL.out.ext (HXr.out.trans (XQ.out.trans HX5.out)))
              have e0 := s9.c0
              have e1 := s9.c1
              have e2 := s9.c2
              have e3 := s9.c3
              have f0 := s5.c0
              have f1 := s5.c1
              have f2 := s5.c2
              have f3 := s5.c3
              have f4 := s5.fz
              have h2 := s8.c2
              have h3 := s8.c3
              have S5 := Lib.hid s5
              have HFIN := Lib.hid (show Hs b0 (four w5 g S'.cur S'.queue (.slice A' n' c') (.slice B' m' d')) g S' ∧ Ext w1 (four w5 g S'.cur S'.queue (.slice A' n' c') (.slice B' m' d')) from ⟨⟨A', n', c', B', m', d', s5.whole _ _ _ _, (LS9.out.ext x5).put s5 HG.out _ _ _ _⟩, (HXr.out.trans (XQ.out.trans HX5.out)).four (by have := HG.out; have := HB0.out; omega) _ _ _ _⟩)
              clear s5 s8 s9 x5 k0 k1 k2 k3
              by_cases hx0 : 0 ≤ X
              · obtain ⟨fa1, fa2, fa3, fa4⟩ := HFA.out hx0
                have F1 := Lib.hid fa1
                have F2 := Lib.hid fa2
                have F3 := Lib.hid fa3
                have hmm : m' = m + 1 := by have := HB9.out.len; have := HB5.out.len; omega
                subst hmm
                clear fa1 fa2 fa3 fa4
                go_upto_block 2 with (fail)
                go_cut [11] (fun sf wx => ∃ wv : World, wv = wx ∧ w5 = wx ∧ sf = .bool (decide (X ∈ l)))
                case first =>
                  go_wp2_with (fail)
                  go_loopw [11, 16, 54] (fun sf _ si wr => ∃ k : Nat, k ≤ L ∧ si = .int .i64 (k : Int) ∧ sf = .bool (decide (X ∈ (l).take k)) ∧ w5 = wr) (fun _ _ s _ => L - (intOf s).toNat)
                  case atStart => exact ⟨0, Nat.zero_le _, rfl, by simp, rfl⟩
                  case round =>
                    obtain ⟨k, hk, rfl, rfl, rfl⟩ := hrel
                    by_cases hkw : k < L
                    · have r3 : (k : Int) < (L : Nat) := by omega
                      obtain ⟨b2, o2, rfl, hc2⟩ := HL5.out.rd.intAt hkw
                      have hst := any_succ (l) X (k := k) (by rw [HL5.out.len]; exact hkw)
                      obtain ⟨y, hy⟩ : ∃ y, Il.get (l) k = y := ⟨_, rfl⟩
                      rw [hy] at hst hc2
                      have HST := Lib.hid hst
                      clear hst hy
                      generalize decide (X ∈ (l).take k) = tb at *
                      cases tb with
                      | true =>
                        go_wp2_with (fail)
                        exact ⟨⟨k + 1, by omega, by go_num, by rw [HST.out]; rfl, by trivial⟩, by simp [intOf]; omega⟩
                      | false =>
                        obtain ⟨yb, hyb⟩ : ∃ yb, (y == X) = yb := ⟨_, rfl⟩
                        have HYB := Lib.hid hyb
                        go_wp2_with (fail)
                        exact ⟨⟨k + 1, by omega, by go_num, by rw [HST.out, HYB.out]; rfl, by trivial⟩, by simp [intOf]; omega⟩
                    · have r3 : ¬ (k : Int) < (L : Nat) := by omega
                      obtain rfl : k = L := by omega
                      go_wp2_with (fail)
                      go_meet
                      exact ⟨_, rfl, rfl, by rw [List.take_of_length_le (by rw [HL5.out.len]; exact Nat.le_refl _)]⟩
                case rest =>
                  obtain ⟨_, rfl, rfl, rfl⟩ := hcut
                  go_upto_block 4 with (fail)
                  go_cut [12] (fun sf wx => ∃ wv : World, wv = wx ∧ w5 = wx ∧ sf = .bool (decide (X ∈ s0.urged)))
                  case first =>
                    go_wp2_with (fail)
                    go_loopw [12, 18, 68] (fun sf _ si wr => ∃ k : Nat, k ≤ n ∧ si = .int .i64 (k : Int) ∧ sf = .bool (decide (X ∈ (s0.urged).take k)) ∧ w5 = wr) (fun _ _ s _ => n - (intOf s).toNat)
                    case atStart => exact ⟨0, Nat.zero_le _, rfl, by simp, rfl⟩
                    case round =>
                      obtain ⟨k, hk, rfl, rfl, rfl⟩ := hrel
                      by_cases hkw : k < n
                      · have r3 : (k : Int) < (n : Nat) := by omega
                        obtain ⟨b2, o2, rfl, hc2⟩ := HU5.out.rd.intAt hkw
                        have hst := any_succ (s0.urged) X (k := k) (by rw [HU5.out.len]; exact hkw)
                        obtain ⟨y, hy⟩ : ∃ y, Il.get (s0.urged) k = y := ⟨_, rfl⟩
                        rw [hy] at hst hc2
                        have HST := Lib.hid hst
                        clear hst hy
                        generalize decide (X ∈ (s0.urged).take k) = tb at *
                        cases tb with
                        | true =>
                          go_wp2_with (fail)
                          exact ⟨⟨k + 1, by omega, by go_num, by rw [HST.out]; rfl, by trivial⟩, by simp [intOf]; omega⟩
                        | false =>
                          obtain ⟨yb, hyb⟩ : ∃ yb, (y == X) = yb := ⟨_, rfl⟩
                          have HYB := Lib.hid hyb
                          go_wp2_with (fail)
                          exact ⟨⟨k + 1, by omega, by go_num, by rw [HST.out, HYB.out]; rfl, by trivial⟩, by simp [intOf]; omega⟩
                      · have r3 : ¬ (k : Int) < (n : Nat) := by omega
                        obtain rfl : k = n := by omega
                        go_wp2_with (fail)
                        go_meet
                        exact ⟨_, rfl, rfl, by rw [List.take_of_length_le (by rw [HU5.out.len]; exact Nat.le_refl _)]⟩
                  case rest =>
                    obtain ⟨_, rfl, rfl, rfl⟩ := hcut
                    go_upto_block 6 with (fail)
                    go_cut [13] (fun sf wx => ∃ wv : World, wv = wx ∧ w5 = wx ∧ sf = .bool (decide (X ∈ s0.busy)))
                    case first =>
                      go_wp2_with (fail)
                      go_loopw [13, 20, 82] (fun sf _ si wr => ∃ k : Nat, k ≤ m ∧ si = .int .i64 (k : Int) ∧ sf = .bool (decide (X ∈ (s0.busy).take k)) ∧ w5 = wr) (fun _ _ s _ => m - (intOf s).toNat)
                      case atStart => exact ⟨0, Nat.zero_le _, rfl, by simp, rfl⟩
                      case round =>
                        obtain ⟨k, hk, rfl, rfl, rfl⟩ := hrel
                        by_cases hkw : k < m
                        · have r3 : (k : Int) < (m : Nat) := by omega
                          obtain ⟨b2, o2, rfl, hc2⟩ := HB5.out.rd.intAt hkw
                          have hst := any_succ (s0.busy) X (k := k) (by rw [HB5.out.len]; exact hkw)
                          obtain ⟨y, hy⟩ : ∃ y, Il.get (s0.busy) k = y := ⟨_, rfl⟩
                          rw [hy] at hst hc2
                          have HST := Lib.hid hst
                          clear hst hy
                          generalize decide (X ∈ (s0.busy).take k) = tb at *
                          cases tb with
                          | true =>
                            go_wp2_with (fail)
                            exact ⟨⟨k + 1, by omega, by go_num, by rw [HST.out]; rfl, by trivial⟩, by simp [intOf]; omega⟩
                          | false =>
                            obtain ⟨yb, hyb⟩ : ∃ yb, (y == X) = yb := ⟨_, rfl⟩
                            have HYB := Lib.hid hyb
                            go_wp2_with (fail)
                            exact ⟨⟨k + 1, by omega, by go_num, by rw [HST.out, HYB.out]; rfl, by trivial⟩, by simp [intOf]; omega⟩
                        · have r3 : ¬ (k : Int) < (m : Nat) := by omega
                          obtain rfl : k = m := by omega
                          go_wp2_with (fail)
                          go_meet
                          exact ⟨_, rfl, rfl, by rw [List.take_of_length_le (by rw [HB5.out.len]; exact Nat.le_refl _)]⟩
                    case rest =>
                      obtain ⟨_, rfl, rfl, rfl⟩ := hcut
                      go_upto_block 8 with (fail)
                      go_cut [14] (fun sf wx => ∃ wv : World, wv = wx ∧ w5 = wx ∧ sf = .bool (decide (X ∈ S'.busy)))
                      case first =>
                        go_wp2_with (fail)
                        go_loopw [14, 22, 96] (fun sf _ si wr => ∃ k : Nat, k ≤ (m + 1) ∧ si = .int .i64 (k : Int) ∧ sf = .bool (decide (X ∈ (S'.busy).take k)) ∧ w5 = wr) (fun _ _ s _ => (m + 1) - (intOf s).toNat)
                        case atStart => exact ⟨0, Nat.zero_le _, rfl, by simp, rfl⟩
                        case round =>
                          obtain ⟨k, hk, rfl, rfl, rfl⟩ := hrel
                          by_cases hkw : k < (m + 1)
                          · have r3 : (k : Int) < ((m + 1) : Nat) := by omega
                            obtain ⟨b2, o2, rfl, hc2⟩ := HB9.out.rd.intAt hkw
                            have hst := any_succ (S'.busy) X (k := k) (by rw [HB9.out.len]; exact hkw)
                            obtain ⟨y, hy⟩ : ∃ y, Il.get (S'.busy) k = y := ⟨_, rfl⟩
                            rw [hy] at hst hc2
                            have HST := Lib.hid hst
                            clear hst hy
                            generalize decide (X ∈ (S'.busy).take k) = tb at *
                            cases tb with
                            | true =>
                              go_wp2_with (fail)
                              exact ⟨⟨k + 1, by omega, by go_num, by rw [HST.out]; rfl, by trivial⟩, by simp [intOf]; omega⟩
                            | false =>
                              obtain ⟨yb, hyb⟩ : ∃ yb, (y == X) = yb := ⟨_, rfl⟩
                              have HYB := Lib.hid hyb
                              go_wp2_with (fail)
                              exact ⟨⟨k + 1, by omega, by go_num, by rw [HST.out, HYB.out]; rfl, by trivial⟩, by simp [intOf]; omega⟩
                          · have r3 : ¬ (k : Int) < ((m + 1) : Nat) := by omega
                            obtain rfl : k = (m + 1) := by omega
                            go_wp2_with (fail)
                            go_meet
                            exact ⟨_, rfl, rfl, by rw [List.take_of_length_le (by rw [HB9.out.len]; exact Nat.le_refl _)]⟩
                      case rest =>
                        obtain ⟨_, rfl, rfl, rfl⟩ := hcut
                        rw [decide_eq_false F1.out, decide_eq_true F3.out]
                        have e9 : (((m + 1 : Nat) : Int) != (m : Int) + 1) = false := by rw [bne_eq_false_iff_eq]; omega
                        by_cases hp1 : X ∈ l
                        · rw [decide_eq_true hp1]
                          clear hp1
                          go_wp2_with (fail)
                          exact ⟨⟨i + 1, S', by omega, by omega, by go_num, Lib.hid HFIN.out.1, HRS, Lib.hid HFIN.out.2⟩, by simp [intOf]; omega⟩
                        · have hp2 := F2.out.resolve_left hp1
                          rw [decide_eq_false hp1, decide_eq_true hp2]
                          clear hp1 hp2
                          go_wp2_with (fail)
                          exact ⟨⟨i + 1, S', by omega, by omega, by go_num, Lib.hid HFIN.out.1, HRS, Lib.hid HFIN.out.2⟩, by simp [intOf]; omega⟩
              · have hx1 : ¬ 0 ≤ X := hx0
                go_wp2_with (fail)
                exact ⟨⟨i + 1, S', by omega, by omega, by go_num, Lib.hid HFIN.out.1, HRS, Lib.hid HFIN.out.2⟩, by simp [intOf]; omega⟩
          · have r2 : ¬ (i : Int) < 150 := by omega
            go_wp2_with (fail)
            go_meet
            exact ⟨_, rfl, HXr.out⟩
        · have r1 : ¬ (i : Int) < q := by omega
          go_wp2_with (fail)
          go_meet
          exact ⟨_, rfl, HXr.out⟩
namespace scrubOnce
set_option maxRecDepth 100000 in
theorem walk {H : Type} {enc : TypeId × Value → H} {base : Nat} (w : World) (v0 : Value) (d0 : DataW H) (p0 : List MemPlace) (v1 : Value) (d1 : DataW H) (p1 : List MemPlace) (o0 : Value.okWide Try.prog w .any base 40 v0) (h0 : DataW.Trod enc Try.prog w 0 (fun _ => true) true 40 v0 d0 p0) (o1 : Value.okWide Try.prog w .any base 34 v1) (h1 : DataW.Trod enc Try.prog w 0 (fun _ => true) true 34 v1 d1 p1) :
    Calls Try.prog 6 #[v0, v1] w fun e w' => e = .returned (.bool true) ∧ Ext w w' := by
  obtain ⟨A, n, c, fl, rfl, hf⟩ := bl_open o0 h0
  obtain ⟨A', n', c', op, rfl, ho⟩ := os_open o1 h1
  exact scrubOnce_any w A A' n c n' c' fl op hf ho
end scrubOnce
end Go.Proofs.Ytkclimblcipmlaa
