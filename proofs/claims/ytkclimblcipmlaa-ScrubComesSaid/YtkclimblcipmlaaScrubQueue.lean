/- ScrubQueue's walk. -/
import Derived.Test.YtkclimblcipmlaaScQ
import Derived.Test.YtkclimblcipmlaaScList
namespace Go.Proofs.Ytkclimblcipmlaa
open Go.ChangeShapes Go.WideShapes Go.ChangeAt Go.RowKit

theorem Is.kept {w w' : World} {N n c : Nat} {A : Option Addr} {l : List Int} {row : Option Nat} (h : Is w A n c l) (hf : Fr N w n A) (hg : w.grownBy w' row) (hr : ∀ k, row = some k → k < N) : Is w' A n c l ∧ Fr N w' n A := by
  refine ⟨⟨h.len, h.le, h.max, h.rd.1, fun hn => ?_⟩, fun hn => ?_⟩
  · obtain ⟨b, o, e, hc⟩ := h.rd.2 hn
    obtain ⟨b', o', cs, fr, e', hb, hN⟩ := hf hn
    rw [e] at e'
    injection e' with e'
    injection e' with e1 e2 _
    subst e1 e2
    exact ⟨b, o, e, fun j u hu => hg.cell (hc j u hu) (fun e => by have := hr b e.symm; omega)⟩
  · obtain ⟨b, o, cs, fr, e, hb, hN⟩ := hf hn
    exact ⟨b, o, cs, fr, e, (hg.block b (Array.getElem?_eq_some_iff.1 hb).1 (fun e => by have := hr b e.symm; omega)).trans hb, hN⟩
theorem Ls.kept {b0 N : Nat} {w w' : World} {s : Scrubs.S} {A : Option Addr} {n c : Nat} {B : Option Addr} {m d : Nat} {row : Option Nat} (h : Ls b0 w s A n c B m d) (fu : Fr N w n A) (fb : Fr N w m B) (hg : w.grownBy w' row) (hr : ∀ k, row = some k → k < N) : Ls b0 w' s A n c B m d :=
  ⟨(Is.kept h.u fu hg hr).1, (Is.kept h.b fb hg hr).1, (Is.kept h.u fu hg hr).2.lo, (Is.kept h.b fb hg hr).2.lo⟩
/-- The first numbers have one. -/
theorem any_succ (l : List Int) (x : Int) {k : Nat} (hk : k < l.length) : decide (x ∈ l.take (k + 1)) = (decide (x ∈ l.take k) || (Il.get l k == x)) := by
  rw [List.take_succ_eq_append_getElem hk, ← Il.get_of_lt hk, Bool.eq_iff_iff, decide_eq_true_eq, Bool.or_eq_true, decide_eq_true_eq, beq_iff_eq, List.mem_append, List.mem_singleton]
  exact or_congr Iff.rfl ⟨Eq.symm, Eq.symm⟩
theorem Fr.mono {N M : Nat} {w : World} {n : Nat} {A : Option Addr} (h : Fr N w n A) (hM : M ≤ N) : Fr M w n A := fun hn => by
  obtain ⟨b, o, cs, fr, e, hb, hN⟩ := h hn
  exact ⟨b, o, cs, fr, e, hb, by omega⟩
theorem Fr.put {N : Nat} {w : World} {n : Nat} {A : Option Addr} (h : Fr N w n A) {g : Nat} {cu : Int} {qu : Bool} {U V : Value} (hb : Sb w g cu qu U V) (cu' : Int) (qu' : Bool) (U' V' : Value) : Fr N (four w g cu' qu' U' V') n A := fun hn => by
  obtain ⟨b, o, cs, fr, e, hb', hN⟩ := h hn
  exact ⟨b, o, cs, fr, e, (four_other w g cu' qu' U' V' b (fun e => hb.noInt cs fr (by rw [← e]; exact hb'))).trans hb', hN⟩
set_option maxRecDepth 100000 in
set_option maxHeartbeats 8000000 in
theorem scrubQueue_any (w : World) (A0 A1 : Option Addr) (n0 c0 q c1 : Nat) (fl : Nat → Bool) (bs : List UInt8) (hf : Bl w A0 n0 c0 fl) (hbs : Bs w A1 q c1 bs) :
    Calls Try.prog 7 #[.slice A0 n0 c0, .slice A1 q c1] w fun e w' => e = .returned (.bool true) ∧ Ext w w' := by
  obtain ⟨i0, hi0, hz0, hz1, hz2⟩ := info_parts int_info
  have q1 := hf.max
  have q2 := hf.le
  have q3 := hbs.max
  have q4 := hbs.le
  have HF := Lib.hid hf
  have HBS := Lib.hid hbs
  clear hf hbs
  go_enter Try.func7, Try.ntmps7
  try dsimp only [List.append]
  go_wp2_with (fail)
  refine (list_law w A0 n0 c0 fl HF.out).mono ?_
  rintro e w1 ⟨v, l, rfl, hv, hl1, hl2, hl3⟩
  obtain ⟨Al, cl, rfl, hil⟩ := own_is hv.own
  have XW := Lib.hid hv.ext
  have HL := Lib.hid hil
  have HSL := Lib.hid (show Scrubs.Strs l from ⟨hl1, hl2⟩)
  have q5 := hil.max
  have q6 := hil.le
  obtain ⟨b0, hb0⟩ : ∃ b0, w1.heap.size = b0 := ⟨_, rfl⟩
  have HB0 := Lib.hid hb0
  clear hv hl1 hl2 hil hb0
  go_upto_region 2 with (fail)
  go_cut [6] (fun s6 wx => ∃ wv : World, wv = wx ∧ ∃ g, s6 = .pointer (some ⟨g, 0, none⟩) ∧ RowKit.Hid (Hs b0 wx g ⟨-1, true, [], []⟩) ∧ RowKit.Hid (b0 ≤ g) ∧ RowKit.Hid (Ext w1 wx))
  case first =>
    go_wp2_with (fail)
    refine (scNew_any _).mono ?_
    rintro e w2 ⟨rfl, x2⟩
    go_wp2_with (fail)
    go_meet
    exact ⟨_, rfl, _, rfl, Lib.hid ⟨none, 0, 0, none, 0, 0, Sb.new _ _ _ _ _ rfl, (Ls.none b0 w2 (-1) true).ext (Ext.alloc _ _)⟩, Lib.hid (by have := x2.size; have := HB0.out; omega), Lib.hid (x2.thenAlloc _)⟩
  case rest =>
    obtain ⟨w2, rfl, g, rfl, HS, HG, HX⟩ := hcut
    go_upto_block 0 with (fail)
    go_cut [7] (fun s7 wx => ∃ wv : World, wv = wx ∧ ∃ W : List Int, RowKit.Hid (wx.ownsRow (g + 1) 3 1 s7 W.length (icells W)) ∧ RowKit.Hid (Hs b0 wx g ⟨-1, true, W, []⟩) ∧ RowKit.Hid (Ext w1 wx) ∧ RowKit.Hid (Scrubs.Calm ⟨-1, true, W, []⟩))
    case first =>
      go_wp2_with (fail)
      go_loopw [7, 8, 9, 10, 12, 13, 14, 41, 52, 58] (fun v s _ _ _ _ _ _ _ _ wr => ∃ (i : Nat) (W : List Int), i ≤ q ∧ i ≤ 20 ∧ s = .int .i64 (i : Int) ∧ RowKit.Hid (wr.ownsRow (g + 1) 3 1 v W.length (icells W)) ∧ RowKit.Hid (Hs b0 wr g ⟨-1, true, W, []⟩) ∧ RowKit.Hid (Ext w1 wr) ∧ RowKit.Hid (Scrubs.Calm ⟨-1, true, W, []⟩) ∧ RowKit.Hid (W.length ≤ i)) (fun _ s _ _ _ _ _ _ _ _ _ => 20 - (intOf s).toNat)
      case atStart => exact ⟨0, [], by omega, by omega, rfl, Lib.hid (World.ownsRow_nil _ _ _ _), HS, HX, Lib.hid ⟨.inl rfl, rfl, List.nodup_nil, fun x hx => (by cases hx), by simp⟩, Lib.hid (Nat.le_refl _)⟩
      case round =>
        obtain ⟨i, W, hi, hi2, rfl, HO, HH, HXr, HC, HLI⟩ := hrel
        by_cases hlt : i < q
        · have r1 : (i : Int) < q := by omega
          by_cases h20 : i < 20
          · have r2 : (i : Int) < 20 := by omega
            obtain ⟨bb, oo, rfl, hcb⟩ := ((HBS.out.ext XW.out).ext HXr.out).rd.byte hlt
            obtain ⟨x, hx⟩ : ∃ x, Gf.get bs i = x := ⟨_, rfl⟩
            rw [hx] at hcb
            clear hx
            have hx0 := x.toNat_lt
            obtain ⟨nn, hnn⟩ : ∃ nn : Int, 1000 + (x.toNat : Int) = nn := ⟨_, rfl⟩
            have HN := Lib.hid (show 1000 ≤ nn ∧ nn ≤ 1255 by omega)
            have HNN := Lib.hid hnn
            clear hnn
            obtain ⟨Aw, cw, hvw, hiw⟩ := own_is HO.out
            subst hvw
            have q7 := hiw.max
            have q8 := hiw.le
            have HIW := Lib.hid hiw
            clear hiw
            obtain ⟨wo, rfl⟩ : ∃ wo : World, wo = wr := ⟨_, rfl⟩
            go_wp2_with (fail)
            rw [HNN.out]
            go_loopw [10, 12, 41] (fun s10 _ s41 wr => ∃ k : Nat, k ≤ W.length ∧ s41 = .int .i64 (k : Int) ∧ s10 = .bool (decide (nn ∈ W.take k)) ∧ wo = wr) (fun _ _ s _ => W.length - (intOf s).toNat)
            case atStart => exact ⟨0, Nat.zero_le _, rfl, by simp, rfl⟩
            case round =>
              obtain ⟨k, hk, rfl, rfl, rfl⟩ := hrel
              by_cases hkw : k < W.length
              · have r3 : (k : Int) < W.length := by omega
                obtain ⟨b2, o2, rfl, hc2⟩ := HIW.out.rd.intAt hkw
                have hst := any_succ W nn hkw
                obtain ⟨y, hy⟩ : ∃ y, Il.get W k = y := ⟨_, rfl⟩
                rw [hy] at hst hc2
                have HST := Lib.hid hst
                clear hst hy
                generalize decide (nn ∈ W.take k) = tb at *
                cases tb with
                | true =>
                  go_wp2_with (fail)
                  exact ⟨⟨k + 1, by omega, by go_num, by rw [HST.out]; rfl, by trivial⟩, by simp [intOf]; omega⟩
                | false =>
                  obtain ⟨yb, hyb⟩ : ∃ yb, (y == nn) = yb := ⟨_, rfl⟩
                  have HYB := Lib.hid hyb
                  go_wp2_with (fail)
                  exact ⟨⟨k + 1, by omega, by go_num, by rw [HST.out, HYB.out]; rfl, by trivial⟩, by simp [intOf]; omega⟩
              · have r3 : ¬ (k : Int) < W.length := by omega
                obtain rfl : k = W.length := by omega
                rw [List.take_length]
                obtain ⟨W', hW'⟩ : ∃ W' : List Int, (if nn ∈ W then W else W ++ [nn]) = W' := ⟨_, rfl⟩
                have HWP := Lib.hid hW'
                clear hW'
                have hurge := HC.out.urge HN.out (by show W.length < 20; have := HLI.out; omega)
                have hu1 : Scrubs.urgeE ⟨-1, true, W, []⟩ nn = 0 := hurge.1
                have hu2 : Scrubs.urgeS ⟨-1, true, W, []⟩ nn = ⟨-1, true, W', []⟩ := by rw [hurge.2.1, ← HWP.out]
                have hu3 := hurge.2.2.1
                have hu4 := hurge.2.2.2
                rw [hu2] at hu3 hu4
                have hag := hu3.again HN.out hu4
                have HU1 := Lib.hid hu1
                have HU2 := Lib.hid hu2
                have HC' := Lib.hid hu3
                have HA1 := Lib.hid hag.1
                have HA2 := Lib.hid hag.2
                clear hurge hu1 hu2 hu3 hu4 hag hcb
                go_upto_region 15 with (fail)
                go_cut [52, 13] (fun _ s13 wx => ∃ wv : World, wv = wx ∧ s13 = .int .i64 0 ∧ RowKit.Hid (wx.ownsRow (g + 1) 3 1 (.slice Aw W.length cw) W.length (icells W)) ∧ RowKit.Hid (Hs b0 wx g ⟨-1, true, W', []⟩) ∧ RowKit.Hid (Ext w1 wx) ∧ RowKit.Hid (wo.heap.size ≤ wx.heap.size))
                case first =>
                  obtain ⟨A, n, c, B, m, d, sb, ls⟩ := HH.out
                  have q9 := ls.u.max
                  have q10 := ls.u.le
                  have q11 := ls.b.max
                  have q12 := ls.b.le
                  have k0 := sb.c0
                  have k1 := sb.c1
                  have k2 := sb.c2
                  have k3 := sb.c3
                  have hu := scUrge_any wo ⟨-1, true, W, []⟩ A n c B m d nn ls.u ls.b
                  rw [HU1.out, HU2.out] at hu
                  have HU := Lib.hid hu
                  have SB := Lib.hid sb
                  have LS := Lib.hid ls
                  clear hu sb ls
                  go_wp2_with (fail)
                  refine HU.out.mono ?_
                  intro e w3 hn
                  obtain ⟨A2, n2, c2, B2, m2, d2, rfl, ls, x2⟩ := hn.ls (b0 := b0) LS.out.lu LS.out.lb
                  clear hn
                  have sb := SB.out.ext x2
                  have h0 := sb.c0
                  have h1 := sb.c1
                  have h2 := sb.c2
                  have h3 := sb.c3
                  have h4 := sb.fz
                  have SB2 := Lib.hid sb
                  have LS2 := Lib.hid ls
                  clear sb ls k0 k1 k2 k3
                  go_wp2_with (fail)
                  go_meet
                  exact ⟨_, rfl, rfl, Lib.hid (own_four (ownsRow_ext HO.out x2) (by omega) _ _ _ _), Lib.hid ⟨A2, n2, c2, B2, m2, d2, SB2.out.whole _ _ _ _, LS2.out.put SB2.out HG.out _ _ _ _⟩, Lib.hid ((HXr.out.trans x2).four (by have := HG.out; have := HB0.out; omega) _ _ _ _), Lib.hid (by have := x2.size; simpa [four] using this)⟩
                case rest =>
                  obtain ⟨w3, rfl, rfl, HO3, HH3, HX3, HZ3⟩ := hcut
                  go_upto_region 16 with (fail)
                  go_cut [58, 14] (fun _ s14 wx => ∃ wv : World, wv = wx ∧ s14 = .int .i64 0 ∧ RowKit.Hid (wx.ownsRow (g + 1) 3 1 (.slice Aw W.length cw) W.length (icells W)) ∧ RowKit.Hid (∃ A n c B m d, Sb wx g (-1) true (.slice A n c) (.slice B m d) ∧ Ls b0 wx ⟨-1, true, W', []⟩ A n c B m d ∧ Fr wo.heap.size wx n A ∧ Fr wo.heap.size wx m B) ∧ RowKit.Hid (Ext w1 wx))
                  case first =>
                    obtain ⟨A, n, c, B, m, d, sb, ls⟩ := HH3.out
                    have q9 := ls.u.max
                    have q10 := ls.u.le
                    have q11 := ls.b.max
                    have q12 := ls.b.le
                    have k0 := sb.c0
                    have k1 := sb.c1
                    have k2 := sb.c2
                    have k3 := sb.c3
                    have hu := scUrge_any w3 ⟨-1, true, W', []⟩ A n c B m d nn ls.u ls.b
                    rw [HA1.out, HA2.out] at hu
                    have HU := Lib.hid hu
                    have SB := Lib.hid sb
                    clear hu sb ls
                    go_wp2_with (fail)
                    refine HU.out.mono ?_
                    intro e w4 hn
                    obtain ⟨A2, n2, c2, B2, m2, d2, rfl, ls, f1, f2, x2⟩ := hn.fr (b0 := b0)
                    clear hn
                    have sb := SB.out.ext x2
                    have h0 := sb.c0
                    have h1 := sb.c1
                    have h2 := sb.c2
                    have h3 := sb.c3
                    have h4 := sb.fz
                    have SB2 := Lib.hid sb
                    have LS2 := Lib.hid ls
                    have F1 := Lib.hid f1
                    have F2 := Lib.hid f2
                    clear sb ls k0 k1 k2 k3 f1 f2
                    go_wp2_with (fail)
                    go_meet
                    exact ⟨_, rfl, rfl, Lib.hid (own_four (ownsRow_ext HO3.out x2) (by omega) _ _ _ _), Lib.hid ⟨A2, n2, c2, B2, m2, d2, SB2.out.whole _ _ _ _, LS2.out.put SB2.out HG.out _ _ _ _, (F1.out.mono HZ3.out).put SB2.out _ _ _ _, (F2.out.mono HZ3.out).put SB2.out _ _ _ _⟩, Lib.hid ((HX3.out.trans x2).four (by have := HG.out; have := HB0.out; omega) _ _ _ _)⟩
                  case rest =>
                    obtain ⟨w4, rfl, rfl, HO4, HH4, HX4⟩ := hcut
                    by_cases hm : nn ∈ W
                    · have hww := HWP.out
                      rw [if_pos hm] at hww
                      rw [decide_eq_true hm]
                      subst hww
                      clear hm
                      go_wp2_with (fail)
                      exact ⟨⟨i + 1, W, by omega, by omega, by go_num, HO4, by
                        obtain ⟨A, n, c, B, m, d, h1, h2, _⟩ := HH4.out
                        exact Lib.hid ⟨A, n, c, B, m, d, h1, h2⟩, HX4, HC', Lib.hid (by have := HLI.out; omega)⟩, by simp [intOf]; omega⟩
                    · have hww := HWP.out
                      rw [if_neg hm] at hww
                      rw [decide_eq_false hm]
                      subst hww
                      clear hm
                      obtain ⟨A, n, c, B, m, d, sb, ls, f1, f2⟩ := HH4.out
                      have SB := Lib.hid sb
                      have LS := Lib.hid ls
                      have F1 := Lib.hid f1
                      have F2 := Lib.hid f2
                      have HO5 := Lib.hid (ownsRow_ext HO4.out (Ext.alloc w4 (.cells #[.int .i64 nn] 3)))
                      have hwl : W.length ≤ 20 := by have := HLI.out; omega
                      have hlt4 : g + 1 ≤ w4.heap.size := by have := sb.lt; omega
                      have HBK := Lib.hid (fun k hk => (HO.out.lt k hk))
                      clear sb ls f1 f2
                      go_wp2_with (at_builtin; refine wpList_append_rd _ rfl (.tmp 72) (.tmp 74) 22 rfl (g + 1) 3 i0 _ 1 8 Try.underlying22 hi0 hz0 hz1 hz2 rfl (by omega) (.slice Aw W.length cw) W.length (icells W) rfl HO5.out (some ⟨w4.heap.size, 0, none⟩) 1 1 [.int .i64 nn] rfl (Rd.lit w4 #[_] _) (by simp [Value.oneCell']) (by omega) (by unfold maxLen; omega) (by simp; omega) ?_; intro v5 w5 hown hgr hat)
                      have hne : ∀ k, (Value.slice Aw W.length cw).ownBlock = some k → g + 1 ≤ k ∧ k < wo.heap.size := HBK.out
                      have xal := Ext.alloc w4 (.cells #[.int .i64 nn] 3)
                      refine ⟨⟨i + 1, W ++ [nn], by omega, by omega, by go_num, Lib.hid ?_, Lib.hid ⟨A, n, c, B, m, d, (SB.out.ext xal).kept hgr (fun e => by have := (hne g e).1; omega), (LS.out.ext xal).kept (F1.out.ext xal) (F2.out.ext xal) hgr (fun k hk => (hne k hk).2)⟩, Lib.hid ((HX4.out.trans xal).ofGrown hgr (fun k hk => by have := (hne k hk).1; have := HG.out; have := HB0.out; omega)), HC', Lib.hid (by have := HLI.out; simp; omega)⟩, by simp [intOf]; omega⟩
                      rw [icells_append, List.length_append]
                      exact hown
          · have r2 : ¬ (i : Int) < 20 := by omega
            go_wp2_with (fail)
            go_meet
            exact ⟨_, rfl, W, HO, HH, HXr, HC⟩
        · have r1 : ¬ (i : Int) < q := by omega
          go_wp2_with (fail)
          go_meet
          exact ⟨_, rfl, W, HO, HH, HXr, HC⟩
    case rest =>
      obtain ⟨w5, rfl, W, HO, HH, HX5, HC⟩ := hcut
      obtain ⟨Aw, cw, rfl, hiw⟩ := own_is HO.out
      have HIW := Lib.hid (show Is w5 Aw W.length cw W ∧ Lo b0 w5 W.length Aw from ⟨hiw, (own_fr HO.out (Nat.zero_le _)).lo⟩)
      have q7 := hiw.max
      have q8 := hiw.le
      have HWL := Lib.hid (show W.length ≤ 20 from HC.out.len)
      have hwl : W.length ≤ 20 := HWL.out
      clear hiw HO
      obtain ⟨m, hm⟩ : ∃ m, W.length = m := ⟨_, rfl⟩
      rw [hm] at hwl q8 HIW
      rw [hm]
      have HM := Lib.hid hm
      clear hm
      obtain ⟨L, hL⟩ : ∃ L, l.length = L := ⟨_, rfl⟩
      rw [hL] at hl3 q6 HL
      rw [hL]
      have HLL := Lib.hid hL
      clear hL
      go_wp2_with (fail)
      go_loopw [15, 16, 17, 18, 19, 86, 119] (fun s15 s16 _ _ _ _ _ wr => ∃ (a k : Nat) (cu : Int) (qu : Bool), a ≤ m ∧ k ≤ 2 * m + L ∧ s15 = .int .i64 (a : Int) ∧ s16 = .int .i64 (k : Int) ∧ RowKit.Hid (Hs b0 wr g ⟨cu, qu, W.drop a, []⟩) ∧ RowKit.Hid (Ext w1 wr) ∧ RowKit.Hid (Scrubs.Calm ⟨cu, qu, W.drop a, []⟩) ∧ RowKit.Hid (Is wr Aw m cw W ∧ Lo b0 wr m Aw) ∧ RowKit.Hid (a < m → (qu = true ∧ k ≤ 2 * a) ∨ (qu = false ∧ k + 1 ≤ 2 * a))) (fun _ s16 _ _ _ _ _ _ => 2 * m + L - (intOf s16).toNat)
      case atStart => exact ⟨0, 0, -1, true, by omega, by omega, rfl, rfl, HH, HX5, HC, HIW, Lib.hid (fun _ => .inl ⟨rfl, by omega⟩)⟩
      case round =>
        obtain ⟨a, k, cu, qu, ha, hk, rfl, rfl, HHr, HXr, HCr, HIWr, HI⟩ := hrel
        obtain ⟨wo, rfl⟩ : ∃ wo : World, wo = wr := ⟨_, rfl⟩
        by_cases hlt : k < 2 * m + L
        · have r1 : (k : Int) < 2 * (m : Int) + (L : Int) := by omega
          have hidl : (∃ x us, W.drop a = x :: us ∧ (qu = true ∨ l = [])) ∨ (l ≠ [] ∧ (qu = false ∨ W.drop a = [])) ∨ (l = [] ∧ W.drop a = []) := by
            rcases hd : W.drop a with _ | ⟨x, us⟩
            · by_cases h : l = []
              · exact .inr (.inr ⟨h, rfl⟩)
              · exact .inr (.inl ⟨h, .inr rfl⟩)
            · by_cases h : l = []
              · exact .inl ⟨x, us, rfl, .inr h⟩
              · cases qu with
                | true => exact .inl ⟨x, us, rfl, .inl rfl⟩
                | false => exact .inr (.inl ⟨h, .inl rfl⟩)
          rcases hidl with ⟨x, us, hd, hq⟩ | ⟨hne, hq⟩ | ⟨hl0, hd⟩
          · have ham : a < m := by
              have := congrArg List.length hd
              rw [List.length_drop, HM.out] at this
              simp at this
              omega
            have hgx : Il.get W a = x ∧ us = W.drop (a + 1) := by
              have h1 : W.drop a = W[a]'(by rw [HM.out]; exact ham) :: W.drop (a + 1) := List.drop_eq_getElem_cons (by rw [HM.out]; exact ham)
              rw [h1] at hd
              injection hd with h2 h3
              exact ⟨by rw [Il.get_of_lt (by rw [HM.out]; exact ham)]; exact h2, h3.symm⟩
            have hx1 := HCr.out.rng x (by show x ∈ W.drop a; rw [hd]; exact List.mem_cons_self)
            obtain ⟨he, hnn, hoe, hos, hc2⟩ := HCr.out.head HSL.out hd hq
            have hk2 : k ≤ 2 * a := by rcases HI.out ham with h | h <;> omega
            have HE := Lib.hid he
            have HNN := Lib.hid hnn
            have HOE := Lib.hid hoe
            have HOS := Lib.hid hos
            have HC2 := Lib.hid hc2
            have HGX := Lib.hid hgx
            clear he hnn hoe hos hc2 hd hq hgx
            obtain ⟨A, n, c, B, m', d, sb, ls⟩ := HHr.out
            have q9 := ls.u.max
            have q10 := ls.u.le
            have q11 := ls.b.max
            have q12 := ls.b.le
            have k0 := sb.c0
            have k1 := sb.c1
            have k2 := sb.c2
            have k3 := sb.c3
            have ht := scTake_any wo ⟨cu, qu, W.drop a, []⟩ A n c B m' d Al L cl l ls.u ls.b (HL.out.ext HXr.out)
            rw [HE.out, HNN.out] at ht
            obtain ⟨S1, hS1⟩ : ∃ S1, Scrubs.takeS ⟨cu, qu, W.drop a, []⟩ l = S1 := ⟨_, rfl⟩
            rw [hS1] at ht HOE HOS
            have HT := Lib.hid ht
            have SB := Lib.hid sb
            have LS := Lib.hid ls
            clear ht sb ls hS1
            obtain ⟨bw, ow, rfl, hcw⟩ := (HIWr.out.1).rd.intAt ham
            rw [HGX.out.1] at hcw
            have g1 : ¬ x < 1000 := by omega
            have g2 : (1000 : Int) ≤ x := by omega
            have g3 : ¬ (m : Int) ≤ (a : Int) := by omega
            have g3' : (a : Int) < m := by omega
            have g4 : (x != x) = false := by simp
            have g5 : ¬ 2 * (a : Int) < (k : Int) := by omega
            go_wp2_with (fail)
            refine HT.out.mono ?_
            intro e w3 hn
            obtain ⟨A2, n2, c2, B2, m2, d2, rfl, ls, x2⟩ := hn.ls (b0 := b0) LS.out.lu LS.out.lb
            clear hn
            have xal : Ext wo (w3.alloc (.cells #[.int .i64 S1.cur, .bool S1.queue, .slice A2 n2 c2, .slice B2 m2 d2] 24)) := x2.thenAlloc _
            have xal3 : Ext w3 (w3.alloc (.cells #[.int .i64 S1.cur, .bool S1.queue, .slice A2 n2 c2, .slice B2 m2 d2] 24)) := Ext.alloc _ _
            have q13 := ls.u.max
            have q14 := ls.u.le
            have q15 := ls.b.max
            have q16 := ls.b.le
            have ho := scOver_any _ S1 A2 n2 c2 B2 m2 d2 x (ls.u.ext xal3) (ls.b.ext xal3)
            rw [HOE.out, HOS.out] at ho
            have HOV := Lib.hid ho
            have LS2 := Lib.hid (ls.ext xal3)
            have XAL := Lib.hid xal
            clear ho ls xal3 xal x2 k0 k1 k2 k3
            have hcw2 := XAL.out.cell hcw
            clear hcw
            go_wp2_with (fail)
            refine HOV.out.mono ?_
            intro e w4 hn
            obtain ⟨A3, n3, c3, B3, m3, d3, rfl, ls, x4⟩ := hn.ls (b0 := b0) LS2.out.lu LS2.out.lb
            clear hn
            have sb := SB.out.ext (XAL.out.trans x4)
            have h0 := sb.c0
            have h1 := sb.c1
            have h2 := sb.c2
            have h3 := sb.c3
            have h4 := sb.fz
            have SB4 := Lib.hid sb
            have LS4 := Lib.hid ls
            have X4 := Lib.hid x4
            clear sb ls x4
            go_wp2_with (fail)
            refine ⟨⟨a + 1, k + 1, cu, false, by omega, by omega, by go_num, by go_num, Lib.hid ?_, Lib.hid (((HXr.out.trans XAL.out).trans X4.out).four (by have := HG.out; have := HB0.out; omega) _ _ _ _), Lib.hid (by rw [← HGX.out.2]; exact HC2.out), Lib.hid (Is.only (HIWr.out.1.ext (XAL.out.trans X4.out)) (HIWr.out.2.ext (XAL.out.trans X4.out)) HG.out SB4.out.noInt (four_other w4 g _ _ _ _)), Lib.hid (fun h => .inr ⟨rfl, by omega⟩)⟩, by simp [intOf]; omega⟩
            rw [← HGX.out.2]
            exact ⟨A3, n3, c3, B3, m3, d3, SB4.out.whole _ _ _ _, LS4.out.put SB4.out HG.out _ _ _ _⟩
          · obtain ⟨x, hxl, he, hnn, hoe, hos, hc2⟩ := HCr.out.ring HSL.out hne hq
            have hx1 := HSL.out.rng x hxl
            have hk2 : a < m → k + 1 ≤ 2 * a := fun h => by
              rcases HI.out h with ⟨h', _⟩ | ⟨_, h'⟩
              · rcases hq with h2 | h2
                · rw [h'] at h2; cases h2
                · have h3 : W.drop a = [] := h2
                  have := congrArg List.length h3
                  rw [List.length_drop, HM.out] at this
                  simp at this
                  omega
              · exact h'
            have HK2 := Lib.hid hk2
            have HE := Lib.hid he
            have HNN := Lib.hid hnn
            have HOE := Lib.hid hoe
            have HOS := Lib.hid hos
            have HC2 := Lib.hid hc2
            clear he hnn hoe hos hc2 hq hne hk2 hxl
            obtain ⟨A, n, c, B, m', d, sb, ls⟩ := HHr.out
            have q9 := ls.u.max
            have q10 := ls.u.le
            have q11 := ls.b.max
            have q12 := ls.b.le
            have k0 := sb.c0
            have k1 := sb.c1
            have k2 := sb.c2
            have k3 := sb.c3
            have ht := scTake_any wo ⟨cu, qu, W.drop a, []⟩ A n c B m' d Al L cl l ls.u ls.b (HL.out.ext HXr.out)
            rw [HE.out, HNN.out] at ht
            obtain ⟨S1, hS1⟩ : ∃ S1, Scrubs.takeS ⟨cu, qu, W.drop a, []⟩ l = S1 := ⟨_, rfl⟩
            rw [hS1] at ht HOE HOS
            have HT := Lib.hid ht
            have SB := Lib.hid sb
            have LS := Lib.hid ls
            clear ht sb ls hS1
            have g1 : ¬ (1000 : Int) ≤ x := by omega
            go_wp2_with (fail)
            refine HT.out.mono ?_
            intro e w3 hn
            obtain ⟨A2, n2, c2, B2, m2, d2, rfl, ls, x2⟩ := hn.ls (b0 := b0) LS.out.lu LS.out.lb
            clear hn
            have xal : Ext wo (w3.alloc (.cells #[.int .i64 S1.cur, .bool S1.queue, .slice A2 n2 c2, .slice B2 m2 d2] 24)) := x2.thenAlloc _
            have xal3 : Ext w3 (w3.alloc (.cells #[.int .i64 S1.cur, .bool S1.queue, .slice A2 n2 c2, .slice B2 m2 d2] 24)) := Ext.alloc _ _
            have q13 := ls.u.max
            have q14 := ls.u.le
            have q15 := ls.b.max
            have q16 := ls.b.le
            have ho := scOver_any _ S1 A2 n2 c2 B2 m2 d2 x (ls.u.ext xal3) (ls.b.ext xal3)
            rw [HOE.out, HOS.out] at ho
            have HOV := Lib.hid ho
            have LS2 := Lib.hid (ls.ext xal3)
            have XAL := Lib.hid xal
            clear ho ls xal3 xal x2 k0 k1 k2 k3
            go_wp2_with (fail)
            refine HOV.out.mono ?_
            intro e w4 hn
            obtain ⟨A3, n3, c3, B3, m3, d3, rfl, ls, x4⟩ := hn.ls (b0 := b0) LS2.out.lu LS2.out.lb
            clear hn
            have sb := SB.out.ext (XAL.out.trans x4)
            have h0 := sb.c0
            have h1 := sb.c1
            have h2 := sb.c2
            have h3 := sb.c3
            have h4 := sb.fz
            have SB4 := Lib.hid sb
            have LS4 := Lib.hid ls
            have X4 := Lib.hid x4
            clear sb ls x4
            go_wp2_with (fail)
            exact ⟨⟨a, k + 1, x, true, ha, by omega, rfl, by go_num, Lib.hid ⟨A3, n3, c3, B3, m3, d3, SB4.out.whole _ _ _ _, LS4.out.put SB4.out HG.out _ _ _ _⟩, Lib.hid (((HXr.out.trans XAL.out).trans X4.out).four (by have := HG.out; have := HB0.out; omega) _ _ _ _), HC2, Lib.hid (Is.only (HIWr.out.1.ext (XAL.out.trans X4.out)) (HIWr.out.2.ext (XAL.out.trans X4.out)) HG.out SB4.out.noInt (four_other w4 g _ _ _ _)), Lib.hid (fun h => .inl ⟨rfl, HK2.out h⟩)⟩, by simp [intOf]; omega⟩
          · subst hl0
            have he := HCr.out.idle hd
            have ham : a = m := by
              have := congrArg List.length hd
              rw [List.length_drop, HM.out] at this
              simp at this
              omega
            subst ham
            obtain ⟨A, n, c, B, m', d, sb, ls⟩ := HHr.out
            have hn0 : n = 0 := by rw [← ls.u.len]; show (W.drop a).length = 0; rw [hd]; rfl
            subst hn0
            have q9 := ls.u.max
            have q10 := ls.u.le
            have q11 := ls.b.max
            have q12 := ls.b.le
            have k0 := sb.c0
            have k1 := sb.c1
            have k2 := sb.c2
            have k3 := sb.c3
            have ht := scTake_any wo ⟨cu, qu, W.drop a, []⟩ A 0 c B m' d Al L cl [] ls.u ls.b (HL.out.ext HXr.out)
            rw [he] at ht
            have HT := Lib.hid ht
            have SB := Lib.hid sb
            have LS := Lib.hid ls
            clear ht sb ls he hd
            go_wp2_with (fail)
            refine HT.out.mono ?_
            intro e w3 hn
            obtain ⟨A2, n2, c2, B2, m2, d2, rfl, ls, x2⟩ := hn.ls (b0 := b0) LS.out.lu LS.out.lb
            clear hn ls
            have xal : Ext wo (w3.alloc (.cells #[.int .i64 (Scrubs.takeS ⟨cu, qu, W.drop a, []⟩ []).cur, .bool (Scrubs.takeS ⟨cu, qu, W.drop a, []⟩ []).queue, .slice A2 n2 c2, .slice B2 m2 d2] 24)) := x2.thenAlloc _
            have h2 := (SB.out.ext xal).c2
            clear k0 k1 k2 k3
            go_wp2_with (fail)
            refine (awake_any16 _).mono ?_
            rintro e w9 ⟨rfl, x9⟩
            go_wp2_with (fail)
            go_ret
            exact ⟨rfl, ((XW.out.trans HXr.out).trans xal).trans x9⟩
        · have r1 : ¬ (k : Int) < 2 * (m : Int) + (L : Int) := by omega
          have ham : a = m := by
            rcases Nat.lt_or_ge a m with h | h
            · rcases HI.out h with h' | h' <;> omega
            · omega
          subst ham
          obtain ⟨A, n, c, B, m', d, sb, ls⟩ := HHr.out
          have hdr : W.drop a = [] := List.drop_eq_nil_of_le (by rw [HM.out]; exact Nat.le_refl _)
          have hn0 : n = 0 := by rw [← ls.u.len]; show (W.drop a).length = 0; rw [hdr]; rfl
          subst hn0
          have q9 := ls.u.max
          have q10 := ls.u.le
          have k2 := sb.c2
          clear sb ls hdr
          go_wp2_with (fail)
          refine (awake_any16 _).mono ?_
          rintro e w9 ⟨rfl, x9⟩
          go_wp2_with (fail)
          go_ret
          exact ⟨rfl, (XW.out.trans HXr.out).trans x9⟩
namespace scrubQueue
set_option maxRecDepth 100000 in
theorem walk {H : Type} {enc : TypeId × Value → H} {base : Nat} (w : World) (v0 : Value) (d0 : DataW H) (p0 : List MemPlace) (A1 : Option Addr) (n1 c1 : Nat) (z1 : List Int) (o0 : Value.okWide Try.prog w .any base 40 v0) (h0 : DataW.Trod enc Try.prog w 0 (fun _ => true) true 40 v0 d0 p0) (w1 : IsRow .u8 w A1 n1 c1 z1) :
    Calls Try.prog 7 #[v0, .slice A1 n1 c1] w fun e w' => e = .returned (.bool true) ∧ Ext w w' := by
  obtain ⟨A, n, c, fl, rfl, hf⟩ := bl_open o0 h0
  obtain ⟨bs, hb⟩ := w1.bytes
  exact scrubQueue_any w A A1 n c n1 c1 fl bs hf hb
end scrubQueue
end Go.Proofs.Ytkclimblcipmlaa
