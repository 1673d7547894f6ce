/- The contract of chapter 16's awake: it returns true. -/
import Derived.Test.YtkclimblcipmlaaScHold
namespace Scrubs
open Il
theorem srt_eq {l m : List Int} (hp : l.Perm m) (hs : m.Pairwise (· ≤ ·)) : srt l = m :=
  List.Perm.eq_of_pairwise (le := (· ≤ ·)) (fun a b _ _ h1 h2 => by omega) (srt_pairwise l) hs ((srt_perm l).trans hp)
theorem right_iff {s : S} : right s ↔ (s.cur = -1 ∨ stripe s.cur) ∧ s.urged.length ≤ 1000 ∧ s.busy.length ≤ 1000 ∧ rising 0 great s.busy ∧ (∀ x ∈ s.urged, 0 ≤ x ∧ x ≤ great) ∧ s.urged.Nodup := by
  unfold right
  rw [rising_srt]
theorem take_at {s s' : S} {l : List Int} {x : Int} (hr : right s) (h1 : rising 0 great l) (h2 : ¬ 1000 ≤ s.busy.length) (h3 : ¬ (fromQ s < 0 ∧ fromC s l < 0)) (h4 : taken s l = x)
    (h5 : (if viaQ s l then (s.cur, false, s.urged.eraseIdx (fromQ s).toNat) else (x, true, s.urged)) = (s'.cur, s'.queue, s'.urged)) (h6 : (s.busy ++ [x]).Perm s'.busy) (h7 : s'.busy.Pairwise (· ≤ ·)) :
    takeE s l = 0 ∧ takeN s l = x ∧ takeS s l = s' := by
  have e := takeE_ok hr h1 h2 h3
  obtain ⟨e1, e2⟩ := take_ok e
  refine ⟨e, e2.trans h4, e1.trans ?_⟩
  obtain ⟨a, b, c, d⟩ := s'
  have hb := srt_eq h6 h7
  unfold takenS
  by_cases hv : viaQ s l
  · rw [if_pos hv] at h5 ⊢
    injection h5 with e3 e4
    injection e4 with e4 e5
    subst e3 e4 e5
    rw [h4, hb]
  · rw [if_neg hv] at h5 ⊢
    injection h5 with e3 e4
    injection e4 with e4 e5
    rw [h4, hb, e4, e5, e3]
theorem aw1 : urgeE new 9 = 0 ∧ urgeS new 9 = ⟨-1, true, [9], []⟩ := by
  obtain ⟨h1, h2⟩ := urge_new (s := new) (n := 9) ⟨right_iff.2 (by decide), by decide⟩ (by decide) (by decide)
  exact ⟨h2, h1⟩
theorem aw2 : urgeE ⟨-1, true, [9], []⟩ 4 = 0 ∧ urgeS ⟨-1, true, [9], []⟩ 4 = ⟨-1, true, [9, 4], []⟩ := by
  obtain ⟨h1, h2⟩ := urge_new (s := ⟨-1, true, [9], []⟩) (n := 4) ⟨right_iff.2 (by decide), by decide⟩ (by decide) (by decide)
  exact ⟨h2, h1⟩
theorem aw3 : takeE ⟨-1, true, [9, 4], []⟩ [1, 4, 7] = 0 ∧ takeN ⟨-1, true, [9, 4], []⟩ [1, 4, 7] = 9 ∧ takeS ⟨-1, true, [9, 4], []⟩ [1, 4, 7] = ⟨-1, false, [4], [9]⟩ :=
  take_at (right_iff.2 (by decide)) (by decide) (by decide) (by decide) (by decide) (by decide) (by decide) (by decide)
theorem aw4 : takeE ⟨-1, false, [4], [9]⟩ [1, 4, 7] = 0 ∧ takeN ⟨-1, false, [4], [9]⟩ [1, 4, 7] = 1 ∧ takeS ⟨-1, false, [4], [9]⟩ [1, 4, 7] = ⟨1, true, [4], [1, 9]⟩ :=
  take_at (right_iff.2 (by decide)) (by decide) (by decide) (by decide) (by decide) (by decide) (by decide) (by decide)
theorem aw5 : takeE ⟨1, true, [4], [1, 9]⟩ [1, 4, 7] = 0 ∧ takeN ⟨1, true, [4], [1, 9]⟩ [1, 4, 7] = 4 ∧ takeS ⟨1, true, [4], [1, 9]⟩ [1, 4, 7] = ⟨1, false, [], [1, 4, 9]⟩ :=
  take_at (right_iff.2 (by decide)) (by decide) (by decide) (by decide) (by decide) (by decide) (by decide) (by decide)
theorem aw6 : takeE ⟨1, false, [], [1, 4, 9]⟩ [1, 4, 7] = 0 ∧ takeN ⟨1, false, [], [1, 4, 9]⟩ [1, 4, 7] = 7 ∧ takeS ⟨1, false, [], [1, 4, 9]⟩ [1, 4, 7] = ⟨7, true, [], [1, 4, 7, 9]⟩ :=
  take_at (right_iff.2 (by decide)) (by decide) (by decide) (by decide) (by decide) (by decide) (by decide) (by decide)
theorem aw7 : takeE ⟨7, true, [], [1, 4, 7, 9]⟩ [1, 4, 7] = 166 := takeE_idle (right_iff.2 (by decide)) (by decide) (by decide) (by decide)
theorem aw8 : overE ⟨7, true, [], [1, 4, 7, 9]⟩ 4 = 0 ∧ overS ⟨7, true, [], [1, 4, 7, 9]⟩ 4 = ⟨7, true, [], [1, 7, 9]⟩ := by
  obtain ⟨h1, h2⟩ := over_ok (s := ⟨7, true, [], [1, 4, 7, 9]⟩) (n := 4) (i := 1) ⟨right_iff.2 (by decide), by decide⟩ (by decide)
  exact ⟨h2, h1⟩
theorem aw9 : takeE ⟨7, true, [], [1, 7, 9]⟩ [1, 4, 7] = 0 ∧ takeN ⟨7, true, [], [1, 7, 9]⟩ [1, 4, 7] = 4 ∧ takeS ⟨7, true, [], [1, 7, 9]⟩ [1, 4, 7] = ⟨4, true, [], [1, 4, 7, 9]⟩ :=
  take_at (right_iff.2 (by decide)) (by decide) (by decide) (by decide) (by decide) (by decide) (by decide) (by decide)
end Scrubs
namespace Go.Proofs.Ytkclimblcipmlaa
open Go.RowKit

theorem takesB_at {s s' : Scrubs.S} {l : List Int} {x : Int} (h : Scrubs.takeE s l = 0 ∧ Scrubs.takeN s l = x ∧ Scrubs.takeS s l = s') : takesB s l x = true := by
  unfold takesB
  rw [h.1, h.2.1]
  simp
/-- takes, where it tells that. -/
theorem takes_at {s s' : Scrubs.S} {l : List Int} {x : Int} (h : Scrubs.takeE s l = 0 ∧ Scrubs.takeN s l = x ∧ Scrubs.takeS s l = s') (b0 : Nat) (w : World) (g : Nat) (C : Option Addr) (k e0 : Nat) (hl : Is w C k e0 l) (hs : Hs b0 w g s) (hg : b0 ≤ g) :
    Calls Try.prog 33 #[.pointer (some ⟨g, 0, none⟩), .int .i64 x, .slice C k e0] w fun e w' => e = .returned (.bool true) ∧ Hs b0 w' g s' ∧ Past b0 w w' := by
  have h1 := takes_law b0 w g s x C k e0 l hl hs hg
  rwa [takesB_at h, h.2.2] at h1
theorem lit3 (w : World) : Is (w.alloc (.cells #[.int .i64 1, .int .i64 4, .int .i64 7] 3)) (some ⟨w.heap.size, 0, none⟩) 3 3 [1, 4, 7] := Is.lit w _ rfl [1, 4, 7] _ _ 3 rfl rfl (by omega)
set_option maxRecDepth 100000 in
set_option maxHeartbeats 4000000 in
theorem awake_any16 (w : World) : Calls Try.prog 13 #[] w fun e w' => e = .returned (.bool true) ∧ Ext w w' := by
  have hu1 := fun W : World => scUrge_any W ⟨-1, true, [], []⟩ none 0 0 none 0 0 9 (Is.none W) (Is.none W)
  rw [show Scrubs.urgeS ⟨-1, true, [], []⟩ 9 = ⟨-1, true, [9], []⟩ from Scrubs.aw1.2, show Scrubs.urgeE ⟨-1, true, [], []⟩ 9 = 0 from Scrubs.aw1.1] at hu1
  have HU1 := Lib.hid hu1
  clear hu1
  obtain ⟨b0, hb0⟩ : ∃ b0, w.heap.size = b0 := ⟨_, rfl⟩
  have HB0 := Lib.hid hb0
  clear hb0
  go_enter Try.func13, Try.ntmps13
  try dsimp only [List.append]
  go_upto_region 1 with (fail)
  go_cut [1, 2, 8] (fun s1 s2 _ wx => ∃ wv : World, wv = wx ∧ ∃ g, s1 = .pointer (some ⟨g, 0, none⟩) ∧ s2 = .int .i64 0 ∧ Hs b0 wx g ⟨-1, true, [9], []⟩ ∧ RowKit.Hid (b0 ≤ g) ∧ Ext w wx)
  case first =>
    go_wp2_with (fail)
    refine (scNew_any _).mono ?_
    rintro e w1 ⟨rfl, x1⟩
    go_wp2_with (fail)
    refine (HU1.out w1).mono ?_
    intro e w2 hn
    obtain ⟨A1, n1, c1, B1, m1, d1, rfl, ls, x2⟩ := hn.ls (b0 := b0) (fun h => absurd h (Nat.lt_irrefl 0)) (fun h => absurd h (Nat.lt_irrefl 0))
    clear hn
    have LS := Lib.hid ls
    clear ls
    go_wp2_with (fail)
    go_meet
    exact ⟨_, rfl, _, rfl, rfl, ⟨A1, n1, c1, B1, m1, d1, Sb.new _ _ _ _ _ rfl, LS.out.ext (Ext.alloc _ _)⟩, Lib.hid (by have := (x1.trans x2).size; have := HB0.out; omega), (x1.trans x2).thenAlloc _⟩
  case rest =>
    obtain ⟨w1, rfl, g, rfl, rfl, hs, HG, x1⟩ := hcut
    go_upto_region 2 with (fail)
    go_cut [3, 13] (fun s3 _ wx => ∃ wv : World, wv = wx ∧ s3 = .int .i64 0 ∧ Hs b0 wx g ⟨-1, true, [9, 4], []⟩ ∧ Ext w wx)
    case first =>
      obtain ⟨A1, n1, c1, B1, m1, d1, sb, ls⟩ := hs
      have q1 := ls.u.max
      have q2 := ls.u.le
      have q3 := ls.b.max
      have q4 := ls.b.le
      have k0 := sb.c0
      have k1 := sb.c1
      have k2 := sb.c2
      have k3 := sb.c3
      have hu2 := scUrge_any w1 ⟨-1, true, [9], []⟩ A1 n1 c1 B1 m1 d1 4 ls.u ls.b
      rw [Scrubs.aw2.2, Scrubs.aw2.1] at hu2
      have HU2 := Lib.hid hu2
      have SB := Lib.hid sb
      have LS := Lib.hid ls
      clear sb ls hu2
      go_wp2_with (fail)
      refine HU2.out.mono ?_
      intro e w2 hn
      obtain ⟨A2, n2, c2, B2, m2, d2, rfl, ls, x2⟩ := hn.ls (b0 := b0) LS.out.lu LS.out.lb
      clear hn
      have sb := SB.out.ext x2
      have h0 := sb.c0
      have h1 := sb.c1
      have h2 := sb.c2
      have h3 := sb.c3
      have h4 := sb.fz
      have SB2 := Lib.hid sb
      have LS2 := Lib.hid ls
      clear sb ls k0 k1 k2 k3
      go_wp2_with (fail)
      go_meet
      exact ⟨_, rfl, rfl, ⟨A2, n2, c2, B2, m2, d2, SB2.out.whole _ _ _ _, LS2.out.put SB2.out HG.out _ _ _ _⟩, (x1.trans x2).four (by have := HG.out; have := HB0.out; omega) _ _ _ _⟩
    case rest =>
      obtain ⟨w2, rfl, rfl, hs, x2⟩ := hcut
      clear x1 HU1
      have HS := Lib.hid hs
      have HX := Lib.hid x2
      clear hs x2
      go_wp2_with (fail)
      refine (takes_at Scrubs.aw3 b0 _ g _ 3 3 (lit3 _) (HS.out.ext (Ext.alloc _ _)) HG.out).mono ?_
      rintro e w3 ⟨rfl, hs, hp⟩
      have x9 := hp w (HX.out.trans (Ext.alloc _ _)) (by have := HB0.out; omega)
      clear HS HX hp
      have HS := Lib.hid hs
      have HX := Lib.hid x9
      clear hs x9
      go_wp2_with (fail)
      refine (takes_at Scrubs.aw4 b0 _ g _ 3 3 (lit3 _) (HS.out.ext (Ext.alloc _ _)) HG.out).mono ?_
      rintro e w4 ⟨rfl, hs, hp⟩
      have x9 := hp w (HX.out.trans (Ext.alloc _ _)) (by have := HB0.out; omega)
      clear HS HX hp
      have HS := Lib.hid hs
      have HX := Lib.hid x9
      clear hs x9
      go_wp2_with (fail)
      refine (takes_at Scrubs.aw5 b0 _ g _ 3 3 (lit3 _) (HS.out.ext (Ext.alloc _ _)) HG.out).mono ?_
      rintro e w5 ⟨rfl, hs, hp⟩
      have x9 := hp w (HX.out.trans (Ext.alloc _ _)) (by have := HB0.out; omega)
      clear HS HX hp
      have HS := Lib.hid hs
      have HX := Lib.hid x9
      clear hs x9
      go_wp2_with (fail)
      refine (takes_at Scrubs.aw6 b0 _ g _ 3 3 (lit3 _) (HS.out.ext (Ext.alloc _ _)) HG.out).mono ?_
      rintro e w6 ⟨rfl, hs, hp⟩
      have x9 := hp w (HX.out.trans (Ext.alloc _ _)) (by have := HB0.out; omega)
      clear HS HX hp
      have HS := Lib.hid hs
      have HX := Lib.hid x9
      clear hs x9
      obtain ⟨A1, n1, c1, B1, m1, d1, sb, ls⟩ := HS.out
      have q1 := ls.u.max
      have q2 := ls.u.le
      have q3 := ls.b.max
      have q4 := ls.b.le
      have k0 := sb.c0
      have k1 := sb.c1
      have k2 := sb.c2
      have k3 := sb.c3
      have ht := fun (W : World) (hW : Ext w6 W) (C : Option Addr) (hC : Is W C 3 3 [1, 4, 7]) => scTake_any W ⟨7, true, [], [1, 4, 7, 9]⟩ A1 n1 c1 B1 m1 d1 C 3 3 [1, 4, 7] (ls.u.ext hW) (ls.b.ext hW) hC
      rw [Scrubs.aw7] at ht
      have HT := Lib.hid ht
      have ho := fun (W : World) (hW : Ext w6 W) => scOver_any W ⟨7, true, [], [1, 4, 7, 9]⟩ A1 n1 c1 B1 m1 d1 4 (ls.u.ext hW) (ls.b.ext hW)
      rw [Scrubs.aw8.1, Scrubs.aw8.2] at ho
      have HO := Lib.hid ho
      have SB := Lib.hid sb
      have LS := Lib.hid ls
      clear ht ho sb ls HS
      go_wp2_with (fail)
      refine (HT.out _ (Ext.alloc _ _) _ (lit3 _)).mono ?_
      intro e w7 hn
      obtain ⟨A2, n2, c2, B2, m2, d2, rfl, ls2, x3⟩ := hn.ls (b0 := b0) (LS.out.lu.ext (Ext.alloc _ _)) (LS.out.lb.ext (Ext.alloc _ _))
      clear hn ls2
      have z3 : Ext w6 (w7.alloc (.cells #[.int .i64 (Scrubs.takeS ⟨7, true, [], [1, 4, 7, 9]⟩ [1, 4, 7]).cur, .bool (Scrubs.takeS ⟨7, true, [], [1, 4, 7, 9]⟩ [1, 4, 7]).queue, .slice A2 n2 c2, .slice B2 m2 d2] 24)) := ((Ext.alloc _ _).trans x3).thenAlloc _
      have sb := SB.out.ext z3
      have h0 := sb.c0
      have h1 := sb.c1
      have h2 := sb.c2
      have h3 := sb.c3
      clear sb k0 k1 k2 k3
      go_upto_region 6 with (fail)
      go_cut [51, 7] (fun _ s7 wx => ∃ wv : World, wv = wx ∧ s7 = .int .i64 0 ∧ Hs b0 wx g ⟨7, true, [], [1, 7, 9]⟩ ∧ Ext w wx)
      case first =>
        go_wp2_with (fail)
        refine (HO.out _ z3).mono ?_
        intro e w8 hn
        obtain ⟨A3, n3, c3, B3, m3, d3, rfl, ls, x4⟩ := hn.ls (b0 := b0) (LS.out.lu.ext z3) (LS.out.lb.ext z3)
        clear hn
        have sb := SB.out.ext (z3.trans x4)
        have h0 := sb.c0
        have h1 := sb.c1
        have h2 := sb.c2
        have h3 := sb.c3
        have h4 := sb.fz
        have SB2 := Lib.hid sb
        have LS2 := Lib.hid ls
        clear sb ls
        go_wp2_with (fail)
        go_meet
        exact ⟨_, rfl, rfl, ⟨A3, n3, c3, B3, m3, d3, SB2.out.whole _ _ _ _, LS2.out.put SB2.out HG.out _ _ _ _⟩, ((HX.out.trans z3).trans x4).four (by have := HG.out; have := HB0.out; omega) _ _ _ _⟩
      case rest =>
        obtain ⟨w8, rfl, rfl, hs, x8⟩ := hcut
        have HS := Lib.hid hs
        clear hs h0 h1 h2 h3
        go_wp2_with (fail)
        refine (takes_at Scrubs.aw9 b0 _ g _ 3 3 (lit3 _) (HS.out.ext (Ext.alloc _ _)) HG.out).mono ?_
        rintro e w9 ⟨rfl, hs, hp⟩
        have x9 := hp w (x8.trans (Ext.alloc _ _)) (by have := HB0.out; omega)
        clear hp hs
        go_wp2_with (fail)
        go_ret
        exact ⟨rfl, x9⟩
end Go.Proofs.Ytkclimblcipmlaa
