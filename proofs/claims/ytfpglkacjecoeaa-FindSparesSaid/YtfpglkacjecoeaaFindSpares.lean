/- FindSpares' walk. -/
import Derived.Test.YtfpglkacjecoeaaCt34
namespace Go.Proofs.Ytfpglkacjecoeaa
open Go.ChangeShapes Go.WideShapes Go.ChangeAt Go.RowKit

def f0S : Finds.F := ⟨1, 1, 2, 1, [0, 0], [], []⟩
def f1S (l : List UInt8) : Finds.F := ⟨1, 1, 2, 1, [0, 1], [1], [l]⟩
def f2S (l : List UInt8) : Finds.F := ⟨1, 1, 2, 2, [1, 1], [1, 0], [l, l]⟩
theorem sp_begin : Finds.beginF 1 1 2 2 = f0S ∧ Finds.beginE 1 1 2 2 = 0 ∧ Finds.right f0S := by
  have h := Finds.begun_right (s := 1) (v := 1) (n := 2) (need := 2) (by decide)
  have e : Finds.beginF 1 1 2 2 = f0S := sameF_iff.1 (by decide +kernel)
  rw [e] at h
  exact ⟨e, by decide +kernel, h⟩
theorem sp_one (l : List UInt8) (hl : l.length ≤ 100) : Finds.toldF f0S 1 0 l = f1S l ∧ Finds.right (f1S l) := by
  have h2 := Finds.told_opened (f := f0S) (i := 1) sp_begin.2.2 (by decide) (by decide) rfl rfl 0 l
  have h3 := Finds.right_told sp_begin.2.2 1 0 l
  have hg : Finds.gets f0S 0 l = true := by simp [Finds.gets, Finds.fitsL, f0S]; omega
  have h4 : Finds.told0 f0S (1 : Int).toNat 0 l = ⟨1, 1, 2, 1, [0, 1], [1], [l]⟩ := if_pos hg
  rw [h4] at h2
  have h5 : Finds.phased ⟨1, 1, 2, 1, [0, 1], [1], [l]⟩ = f1S l := by
    have k1 : ¬ ((2 : Int) ≤ (([1] : List Int).length : Nat)) := by decide
    have k2 : ¬ ((([0, 1] : List Int).length : Int) - 2 < Finds.cnt [0, 1] 2) := by decide
    unfold Finds.phased
    simp only
    rw [if_neg k1, if_neg k2]
    rfl
  rw [h5] at h2
  rw [h2] at h3
  exact ⟨h2, h3⟩
theorem sp_two (l : List UInt8) (hl : l.length ≤ 100) : Finds.toldF (f1S l) 0 0 l = f2S l ∧ Finds.right (f2S l) := by
  have h2 := Finds.told_opened (f := f1S l) (i := 0) (sp_one l hl).2 (by decide) (show (0 : Int) < 2 by decide) rfl rfl 0 l
  have h3 := Finds.right_told (sp_one l hl).2 0 0 l
  have hg : Finds.gets (f1S l) 0 l = true := by simp [Finds.gets, Finds.fitsL, f1S]; omega
  have h4 : Finds.told0 (f1S l) (0 : Int).toNat 0 l = ⟨1, 1, 2, 1, [1, 1], [1, 0], [l, l]⟩ := if_pos hg
  rw [h4] at h2
  have h5 : Finds.phased ⟨1, 1, 2, 1, [1, 1], [1, 0], [l, l]⟩ = f2S l := by
    have k1 : (2 : Int) ≤ (([1, 0] : List Int).length : Nat) := by decide
    unfold Finds.phased
    simp only
    rw [if_pos k1]
    rfl
  rw [h5] at h2
  rw [h2] at h3
  exact ⟨h2, h3⟩
theorem begin_sp (W : World) : Calls Try.prog 8 #[.int .i64 1, .int .i64 1, .int .i64 2, .int .i64 2] W fun e w' => ∃ A n c B m d C k e9, e = .returned (.tuple #[fval 1 1 2 1 (.slice A n c) (.slice B m d) (.slice C k e9), .int .i64 0]) ∧ Fd w' f0S A n c B m d C k e9 ∧ Ext W w' := by
  have h := fBegin_any W 1 1 2 2
  rw [sp_begin.1, sp_begin.2.1] at h
  refine h.mono ?_
  rintro e w' ⟨U, V, S, rfl, ⟨A, n, c, B, m, d, C, k, e9, rfl, rfl, rfl, hd⟩, hx, _⟩
  exact ⟨A, n, c, B, m, d, C, k, e9, rfl, hd, hx⟩
theorem told_sp1 (w : World) (l : List UInt8) (hl : l.length ≤ 100) (A : Option Addr) (n c : Nat) (B : Option Addr) (m d : Nat) (C : Option Addr) (k e : Nat) (h : Fd w f0S A n c B m d C k e) (D : Option Addr) (q c9 : Nat) (hb : Bs w D q c9 l) :
    Calls Try.prog 10 #[fval f0S.stripe f0S.version f0S.need f0S.phase (.slice A n c) (.slice B m d) (.slice C k e), .int .i64 1, .int .i64 0, .slice D q c9] w fun r w' => ∃ A n c B m d C k e, r = .returned (.tuple #[fval (f1S l).stripe (f1S l).version (f1S l).need (f1S l).phase (.slice A n c) (.slice B m d) (.slice C k e), .int .i64 0]) ∧ Ext w w' ∧ Fo w' w.heap.size (f1S l) (.slice A n c) (.slice B m d) (.slice C k e) := by
  have h0 := fTold_ok (i := 1) (er := 0) h sp_begin.2.2 (by decide) (by decide) hb
  rw [(sp_one l hl).1] at h0
  exact h0
theorem told_sp2 (w : World) (l : List UInt8) (hl : l.length ≤ 100) (A : Option Addr) (n c : Nat) (B : Option Addr) (m d : Nat) (C : Option Addr) (k e : Nat) (h : Fd w (f1S l) A n c B m d C k e) (D : Option Addr) (q c9 : Nat) (hb : Bs w D q c9 l) :
    Calls Try.prog 10 #[fval (f1S l).stripe (f1S l).version (f1S l).need (f1S l).phase (.slice A n c) (.slice B m d) (.slice C k e), .int .i64 0, .int .i64 0, .slice D q c9] w fun r w' => ∃ A n c B m d C k e, r = .returned (.tuple #[fval (f2S l).stripe (f2S l).version (f2S l).need (f2S l).phase (.slice A n c) (.slice B m d) (.slice C k e), .int .i64 0]) ∧ Ext w w' ∧ Fo w' w.heap.size (f2S l) (.slice A n c) (.slice B m d) (.slice C k e) := by
  have h0 := fTold_ok (i := 0) (er := 0) h (sp_one l hl).2 (by decide) (show (0 : Int) < 2 by decide) hb
  rw [(sp_two l hl).1] at h0
  exact h0
theorem set_grown (w : World) (g i : Nat) (v : Value) : w.grownBy (w.setCell ⟨g, i, none⟩ v) (some g) := ⟨rfl, rfl, rfl, by simp, fun b _ hb => heap_setCell_other w _ b v (fun e => hb (by rw [e]))⟩
/-- Rows of whole numbers stay while a row of bytes is written. -/
theorem ints_grownRow8 {w w' : World} {base n g : Nat} {v : Value} {xs : List Value} (h : w.ownsRow base 3 1 v n xs) (hg : w.grownBy w' (some g)) (hb : ∃ cs fr, w.heap[g]? = some (.cells cs 5 fr)) : w'.ownsRow base 3 1 v n xs := by
  refine ownsRow_grown h hg ?_
  rcases hu : v.ownBlock with _ | b
  · exact .inl rfl
  · refine .inr (fun e1 => ?_)
    injection e1 with e1
    subst e1
    obtain ⟨c1, f1, h1⟩ := own_type h hu
    obtain ⟨c2, f2, h2⟩ := hb
    rw [h1] at h2
    injection h2 with h2
    injection h2 with _ h2 _
    exact absurd h2 (by decide)
theorem fo_low {w : World} {b : Nat} {f : Finds.F} {A : Option Addr} {n c : Nat} {B : Option Addr} {m d : Nat} {C : Option Addr} {k e : Nat} (h : Fo w b f (.slice A n c) (.slice B m d) (.slice C k e)) : (∀ q, C.map (·.block) = some q → q < w.heap.size) ∧ (∀ q, A.map (·.block) = some q → q < w.heap.size) ∧ (∀ q, B.map (·.block) = some q → q < w.heap.size) := by
  obtain ⟨cs, hs⟩ := h.s
  have key : ∀ {A : Option Addr} {n c s : Nat} {t : TypeId} {xs : List Value} {k : Nat}, w.ownsRow b t s (.slice A n c) k xs → ∀ q, A.map (·.block) = some q → q < w.heap.size := fun {A n c s t xs k} ho q hq => by
    rcases ho.2 with ⟨h1, _⟩ | ⟨g, cap, cur, h1, _, h3, _⟩
    · injection h1 with h1
      subst h1
      cases hq
    · injection h1 with h1
      subst h1
      injection hq with hq
      have : g < w.heap.size := (Array.getElem?_eq_some_iff.1 h3).1
      have e9 : g = q := hq
      omega
  exact ⟨key hs.own, key h.u, key h.v⟩
set_option maxRecDepth 100000 in
set_option maxHeartbeats 4000000 in
theorem findSpares_any (w : World) (D : Option Addr) (q c : Nat) (l : List UInt8) (hb : Bs w D q c l) :
    Calls Try.prog 6 #[.slice D q c] w fun e w' => e = .returned (.bool true) ∧ Ext w w' := by
  have q1 := hb.max
  have q2 := hb.le
  have HB := Lib.hid hb
  have LB := Lib.hid hb.len
  clear hb
  by_cases hq0 : q = 0
  · subst hq0
    go_enter Try.func6, Try.ntmps6
    try dsimp only [List.append]
    go_wp2_with (fail)
    refine (awake_any13 _).mono ?_
    rintro e w9 ⟨rfl, x9⟩
    go_wp2_with (fail)
    go_ret
    exact ⟨rfl, x9⟩
  by_cases hq1 : 100 < q
  · have r1 : (100 : Int) < q := by omega
    have r2 : ((q : Int) == 0) = false := by rw [beq_eq_false_iff_ne]; omega
    go_enter Try.func6, Try.ntmps6
    try dsimp only [List.append]
    go_wp2_with (fail)
    refine (awake_any13 _).mono ?_
    rintro e w9 ⟨rfl, x9⟩
    go_wp2_with (fail)
    go_ret
    exact ⟨rfl, x9⟩
  have r1 : ¬ (100 : Int) < q := by omega
  have r2 : ((q : Int) == 0) = false := by rw [beq_eq_false_iff_ne]; omega
  have r3 : 0 < q := by omega
  have hl : l.length ≤ 100 := by have := LB.out; omega
  have HL := Lib.hid hl
  clear hq0 hq1 hl
  go_enter Try.func6, Try.ntmps6
  try dsimp only [List.append]
  go_upto_region 3 with (fail)
  go_cut [3, 4] (fun s1 s2 wx => ∃ wv : World, wv = wx ∧ ∃ g, s1 = .pointer (some ⟨g, 0, none⟩) ∧ s2 = .int .i64 0 ∧ RowKit.Hid (Fv wx g f0S) ∧ RowKit.Hid (Ext w wx))
  case first =>
    go_wp2_with (fail)
    with_reducible refine (begin_sp _).mono ?_
    rintro e w1 ⟨A, n, c, B, m, d, C, k, e9, rfl, hd, x1⟩
    have q1 := hd.u.max
    have q2 := hd.u.le
    have q3 := hd.v.max
    have q4 := hd.v.le
    have q5 := hd.s.max
    have q6 := hd.s.le
    have HD := Lib.hid hd
    have X1 := Lib.hid x1
    clear hd x1
    go_wp2_with (fail)
    go_meet
    exact ⟨_, rfl, _, rfl, rfl, Lib.hid (Fv.new HD.out rfl), Lib.hid (X1.out.thenAlloc _)⟩
  case rest =>
  obtain ⟨w1, rfl, g0, rfl, rfl, F0, X1⟩ := hcut
  have HCP := Lib.hid (copyBytes_any w1 D q c l (HB.out.ext X1.out) (by omega))
  go_upto_region 5 with (with_reducible refine HCP.out.mono ?_; rintro e w2 ⟨v2, rfl, hv2⟩; obtain ⟨A2, c2, rfl, hb2⟩ := hv2.bs; have OW := Lib.hid hv2.own; have X2 := Lib.hid hv2.ext; have HB2 := Lib.hid hb2; have p1 := hb2.max; have p2 := hb2.le; clear hv2 hb2)
  obtain ⟨gi, rfl, hgi1, hgi2⟩ := own_addr OW.out (by have := LB.out; omega)
  have HGI := Lib.hid hgi1
  have HGI2 := Lib.hid hgi2
  have F02 := Lib.hid (F0.out.ext X2.out)
  rw [LB.out] at OW HB2 p2 ⊢
  clear hgi1 hgi2
  go_cut [6, 7] (fun s1 s2 wx => ∃ wv : World, wv = wx ∧ ∃ g A n c B m d C k e b3, s1 = .pointer (some ⟨g, 0, none⟩) ∧ s2 = .int .i64 0 ∧ RowKit.Hid (Fb wx g (f1S l).stripe (f1S l).version (f1S l).need (f1S l).phase (.slice A n c) (.slice B m d) (.slice C k e)) ∧ RowKit.Hid (Fo wx b3 (f1S l) (.slice A n c) (.slice B m d) (.slice C k e)) ∧ RowKit.Hid (gi < b3 ∧ b3 ≤ g) ∧ RowKit.Hid (Ext w2 wx))
  case first =>
    obtain ⟨A0, n0, c0, B0, m0, d0, C0, k0, e0, sb0, fd0⟩ := F02.out

    have h0 := sb0.c0
    have h1 := sb0.c1
    have h2 := sb0.c2
    have h3 := sb0.c3
    have h4 := sb0.c4
    have h5 := sb0.c5
    have h6 := sb0.c6
    have p3 := fd0.u.max
    have p4 := fd0.u.le
    have p5 := fd0.v.max
    have p6 := fd0.v.le
    have p7 := fd0.s.max
    have p8 := fd0.s.le
    have HTT := Lib.hid (told_sp1 w2 l HL.out _ _ _ _ _ _ _ _ _ fd0 _ _ _ HB2.out)
    clear sb0 fd0
    go_wp2_with (fail)
    with_reducible refine HTT.out.mono ?_
    rintro e w9 ⟨A, n, c, B, m, d, C, k, e9, rfl, x1, ho⟩
    have hd := ho.fdOf
    have q1 := hd.u.max
    have q2 := hd.u.le
    have q3 := hd.v.max
    have q4 := hd.v.le
    have q5 := hd.s.max
    have q6 := hd.s.le
    have HO := Lib.hid ho
    have X9 := Lib.hid x1
    clear hd ho x1 h0 h1 h2 h3 h4 h5 h6
    go_wp2_with (fail)
    go_meet
    exact ⟨_, rfl, _, _, _, _, _, _, _, _, _, _, w2.heap.size, rfl, rfl, Lib.hid (Fb.new w9 _ _ _ _ _ _ _ rfl), Lib.hid (HO.out.ext (Ext.alloc _ _)), Lib.hid ⟨HGI2.out, X9.out.size⟩, Lib.hid (X9.out.thenAlloc _)⟩
  case rest =>
  obtain ⟨w3, rfl, g1, A1, n1, c1, B1, m1, d1, C1, k1, e1, b3, rfl, rfl, S1, O1, HG1, X3⟩ := hcut
  have ow3 := ownsRow_ext OW.out X3.out
  obtain ⟨bx, ox, ex, hcx⟩ := (Own.mk (base := w1.heap.size) (e := 5) ow3).bs.rd.byte (k := 0) (by omega)
  injection ex with ex
  injection ex with ex1 ex2
  subst ex1 ex2
  have hfx := ow3.frozenAt 0
  have p3 := (Own.mk (base := w1.heap.size) (e := 5) ow3).caps
  clear ow3
  rw [Nat.zero_add] at hcx
  generalize Gf.get l 0 = x0 at hcx
  have r4 : (0 : Int) < q := by omega
  go_upto_region 6 with (fail)
  go_cut [] (fun wx => ∃ wv : World, wv = wx ∧ ∃ v, RowKit.Hid (w3.setCell ⟨gi, 0, none⟩ v = wx))
  case first =>
    go_wp2_with (fail)
    go_meet
    exact ⟨_, rfl, _, Lib.hid rfl⟩
  case rest =>
  obtain ⟨w4, rfl, v4, HW4⟩ := hcut
  have ha4 : Away gi (gi + 1) w3 w4 := by rw [← HW4.out]; exact .set w3 ⟨gi, 0, none⟩ (Nat.le_refl _) (Nat.lt_succ_self _) v4
  have O14 := Lib.hid (O1.out.away ha4 (by have := HG1.out.1; omega))
  have S14 := Lib.hid (S1.out.away ha4 (by have := HG1.out; omega))
  have X4 := Lib.hid (ha4.ext (X2.out.trans X3.out) HGI.out)
  clear ha4 hcx hfx O1 S1
  have D1 := Lib.hid O14.out.fdOf
  go_upto_region 7 with (fail)
  go_cut [8, 9] (fun s1 s2 wx => ∃ wv : World, wv = wx ∧ ∃ g A n c B m d C k e b3, s1 = .pointer (some ⟨g, 0, none⟩) ∧ s2 = .int .i64 0 ∧ RowKit.Hid (Fb wx g (f2S l).stripe (f2S l).version (f2S l).need (f2S l).phase (.slice A n c) (.slice B m d) (.slice C k e)) ∧ RowKit.Hid (Fo wx b3 (f2S l) (.slice A n c) (.slice B m d) (.slice C k e)) ∧ RowKit.Hid (w4.heap.size ≤ b3 ∧ (∀ b, C.map (·.block) = some b → b < g) ∧ (∀ b, A.map (·.block) = some b → b < g) ∧ (∀ b, B.map (·.block) = some b → b < g)) ∧ RowKit.Hid (Ext w4 wx))
  case first =>
    have sb0 := S14.out
    have fd0 := D1.out
    have h0 := sb0.c0
    have h1 := sb0.c1
    have h2 := sb0.c2
    have h3 := sb0.c3
    have h4 := sb0.c4
    have h5 := sb0.c5
    have h6 := sb0.c6
    have p3 := fd0.u.max
    have p4 := fd0.u.le
    have p5 := fd0.v.max
    have p6 := fd0.v.le
    have p7 := fd0.s.max
    have p8 := fd0.s.le
    have HTT := Lib.hid (told_sp2 w4 l HL.out _ _ _ _ _ _ _ _ _ fd0 _ _ _ (HB.out.ext (X1.out.trans X4.out)))
    clear sb0 fd0
    go_wp2_with (fail)
    with_reducible refine HTT.out.mono ?_
    rintro e w9 ⟨A, n, c, B, m, d, C, k, e9, rfl, x1, ho⟩
    have hd := ho.fdOf
    have q1 := hd.u.max
    have q2 := hd.u.le
    have q3 := hd.v.max
    have q4 := hd.v.le
    have q5 := hd.s.max
    have q6 := hd.s.le
    have HO := Lib.hid ho
    have X9 := Lib.hid x1
    clear hd ho x1 h0 h1 h2 h3 h4 h5 h6
    go_wp2_with (fail)
    go_meet
    have hlow := Lib.hid (fo_low HO.out)
    exact ⟨_, rfl, _, _, _, _, _, _, _, _, _, _, w4.heap.size, rfl, rfl, Lib.hid (Fb.new w9 _ _ _ _ _ _ _ rfl), Lib.hid (HO.out.ext (Ext.alloc _ _)), Lib.hid ⟨Nat.le_refl _, hlow.out.1, hlow.out.2.1, hlow.out.2.2⟩, Lib.hid (X9.out.thenAlloc _)⟩
  case rest =>
  obtain ⟨w5, rfl, g2, A2, n2, c2', B2, m2, d2, C2, k2, e2, b5, rfl, rfl, S2, O2, HG2, X5⟩ := hcut
  obtain rfl : n1 = 2 := D1.out.u.len.symm
  obtain rfl : m1 = 1 := D1.out.v.len.symm
  obtain rfl : k1 = 1 := D1.out.s.len.symm
  obtain rfl : n2 = 2 := O2.out.fdOf.u.len.symm
  obtain rfl : m2 = 2 := O2.out.fdOf.v.len.symm
  obtain rfl : k2 = 2 := O2.out.fdOf.s.len.symm
  have S15 := Lib.hid (S14.out.ext X5.out)
  have D15 := Lib.hid (D1.out.ext X5.out)
  have a6 := S15.out.c6
  have b6 := S2.out.c6
  obtain ⟨bs, os, Ai, ni, ci, rfl, hc1, hr1⟩ := D15.out.s.at_ (i := 0) (by omega)
  have hr1' : Bs w5 Ai ni ci l := hr1
  have HSB := Lib.hid (sameBytes_any w5 Ai D ni ci q c l l hr1' (HB.out.ext (X1.out.trans (X4.out.trans X5.out))))
  have z1 := D15.out.s.max
  have z2 := D15.out.s.le
  have z3 := O2.out.fdOf.s.max
  have z4 := O2.out.fdOf.s.le
  have z5 := hr1.max
  have z6 := hr1.le
  rw [Nat.add_zero] at hc1
  clear hr1 hr1'
  go_upto_region 10 with (with_reducible refine HSB.out.mono ?_; rintro e w6 ⟨he, rfl⟩; obtain rfl : e = .returned (.bool true) := he.trans (by rw [beq_self_eq_true]); clear he)
  have hmq := O2.out.s
  obtain ⟨cs2, hmq⟩ := hmq
  obtain ⟨gs, rfl, hgs1, hgs2⟩ := own_addr hmq.own (by decide)
  have hmq2 : Mq w5 b5 (Hot b5 (.slice (some ⟨gs, 0, none⟩) 2 e2)) (.slice (some ⟨gs, 0, none⟩) 2 e2) 2 cs2 (f2S l).shards := hmq
  obtain ⟨Ar, cr, _, hcr, _, hor⟩ := hmq2.cellAt (k := 0) (by omega)
  have hor2 : w5.ownsRow b5 5 1 (.slice Ar l.length cr) l.length (bcells l) := hor
  have hcr2 : w5.cell? ⟨gs, 0, none⟩ = some (.slice Ar l.length cr) := hcr
  rw [LB.out] at hor2 hcr2
  obtain ⟨gr, rfl, hgr1, hgr2⟩ := own_addr hor2 (by omega)
  obtain ⟨bx, ox, ex, hcx⟩ := (Own.mk (base := b5) (e := 5) hor2).bs.rd.byte (k := 0) (by omega)
  injection ex with ex
  injection ex with ex1 ex2
  subst ex1 ex2
  have hfx := hor2.frozenAt 0
  have z7 := (Own.mk (base := b5) (e := 5) hor2).caps
  rw [Nat.zero_add] at hcx
  generalize Gf.get l 0 = x1 at hcx
  have hty := own_type hor2 (b := gr) rfl
  have hgg : gr ≠ g2 := fun e => by
    obtain ⟨c9, f9, h9⟩ := hty
    rw [e, S2.out.blk] at h9
    injection h9 with h9
    injection h9 with _ h9 _
    exact absurd h9 (by decide)
  obtain ⟨gm, rfl, hgm1, hgm2⟩ := own_addr O2.out.u (by decide)
  obtain ⟨gw, rfl, hgw1, hgw2⟩ := own_addr O2.out.v (by decide)
  have om := ints_grownRow8 O2.out.u (set_grown w5 gr 0 (.int .u8 0)) hty
  have HTY := Lib.hid hty
  have HGG := Lib.hid hgg
  have HGR := Lib.hid hgr1
  clear hty hgg hor hor2 hmq hmq2 hcr om hgs1 hgs2 hgr1 hgr2
  go_cut [] (fun wx => ∃ wv : World, wv = wx ∧ ∃ v, RowKit.Hid (w5.setCell ⟨gr, 0, none⟩ v = wx))
  case first =>
    go_wp2_with (fail)
    go_meet
    exact ⟨_, rfl, _, Lib.hid rfl⟩
  case rest =>
  obtain ⟨w6, rfl, v6, HW6⟩ := hcut
  have hg6 : w5.grownBy w6 (some gr) := by rw [← HW6.out]; exact set_grown w5 gr 0 v6
  have ou6 := ints_grownRow8 O2.out.u hg6 HTY.out
  have ov6 := ints_grownRow8 O2.out.v hg6 HTY.out
  have s26 := S2.out.kept hg6 (fun e => by injection e with e; exact HGG.out e)
  have b4 := s26.c4
  have b5' := s26.c5
  have X6 := Lib.hid (X5.out.ofGrown hg6 (fun k hk => by injection hk with hk; have := HGR.out; have := HG2.out.1; omega))
  obtain ⟨_, _, e3, m0⟩ := (Own.mk (base := b5) (e := 3) ou6).ints.rd.intAt (k := 0) (by decide)
  injection e3 with e3
  injection e3 with e3 e4
  subst e3 e4
  obtain ⟨_, _, e3, n0⟩ := (Own.mk (base := b5) (e := 3) ov6).ints.rd.intAt (k := 0) (by decide)
  injection e3 with e3
  injection e3 with e3 e4
  subst e3 e4
  rw [Nat.zero_add] at m0 n0
  generalize Il.get (f2S l).marks 0 = y0 at m0
  generalize Il.get (f2S l).which 0 = y1 at n0
  have fm := ou6.frozenAt 0
  have fw := ov6.frozenAt 0
  have z8 := (Own.mk (base := b5) (e := 3) ou6).caps
  have z9 := (Own.mk (base := b5) (e := 3) ov6).caps
  have t1 : gm ≠ g2 := by have := HG2.out.2.2.1 gm rfl; omega
  have t2 : gw ≠ g2 := by have := HG2.out.2.2.2 gw rfl; omega
  have t3 : gm ≠ gw := fun e => O2.out.ne gm rfl (by rw [e]; rfl)
  have t4 : w4.heap.size ≤ gm := Nat.le_trans HG2.out.1 hgm1
  have t5 : w4.heap.size ≤ gw := Nat.le_trans HG2.out.1 hgw1
  have T4 := Lib.hid t4
  have T5 := Lib.hid t5
  clear hg6 ou6 ov6 s26 t4 t5 hgm1 hgm2 hgw1 hgw2 hc1 a6 b6 hcr2 hcx hfx
  go_upto_region 11 with (fail)
  go_cut [] (fun wx => ∃ wv : World, wv = wx ∧ RowKit.Hid (Ext w4 wx))
  case first =>
    go_region_with (fail)
    all_goals
      go_wp2_with (fail)
      go_meet
      first
        | exact ⟨_, rfl, Lib.hid (((X6.out.thenDrewN _).set_ (p := ⟨gm, 0, none⟩) T4.out _).set_ (p := ⟨gw, 0, none⟩) T5.out _)⟩
        | exact ⟨_, rfl, Lib.hid (((X6.out.thenDrew).set_ (p := ⟨gm, 0, none⟩) T4.out _).set_ (p := ⟨gw, 0, none⟩) T5.out _)⟩
        | exact ⟨_, rfl, Lib.hid (((X6.out.thenDrew).set_ (p := ⟨gw, 0, none⟩) T5.out _).set_ (p := ⟨gm, 0, none⟩) T4.out _)⟩
        | exact ⟨_, rfl, Lib.hid (((X6.out.thenDrewN _).set_ (p := ⟨gw, 0, none⟩) T5.out _).set_ (p := ⟨gm, 0, none⟩) T4.out _)⟩
        | trace_state
  case rest =>
  obtain ⟨w7, rfl, X7⟩ := hcut
  have X17 := Lib.hid (X4.out.trans X7.out)
  have S17 := Lib.hid (S14.out.ext X7.out)
  have D17 := Lib.hid (D1.out.ext X7.out)
  have F07 := Lib.hid (F0.out.ext X17.out)
  obtain ⟨A0, n0, c0, B0, m0, d0, C0, k0, e0, sb0, fd0⟩ := F07.out
  have a4 := S17.out.c4
  have a5 := S17.out.c5
  have a6 := S17.out.c6
  have f4 := sb0.c4
  obtain rfl : n0 = 2 := fd0.u.len.symm
  obtain ⟨bs7, os7, Ai7, ni7, ci7, e7, hc7, hr7⟩ := D17.out.s.at_ (i := 0) (by omega)
  injection e7 with e7
  injection e7 with e7 e8
  subst e7 e8
  have hr7' : Bs w7 Ai7 ni7 ci7 l := hr7
  have HSB7 := Lib.hid (sameBytes_any w7 Ai7 D ni7 ci7 q c l l hr7' (HB.out.ext (X1.out.trans X17.out)))
  have y5 := hr7.max
  have y6 := hr7.le
  rw [Nat.add_zero] at hc7
  have HI1 := Lib.hid (fun (W : World) (hW : Ext w7 W) => sameInts_any (W.alloc (.cells #[.int .i64 0, .int .i64 1] 3)) _ _ _ _ _ _ _ _ (D17.out.u.ext (hW.thenAlloc _)) (Is.lit W _ rfl [0, 1] #[.int .i64 0, .int .i64 1] 3 2 rfl rfl (by omega)))
  have HI2 := Lib.hid (fun (W : World) (hW : Ext w7 W) => sameInts_any (W.alloc (.cells #[.int .i64 1] 3)) _ _ _ _ _ _ _ _ (D17.out.v.ext (hW.thenAlloc _)) (Is.lit W _ rfl [1] #[.int .i64 1] 3 1 rfl rfl (by omega)))
  have HI3 := Lib.hid (fun (W : World) (hW : Ext w7 W) => sameInts_any (W.alloc (.cells #[.int .i64 0, .int .i64 0] 3)) _ _ _ _ _ _ _ _ (fd0.u.ext (hW.thenAlloc _)) (Is.lit W _ rfl [0, 0] #[.int .i64 0, .int .i64 0] 3 2 rfl rfl (by omega)))
  have v1 := D17.out.u.max
  have v2 := D17.out.u.le
  have v3 := D17.out.v.max
  have v4' := D17.out.v.le
  have v5 := fd0.u.max
  have v6' := fd0.u.le
  have SB0 := Lib.hid sb0
  clear sb0 fd0 hr7 hr7' t1 t2 t3
  go_wp2_with (fail)
  with_reducible refine HSB7.out.mono ?_
  rintro e w8 ⟨he, rfl⟩
  obtain rfl : e = .returned (.bool true) := he.trans (by rw [beq_self_eq_true])
  clear he
  go_wp2_with (fail)
  with_reducible refine (HI1.out _ (Ext.refl _)).mono ?_
  rintro e w8 ⟨he, hd8⟩
  obtain rfl : e = .returned (.bool true) := he
  have X8 := Lib.hid ((Ext.alloc w7 (.cells #[.int .i64 0, .int .i64 1] 3)).trans hd8.ext)
  have s8 := S17.out.ext X8.out
  have a5 := s8.c5
  clear hd8 s8
  go_wp2_with (fail)
  with_reducible refine (HI2.out _ X8.out).mono ?_
  rintro e w9 ⟨he, hd9⟩
  obtain rfl : e = .returned (.bool true) := he
  have X9 := Lib.hid ((X8.out.thenAlloc (.cells #[.int .i64 1] 3)).trans hd9.ext)
  have s9 := SB0.out.ext X9.out
  have f4 := s9.c4
  clear hd9 s9
  go_wp2_with (fail)
  with_reducible refine (HI3.out _ X9.out).mono ?_
  rintro e w10 ⟨he, hd10⟩
  obtain rfl : e = .returned (.bool true) := he
  have X10 := Lib.hid ((X9.out.thenAlloc (.cells #[.int .i64 0, .int .i64 0] 3)).trans hd10.ext)
  clear hd10
  go_wp2_with (fail)
  refine (awake_any13 _).mono ?_
  rintro e w11 ⟨rfl, x11⟩
  go_wp2_with (fail)
  go_ret
  exact ⟨rfl, X1.out.trans (X17.out.trans (X10.out.trans x11))⟩
namespace findSpares
set_option maxRecDepth 100000 in
theorem walk {H : Type} {enc : TypeId × Value → H} {base : Nat} (w : World) (v0 : Value) (d0 : DataW H) (p0 : List MemPlace) (o0 : Value.okWide Try.prog w .any base 35 v0) (h0 : DataW.Trod enc Try.prog w 0 (fun _ => true) true 35 v0 d0 p0) :
    Calls Try.prog 6 #[v0] w fun e w' => e = .returned (.bool true) ∧ Ext w w' := by
  obtain ⟨A, n, c, rfl⟩ := okWide_slice Try.underlying35 o0
  obtain ⟨zs, hz⟩ := IsRow.of_trod (k := .u8) (e := 5) Try.underlying35 Try.underlying5 (by kernel_rfl) h0
  obtain ⟨l, hl⟩ := hz.bytes
  exact findSpares_any w A n c l hl
end findSpares
end Go.Proofs.Ytfpglkacjecoeaa
