/- RoundEnds' walk: if every want is met with OK a round comes to its end; for every input. -/
import Derived.Test.YtgfhpgomlocllaaRoundAwake
import Derived.Test.YtgfhpgomlocllaaRoundHeld
import Derived.Test.YtgfhpgomlocllaaRoundsEnds
import Derived.Deep.DeepCutAuto
import Derived.Deep.CutBlock
namespace Go.Proofs.Ytgfhpgomlocllaa
open Go.ChangeShapes Go.WideShapes Go.ChangeAt Go.RowKit

namespace roundEnds
set_option maxRecDepth 100000 in
set_option maxHeartbeats 40000000 in
theorem walk {H : Type} {enc : TypeId × Value → H} {base : Nat} (w : World) (a0 a1 : Int) (v2 : Value) (d2 : DataW H) (p2 : List MemPlace) (Ao : Option Addr) (no co : Nat) (zs : List Int) (gv : Bool) (w0 : (Lit.int .u8 a0).wf = true) (w1 : (Lit.int .u8 a1).wf = true)
    (o2 : Value.okWide Try.prog w .any base 49 v2) (h2 : DataW.Trod enc Try.prog w 0 (fun _ => true) true 49 v2 d2 p2) (w3 : IsRow .u8 w Ao no co zs) :
    Calls Try.prog 7 #[.int .u8 a0, .int .u8 a1, v2, .slice Ao no co, .bool gv] w fun e w' => e = .returned (.bool true) ∧ Ext w w' := by
  obtain ⟨a, rfl⟩ := wf_u8 w0
  obtain ⟨b, rfl⟩ := wf_u8 w1
  obtain ⟨A, n, c, l, rfl, hl⟩ := ops_open o2 h2
  obtain ⟨lo, hlo⟩ := w3.bytes
  clear w0 w1 o2 h2
  have hmx := hl.max
  have hle := hl.le
  have hln := hl.len
  go_enter Try.func7, Try.ntmps7
  try dsimp only [List.append]
  go_wp2_with (fail)
  refine (begun_any w a b).mono ?_
  rintro x w1 ⟨Aa, na, ca, rfl, ia, _, x1⟩
  have hl1 := hl.ext x1
  have HLO := Lib.hid (hlo.ext x1)
  have hmo := hlo.max
  have hleo := hlo.le
  have X := Lib.hid x1
  clear x1 hl hlo
  have hbeg : ∃ d N : Nat, beg a b = Rounds.begun 5 9 (d : Int) N ∧ manyOf a = N ∧ 1 ≤ N ∧ N ≤ 12 ∧ 1 ≤ d ∧ d ≤ N := by
    have h1 : 1 ≤ manyOf a ∧ manyOf a ≤ 12 := by unfold manyOf; omega
    have h2 := Nat.mod_lt b.toNat (show 0 < manyOf a by omega)
    exact ⟨1 + b.toNat % manyOf a, manyOf a, rfl, rfl, h1.1, h1.2, by omega, by omega⟩
  obtain ⟨d, N, hbg, hmn, N1, N2, D1, D2⟩ := hbeg
  obtain ⟨r0, hr0⟩ : ∃ r0, Rounds.begun 5 9 (d : Int) N = r0 := ⟨_, rfl⟩
  have hlen0 : r0.marks.length = N := by rw [← hr0]; simp [Rounds.begun]
  have hri0 : Rounds.Right r0 := by rw [← hr0]; exact (Rounds.safe_begun N d (by omega) (by omega)).right
  rw [hr0] at hbg
  have HBG := Lib.hid hbg
  have HR0 := Lib.hid hr0
  have HMN := Lib.hid hmn
  clear hbg hmn hr0
  rw [HBG.out] at ia ⊢
  rw [HMN.out]
  go_upto_block 0 with (fail)
  have ba := Bx.new w1 r0.stripe r0.version r0.need r0.phase (.slice Aa na ca) rfl
  have x2 : Ext w1 (w1.alloc (.cells #[.int .i64 r0.stripe, .int .i64 r0.version, .int .i64 r0.need, .int .i64 r0.phase, .slice Aa na ca] 25)) := Ext.alloc _ _
  have aa : Away Aa na w1.heap.size := Away.old ia (Nat.le_refl _)
  have st : Held (w1.alloc (.cells #[.int .i64 r0.stripe, .int .i64 r0.version, .int .i64 r0.need, .int .i64 r0.phase, .slice Aa na ca] 25)) w1.heap.size w1.heap.size w1.heap.size r0 Aa na ca := ⟨ba, ia.ext x2, aa, aa⟩
  clear ba aa ia
  generalize (w1.alloc (.cells #[.int .i64 r0.stripe, .int .i64 r0.version, .int .i64 r0.need, .int .i64 r0.phase, .slice Aa na ca] 25)) = W0 at *
  generalize hg : w1.heap.size = g at *
  have HG := Lib.hid hg
  clear hg
  go_cut [] (fun wx => ∃ wv : World, wv = wx ∧ ∃ (r : Rounds.R) (D : Option Addr) (e : Nat), Rounds.Right r ∧ r.marks.length = N ∧ Held wx g g g r D N e ∧ Ext w1 wx)
  case first =>
    go_wp2_with (fail)
    go_loopw [14] (fun i wr => ∃ (k : Nat) (r : Rounds.R) (D : Option Addr) (q e : Nat), k ≤ 40 ∧ k ≤ n ∧ i = .int .i64 k ∧ r.marks.length = N ∧ Rounds.Right r ∧ Held wr g g g r D q e ∧ Ext w1 wr) (fun i _ => 40 - (intOf i).toNat)
    case atStart => exact ⟨0, r0, Aa, na, ca, by omega, by omega, rfl, hlen0, hri0, st, x2⟩
    case round =>
      obtain ⟨k, r, D, q, e, hk1, hk2, rfl, hrl, hri, hH, hx⟩ := hrel
      clear st
      by_cases hkn : k < n
      · have q1 : (k : Int) < n := by omega
        by_cases hk6 : k < 40
        · have q2 : (k : Int) < 40 := by omega
          obtain ⟨b0, o0, rfl, y0, y1, y2, y3⟩ := (hl1.ext hx).at_ k (by rw [hln]; exact hkn)
          generalize hop : opget l k = o at *
          have hqn : N = q := by rw [← hH.is_.len]; exact hrl.symm
          subst hqn
          have hc : ∀ W, Ext wr W → Calls Try.prog 33 #[rval r D N e, oval o] W (GivesR D N (doesR r o) (doesE r o) W) := fun W hW => does_any W r D N e (hH.is_.ext hW) (by omega) o
          obtain ⟨R, hR⟩ : ∃ R, doesR r o = R := ⟨_, rfl⟩
          obtain ⟨E, hE⟩ : ∃ E, doesE r o = E := ⟨_, rfl⟩
          rw [hR, hE] at hc
          have HC := Lib.hid hc
          have HR := Lib.hid hR
          have HE := Lib.hid hE
          have c0 := hH.bx.c0
          have c1 := hH.bx.c1
          have c2 := hH.bx.c2
          have c3 := hH.bx.c3
          have c4 := hH.bx.c4
          have hS : ∀ W : World, Ext wr W → (W.cell? ⟨g, 0, none⟩ = some (.int .i64 r.stripe) ∧ W.cell? ⟨g, 1, none⟩ = some (.int .i64 r.version) ∧ W.cell? ⟨g, 2, none⟩ = some (.int .i64 r.need) ∧ W.cell? ⟨g, 3, none⟩ = some (.int .i64 r.phase) ∧ W.cell? ⟨g, 4, none⟩ = some (.slice D N e) ∧ W.cell? ⟨b0, o0 + k * 4, none⟩ = some (.int .i64 o.kind) ∧ W.cell? ⟨b0, o0 + k * 4 + 1, none⟩ = some (.int .i64 o.index) ∧ W.cell? ⟨b0, o0 + k * 4 + 2, none⟩ = some (.int .u8 o.op) ∧ W.cell? ⟨b0, o0 + k * 4 + 3, none⟩ = some (.int .i64 o.e)) :=
            fun W hW => ⟨hW.cell c0, hW.cell c1, hW.cell c2, hW.cell c3, hW.cell c4, hW.cell y0, hW.cell y1, hW.cell y2, hW.cell y3⟩
          have HS := Lib.hid hS
          have HH := Lib.hid hH
          have lg := hH.bx.lt
          clear hc hR hE hS hH
          obtain ⟨wo, rfl⟩ : ∃ wo : World, wo = wr := ⟨_, rfl⟩
          go_wp2_with (fail)
          go_cut [15, 16] (fun s11 s12 wx => ∃ wv : World, wv = wx ∧ s12 = .int .i64 E ∧ ∃ (h : Nat) (D1 : Option Addr) (n1 e1 : Nat), s11 = .pointer (some ⟨h, 0, none⟩) ∧ wo.heap.size ≤ h ∧ Held wx h g h R D1 n1 e1 ∧ Ext wo wx)
          case first =>
            go_region_held3 (fun W => W.cell? ⟨g, 0, none⟩ = some (.int .i64 r.stripe) ∧ W.cell? ⟨g, 1, none⟩ = some (.int .i64 r.version) ∧ W.cell? ⟨g, 2, none⟩ = some (.int .i64 r.need) ∧ W.cell? ⟨g, 3, none⟩ = some (.int .i64 r.phase) ∧ W.cell? ⟨g, 4, none⟩ = some (.slice D N e) ∧ W.cell? ⟨b0, o0 + k * 4, none⟩ = some (.int .i64 o.kind) ∧ W.cell? ⟨b0, o0 + k * 4 + 1, none⟩ = some (.int .i64 o.index) ∧ W.cell? ⟨b0, o0 + k * 4 + 2, none⟩ = some (.int .u8 o.op) ∧ W.cell? ⟨b0, o0 + k * 4 + 3, none⟩ = some (.int .i64 o.e))
              (first | (refine HS.out _ ?_; (first | (with_reducible exact Ext.drew _) | (with_reducible exact (Ext.drew _).trans x9) | (with_reducible exact ((Ext.drew _).trans x9).thenAlloc _) | (with_reducible exact (Ext.alloc _ _).thenDrew) | (with_reducible exact ((Ext.alloc _ _).thenDrew).trans x9) | (with_reducible exact Ext.five (((Ext.drew _).trans x9).thenAlloc _) ((Ext.drew _).trans x9).size _ _ _ _ _) | (with_reducible exact Ext.five (((Ext.alloc _ _).thenDrew).trans x9) (Nat.le_refl _) _ _ _ _ _))))
              (first | ((with_reducible refine (HC.out _ ?_).mono ?_); (focus (first | (with_reducible exact Ext.drew _) | (with_reducible exact (Ext.alloc _ _).thenDrew))); rintro x9 w9 ⟨D9, n9, e9, rfl, hD9, hf9, x9⟩; try (with_reducible have bx9 := (Bx.new wo 0 0 0 0 (.slice none 0 0) rfl).ext ((Ext.drew _).trans x9); have d0 := bx9.c0; have d1 := bx9.c1; have d2 := bx9.c2; have d3 := bx9.c3; have d4 := bx9.c4; have f0 := bx9.fz 0; have f1 := bx9.fz 1; have f2 := bx9.fz 2; have f3 := bx9.fz 3; have f4 := bx9.fz 4)))
            · go_wp2_with (fail)
              go_meet
              have z9 := ((Ext.drew wo).trans x9).size
              have bn := Bx.new w9 R.stripe R.version R.need R.phase (.slice D9 n9 e9) rfl
              have aw := HH.out.a.step hf9 (Nat.lt_of_lt_of_le HH.out.bx.lt (Ext.drew wo).size)
              have aw2 := Away.old hD9 (Nat.le_refl _)
              exact ⟨_, rfl, rfl, _, D9, n9, e9, rfl, z9, ⟨bn, hD9.ext (Ext.alloc _ _), aw, aw2⟩, ((Ext.drew wo).trans x9).thenAlloc _⟩
            · go_wp2_with (fail)
              go_meet
              have hin := Held.into HH.out (W1 := (wo.alloc (.cells #[.int .i64 0, .int .i64 0, .int .i64 0, .int .i64 0, .slice none 0 0] 25)).drew) ((Ext.alloc _ _).thenDrew).size HH.out.bx.lt hf9 hD9 bx9 ((HH.out.away (Nat.le_refl _)).step hf9 (by simp))
              exact ⟨_, rfl, rfl, _, D9, n9, e9, rfl, Nat.le_refl _, hin, Ext.five (((Ext.alloc _ _).thenDrew).trans x9) (Nat.le_refl _) _ _ _ _ _⟩
          case rest =>
            obtain ⟨wv, rfl, rfl, h, D1', n1, e1, rfl, hwh, hN, hxx⟩ := hcut
            have hG := HH.out.ext hxx
            have hx2 := hx.trans hxx
            have lgv := hG.bx.lt
            have hgh : g < h := Nat.lt_of_lt_of_le HH.out.bx.lt hwh
            have hRl : R.marks.length = N := by rw [← HR.out, does_len]; exact hrl
            have hRr : Rounds.Right R := by rw [← HR.out, doesR_act]; exact Rounds.right_act _ _ _ _ hri
            have hn1 : N = n1 := by rw [← hN.is_.len]; exact hRl.symm
            subst hn1
            clear c0 c1 c2 c3 c4 y0 y1 y2 y3 HS HC lg
            by_cases hE0 : E = 0
            · have e0 : (E == 0) = true := by rw [hE0]; rfl
              have u0 := hN.bx.c0
              have u1 := hN.bx.c1
              have u2 := hN.bx.c2
              have u3 := hN.bx.c3
              have u4 := hN.bx.c4
              have f0 := hG.bx.fz 0
              have f1 := hG.bx.fz 1
              have f2 := hG.bx.fz 2
              have f3 := hG.bx.fz 3
              have f4 := hG.bx.fz 4
              have v0 := hG.bx.c0
              have v1 := hG.bx.c1
              have v2 := hG.bx.c2
              have v3 := hG.bx.c3
              have v4 := hG.bx.c4
              go_wp2_with (fail)
              exact ⟨⟨k + 1, R, D1', N, e1, by omega, by omega, rfl, hRl, hRr, ⟨hG.bx.whole _ _ _ _ _, hN.is_.five hN.a _ _ _ _ _, hN.a, hN.a⟩, Ext.five hx2 (by have := HG.out; omega) _ _ _ _ _⟩, by simp only [intOf]; omega⟩
            · have e0 : (E == 0) = false := by rw [beq_eq_false_iff_ne]; exact hE0
              go_wp2_with (fail)
              exact ⟨⟨k + 1, r, D, N, e, by omega, by omega, rfl, hrl, hri, hG, hx2⟩, by simp only [intOf]; omega⟩
        · have q2 : ¬ (k : Int) < 40 := by omega
          go_wp2_with (fail)
          go_meet
          have hqn : N = q := by rw [← hH.is_.len]; exact hrl.symm
          subst hqn
          exact ⟨_, rfl, r, D, e, hri, hrl, hH, hx⟩
      · have q1 : ¬ (k : Int) < n := by omega
        go_wp2_with (fail)
        go_meet
        have hqn : N = q := by rw [← hH.is_.len]; exact hrl.symm
        subst hqn
        exact ⟨_, rfl, r, D, e, hri, hrl, hH, hx⟩
  case rest =>
    obtain ⟨wv, rfl, r, D, e, hri, hrl, hH, hx⟩ := hcut
    go_wp2_with (fail)
    go_loopw [17] (fun i wr => ∃ (k : Nat) (r : Rounds.R) (D : Option Addr) (q e : Nat), i = .int .i64 k ∧ Rounds.Right r ∧ r.marks.length = N ∧ (k : Int) + Rounds.left_ r ≤ 2 * N ∧ Held wr g g g r D q e ∧ Ext w1 wr) (fun i _ => 2 * N + 1 - (intOf i).toNat)
    case atStart => exact ⟨0, r, D, N, e, rfl, hri, hrl, by have := (Rounds.left_range hri).2; rw [hrl] at this; omega, hH, hx⟩
    case round =>
      clear hri hrl hH hx
      obtain ⟨k, r, D, q, e, rfl, hri, hrl, hle, hH, hx⟩ := hrel
      have hlr := (Rounds.left_range hri).1
      have q5 : (k : Int) < 5 * (N : Int) + 5 := by omega
      have hqn : N = q := by rw [← hH.is_.len]; exact hrl.symm
      subst hqn
      have c3 := hH.bx.c3
      go_upto_region 13 with (fail)
      go_cut [70] (fun s70 wx => ∃ wv : World, wv = wx ∧ wr = wx ∧ s70 = .bool (decide (gv = true ∧ (r.phase = 1 ∨ r.phase = 2))))
      case first =>
        cases gv with
        | true =>
          by_cases p1 : r.phase = 1
          · have k1 : (r.phase == 1) = true := by rw [beq_iff_eq]; exact p1
            have P1 := Lib.hid p1
            clear p1
            go_wp2_with (fail)
            go_meet
            exact ⟨_, rfl, rfl, by rw [P1.out]; rfl⟩
          · have k1 : (r.phase == 1) = false := by rw [beq_eq_false_iff_ne]; exact p1
            by_cases p2 : r.phase = 2
            · have k2 : (r.phase == 2) = true := by rw [beq_iff_eq]; exact p2
              have P2 := Lib.hid p2
              clear p1 p2
              go_wp2_with (fail)
              go_meet
              exact ⟨_, rfl, rfl, by rw [P2.out]; rfl⟩
            · have k2 : (r.phase == 2) = false := by rw [beq_eq_false_iff_ne]; exact p2
              have P2 := Lib.hid (show ¬ (r.phase = 1 ∨ r.phase = 2) by omega)
              clear p1 p2
              go_wp2_with (fail)
              go_meet
              exact ⟨_, rfl, rfl, by rw [decide_eq_false (fun h => P2.out h.2)]⟩
        | false =>
          go_wp2_with (fail)
          go_meet
          exact ⟨_, rfl, rfl, by rw [decide_eq_false (fun h => by cases h.1)]⟩
      case rest =>
        obtain ⟨wv, rfl, rfl, rfl⟩ := hcut
        clear c3
        go_upto_if 70 with (fail)
        go_cut [] (fun wx => ∃ wv : World, wv = wx ∧ ∃ (r1 : Rounds.R) (D1 : Option Addr) (e1 : Nat), Rounds.Right r1 ∧ r1.marks.length = N ∧ (k : Int) + Rounds.left_ r1 ≤ 2 * N ∧ Held wx g g g r1 D1 N e1 ∧ Ext w1 wx)
        case first =>
          by_cases hX : gv = true ∧ (r.phase = 1 ∨ r.phase = 2)
          · rw [decide_eq_true hX]
            have hp := hX.2
            clear hX
            have hc := give_any wr r D N e hH.is_ (by omega)
            obtain ⟨R1, hR1⟩ : ∃ R1, Rounds.give r = R1 := ⟨_, rfl⟩
            rw [hR1] at hc
            have HC := Lib.hid hc
            have hRl : R1.marks.length = N := by rw [← hR1, Rounds.give, (Rounds.kept_turned _ _ _).len]; exact hrl
            have hRr : Rounds.Right R1 := by rw [← hR1]; exact Rounds.right_give hri
            have hle1 : (k : Int) + Rounds.left_ R1 ≤ 2 * N := by rw [← hR1]; have := Rounds.left_give hri (by omega); omega
            have c0 := hH.bx.c0
            have c1 := hH.bx.c1
            have c2 := hH.bx.c2
            have c3 := hH.bx.c3
            have c4 := hH.bx.c4
            have HH0 := Lib.hid hH
            have HX0 := Lib.hid hx
            have HP := Lib.hid hp
            clear hc hR1 hH hx hp
            go_wp2_with (fail)
            refine HC.out.mono ?_
            rintro x3 w3 ⟨D3, n3, e3, rfl, hD3, hf3, x3⟩
            have hn3 : N = n3 := by rw [← hD3.len]; exact hRl.symm
            subst hn3
            have hG3 := HH0.out.ext x3
            have aw3 := HH0.out.a.step hf3 HH0.out.bx.lt
            have xx3 := HX0.out.trans x3
            clear c0 c1 c2 c3 c4 HC x3 hf3
            have c0 := hG3.bx.c0
            have c1 := hG3.bx.c1
            have c2 := hG3.bx.c2
            have c3 := hG3.bx.c3
            have c4 := hG3.bx.c4
            have f0 := hG3.bx.fz 0
            have f1 := hG3.bx.fz 1
            have f2 := hG3.bx.fz 2
            have f3 := hG3.bx.fz 3
            have f4 := hG3.bx.fz 4
            go_wp2_with (fail)
            go_meet
            exact ⟨_, rfl, R1, D3, e3, hRr, hRl, hle1, ⟨hG3.bx.whole _ _ _ _ _, hD3.five aw3 _ _ _ _ _, aw3, aw3⟩, Ext.five xx3 (by have := HG.out; omega) _ _ _ _ _⟩
          · rw [decide_eq_false hX]
            clear hX
            go_wp2_with (fail)
            go_meet
            exact ⟨_, rfl, r, D, e, hri, hrl, hle, hH, hx⟩
        case rest =>
          clear hri hrl hle hH hx hlr
          obtain ⟨wr, rfl, r, D, e, hri, hrl, hle, hH, hx⟩ := hcut
          have c3 := hH.bx.c3
          go_upto_if 78 with (fail)
          clear c3
          go_cut [] (fun wx => ∃ wv : World, wv = wx ∧ ∃ (r1 : Rounds.R) (D1 : Option Addr) (e1 : Nat), Rounds.Right r1 ∧ r1.marks.length = N ∧ (k : Int) + Rounds.left_ r1 ≤ 2 * N ∧ r1.phase ≠ 2 ∧ Held wx g g g r1 D1 N e1 ∧ Ext w1 wx)
          case first =>
            by_cases hp : r.phase = 2
            · have k2 : (r.phase == 2) = true := by rw [beq_iff_eq]; exact hp
              have hc := publish_any wr r D N e hH.is_ (by omega)
              obtain ⟨R1, hR1⟩ : ∃ R1, Rounds.publish r = R1 := ⟨_, rfl⟩
              rw [hR1] at hc
              have HC := Lib.hid hc
              have hRl : R1.marks.length = N := by rw [← hR1, Rounds.publish, (Rounds.kept_turned _ _ _).len]; exact hrl
              have hRr : Rounds.Right R1 := by rw [← hR1]; exact Rounds.right_publish hri
              have hle1 : (k : Int) + Rounds.left_ R1 ≤ 2 * N := by rw [← hR1]; rw [Rounds.left_publish hri hp]; omega
              have hne1 : R1.phase ≠ 2 := by
                rw [← hR1]
                obtain ⟨s, v, d', p, l'⟩ := r
                simp only at hp
                subst hp
                rw [Rounds.publish_2 hri]
                simp
              have HNE := Lib.hid hne1
              clear hne1
              have c0 := hH.bx.c0
              have c1 := hH.bx.c1
              have c2 := hH.bx.c2
              have c3 := hH.bx.c3
              have c4 := hH.bx.c4
              have HH0 := Lib.hid hH
              have HX0 := Lib.hid hx
              have HP := Lib.hid hp
              clear hc hR1 hH hx hp
              go_wp2_with (fail)
              refine HC.out.mono ?_
              rintro x3 w3 ⟨D3, n3, e3, rfl, hD3, hf3, x3⟩
              have hn3 : N = n3 := by rw [← hD3.len]; exact hRl.symm
              subst hn3
              have hG3 := HH0.out.ext x3
              have aw3 := HH0.out.a.step hf3 HH0.out.bx.lt
              have xx3 := HX0.out.trans x3
              clear c0 c1 c2 c3 c4 HC x3 hf3
              have c0 := hG3.bx.c0
              have c1 := hG3.bx.c1
              have c2 := hG3.bx.c2
              have c3 := hG3.bx.c3
              have c4 := hG3.bx.c4
              have f0 := hG3.bx.fz 0
              have f1 := hG3.bx.fz 1
              have f2 := hG3.bx.fz 2
              have f3 := hG3.bx.fz 3
              have f4 := hG3.bx.fz 4
              go_wp2_with (fail)
              go_meet
              exact ⟨_, rfl, R1, D3, e3, hRr, hRl, hle1, HNE.out, ⟨hG3.bx.whole _ _ _ _ _, hD3.five aw3 _ _ _ _ _, aw3, aw3⟩, Ext.five xx3 (by have := HG.out; omega) _ _ _ _ _⟩
            · have k2 : (r.phase == 2) = false := by rw [beq_eq_false_iff_ne]; exact hp
              have HP := Lib.hid hp
              clear hp
              go_wp2_with (fail)
              go_meet
              exact ⟨_, rfl, r, D, e, hri, hrl, hle, HP.out, hH, hx⟩
          case rest =>
            clear hri hrl hle hH hx
            obtain ⟨wr, rfl, r, D, e, hri, hrl, hle, hne, hH, hx⟩ := hcut
            have wl := wants_any wr r D N e hH.is_
            have WL := Lib.hid wl
            have GZ := Lib.hid hH
            have HLE := Lib.hid hle
            have HX := Lib.hid hx
            clear wl
            have c0 := hH.bx.c0
            have c1 := hH.bx.c1
            have c2 := hH.bx.c2
            have c3 := hH.bx.c3
            have c4 := hH.bx.c4
            clear hH hle hx
            go_wp2_with (fail)
            refine WL.out.mono ?_
            rintro x8 wo ⟨B, m, cw, rfl, hW, x8⟩
            have HXO := Lib.hid (HX.out.trans x8)
            have HH := Lib.hid (GZ.out.ext x8)
            have hmW := hW.max
            have hlW := hW.le
            have hLW := hW.len
            clear c0 c1 c2 c3 c4 WL GZ x8
            have c0 := HH.out.bx.c0
            have c1 := HH.out.bx.c1
            have c2 := HH.out.bx.c2
            have c3 := HH.out.bx.c3
            have c4 := HH.out.bx.c4
            by_cases hm0 : m = 0
            · have qm : ((m : Int) == 0) = true := by rw [beq_iff_eq]; omega
              have hp46 : r.phase = 4 ∨ r.phase = 6 := by
                have hpp := Rounds.right_phase hri
                have h1 : r.phase ≠ 1 := fun hp => Rounds.asks hri hp (by rw [hLW]; exact hm0)
                have h35 : ¬ (r.phase = 3 ∨ r.phase = 5) := fun hp => (Rounds.wants_end hri).2 hp (by rw [hLW]; exact hm0)
                omega
              have wl2 := wants_any wo r D N e HH.out.is_
              have WL2 := Lib.hid wl2
              have AW := Lib.hid (fun W => awake_any W)
              clear wl2
              rcases hp46 with hp | hp
              · have k4 : (r.phase == 4) = true := by rw [beq_iff_eq]; exact hp
                clear hp hne
                go_wp2_with (fail)
                refine WL2.out.mono ?_
                rintro x7 w7 ⟨B7, m7, c7, rfl, hW7, x7⟩
                have hm7 : m7 = 0 := by rw [← hW7.len, hLW]; exact hm0
                subst hm7
                go_wp2_with (fail)
                refine (AW.out _).mono ?_
                rintro x5 w5 ⟨rfl, x5⟩
                go_wp2_with (fail)
                go_ret
                exact ⟨rfl, X.out.trans ((HXO.out.trans x7).trans x5)⟩
              · have k4 : (r.phase == 4) = false := by rw [beq_eq_false_iff_ne]; omega
                have k6 : (r.phase == 6) = true := by rw [beq_iff_eq]; exact hp
                clear hp hne
                go_wp2_with (fail)
                refine WL2.out.mono ?_
                rintro x7 w7 ⟨B7, m7, c7, rfl, hW7, x7⟩
                have hm7 : m7 = 0 := by rw [← hW7.len, hLW]; exact hm0
                subst hm7
                go_wp2_with (fail)
                refine (AW.out _).mono ?_
                rintro x5 w5 ⟨rfl, x5⟩
                go_wp2_with (fail)
                go_ret
                exact ⟨rfl, X.out.trans ((HXO.out.trans x7).trans x5)⟩
            · have qm : ((m : Int) == 0) = false := by rw [beq_eq_false_iff_ne]; omega
              have qm0 : (0 : Int) < m := by omega
              have pick_ : ∀ t, t < m → ∃ (b2 o2 i : Nat) (oo : Int) (R2 : Rounds.R), B = some ⟨b2, o2, none⟩ ∧ wo.cell? ⟨b2, o2 + t * 2, none⟩ = some (.int .i64 (i : Int)) ∧ wo.cell? ⟨b2, o2 + t * 2 + 1, none⟩ = some (.int .u8 oo) ∧ Rounds.told r (i : Int) oo 0 = R2 ∧
                  (Rounds.toldE r (i : Int) = 0 ∧ Rounds.Right R2 ∧ Rounds.left_ R2 + 1 ≤ Rounds.left_ r ∧ R2 ≠ r ∧ R2.marks.length = N) := by
                intro t ht
                obtain ⟨b2, o2, hB, k0, k1⟩ := hW.at_ ht
                obtain ⟨_, i, hi, hp, hw⟩ := Rounds.wanted_at r (k := t) (by rw [hLW]; exact ht)
                have hp' : wget (Rounds.wants r) t = ((i : Int), Rounds.want r.phase (Il.get r.marks i)) := hp
                rw [hp'] at k0 k1
                obtain ⟨q1, q2, q3, q4⟩ := Rounds.met hri hne hi hw
                exact ⟨b2, o2, i, _, _, hB, k0, k1, rfl, q1, q2, q3, q4, by rw [(Rounds.kept_told _ _ _ _).len]; exact hrl⟩
              have PICK := Lib.hid pick_
              clear pick_
              go_upto_if 92 with (fail)
              go_cut [19] (fun s19 wx => ∃ wv : World, wv = wx ∧ wo = wx ∧ ∃ t : Nat, t < m ∧ s19 = .int .i64 (t : Int))
              case first =>
                by_cases hko : k < no
                · have qo : (k : Int) < no := by omega
                  obtain ⟨b5, o5, rfl, ho5⟩ := (HLO.out.ext HXO.out).rd.byte hko
                  generalize hxv : (Gf.get lo k).toNat = xv at *
                  have hxb : xv < 256 := by rw [← hxv]; exact (Gf.get lo k).toNat_lt
                  clear hxv
                  go_wp2_with (fail)
                  go_meet
                  exact ⟨_, rfl, rfl, xv % m, Nat.mod_lt _ (by omega), by simp⟩
                · have qo : ¬ (k : Int) < no := by omega
                  go_wp2_with (fail)
                  go_meet
                  exact ⟨_, rfl, rfl, 0, by omega, rfl⟩
              case rest =>
                obtain ⟨wv, rfl, rfl, t, htm, rfl⟩ := hcut
                obtain ⟨b2, o2, i, oo, R2, rfl, k0, k1, hR2, hmet⟩ := PICK.out t htm
                have qt : (t : Int) < m := by omega
                have hc : ∀ W, Ext wo W → Calls Try.prog 12 #[rval r D N e, .int .i64 (i : Int), .int .u8 oo, .int .i64 0] W (GivesR D N R2 0 W) := fun W hW => (told_any W r D N e (HH.out.is_.ext hW) (by omega) (i : Int) oo 0).mono (fun e w' h => h.of hR2 hmet.1)
                have HC := Lib.hid hc
                have MET := Lib.hid hmet
                clear hc hmet hR2 hW PICK hLW
                go_wp2_with (fail)
                have hS : ∀ W : World, Ext wo W → (W.cell? ⟨g, 0, none⟩ = some (.int .i64 r.stripe) ∧ W.cell? ⟨g, 1, none⟩ = some (.int .i64 r.version) ∧ W.cell? ⟨g, 2, none⟩ = some (.int .i64 r.need) ∧ W.cell? ⟨g, 3, none⟩ = some (.int .i64 r.phase) ∧ W.cell? ⟨g, 4, none⟩ = some (.slice D N e) ∧ W.cell? ⟨b2, o2 + t * 2, none⟩ = some (.int .i64 (i : Int)) ∧ W.cell? ⟨b2, o2 + t * 2 + 1, none⟩ = some (.int .u8 oo)) := fun W hW => ⟨hW.cell c0, hW.cell c1, hW.cell c2, hW.cell c3, hW.cell c4, hW.cell k0, hW.cell k1⟩
                have HS := Lib.hid hS
                clear hS
                go_cut [20, 21] (fun s11 s12 wx => ∃ wv : World, wv = wx ∧ s12 = .int .i64 0 ∧ ∃ (h : Nat) (D1 : Option Addr) (n1 e1 : Nat), s11 = .pointer (some ⟨h, 0, none⟩) ∧ wo.heap.size ≤ h ∧ Held wx h g h R2 D1 n1 e1 ∧ Ext wo wx)
                case first =>
                  go_region_held3 (fun W => W.cell? ⟨g, 0, none⟩ = some (.int .i64 r.stripe) ∧ W.cell? ⟨g, 1, none⟩ = some (.int .i64 r.version) ∧ W.cell? ⟨g, 2, none⟩ = some (.int .i64 r.need) ∧ W.cell? ⟨g, 3, none⟩ = some (.int .i64 r.phase) ∧ W.cell? ⟨g, 4, none⟩ = some (.slice D N e) ∧ W.cell? ⟨b2, o2 + t * 2, none⟩ = some (.int .i64 (i : Int)) ∧ W.cell? ⟨b2, o2 + t * 2 + 1, none⟩ = some (.int .u8 oo))
                    (first | (refine HS.out _ ?_; (first | (with_reducible exact Ext.drew _) | (with_reducible exact (Ext.drew _).trans x9) | (with_reducible exact ((Ext.drew _).trans x9).thenAlloc _) | (with_reducible exact (Ext.alloc _ _).thenDrew) | (with_reducible exact ((Ext.alloc _ _).thenDrew).trans x9) | (with_reducible exact Ext.five (((Ext.drew _).trans x9).thenAlloc _) ((Ext.drew _).trans x9).size _ _ _ _ _) | (with_reducible exact Ext.five (((Ext.alloc _ _).thenDrew).trans x9) (Nat.le_refl _) _ _ _ _ _))))
                    (first | ((with_reducible refine (HC.out _ ?_).mono ?_); (focus (first | (with_reducible exact Ext.drew _) | (with_reducible exact (Ext.alloc _ _).thenDrew))); rintro x9 w9 ⟨D9, n9, e9, rfl, hD9, hf9, x9⟩; try (with_reducible have bx9 := (Bx.new wo 0 0 0 0 (.slice none 0 0) rfl).ext ((Ext.drew _).trans x9); have d0 := bx9.c0; have d1 := bx9.c1; have d2 := bx9.c2; have d3 := bx9.c3; have d4 := bx9.c4; have f0 := bx9.fz 0; have f1 := bx9.fz 1; have f2 := bx9.fz 2; have f3 := bx9.fz 3; have f4 := bx9.fz 4)))
                  · go_wp2_with (fail)
                    go_meet
                    have z9 := ((Ext.drew wo).trans x9).size
                    have bn := Bx.new w9 R2.stripe R2.version R2.need R2.phase (.slice D9 n9 e9) rfl
                    have aw := HH.out.a.step hf9 (Nat.lt_of_lt_of_le HH.out.bx.lt (Ext.drew wo).size)
                    have aw2 := Away.old hD9 (Nat.le_refl _)
                    exact ⟨_, rfl, rfl, _, D9, n9, e9, rfl, z9, ⟨bn, hD9.ext (Ext.alloc _ _), aw, aw2⟩, ((Ext.drew wo).trans x9).thenAlloc _⟩
                  · go_wp2_with (fail)
                    go_meet
                    have hin := Held.into HH.out (W1 := (wo.alloc (.cells #[.int .i64 0, .int .i64 0, .int .i64 0, .int .i64 0, .slice none 0 0] 25)).drew) ((Ext.alloc _ _).thenDrew).size HH.out.bx.lt hf9 hD9 bx9 ((HH.out.away (Nat.le_refl _)).step hf9 (by simp))
                    exact ⟨_, rfl, rfl, _, D9, n9, e9, rfl, Nat.le_refl _, hin, Ext.five (((Ext.alloc _ _).thenDrew).trans x9) (Nat.le_refl _) _ _ _ _ _⟩
                case rest =>
                  obtain ⟨wv, rfl, rfl, h, D2, n2, e2, rfl, hwh, hN, hxx⟩ := hcut
                  have hG := HH.out.ext hxx
                  have hx2 := HXO.out.trans hxx
                  have hn1 : N = n2 := by rw [← hN.is_.len]; exact MET.out.2.2.2.2.symm
                  subst hn1
                  have sr := sameRound_any wv R2 r D2 D N e2 N e hN.is_ hG.is_
                  rw [decide_eq_false MET.out.2.2.2.1] at sr
                  have SR := Lib.hid sr
                  clear sr c0 c1 c2 c3 c4 k0 k1 HS HC
                  have u0 := hN.bx.c0
                  have u1 := hN.bx.c1
                  have u2 := hN.bx.c2
                  have u3 := hN.bx.c3
                  have u4 := hN.bx.c4
                  have v0 := hG.bx.c0
                  have v1 := hG.bx.c1
                  have v2 := hG.bx.c2
                  have v3 := hG.bx.c3
                  have v4 := hG.bx.c4
                  go_wp2_with (fail)
                  refine SR.out.mono ?_
                  rintro x8 w8 ⟨rfl, x8⟩
                  have hN8 := hN.ext x8
                  have hG8 := hG.ext x8
                  have hx4 := hx2.trans x8
                  clear u0 u1 u2 u3 u4 v0 v1 v2 v3 v4
                  have u0 := hN8.bx.c0
                  have u1 := hN8.bx.c1
                  have u2 := hN8.bx.c2
                  have u3 := hN8.bx.c3
                  have u4 := hN8.bx.c4
                  have f0 := hG8.bx.fz 0
                  have f1 := hG8.bx.fz 1
                  have f2 := hG8.bx.fz 2
                  have f3 := hG8.bx.fz 3
                  have f4 := hG8.bx.fz 4
                  have v0 := hG8.bx.c0
                  have v1 := hG8.bx.c1
                  have v2 := hG8.bx.c2
                  have v3 := hG8.bx.c3
                  have v4 := hG8.bx.c4
                  go_wp2_with (fail)
                  refine ⟨⟨k + 1, R2, D2, N, e2, rfl, MET.out.2.1, MET.out.2.2.2.2, ?_, ⟨hG8.bx.whole _ _ _ _ _, hN8.is_.five hN8.a _ _ _ _ _, hN8.a, hN8.a⟩, Ext.five hx4 (by have := HG.out; omega) _ _ _ _ _⟩, ?_⟩
                  · have := MET.out.2.2.1
                    have := HLE.out
                    omega
                  · have q8 := MET.out.2.2.1
                    have q9 := HLE.out
                    have q10 := (Rounds.left_range MET.out.2.1).1
                    simp only [intOf]
                    omega
end roundEnds
end Go.Proofs.Ytgfhpgomlocllaa
