/- RoundTwice's walk: an answer that comes twice is as if it came once; for every input. -/
import Derived.Test.YtgfhpgomlocllaaRoundAwake
import Derived.Test.YtgfhpgomlocllaaRoundHeld
import Derived.Test.YtgfhpgomlocllaaRoundsTwice
import Derived.Deep.DeepCutAuto
namespace Go.Proofs.Ytgfhpgomlocllaa
open Go.ChangeShapes Go.WideShapes Go.ChangeAt Go.RowKit

namespace roundTwice
set_option maxRecDepth 100000 in
set_option maxHeartbeats 4000000 in
theorem walk {H : Type} {enc : TypeId × Value → H} {base : Nat} (w : World) (a0 a1 : Int) (v2 : Value) (d2 : DataW H) (p2 : List MemPlace) (w0 : (Lit.int .u8 a0).wf = true) (w1 : (Lit.int .u8 a1).wf = true)
    (o2 : Value.okWide Try.prog w .any base 49 v2) (h2 : DataW.Trod enc Try.prog w 0 (fun _ => true) true 49 v2 d2 p2) :
    Calls Try.prog 8 #[.int .u8 a0, .int .u8 a1, v2] w fun e w' => e = .returned (.bool true) ∧ Ext w w' := by
  obtain ⟨a, rfl⟩ := wf_u8 w0
  obtain ⟨b, rfl⟩ := wf_u8 w1
  obtain ⟨A, n, c, l, rfl, hl⟩ := ops_open o2 h2
  clear w0 w1 o2 h2
  have hmx := hl.max
  have hle := hl.le
  have hln := hl.len
  go_enter Try.func8, Try.ntmps8
  try dsimp only [List.append]
  go_wp2_with (fail)
  refine (begun_any w a b).mono ?_
  rintro x w1 ⟨Aa, na, ca, rfl, ia, _, x1⟩
  have hl1 := hl.ext x1
  have X := Lib.hid x1
  clear x1 hl
  have hbeg : ∃ d N : Nat, beg a b = Rounds.begun 5 9 (d : Int) N ∧ manyOf a = N ∧ 1 ≤ N ∧ N ≤ 12 ∧ 1 ≤ d ∧ d ≤ N := by
    have h1 : 1 ≤ manyOf a ∧ manyOf a ≤ 12 := by unfold manyOf; omega
    have h2 := Nat.mod_lt b.toNat (show 0 < manyOf a by omega)
    exact ⟨1 + b.toNat % manyOf a, manyOf a, rfl, rfl, h1.1, h1.2, by omega, by omega⟩
  obtain ⟨d, N, hbg, hmn, N1, N2, D1, D2⟩ := hbeg
  obtain ⟨r0, hr0⟩ : ∃ r0, Rounds.begun 5 9 (d : Int) N = r0 := ⟨_, rfl⟩
  have hlen0 : r0.marks.length = N := by rw [← hr0]; simp [Rounds.begun]
  rw [hr0] at hbg
  have HBG := Lib.hid hbg
  have HR0 := Lib.hid hr0
  have HMN := Lib.hid hmn
  clear hbg hmn hr0
  rw [HBG.out] at ia ⊢
  rw [HMN.out]
  go_wp2_with (fail)
  have ba := Bx.new w1 r0.stripe r0.version r0.need r0.phase (.slice Aa na ca) rfl
  have x2 : Ext w1 (w1.alloc (.cells #[.int .i64 r0.stripe, .int .i64 r0.version, .int .i64 r0.need, .int .i64 r0.phase, .slice Aa na ca] 25)) := Ext.alloc _ _
  have aa : Away Aa na w1.heap.size := Away.old ia (Nat.le_refl _)
  have st : Held (w1.alloc (.cells #[.int .i64 r0.stripe, .int .i64 r0.version, .int .i64 r0.need, .int .i64 r0.phase, .slice Aa na ca] 25)) w1.heap.size w1.heap.size w1.heap.size r0 Aa na ca := ⟨ba, ia.ext x2, aa, aa⟩
  clear ba aa ia
  generalize (w1.alloc (.cells #[.int .i64 r0.stripe, .int .i64 r0.version, .int .i64 r0.need, .int .i64 r0.phase, .slice Aa na ca] 25)) = W0 at *
  generalize hg : w1.heap.size = g at *
  have HG := Lib.hid hg
  clear hg
  go_loopw [10] (fun i wr => ∃ (k : Nat) (r : Rounds.R) (D : Option Addr) (q e : Nat), k ≤ 60 ∧ k ≤ n ∧ i = .int .i64 k ∧ r.marks.length = N ∧ Held wr g g g r D q e ∧ Ext w1 wr) (fun i _ => 60 - (intOf i).toNat)
  case atStart => exact ⟨0, r0, Aa, na, ca, by omega, by omega, rfl, hlen0, st, x2⟩
  case round =>
    obtain ⟨k, r, D, q, e, hk1, hk2, rfl, hrl, hH, hx⟩ := hrel
    clear st
    by_cases hkn : k < n
    · have q1 : (k : Int) < n := by omega
      by_cases hk6 : k < 60
      · have q2 : (k : Int) < 60 := by omega
        obtain ⟨b0, o0, rfl, y0, y1, y2, y3⟩ := (hl1.ext hx).at_ k (by rw [hln]; exact hkn)
        generalize hop : opget l k = o at *
        have hqn : N = q := by rw [← hH.is_.len]; exact hrl.symm
        subst hqn
        have hc : ∀ W, Ext wr W → Calls Try.prog 33 #[rval r D N e, oval o] W (GivesR D N (doesR r o) (doesE r o) W) := fun W hW => does_any W r D N e (hH.is_.ext hW) (by omega) o
        obtain ⟨R, hR⟩ : ∃ R, doesR r o = R := ⟨_, rfl⟩
        obtain ⟨E, hE⟩ : ∃ E, doesE r o = E := ⟨_, rfl⟩
        rw [hR, hE] at hc
        have HC := Lib.hid hc
        have HR := Lib.hid hR
        have HE := Lib.hid hE
        have c0 := hH.bx.c0
        have c1 := hH.bx.c1
        have c2 := hH.bx.c2
        have c3 := hH.bx.c3
        have c4 := hH.bx.c4
        have hS : ∀ W : World, Ext wr W → (W.cell? ⟨g, 0, none⟩ = some (.int .i64 r.stripe) ∧ W.cell? ⟨g, 1, none⟩ = some (.int .i64 r.version) ∧ W.cell? ⟨g, 2, none⟩ = some (.int .i64 r.need) ∧ W.cell? ⟨g, 3, none⟩ = some (.int .i64 r.phase) ∧ W.cell? ⟨g, 4, none⟩ = some (.slice D N e) ∧ W.cell? ⟨b0, o0 + k * 4, none⟩ = some (.int .i64 o.kind) ∧ W.cell? ⟨b0, o0 + k * 4 + 1, none⟩ = some (.int .i64 o.index) ∧ W.cell? ⟨b0, o0 + k * 4 + 2, none⟩ = some (.int .u8 o.op) ∧ W.cell? ⟨b0, o0 + k * 4 + 3, none⟩ = some (.int .i64 o.e)) :=
          fun W hW => ⟨hW.cell c0, hW.cell c1, hW.cell c2, hW.cell c3, hW.cell c4, hW.cell y0, hW.cell y1, hW.cell y2, hW.cell y3⟩
        have HS := Lib.hid hS
        have HH := Lib.hid hH
        have lg := hH.bx.lt
        clear hc hR hE hS hH
        obtain ⟨wo, rfl⟩ : ∃ wo : World, wo = wr := ⟨_, rfl⟩
        go_wp2_with (fail)
        go_cut [11, 12] (fun s11 s12 wx => ∃ wv : World, wv = wx ∧ s12 = .int .i64 E ∧ ∃ (h : Nat) (D1 : Option Addr) (n1 e1 : Nat), s11 = .pointer (some ⟨h, 0, none⟩) ∧ wo.heap.size ≤ h ∧ Held wx h g h R D1 n1 e1 ∧ Ext wo wx)
        case first =>
          go_region_held3 (fun W => W.cell? ⟨g, 0, none⟩ = some (.int .i64 r.stripe) ∧ W.cell? ⟨g, 1, none⟩ = some (.int .i64 r.version) ∧ W.cell? ⟨g, 2, none⟩ = some (.int .i64 r.need) ∧ W.cell? ⟨g, 3, none⟩ = some (.int .i64 r.phase) ∧ W.cell? ⟨g, 4, none⟩ = some (.slice D N e) ∧ W.cell? ⟨b0, o0 + k * 4, none⟩ = some (.int .i64 o.kind) ∧ W.cell? ⟨b0, o0 + k * 4 + 1, none⟩ = some (.int .i64 o.index) ∧ W.cell? ⟨b0, o0 + k * 4 + 2, none⟩ = some (.int .u8 o.op) ∧ W.cell? ⟨b0, o0 + k * 4 + 3, none⟩ = some (.int .i64 o.e))
            (first | (refine HS.out _ ?_; (first | (with_reducible exact Ext.drew _) | (with_reducible exact (Ext.drew _).trans x9) | (with_reducible exact ((Ext.drew _).trans x9).thenAlloc _) | (with_reducible exact (Ext.alloc _ _).thenDrew) | (with_reducible exact ((Ext.alloc _ _).thenDrew).trans x9) | (with_reducible exact Ext.five (((Ext.drew _).trans x9).thenAlloc _) ((Ext.drew _).trans x9).size _ _ _ _ _) | (with_reducible exact Ext.five (((Ext.alloc _ _).thenDrew).trans x9) (Nat.le_refl _) _ _ _ _ _))))
            (first | ((with_reducible refine (HC.out _ ?_).mono ?_); (focus (first | (with_reducible exact Ext.drew _) | (with_reducible exact (Ext.alloc _ _).thenDrew))); rintro x9 w9 ⟨D9, n9, e9, rfl, hD9, hf9, x9⟩; try (with_reducible have bx9 := (Bx.new wo 0 0 0 0 (.slice none 0 0) rfl).ext ((Ext.drew _).trans x9); have d0 := bx9.c0; have d1 := bx9.c1; have d2 := bx9.c2; have d3 := bx9.c3; have d4 := bx9.c4; have f0 := bx9.fz 0; have f1 := bx9.fz 1; have f2 := bx9.fz 2; have f3 := bx9.fz 3; have f4 := bx9.fz 4)))
          · go_wp2_with (fail)
            go_meet
            have z9 := ((Ext.drew wo).trans x9).size
            have bn := Bx.new w9 R.stripe R.version R.need R.phase (.slice D9 n9 e9) rfl
            have aw := HH.out.a.step hf9 (Nat.lt_of_lt_of_le HH.out.bx.lt (Ext.drew wo).size)
            have aw2 := Away.old hD9 (Nat.le_refl _)
            exact ⟨_, rfl, rfl, _, D9, n9, e9, rfl, z9, ⟨bn, hD9.ext (Ext.alloc _ _), aw, aw2⟩, ((Ext.drew wo).trans x9).thenAlloc _⟩
          · go_wp2_with (fail)
            go_meet
            have hin := Held.into HH.out (W1 := (wo.alloc (.cells #[.int .i64 0, .int .i64 0, .int .i64 0, .int .i64 0, .slice none 0 0] 25)).drew) ((Ext.alloc _ _).thenDrew).size HH.out.bx.lt hf9 hD9 bx9 ((HH.out.away (Nat.le_refl _)).step hf9 (by simp))
            exact ⟨_, rfl, rfl, _, D9, n9, e9, rfl, Nat.le_refl _, hin, Ext.five (((Ext.alloc _ _).thenDrew).trans x9) (Nat.le_refl _) _ _ _ _ _⟩
        case rest =>
          obtain ⟨wv, rfl, rfl, h, D1', n1, e1, rfl, hwh, hN, hxx⟩ := hcut
          have hG := HH.out.ext hxx
          have hx2 := hx.trans hxx
          have lgv := hG.bx.lt
          have hgh : g < h := Nat.lt_of_lt_of_le HH.out.bx.lt hwh
          have z0 := hxx.cell y0
          have z1 := hxx.cell y1
          have z2 := hxx.cell y2
          have z3 := hxx.cell y3
          have hRl : R.marks.length = N := by rw [← HR.out, does_len]; exact hrl
          have hn1 : N = n1 := by rw [← hN.is_.len]; exact hRl.symm
          subst hn1
          have u0 := hN.bx.c0
          have u1 := hN.bx.c1
          have u2 := hN.bx.c2
          have u3 := hN.bx.c3
          have u4 := hN.bx.c4
          have f0 := hG.bx.fz 0
          have f1 := hG.bx.fz 1
          have f2 := hG.bx.fz 2
          have f3 := hG.bx.fz 3
          have f4 := hG.bx.fz 4
          have v0 := hG.bx.c0
          have v1 := hG.bx.c1
          have v2 := hG.bx.c2
          have v3 := hG.bx.c3
          have v4 := hG.bx.c4
          clear c0 c1 c2 c3 c4 y0 y1 y2 y3 HS HC lg
          by_cases hE0 : E = 0
          · have e0 : (E == 0) = true := by rw [hE0]; rfl
            by_cases h7 : o.kind = 7
            · rw [h7] at z0
              clear z1 z2 z3
              go_wp2_with (fail)
              exact ⟨⟨k + 1, R, D1', N, e1, by omega, by omega, rfl, hRl, ⟨hG.bx.whole _ _ _ _ _, hN.is_.five hN.a _ _ _ _ _, hN.a, hN.a⟩, Ext.five hx2 (by have := HG.out; omega) _ _ _ _ _⟩, by simp only [intOf]; omega⟩
            · by_cases h8 : o.kind = 8
              · rw [h8] at z0
                clear z1 z2 z3
                go_wp2_with (fail)
                exact ⟨⟨k + 1, R, D1', N, e1, by omega, by omega, rfl, hRl, ⟨hG.bx.whole _ _ _ _ _, hN.is_.five hN.a _ _ _ _ _, hN.a, hN.a⟩, Ext.five hx2 (by have := HG.out; omega) _ _ _ _ _⟩, by simp only [intOf]; omega⟩
              · have k7 : (o.kind != 7) = true := by rw [bne_iff_ne]; exact h7
                have k8 : (o.kind != 8) = true := by rw [bne_iff_ne]; exact h8
                have ht := does_twice r o h7 h8 (by rw [HE.out]; exact hE0)
                rw [HR.out] at ht
                have hc2 : ∀ W, Ext wv W → Calls Try.prog 33 #[rval R D1' N e1, oval o] W (GivesR D1' N R 0 W) := fun W hW => (does_any W R D1' N e1 (hN.is_.ext hW) (by omega) o).mono (fun e w' h => h.of ht.2 ht.1)
                have HC2 := Lib.hid hc2
                have hN2 : Held wv h h h R D1' N e1 := ⟨hN.bx, hN.is_, hN.b, hN.b⟩
                have HN2 := Lib.hid hN2
                have HN := Lib.hid hN
                have HG2 := Lib.hid hG
                have hS2 : ∀ W : World, Ext wv W → (W.cell? ⟨h, 0, none⟩ = some (.int .i64 R.stripe) ∧ W.cell? ⟨h, 1, none⟩ = some (.int .i64 R.version) ∧ W.cell? ⟨h, 2, none⟩ = some (.int .i64 R.need) ∧ W.cell? ⟨h, 3, none⟩ = some (.int .i64 R.phase) ∧ W.cell? ⟨h, 4, none⟩ = some (.slice D1' N e1) ∧ W.cell? ⟨b0, o0 + k * 4, none⟩ = some (.int .i64 o.kind) ∧ W.cell? ⟨b0, o0 + k * 4 + 1, none⟩ = some (.int .i64 o.index) ∧ W.cell? ⟨b0, o0 + k * 4 + 2, none⟩ = some (.int .u8 o.op) ∧ W.cell? ⟨b0, o0 + k * 4 + 3, none⟩ = some (.int .i64 o.e)) :=
                  fun W hW => ⟨hW.cell u0, hW.cell u1, hW.cell u2, hW.cell u3, hW.cell u4, hW.cell z0, hW.cell z1, hW.cell z2, hW.cell z3⟩
                have HS2 := Lib.hid hS2
                clear ht hc2 hN2 hS2 hN hG f0 f1 f2 f3 f4 v0 v1 v2 v3 v4
                subst hE0
                go_wp2_with (fail)
                go_cut [13, 14] (fun s13 s14 wx => ∃ wq : World, wq = wx ∧ s14 = .int .i64 0 ∧ ∃ (h2 : Nat) (D2 : Option Addr) (n2 e2 : Nat), s13 = .pointer (some ⟨h2, 0, none⟩) ∧ wv.heap.size ≤ h2 ∧ Held wx h2 h h2 R D2 n2 e2 ∧ Ext wv wx)
                case first =>
                  go_region_held3 (fun W => W.cell? ⟨h, 0, none⟩ = some (.int .i64 R.stripe) ∧ W.cell? ⟨h, 1, none⟩ = some (.int .i64 R.version) ∧ W.cell? ⟨h, 2, none⟩ = some (.int .i64 R.need) ∧ W.cell? ⟨h, 3, none⟩ = some (.int .i64 R.phase) ∧ W.cell? ⟨h, 4, none⟩ = some (.slice D1' N e1) ∧ W.cell? ⟨b0, o0 + k * 4, none⟩ = some (.int .i64 o.kind) ∧ W.cell? ⟨b0, o0 + k * 4 + 1, none⟩ = some (.int .i64 o.index) ∧ W.cell? ⟨b0, o0 + k * 4 + 2, none⟩ = some (.int .u8 o.op) ∧ W.cell? ⟨b0, o0 + k * 4 + 3, none⟩ = some (.int .i64 o.e))
                    (first | (refine HS2.out _ ?_; (first | (with_reducible exact Ext.drew _) | (with_reducible exact (Ext.drew _).trans x9) | (with_reducible exact ((Ext.drew _).trans x9).thenAlloc _) | (with_reducible exact (Ext.alloc _ _).thenDrew) | (with_reducible exact ((Ext.alloc _ _).thenDrew).trans x9) | (with_reducible exact Ext.five (((Ext.drew _).trans x9).thenAlloc _) ((Ext.drew _).trans x9).size _ _ _ _ _) | (with_reducible exact Ext.five (((Ext.alloc _ _).thenDrew).trans x9) (Nat.le_refl _) _ _ _ _ _))))
                    (first | ((with_reducible refine (HC2.out _ ?_).mono ?_); (focus (first | (with_reducible exact Ext.drew _) | (with_reducible exact (Ext.alloc _ _).thenDrew))); rintro x9 w9 ⟨D9, n9, e9, rfl, hD9, hf9, x9⟩; try (with_reducible have bx9 := (Bx.new wv 0 0 0 0 (.slice none 0 0) rfl).ext ((Ext.drew _).trans x9); have d0 := bx9.c0; have d1 := bx9.c1; have d2 := bx9.c2; have d3 := bx9.c3; have d4 := bx9.c4; have f0 := bx9.fz 0; have f1 := bx9.fz 1; have f2 := bx9.fz 2; have f3 := bx9.fz 3; have f4 := bx9.fz 4)))
                  · go_wp2_with (fail)
                    go_meet
                    have z9 := ((Ext.drew wv).trans x9).size
                    have bn := Bx.new w9 R.stripe R.version R.need R.phase (.slice D9 n9 e9) rfl
                    have aw := HN2.out.a.step hf9 (Nat.lt_of_lt_of_le HN2.out.bx.lt (Ext.drew wv).size)
                    have aw2 := Away.old hD9 (Nat.le_refl _)
                    exact ⟨_, rfl, rfl, _, D9, n9, e9, rfl, z9, ⟨bn, hD9.ext (Ext.alloc _ _), aw, aw2⟩, ((Ext.drew wv).trans x9).thenAlloc _⟩
                  · go_wp2_with (fail)
                    go_meet
                    have hin := Held.into HN2.out (W1 := (wv.alloc (.cells #[.int .i64 0, .int .i64 0, .int .i64 0, .int .i64 0, .slice none 0 0] 25)).drew) ((Ext.alloc _ _).thenDrew).size HN2.out.bx.lt hf9 hD9 bx9 ((HN2.out.away (Nat.le_refl _)).step hf9 (by simp))
                    exact ⟨_, rfl, rfl, _, D9, n9, e9, rfl, Nat.le_refl _, hin, Ext.five (((Ext.alloc _ _).thenDrew).trans x9) (Nat.le_refl _) _ _ _ _ _⟩
                case rest =>
                  obtain ⟨wq, rfl, rfl, h2, D2, n2, e2, rfl, hwq, hM, hyy⟩ := hcut
                  have hNq := HN.out.ext hyy
                  have hGq := HG2.out.ext hyy
                  have hx3 := hx2.trans hyy
                  have u0 := hNq.bx.c0
                  have u1 := hNq.bx.c1
                  have u2 := hNq.bx.c2
                  have u3 := hNq.bx.c3
                  have u4 := hNq.bx.c4
                  have t0 := hM.bx.c0
                  have t1 := hM.bx.c1
                  have t2 := hM.bx.c2
                  have t3 := hM.bx.c3
                  have t4 := hM.bx.c4
                  have sr := sameRound_any wq R R D1' D2 N e1 n2 e2 hNq.is_ hM.is_
                  rw [decide_eq_true rfl] at sr
                  have SR := Lib.hid sr
                  clear sr z0 z1 z2 z3 HS2 HC2
                  go_wp2_with (fail)
                  refine SR.out.mono ?_
                  rintro x8 w8 ⟨rfl, x8⟩
                  have hN8 := hNq.ext x8
                  have hG8 := hGq.ext x8
                  have hx4 := hx3.trans x8
                  clear u0 u1 u2 u3 u4 t0 t1 t2 t3 t4
                  have u0 := hN8.bx.c0
                  have u1 := hN8.bx.c1
                  have u2 := hN8.bx.c2
                  have u3 := hN8.bx.c3
                  have u4 := hN8.bx.c4
                  have f0 := hG8.bx.fz 0
                  have f1 := hG8.bx.fz 1
                  have f2 := hG8.bx.fz 2
                  have f3 := hG8.bx.fz 3
                  have f4 := hG8.bx.fz 4
                  have v0 := hG8.bx.c0
                  have v1 := hG8.bx.c1
                  have v2 := hG8.bx.c2
                  have v3 := hG8.bx.c3
                  have v4 := hG8.bx.c4
                  go_wp2_with (fail)
                  exact ⟨⟨k + 1, R, D1', N, e1, by omega, by omega, rfl, hRl, ⟨hG8.bx.whole _ _ _ _ _, hN8.is_.five hN8.a _ _ _ _ _, hN8.a, hN8.a⟩, Ext.five hx4 (by have := HG.out; omega) _ _ _ _ _⟩, by simp only [intOf]; omega⟩
          · have e0 : (E == 0) = false := by rw [beq_eq_false_iff_ne]; exact hE0
            go_wp2_with (fail)
            exact ⟨⟨k + 1, r, D, N, e, by omega, by omega, rfl, hrl, hG, hx2⟩, by simp only [intOf]; omega⟩
      · have q2 : ¬ (k : Int) < 60 := by omega
        go_wp2_with (fail)
        refine (awake_any wr).mono ?_
        rintro x9 w9 ⟨rfl, x9⟩
        go_wp2_with (fail)
        go_ret
        exact ⟨rfl, X.out.trans (hx.trans x9)⟩
    · have q1 : ¬ (k : Int) < n := by omega
      go_wp2_with (fail)
      refine (awake_any wr).mono ?_
      rintro x9 w9 ⟨rfl, x9⟩
      go_wp2_with (fail)
      go_ret
      exact ⟨rfl, X.out.trans (hx.trans x9)⟩
end roundTwice
end Go.Proofs.Ytgfhpgomlocllaa
