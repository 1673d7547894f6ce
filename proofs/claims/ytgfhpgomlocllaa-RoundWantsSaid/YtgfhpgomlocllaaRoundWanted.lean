/- RoundWants' walk: what is wanted is wanted of each index once, rising; for every input. -/
import Derived.Test.YtgfhpgomlocllaaRoundAwake
import Derived.Test.YtgfhpgomlocllaaRoundHeld
import Derived.Test.YtgfhpgomlocllaaRoundsWanted
import Derived.Deep.DeepCutAuto
namespace Go.Proofs.Ytgfhpgomlocllaa
open Go.ChangeShapes Go.WideShapes Go.ChangeAt Go.RowKit

namespace roundWants
set_option maxRecDepth 100000 in
set_option maxHeartbeats 4000000 in
theorem walk {H : Type} {enc : TypeId × Value → H} {base : Nat} (w : World) (a0 a1 : Int) (v2 : Value) (d2 : DataW H) (p2 : List MemPlace) (w0 : (Lit.int .u8 a0).wf = true) (w1 : (Lit.int .u8 a1).wf = true)
    (o2 : Value.okWide Try.prog w .any base 49 v2) (h2 : DataW.Trod enc Try.prog w 0 (fun _ => true) true 49 v2 d2 p2) :
    Calls Try.prog 9 #[.int .u8 a0, .int .u8 a1, v2] w fun e w' => e = .returned (.bool true) ∧ Ext w w' := by
  obtain ⟨a, rfl⟩ := wf_u8 w0
  obtain ⟨b, rfl⟩ := wf_u8 w1
  obtain ⟨A, n, c, l, rfl, hl⟩ := ops_open o2 h2
  clear w0 w1 o2 h2
  have hmx := hl.max
  have hle := hl.le
  have hln := hl.len
  go_enter Try.func9, Try.ntmps9
  try dsimp only [List.append]
  go_wp2_with (fail)
  refine (begun_any w a b).mono ?_
  rintro x w1 ⟨Aa, na, ca, rfl, ia, _, x1⟩
  have hl1 := hl.ext x1
  have X := Lib.hid x1
  clear x1 hl
  have hbeg : ∃ d N : Nat, beg a b = Rounds.begun 5 9 (d : Int) N ∧ manyOf a = N ∧ 1 ≤ N ∧ N ≤ 12 ∧ 1 ≤ d ∧ d ≤ N := by
    have h1 : 1 ≤ manyOf a ∧ manyOf a ≤ 12 := by unfold manyOf; omega
    have h2 := Nat.mod_lt b.toNat (show 0 < manyOf a by omega)
    exact ⟨1 + b.toNat % manyOf a, manyOf a, rfl, rfl, h1.1, h1.2, by omega, by omega⟩
  obtain ⟨d, N, hbg, hmn, N1, N2, D1, D2⟩ := hbeg
  obtain ⟨r0, hr0⟩ : ∃ r0, Rounds.begun 5 9 (d : Int) N = r0 := ⟨_, rfl⟩
  have hlen0 : r0.marks.length = N := by rw [← hr0]; simp [Rounds.begun]
  have hri0 : Rounds.Right r0 := by rw [← hr0]; exact (Rounds.safe_begun N d (by omega) (by omega)).right
  rw [hr0] at hbg
  have HBG := Lib.hid hbg
  have HR0 := Lib.hid hr0
  have HMN := Lib.hid hmn
  clear hbg hmn hr0
  rw [HBG.out] at ia ⊢
  rw [HMN.out]
  go_wp2_with (fail)
  have ba := Bx.new w1 r0.stripe r0.version r0.need r0.phase (.slice Aa na ca) rfl
  have x2 : Ext w1 (w1.alloc (.cells #[.int .i64 r0.stripe, .int .i64 r0.version, .int .i64 r0.need, .int .i64 r0.phase, .slice Aa na ca] 25)) := Ext.alloc _ _
  have aa : Away Aa na w1.heap.size := Away.old ia (Nat.le_refl _)
  have st : Held (w1.alloc (.cells #[.int .i64 r0.stripe, .int .i64 r0.version, .int .i64 r0.need, .int .i64 r0.phase, .slice Aa na ca] 25)) w1.heap.size w1.heap.size w1.heap.size r0 Aa na ca := ⟨ba, ia.ext x2, aa, aa⟩
  clear ba aa ia
  generalize (w1.alloc (.cells #[.int .i64 r0.stripe, .int .i64 r0.version, .int .i64 r0.need, .int .i64 r0.phase, .slice Aa na ca] 25)) = W0 at *
  generalize hg : w1.heap.size = g at *
  have HG := Lib.hid hg
  clear hg
  go_loopw [10] (fun i wr => ∃ (k : Nat) (r : Rounds.R) (D : Option Addr) (q e : Nat), k ≤ 60 ∧ k ≤ n ∧ i = .int .i64 k ∧ r.marks.length = N ∧ Rounds.Right r ∧ Held wr g g g r D q e ∧ Ext w1 wr) (fun i _ => 60 - (intOf i).toNat)
  case atStart => exact ⟨0, r0, Aa, na, ca, by omega, by omega, rfl, hlen0, hri0, st, x2⟩
  case round =>
    obtain ⟨k, r, D, q, e, hk1, hk2, rfl, hrl, hri, hH, hx⟩ := hrel
    clear st
    by_cases hkn : k < n
    · have q1 : (k : Int) < n := by omega
      by_cases hk6 : k < 60
      · have q2 : (k : Int) < 60 := by omega
        obtain ⟨b0, o0, rfl, y0, y1, y2, y3⟩ := (hl1.ext hx).at_ k (by rw [hln]; exact hkn)
        generalize hop : opget l k = o at *
        have hqn : N = q := by rw [← hH.is_.len]; exact hrl.symm
        subst hqn
        have hc : ∀ W, Ext wr W → Calls Try.prog 33 #[rval r D N e, oval o] W (GivesR D N (doesR r o) (doesE r o) W) := fun W hW => does_any W r D N e (hH.is_.ext hW) (by omega) o
        obtain ⟨R, hR⟩ : ∃ R, doesR r o = R := ⟨_, rfl⟩
        obtain ⟨E, hE⟩ : ∃ E, doesE r o = E := ⟨_, rfl⟩
        rw [hR, hE] at hc
        have HC := Lib.hid hc
        have HR := Lib.hid hR
        have HE := Lib.hid hE
        have c0 := hH.bx.c0
        have c1 := hH.bx.c1
        have c2 := hH.bx.c2
        have c3 := hH.bx.c3
        have c4 := hH.bx.c4
        have hS : ∀ W : World, Ext wr W → (W.cell? ⟨g, 0, none⟩ = some (.int .i64 r.stripe) ∧ W.cell? ⟨g, 1, none⟩ = some (.int .i64 r.version) ∧ W.cell? ⟨g, 2, none⟩ = some (.int .i64 r.need) ∧ W.cell? ⟨g, 3, none⟩ = some (.int .i64 r.phase) ∧ W.cell? ⟨g, 4, none⟩ = some (.slice D N e) ∧ W.cell? ⟨b0, o0 + k * 4, none⟩ = some (.int .i64 o.kind) ∧ W.cell? ⟨b0, o0 + k * 4 + 1, none⟩ = some (.int .i64 o.index) ∧ W.cell? ⟨b0, o0 + k * 4 + 2, none⟩ = some (.int .u8 o.op) ∧ W.cell? ⟨b0, o0 + k * 4 + 3, none⟩ = some (.int .i64 o.e)) :=
          fun W hW => ⟨hW.cell c0, hW.cell c1, hW.cell c2, hW.cell c3, hW.cell c4, hW.cell y0, hW.cell y1, hW.cell y2, hW.cell y3⟩
        have HS := Lib.hid hS
        have HH := Lib.hid hH
        have lg := hH.bx.lt
        clear hc hR hE hS hH
        obtain ⟨wo, rfl⟩ : ∃ wo : World, wo = wr := ⟨_, rfl⟩
        go_wp2_with (fail)
        go_cut [11, 12] (fun s11 s12 wx => ∃ wv : World, wv = wx ∧ s12 = .int .i64 E ∧ ∃ (h : Nat) (D1 : Option Addr) (n1 e1 : Nat), s11 = .pointer (some ⟨h, 0, none⟩) ∧ wo.heap.size ≤ h ∧ Held wx h g h R D1 n1 e1 ∧ Ext wo wx)
        case first =>
          go_region_held3 (fun W => W.cell? ⟨g, 0, none⟩ = some (.int .i64 r.stripe) ∧ W.cell? ⟨g, 1, none⟩ = some (.int .i64 r.version) ∧ W.cell? ⟨g, 2, none⟩ = some (.int .i64 r.need) ∧ W.cell? ⟨g, 3, none⟩ = some (.int .i64 r.phase) ∧ W.cell? ⟨g, 4, none⟩ = some (.slice D N e) ∧ W.cell? ⟨b0, o0 + k * 4, none⟩ = some (.int .i64 o.kind) ∧ W.cell? ⟨b0, o0 + k * 4 + 1, none⟩ = some (.int .i64 o.index) ∧ W.cell? ⟨b0, o0 + k * 4 + 2, none⟩ = some (.int .u8 o.op) ∧ W.cell? ⟨b0, o0 + k * 4 + 3, none⟩ = some (.int .i64 o.e))
            (first | (refine HS.out _ ?_; (first | (with_reducible exact Ext.drew _) | (with_reducible exact (Ext.drew _).trans x9) | (with_reducible exact ((Ext.drew _).trans x9).thenAlloc _) | (with_reducible exact (Ext.alloc _ _).thenDrew) | (with_reducible exact ((Ext.alloc _ _).thenDrew).trans x9) | (with_reducible exact Ext.five (((Ext.drew _).trans x9).thenAlloc _) ((Ext.drew _).trans x9).size _ _ _ _ _) | (with_reducible exact Ext.five (((Ext.alloc _ _).thenDrew).trans x9) (Nat.le_refl _) _ _ _ _ _))))
            (first | ((with_reducible refine (HC.out _ ?_).mono ?_); (focus (first | (with_reducible exact Ext.drew _) | (with_reducible exact (Ext.alloc _ _).thenDrew))); rintro x9 w9 ⟨D9, n9, e9, rfl, hD9, hf9, x9⟩; try (with_reducible have bx9 := (Bx.new wo 0 0 0 0 (.slice none 0 0) rfl).ext ((Ext.drew _).trans x9); have d0 := bx9.c0; have d1 := bx9.c1; have d2 := bx9.c2; have d3 := bx9.c3; have d4 := bx9.c4; have f0 := bx9.fz 0; have f1 := bx9.fz 1; have f2 := bx9.fz 2; have f3 := bx9.fz 3; have f4 := bx9.fz 4)))
          · go_wp2_with (fail)
            go_meet
            have z9 := ((Ext.drew wo).trans x9).size
            have bn := Bx.new w9 R.stripe R.version R.need R.phase (.slice D9 n9 e9) rfl
            have aw := HH.out.a.step hf9 (Nat.lt_of_lt_of_le HH.out.bx.lt (Ext.drew wo).size)
            have aw2 := Away.old hD9 (Nat.le_refl _)
            exact ⟨_, rfl, rfl, _, D9, n9, e9, rfl, z9, ⟨bn, hD9.ext (Ext.alloc _ _), aw, aw2⟩, ((Ext.drew wo).trans x9).thenAlloc _⟩
          · go_wp2_with (fail)
            go_meet
            have hin := Held.into HH.out (W1 := (wo.alloc (.cells #[.int .i64 0, .int .i64 0, .int .i64 0, .int .i64 0, .slice none 0 0] 25)).drew) ((Ext.alloc _ _).thenDrew).size HH.out.bx.lt hf9 hD9 bx9 ((HH.out.away (Nat.le_refl _)).step hf9 (by simp))
            exact ⟨_, rfl, rfl, _, D9, n9, e9, rfl, Nat.le_refl _, hin, Ext.five (((Ext.alloc _ _).thenDrew).trans x9) (Nat.le_refl _) _ _ _ _ _⟩
        case rest =>
          obtain ⟨wv, rfl, rfl, h, D1', n1, e1, rfl, hwh, hN, hxx⟩ := hcut
          have hG := HH.out.ext hxx
          have hx2 := hx.trans hxx
          have lgv := hG.bx.lt
          have hgh : g < h := Nat.lt_of_lt_of_le HH.out.bx.lt hwh
          have hRl : R.marks.length = N := by rw [← HR.out, does_len]; exact hrl
          have hRr : Rounds.Right R := by rw [← HR.out, doesR_act]; exact Rounds.right_act _ _ _ _ hri
          have hn1 : N = n1 := by rw [← hN.is_.len]; exact hRl.symm
          subst hn1
          clear c0 c1 c2 c3 c4 y0 y1 y2 y3 HS HC lg
          by_cases hE0 : E = 0
          · have e0 : (E == 0) = true := by rw [hE0]; rfl
            have u0 := hN.bx.c0
            have u1 := hN.bx.c1
            have u2 := hN.bx.c2
            have u3 := hN.bx.c3
            have u4 := hN.bx.c4
            have f0 := hG.bx.fz 0
            have f1 := hG.bx.fz 1
            have f2 := hG.bx.fz 2
            have f3 := hG.bx.fz 3
            have f4 := hG.bx.fz 4
            have v0 := hG.bx.c0
            have v1 := hG.bx.c1
            have v2 := hG.bx.c2
            have v3 := hG.bx.c3
            have v4 := hG.bx.c4
            have hZ : Held (((((wv.setCell ⟨g, 0, none⟩ (.int .i64 R.stripe)).setCell ⟨g, 1, none⟩ (.int .i64 R.version)).setCell ⟨g, 2, none⟩ (.int .i64 R.need)).setCell ⟨g, 3, none⟩ (.int .i64 R.phase)).setCell ⟨g, 4, none⟩ (.slice D1' N e1)) g g g R D1' N e1 := ⟨hG.bx.whole _ _ _ _ _, hN.is_.five hN.a _ _ _ _ _, hN.a, hN.a⟩
            have hxz : Ext w1 (((((wv.setCell ⟨g, 0, none⟩ (.int .i64 R.stripe)).setCell ⟨g, 1, none⟩ (.int .i64 R.version)).setCell ⟨g, 2, none⟩ (.int .i64 R.need)).setCell ⟨g, 3, none⟩ (.int .i64 R.phase)).setCell ⟨g, 4, none⟩ (.slice D1' N e1)) := Ext.five hx2 (by have := HG.out; omega) _ _ _ _ _
            have hst : ∃ wz, (((((wv.setCell ⟨g, 0, none⟩ (.int .i64 R.stripe)).setCell ⟨g, 1, none⟩ (.int .i64 R.version)).setCell ⟨g, 2, none⟩ (.int .i64 R.need)).setCell ⟨g, 3, none⟩ (.int .i64 R.phase)).setCell ⟨g, 4, none⟩ (.slice D1' N e1)) = wz := ⟨_, rfl⟩
            have z0 := hZ.bx.c0
            have z1 := hZ.bx.c1
            have z2 := hZ.bx.c2
            have z3 := hZ.bx.c3
            have z4 := hZ.bx.c4
            have wl0 := wants_any _ R D1' N e1 hZ.is_
            have WL0 := Lib.hid wl0
            have HZ := Lib.hid hZ
            have HXZ := Lib.hid hxz
            clear wl0 hZ hxz hst
            go_wp2_with (fail)
            generalize (((((wv.setCell ⟨g, 0, none⟩ (.int .i64 R.stripe)).setCell ⟨g, 1, none⟩ (.int .i64 R.version)).setCell ⟨g, 2, none⟩ (.int .i64 R.need)).setCell ⟨g, 3, none⟩ (.int .i64 R.phase)).setCell ⟨g, 4, none⟩ (.slice D1' N e1)) = wz at *
            clear z0 z1 z2 z3 z4 u0 u1 u2 u3 u4 f0 f1 f2 f3 f4 v0 v1 v2 v3 v4
            have hZ := HZ.out
            have hxz := HXZ.out
            clear WL0
            have wl := wants_any wz R D1' N e1 hZ.is_
            have WL := Lib.hid wl
            have GZ := Lib.hid hZ
            clear wl
            obtain ⟨hend1, hend2⟩ := Rounds.wants_end hRr
            have hris := Rounds.wants_rising R
            rw [hRl] at hris
            have HRI := Lib.hid hris
            have c0 := hZ.bx.c0
            have c1 := hZ.bx.c1
            have c2 := hZ.bx.c2
            have c3 := hZ.bx.c3
            have c4 := hZ.bx.c4
            have hpp := Rounds.right_phase hRr
            clear hris
            go_wp2_with (fail)
            refine WL.out.mono ?_
            rintro x8 w8 ⟨B, m, cw, rfl, hW, x8⟩
            have HX8 := Lib.hid (hxz.trans x8)
            have hG8 := GZ.out.ext x8
            have hmW := hW.max
            have hlW := hW.le
            have hLW := hW.len
            generalize Rounds.wants R = wl at *
            rw [hLW] at hend1 hend2
            clear c0 c1 c2 c3 c4 WL GZ x8
            go_wp2_with (fail)
            go_loopw [13, 52] (fun s13 s52 wy => ∃ j : Nat, j ≤ m ∧ s52 = .int .i64 j ∧ s13 = .int .i64 (Rounds.lastOf wl j) ∧ Ext w8 wy) (fun _ i _ => m - (intOf i).toNat)
            case atStart => exact ⟨0, by omega, rfl, rfl, Ext.refl _⟩
            case round =>
              obtain ⟨j, hj, rfl, rfl, hy⟩ := hrel
              by_cases hjm : j < m
              · have q3 : (j : Int) < m := by omega
                obtain ⟨b2, o2, rfl, k0, k1⟩ := (hW.ext hy).at_ hjm
                have hb := HRI.out.bound j (by omega)
                obtain ⟨hs1, hs2⟩ := Rounds.rising_last HRI.out (k := j) (by omega)
                have hp : wget wl j = Rounds.pget wl j := rfl
                rw [hp] at k0 k1
                have HS2 := Lib.hid hs2
                generalize Rounds.lastOf wl j = la at *
                generalize hpj : Rounds.pget wl j = pj at *
                obtain ⟨pi, po⟩ := pj
                obtain ⟨hb1, hb2, hb3, hb4⟩ := hb
                simp only at hb1 hb2 hb3 hb4 hs1 k0 k1 HS2
                clear hp hs2 hpj
                go_wp2_with (fail)
                exact ⟨⟨j + 1, by omega, rfl, by rw [HS2.out], hy.thenAlloc _⟩, by simp only [intOf]; omega⟩
              · have q3 : ¬ (j : Int) < m := by omega
                have hGy := hG8.ext hy
                have c3 := hGy.bx.c3
                have HGY := Lib.hid hGy
                have HY := Lib.hid (HX8.out.trans hy)
                have hps : R.phase = 1 ∨ R.phase = 2 ∨ R.phase = 3 ∨ R.phase = 4 ∨ R.phase = 5 ∨ R.phase = 6 := by omega
                by_cases hm0 : m = 0
                · have qm : ((m : Int) == 0) = true := by rw [beq_iff_eq]; omega
                  rcases hps with hp | hp | hp | hp | hp | hp
                  · rw [hp] at c3
                    go_wp2_with (fail)
                    exact ⟨⟨k + 1, R, D1', N, e1, by omega, by omega, rfl, hRl, hRr, HGY.out, HY.out⟩, by simp only [intOf]; omega⟩
                  · rw [hp] at c3
                    go_wp2_with (fail)
                    exact ⟨⟨k + 1, R, D1', N, e1, by omega, by omega, rfl, hRl, hRr, HGY.out, HY.out⟩, by simp only [intOf]; omega⟩
                  · exact absurd hm0 (hend2 (.inl hp))
                  · rw [hp] at c3
                    go_wp2_with (fail)
                    exact ⟨⟨k + 1, R, D1', N, e1, by omega, by omega, rfl, hRl, hRr, HGY.out, HY.out⟩, by simp only [intOf]; omega⟩
                  · exact absurd hm0 (hend2 (.inr hp))
                  · rw [hp] at c3
                    go_wp2_with (fail)
                    exact ⟨⟨k + 1, R, D1', N, e1, by omega, by omega, rfl, hRl, hRr, HGY.out, HY.out⟩, by simp only [intOf]; omega⟩
                · have qm : ((m : Int) == 0) = false := by rw [beq_eq_false_iff_ne]; omega
                  rcases hps with hp | hp | hp | hp | hp | hp
                  · rw [hp] at c3
                    go_wp2_with (fail)
                    exact ⟨⟨k + 1, R, D1', N, e1, by omega, by omega, rfl, hRl, hRr, HGY.out, HY.out⟩, by simp only [intOf]; omega⟩
                  · rw [hp] at c3
                    go_wp2_with (fail)
                    exact ⟨⟨k + 1, R, D1', N, e1, by omega, by omega, rfl, hRl, hRr, HGY.out, HY.out⟩, by simp only [intOf]; omega⟩
                  · rw [hp] at c3
                    go_wp2_with (fail)
                    exact ⟨⟨k + 1, R, D1', N, e1, by omega, by omega, rfl, hRl, hRr, HGY.out, HY.out⟩, by simp only [intOf]; omega⟩
                  · exact absurd (hend1 (.inl hp)) hm0
                  · rw [hp] at c3
                    go_wp2_with (fail)
                    exact ⟨⟨k + 1, R, D1', N, e1, by omega, by omega, rfl, hRl, hRr, HGY.out, HY.out⟩, by simp only [intOf]; omega⟩
                  · exact absurd (hend1 (.inr hp)) hm0
          · have e0 : (E == 0) = false := by rw [beq_eq_false_iff_ne]; exact hE0
            obtain ⟨wz, rfl⟩ : ∃ wz : World, wz = wv := ⟨_, rfl⟩
            have hZ := hG
            have wl := wants_any wz r D N e hZ.is_
            have WL := Lib.hid wl
            have GZ := Lib.hid hZ
            clear wl
            obtain ⟨hend1, hend2⟩ := Rounds.wants_end hri
            have hris := Rounds.wants_rising r
            rw [hrl] at hris
            have HRI := Lib.hid hris
            have c0 := hZ.bx.c0
            have c1 := hZ.bx.c1
            have c2 := hZ.bx.c2
            have c3 := hZ.bx.c3
            have c4 := hZ.bx.c4
            have hpp := Rounds.right_phase hri
            clear hris
            go_wp2_with (fail)
            refine WL.out.mono ?_
            rintro x8 w8 ⟨B, m, cw, rfl, hW, x8⟩
            have HX8 := Lib.hid (hx2.trans x8)
            have hG8 := GZ.out.ext x8
            have hmW := hW.max
            have hlW := hW.le
            have hLW := hW.len
            generalize Rounds.wants r = wl at *
            rw [hLW] at hend1 hend2
            clear c0 c1 c2 c3 c4 WL GZ x8
            go_wp2_with (fail)
            go_loopw [13, 52] (fun s13 s52 wy => ∃ j : Nat, j ≤ m ∧ s52 = .int .i64 j ∧ s13 = .int .i64 (Rounds.lastOf wl j) ∧ Ext w8 wy) (fun _ i _ => m - (intOf i).toNat)
            case atStart => exact ⟨0, by omega, rfl, rfl, Ext.refl _⟩
            case round =>
              obtain ⟨j, hj, rfl, rfl, hy⟩ := hrel
              by_cases hjm : j < m
              · have q3 : (j : Int) < m := by omega
                obtain ⟨b2, o2, rfl, k0, k1⟩ := (hW.ext hy).at_ hjm
                have hb := HRI.out.bound j (by omega)
                obtain ⟨hs1, hs2⟩ := Rounds.rising_last HRI.out (k := j) (by omega)
                have hp : wget wl j = Rounds.pget wl j := rfl
                rw [hp] at k0 k1
                have HS2 := Lib.hid hs2
                generalize Rounds.lastOf wl j = la at *
                generalize hpj : Rounds.pget wl j = pj at *
                obtain ⟨pi, po⟩ := pj
                obtain ⟨hb1, hb2, hb3, hb4⟩ := hb
                simp only at hb1 hb2 hb3 hb4 hs1 k0 k1 HS2
                clear hp hs2 hpj
                go_wp2_with (fail)
                exact ⟨⟨j + 1, by omega, rfl, by rw [HS2.out], hy.thenAlloc _⟩, by simp only [intOf]; omega⟩
              · have q3 : ¬ (j : Int) < m := by omega
                have hGy := hG8.ext hy
                have c3 := hGy.bx.c3
                have HGY := Lib.hid hGy
                have HY := Lib.hid (HX8.out.trans hy)
                have hps : r.phase = 1 ∨ r.phase = 2 ∨ r.phase = 3 ∨ r.phase = 4 ∨ r.phase = 5 ∨ r.phase = 6 := by omega
                by_cases hm0 : m = 0
                · have qm : ((m : Int) == 0) = true := by rw [beq_iff_eq]; omega
                  rcases hps with hp | hp | hp | hp | hp | hp
                  · rw [hp] at c3
                    go_wp2_with (fail)
                    exact ⟨⟨k + 1, r, D, N, e, by omega, by omega, rfl, hrl, hri, HGY.out, HY.out⟩, by simp only [intOf]; omega⟩
                  · rw [hp] at c3
                    go_wp2_with (fail)
                    exact ⟨⟨k + 1, r, D, N, e, by omega, by omega, rfl, hrl, hri, HGY.out, HY.out⟩, by simp only [intOf]; omega⟩
                  · exact absurd hm0 (hend2 (.inl hp))
                  · rw [hp] at c3
                    go_wp2_with (fail)
                    exact ⟨⟨k + 1, r, D, N, e, by omega, by omega, rfl, hrl, hri, HGY.out, HY.out⟩, by simp only [intOf]; omega⟩
                  · exact absurd hm0 (hend2 (.inr hp))
                  · rw [hp] at c3
                    go_wp2_with (fail)
                    exact ⟨⟨k + 1, r, D, N, e, by omega, by omega, rfl, hrl, hri, HGY.out, HY.out⟩, by simp only [intOf]; omega⟩
                · have qm : ((m : Int) == 0) = false := by rw [beq_eq_false_iff_ne]; omega
                  rcases hps with hp | hp | hp | hp | hp | hp
                  · rw [hp] at c3
                    go_wp2_with (fail)
                    exact ⟨⟨k + 1, r, D, N, e, by omega, by omega, rfl, hrl, hri, HGY.out, HY.out⟩, by simp only [intOf]; omega⟩
                  · rw [hp] at c3
                    go_wp2_with (fail)
                    exact ⟨⟨k + 1, r, D, N, e, by omega, by omega, rfl, hrl, hri, HGY.out, HY.out⟩, by simp only [intOf]; omega⟩
                  · rw [hp] at c3
                    go_wp2_with (fail)
                    exact ⟨⟨k + 1, r, D, N, e, by omega, by omega, rfl, hrl, hri, HGY.out, HY.out⟩, by simp only [intOf]; omega⟩
                  · exact absurd (hend1 (.inl hp)) hm0
                  · rw [hp] at c3
                    go_wp2_with (fail)
                    exact ⟨⟨k + 1, r, D, N, e, by omega, by omega, rfl, hrl, hri, HGY.out, HY.out⟩, by simp only [intOf]; omega⟩
                  · exact absurd (hend1 (.inr hp)) hm0
      · have q2 : ¬ (k : Int) < 60 := by omega
        go_wp2_with (fail)
        refine (awake_any wr).mono ?_
        rintro x9 w9 ⟨rfl, x9⟩
        go_wp2_with (fail)
        go_ret
        exact ⟨rfl, X.out.trans (hx.trans x9)⟩
    · have q1 : ¬ (k : Int) < n := by omega
      go_wp2_with (fail)
      refine (awake_any wr).mono ?_
      rintro x9 w9 ⟨rfl, x9⟩
      go_wp2_with (fail)
      go_ret
      exact ⟨rfl, X.out.trans (hx.trans x9)⟩
end roundWants
end Go.Proofs.Ytgfhpgomlocllaa
