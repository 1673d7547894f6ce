/- The contract of the document's Take (chapter 16). -/
import Derived.Test.YtkclimblcipmlaaRef16E
import Derived.Test.YtkclimblcipmlaaRef16G
import Derived.Test.YtkclimblcipmlaaScRight2
namespace Scrubs
open Il
theorem fromC_ge (s : S) (l : List Int) : -1 ≤ fromC s l := by unfold fromC; split <;> exact idxf_ge _ _
theorem cursorN_neg {s : S} {l : List Int} (h : fromC s l < 0) : cursorN s l = -1 := by unfold cursorN; rw [if_pos h]
theorem cursorN_at {s : S} {l : List Int} {k : Nat} (h : fromC s l = (k : Int)) : cursorN s l = get l k := by unfold cursorN; rw [if_neg (by omega), h]; rfl
theorem cursorN_pos {s : S} {l : List Int} (hr : rising 0 great l) : cursorN s l < 0 ↔ fromC s l < 0 := by
  constructor
  · intro h
    by_cases hc : fromC s l < 0
    · exact hc
    · obtain ⟨k, hk⟩ : ∃ k : Nat, fromC s l = (k : Int) := ⟨(fromC s l).toNat, by omega⟩
      rw [cursorN_at hk] at h
      have h1 := fromC_lt s l
      have := ((rising_iff.1 hr).1 (get l k) (get_mem (by omega))).1
      omega
  · intro h
    rw [cursorN_neg h]
    decide
theorem take_more {s : S} {l : List Int} (h : takeE s l = 0) : taken s l ∉ s.busy ∧ s.busy.Pairwise (· < ·) := by
  have h1 := (take_facts h).1
  rw [(take_ok h).2] at h1
  refine ⟨h1, ?_⟩
  by_cases hr : right s
  · exact (rising_iff.1 hr.2.2.2.1).2
  · rw [takeE_right hr] at h; exact absurd h (by decide)
end Scrubs
namespace Go.Proofs.Ytkclimblcipmlaa
open Go.RowKit

set_option maxRecDepth 100000 in
set_option maxHeartbeats 8000000 in
theorem ref16Take_any (w : World) (s : Scrubs.S) (A : Option Addr) (n c : Nat) (B : Option Addr) (m d : Nat) (C : Option Addr) (k e0 : Nat) (l : List Int) (hu : Is w A n c s.urged) (hb : Is w B m d s.busy) (hl : Is w C k e0 l) :
    Calls Try.prog 16 #[sval s.cur s.queue (.slice A n c) (.slice B m d), .slice C k e0] w (GivesNL (Scrubs.takeS s l) (Scrubs.takeN s l) (Scrubs.takeE s l) A n B m w) := by
  obtain ⟨cu, qu, us, bs⟩ := s
  dsimp only at hu hb ⊢
  have q1 := hu.max
  have q2 := hu.le
  have q3 := hb.max
  have q4 := hb.le
  have q5 := hl.max
  have q6 := hl.le
  have sw := Sw.start w cu qu (.slice A n c) (.slice B m d) rfl
  have hRT := ref16Right_any _ ⟨cu, qu, us, bs⟩ A n c B m d (hu.ext sw.x) (hb.ext sw.x)
  dsimp only at hRT
  have hST := fun (W : World) (hW : Ext w W) => stripes_any W C k e0 l (hl.ext hW)
  have HU := Lib.hid hu
  have HB := Lib.hid hb
  have HL := Lib.hid hl
  have LU := Lib.hid hu.len
  have LB := Lib.hid hb.len
  have LL := Lib.hid hl.len
  have k0 := sw.a.c0
  have k1 := sw.a.c1
  have k2 := sw.a.c2
  have k3 := sw.a.c3
  have SW := Lib.hid sw
  clear sw
  by_cases hr : Scrubs.right ⟨cu, qu, us, bs⟩
  · rw [decide_eq_true hr] at hRT
    have HRT := Lib.hid hRT
    have HR := Lib.hid hr
    clear hRT hr
    by_cases hs : Il.rising 0 Scrubs.great l
    · rw [decide_eq_true hs] at hST
      have HST := Lib.hid hST
      have HS := Lib.hid hs
      clear hST hs
      by_cases hm : 1000 ≤ m
      · have E1 := Lib.hid (Scrubs.takeE_full HR.out HS.out (by show 1000 ≤ bs.length; rw [LB.out]; exact hm))
        have E2 := Lib.hid (Scrubs.take_err (s := ⟨cu, qu, us, bs⟩) (l := l) (by rw [E1.out]; decide)).1
        have E3 := Lib.hid (Scrubs.take_err (s := ⟨cu, qu, us, bs⟩) (l := l) (by rw [E1.out]; decide)).2
        have g1 : (1000 : Int) ≤ m := by omega
        clear hu hb hl
        go_enter Try.func16, Try.ntmps16
        go_wp2_with (fail)
        refine HRT.out.mono ?_
        rintro e w0 ⟨rfl, x1⟩
        have S0 := Lib.hid (SW.out.ext x1)
        clear k0 k1 k2 k3 x1
        go_wp2_with (fail)
        refine (HST.out _ S0.out.x).mono ?_
        rintro e w1 ⟨rfl, x2⟩
        have s1 := S0.out.ext x2
        have a0 := s1.a.c0
        have a1 := s1.a.c1
        have a2 := s1.a.c2
        have a3 := s1.a.c3
        have b0 := s1.b.c0
        have b1 := s1.b.c1
        have b2 := s1.b.c2
        have b3 := s1.b.c3
        have b4 := s1.b.fz
        have S1 := Lib.hid s1
        clear s1 x2
        go_wp2_with (fail)
        have SX := S1
        refine bodyPost_ret (v := .tuple #[sval cu qu (.slice A n c) (.slice B m d), .int .i64 0, .int .i64 5]) ?_ rfl (show GivesNL (Scrubs.takeS ⟨cu, qu, us, bs⟩ l) (Scrubs.takeN ⟨cu, qu, us, bs⟩ l) (Scrubs.takeE ⟨cu, qu, us, bs⟩ l) A n B m w _ _ from by rw [E1.out, E2.out, E3.out]; exact ⟨A, n, c, B, m, d, rfl, HU.out.four (g := w.heap.size + 1) SX.out.x (by omega) _ _ _ _, HB.out.four (g := w.heap.size + 1) SX.out.x (by omega) _ _ _ _, SX.out.end, .inl ⟨rfl, rfl⟩, .inl ⟨rfl, rfl⟩⟩)
        rw [results_cell_tmp2 rfl]
        simp [asAddr, Result.andThen, SX.out.res]
      · have g1 : ¬ (1000 : Int) ≤ m := by omega
        have HBL := Lib.hid (show ¬ 1000 ≤ (⟨cu, qu, us, bs⟩ : Scrubs.S).busy.length by show ¬ 1000 ≤ bs.length; rw [LB.out]; exact hm)
        have HUL := Lib.hid (show n ≤ 1000 by have : us.length ≤ 1000 := HR.out.2.1; have := LU.out; omega)
        have hQU := fun (W : World) (hW : Ext w W) => queue_any W ⟨cu, qu, us, bs⟩ A n c B m d (hu.ext hW) (hb.ext hW)
        have hCU := fun (W : World) (hW : Ext w W) => cursor_any W ⟨cu, qu, us, bs⟩ A n c B m d C k e0 l (hb.ext hW) (hl.ext hW) HS.out
        dsimp only at hQU hCU
        obtain ⟨F, hF⟩ : ∃ F, Scrubs.cursorN ⟨cu, qu, us, bs⟩ l = F := ⟨_, rfl⟩
        rw [hF] at hCU
        have HF := Lib.hid hF
        have hFC : F < 0 ↔ Scrubs.fromC ⟨cu, qu, us, bs⟩ l < 0 := by rw [← hF]; exact Scrubs.cursorN_pos HS.out
        have HFC := Lib.hid hFC
        have hQlt := Scrubs.fromQ_lt ⟨cu, qu, us, bs⟩
        change Scrubs.fromQ ⟨cu, qu, us, bs⟩ < (us.length : Int) at hQlt
        rw [LU.out] at hQlt
        rcases Il.idxf_cases us (Scrubs.free ⟨cu, qu, us, bs⟩) with ⟨i, hi, hQ, _⟩ | ⟨hQ, _⟩
        · change Scrubs.fromQ ⟨cu, qu, us, bs⟩ = (i : Int) at hQ
          rw [hQ] at hQU hQlt
          have HQ := Lib.hid hQ
          have hin : i < n := by omega
          have gi : ¬ (i : Int) < 0 := by omega
          have gi2 : (0 : Int) ≤ i := by omega
          have gi3 : (i : Int) < n := by omega
          have hidle := Scrubs.takeE_ok HR.out HS.out HBL.out (by rw [hQ]; omega)
          have E1 := Lib.hid hidle
          have E2 := Lib.hid (Scrubs.take_ok hidle).1
          have E3 := Lib.hid (Scrubs.take_ok hidle).2
          have E4 := Lib.hid (Scrubs.take_more hidle)
          obtain ⟨bb, o, rfl, hc⟩ := hu.rd.intAt hin
          clear hFC hF hQ hidle hQlt hm hi
          cases qu with
          | true =>
            have hv : Scrubs.viaQ ⟨cu, true, us, bs⟩ l := ⟨by rw [HQ.out]; omega, .inl rfl⟩
            obtain ⟨et, ex⟩ := Scrubs.takenS_q hv HQ.out
            dsimp only at et ex
            obtain ⟨X, hX⟩ : ∃ X, Il.get us i = X := ⟨_, rfl⟩
            rw [hX] at ex hc
            rw [ex] at et
            have HTS := Lib.hid et
            have HTX := Lib.hid ex
            have hpw := E4.out.2
            have hnm := E4.out.1
            rw [ex] at hnm
            have HWI := Lib.hid (fun (W : World) (hW : Is W B m d bs) => with_any W B m d bs X hW hpw hnm (by omega))
            have HWO := Lib.hid (fun (W : World) (hW : Ext w W) => without_any W (some ⟨bb, o, none⟩) n c i us (hu.ext hW) hin (by have := HUL.out; omega))
            have HQU := Lib.hid hQU
            have HCU := Lib.hid hCU
            have hUS := Lib.hid (show (us.eraseIdx i).length = n - 1 by rw [List.length_eraseIdx_of_lt (by rw [LU.out]; exact hin), LU.out])
            have HC := Lib.hid hc
            clear hv et ex hX hpw hnm hu hb hl hQU hCU hc
            go_enter Try.func16, Try.ntmps16
            go_wp2_with (fail)
            refine HRT.out.mono ?_
            rintro e w0 ⟨rfl, x1⟩
            have S0 := Lib.hid (SW.out.ext x1)
            clear k0 k1 k2 k3 x1
            go_wp2_with (fail)
            refine (HST.out _ S0.out.x).mono ?_
            rintro e w1 ⟨rfl, x2⟩
            have s1 := S0.out.ext x2
            have a0 := s1.a.c0
            have a1 := s1.a.c1
            have a2 := s1.a.c2
            have a3 := s1.a.c3
            have b0 := s1.b.c0
            have b1 := s1.b.c1
            have b2 := s1.b.c2
            have b3 := s1.b.c3
            have b4 := s1.b.fz
            have S1 := Lib.hid s1
            clear s1 x2
            go_wp2_with (fail)
            go_region_with (first
              | (((with_reducible refine (HQU.out _ (S1.out.x.trans (Ext.drew _))).mono ?_); (rintro e w2 ⟨rfl, x2⟩; have z2 : Ext w1 w2 := (Ext.drew _).trans x2; have j0 := (S1.out.ext z2).a.c0; have j1 := (S1.out.ext z2).a.c1; have j2 := (S1.out.ext z2).a.c2; have j3 := (S1.out.ext z2).a.c3; clear x2)))
              | (((with_reducible refine (HCU.out _ (S1.out.x.trans z2)).mono ?_); (rintro e w3 ⟨rfl, x3⟩; have z3 : Ext w1 w3 := z2.trans x3; clear x3)))
              | fail)
            all_goals
              have s3 := S1.out.ext z3
              have a0 := s3.a.c0
              have a1 := s3.a.c1
              have a2 := s3.a.c2
              have a3 := s3.a.c3
              have b0 := s3.b.c0
              have b1 := s3.b.c1
              have b2 := s3.b.c2
              have b3 := s3.b.c3
              have b4 := s3.b.fz
              have S3 := Lib.hid s3
              clear s3 j0 j1 j2 j3
              have hc := (S3.out.x).cell HC.out
              go_wp2_with (fail)
              refine (HWO.out _ S3.out.x).mono ?_
              rintro e w4 ⟨v4, rfl, hnew4⟩
              obtain ⟨A4, c4, rfl, hi4⟩ := hnew4.is
              have s4 := S3.out.ext hnew4.ext
              have hsz3 : w.heap.size + 2 ≤ w3.heap.size := by have := S3.out.b.lt; omega
              have O4 := Lib.hid (ownsRow_base hnew4.own hsz3)
              have HL4 := hUS
              obtain ⟨l4, hl4⟩ : ∃ l4, (us.eraseIdx i).length = l4 := ⟨_, rfl⟩
              rw [hl4] at O4 HL4
              have HL4' := Lib.hid hl4
              rw [hl4]
              clear a0 a1 a2 a3 b0 b1 b2 b3 b4
              have a0 := s4.a.c0
              have a1 := s4.a.c1
              have a2 := s4.a.c2
              have a3 := s4.a.c3
              have a4 := s4.a.fz
              have S4 := Lib.hid s4
              have s4' := (s4.set2 (.slice A4 l4 c4)).set1 false
              have b0 := s4'.b.c0
              have b1 := s4'.b.c1
              have b2 := s4'.b.c2
              have b3 := s4'.b.c3
              have b4 := s4'.b.fz
              have S4' := Lib.hid s4'
              clear s4 s4' hnew4 hi4 hl4 hc
              go_wp2_with (fail)
              refine (HWI.out _ (HB.out.ext S4'.out.x)).mono ?_
              rintro e w5 ⟨v5, rfl, hnew5⟩
              obtain ⟨A5, c5, rfl, hi5⟩ := hnew5.is
              have s5 := S4'.out.ext hnew5.ext
              have hsz4 : w.heap.size + 2 ≤ _ := Nat.succ_le_of_lt S4'.out.b.lt
              have O5 := ownsRow_base hnew5.own hsz4
              have OU : w5.ownsRow (w.heap.size + 2) 3 1 (.slice A4 l4 c4) (us.eraseIdx i).length (icells (us.eraseIdx i)) := by
                rw [HL4'.out]
                exact ownsRow_ext (ownsRow_far (ownsRow_far O4.out (p := ⟨w.heap.size, 2, none⟩) (by show w.heap.size < _; omega) _) (p := ⟨w.heap.size, 1, none⟩) (by show w.heap.size < _; omega) _) hnew5.ext
              have OU' := Lib.hid OU
              obtain ⟨l5, hl5⟩ : ∃ l5, (Il.srt (bs ++ [X])).length = l5 := ⟨_, rfl⟩
              have HL5 := Lib.hid hl5
              rw [hl5] at O5
              rw [hl5]
              clear a0 a1 a2 a3 b0 b1 b2 b3 b4
              have a0 := s5.a.c0
              have a1 := s5.a.c1
              have a2 := s5.a.c2
              have a3 := s5.a.c3
              have a4 := s5.a.fz
              have b0 := s5.b.c0
              have b1 := s5.b.c1
              have b2 := s5.b.c2
              have b3 := s5.b.c3
              have b4 := s5.b.fz
              have S5 := Lib.hid s5
              have O5' := Lib.hid O5
              clear s5 hnew5 hi5 hl5 O5 OU
              go_wp2_with (fail)
              have s6 := S5.out.set3 (.slice A5 l5 c5)
              have OU := OU'.out
              have ob : w5.ownsRow (w.heap.size + 2) 3 1 (.slice A5 l5 c5) (Il.srt (bs ++ [X])).length (icells (Il.srt (bs ++ [X]))) := by rw [HL5.out]; exact O5'.out
              refine bodyPost_ret (v := .tuple #[sval cu false (.slice A4 l4 c4) (.slice A5 l5 c5), .int .i64 X, .int .i64 0]) ?_ rfl (show GivesNL (Scrubs.takeS _ l) (Scrubs.takeN _ l) (Scrubs.takeE _ l) _ n B m w _ _ from by rw [E1.out, E2.out, E3.out, HTX.out, HTS.out]; exact ⟨A4, _, c4, A5, _, c5, rfl, own_is_four (ownsRow_far OU (p := ⟨w.heap.size, 3, none⟩) (by show w.heap.size < _; omega) _) (by omega) _ _ _ _ rfl HL4'.out, own_is_four (ownsRow_far ob (p := ⟨w.heap.size, 3, none⟩) (by show w.heap.size < _; omega) _) (by omega) _ _ _ _ rfl HL5.out, s6.end, own_passL_four (ownsRow_far OU (p := ⟨w.heap.size, 3, none⟩) (by show w.heap.size < _; omega) _) (by omega) (by omega) _ _ _ _ rfl HL4'.out, own_passL_four (ownsRow_far ob (p := ⟨w.heap.size, 3, none⟩) (by show w.heap.size < _; omega) _) (by omega) (by omega) _ _ _ _ rfl HL5.out⟩)
              rw [results_cell_tmp2 rfl]
              simp [asAddr, Result.andThen, s6.res]
            | false =>
            by_cases hf : F < 0
            · have hv : Scrubs.viaQ ⟨cu, false, us, bs⟩ l := ⟨by rw [HQ.out]; omega, .inr (HFC.out.1 hf)⟩
              obtain ⟨et, ex⟩ := Scrubs.takenS_q hv HQ.out
              dsimp only at et ex
              obtain ⟨X, hX⟩ : ∃ X, Il.get us i = X := ⟨_, rfl⟩
              rw [hX] at ex hc
              rw [ex] at et
              have HTS := Lib.hid et
              have HTX := Lib.hid ex
              have hpw := E4.out.2
              have hnm := E4.out.1
              rw [ex] at hnm
              have HWI := Lib.hid (fun (W : World) (hW : Is W B m d bs) => with_any W B m d bs X hW hpw hnm (by omega))
              have HWO := Lib.hid (fun (W : World) (hW : Ext w W) => without_any W (some ⟨bb, o, none⟩) n c i us (hu.ext hW) hin (by have := HUL.out; omega))
              have HQU := Lib.hid hQU
              have HCU := Lib.hid hCU
              have hUS := Lib.hid (show (us.eraseIdx i).length = n - 1 by rw [List.length_eraseIdx_of_lt (by rw [LU.out]; exact hin), LU.out])
              have HC := Lib.hid hc
              clear hv et ex hX hpw hnm hu hb hl hQU hCU hc
              go_enter Try.func16, Try.ntmps16
              go_wp2_with (fail)
              refine HRT.out.mono ?_
              rintro e w0 ⟨rfl, x1⟩
              have S0 := Lib.hid (SW.out.ext x1)
              clear k0 k1 k2 k3 x1
              go_wp2_with (fail)
              refine (HST.out _ S0.out.x).mono ?_
              rintro e w1 ⟨rfl, x2⟩
              have s1 := S0.out.ext x2
              have a0 := s1.a.c0
              have a1 := s1.a.c1
              have a2 := s1.a.c2
              have a3 := s1.a.c3
              have b0 := s1.b.c0
              have b1 := s1.b.c1
              have b2 := s1.b.c2
              have b3 := s1.b.c3
              have b4 := s1.b.fz
              have S1 := Lib.hid s1
              clear s1 x2
              go_wp2_with (fail)
              go_region_with (first
                | (((with_reducible refine (HQU.out _ (S1.out.x.trans (Ext.drew _))).mono ?_); (rintro e w2 ⟨rfl, x2⟩; have z2 : Ext w1 w2 := (Ext.drew _).trans x2; have j0 := (S1.out.ext z2).a.c0; have j1 := (S1.out.ext z2).a.c1; have j2 := (S1.out.ext z2).a.c2; have j3 := (S1.out.ext z2).a.c3; clear x2)))
                | (((with_reducible refine (HCU.out _ (S1.out.x.trans z2)).mono ?_); (rintro e w3 ⟨rfl, x3⟩; have z3 : Ext w1 w3 := z2.trans x3; clear x3)))
                | fail)
              all_goals
                have s3 := S1.out.ext z3
                have a0 := s3.a.c0
                have a1 := s3.a.c1
                have a2 := s3.a.c2
                have a3 := s3.a.c3
                have b0 := s3.b.c0
                have b1 := s3.b.c1
                have b2 := s3.b.c2
                have b3 := s3.b.c3
                have b4 := s3.b.fz
                have S3 := Lib.hid s3
                clear s3 j0 j1 j2 j3
                have hc := (S3.out.x).cell HC.out
                go_wp2_with (fail)
                refine (HWO.out _ S3.out.x).mono ?_
                rintro e w4 ⟨v4, rfl, hnew4⟩
                obtain ⟨A4, c4, rfl, hi4⟩ := hnew4.is
                have s4 := S3.out.ext hnew4.ext
                have hsz3 : w.heap.size + 2 ≤ w3.heap.size := by have := S3.out.b.lt; omega
                have O4 := Lib.hid (ownsRow_base hnew4.own hsz3)
                have HL4 := hUS
                obtain ⟨l4, hl4⟩ : ∃ l4, (us.eraseIdx i).length = l4 := ⟨_, rfl⟩
                rw [hl4] at O4 HL4
                have HL4' := Lib.hid hl4
                rw [hl4]
                clear a0 a1 a2 a3 b0 b1 b2 b3 b4
                have a0 := s4.a.c0
                have a1 := s4.a.c1
                have a2 := s4.a.c2
                have a3 := s4.a.c3
                have a4 := s4.a.fz
                have S4 := Lib.hid s4
                have s4' := (s4.set2 (.slice A4 l4 c4)).set1 false
                have b0 := s4'.b.c0
                have b1 := s4'.b.c1
                have b2 := s4'.b.c2
                have b3 := s4'.b.c3
                have b4 := s4'.b.fz
                have S4' := Lib.hid s4'
                clear s4 s4' hnew4 hi4 hl4 hc
                go_wp2_with (fail)
                refine (HWI.out _ (HB.out.ext S4'.out.x)).mono ?_
                rintro e w5 ⟨v5, rfl, hnew5⟩
                obtain ⟨A5, c5, rfl, hi5⟩ := hnew5.is
                have s5 := S4'.out.ext hnew5.ext
                have hsz4 : w.heap.size + 2 ≤ _ := Nat.succ_le_of_lt S4'.out.b.lt
                have O5 := ownsRow_base hnew5.own hsz4
                have OU : w5.ownsRow (w.heap.size + 2) 3 1 (.slice A4 l4 c4) (us.eraseIdx i).length (icells (us.eraseIdx i)) := by
                  rw [HL4'.out]
                  exact ownsRow_ext (ownsRow_far (ownsRow_far O4.out (p := ⟨w.heap.size, 2, none⟩) (by show w.heap.size < _; omega) _) (p := ⟨w.heap.size, 1, none⟩) (by show w.heap.size < _; omega) _) hnew5.ext
                have OU' := Lib.hid OU
                obtain ⟨l5, hl5⟩ : ∃ l5, (Il.srt (bs ++ [X])).length = l5 := ⟨_, rfl⟩
                have HL5 := Lib.hid hl5
                rw [hl5] at O5
                rw [hl5]
                clear a0 a1 a2 a3 b0 b1 b2 b3 b4
                have a0 := s5.a.c0
                have a1 := s5.a.c1
                have a2 := s5.a.c2
                have a3 := s5.a.c3
                have a4 := s5.a.fz
                have b0 := s5.b.c0
                have b1 := s5.b.c1
                have b2 := s5.b.c2
                have b3 := s5.b.c3
                have b4 := s5.b.fz
                have S5 := Lib.hid s5
                have O5' := Lib.hid O5
                clear s5 hnew5 hi5 hl5 O5 OU
                go_wp2_with (fail)
                have s6 := S5.out.set3 (.slice A5 l5 c5)
                have OU := OU'.out
                have ob : w5.ownsRow (w.heap.size + 2) 3 1 (.slice A5 l5 c5) (Il.srt (bs ++ [X])).length (icells (Il.srt (bs ++ [X]))) := by rw [HL5.out]; exact O5'.out
                refine bodyPost_ret (v := .tuple #[sval cu false (.slice A4 l4 c4) (.slice A5 l5 c5), .int .i64 X, .int .i64 0]) ?_ rfl (show GivesNL (Scrubs.takeS _ l) (Scrubs.takeN _ l) (Scrubs.takeE _ l) _ n B m w _ _ from by rw [E1.out, E2.out, E3.out, HTX.out, HTS.out]; exact ⟨A4, _, c4, A5, _, c5, rfl, own_is_four (ownsRow_far OU (p := ⟨w.heap.size, 3, none⟩) (by show w.heap.size < _; omega) _) (by omega) _ _ _ _ rfl HL4'.out, own_is_four (ownsRow_far ob (p := ⟨w.heap.size, 3, none⟩) (by show w.heap.size < _; omega) _) (by omega) _ _ _ _ rfl HL5.out, s6.end, own_passL_four (ownsRow_far OU (p := ⟨w.heap.size, 3, none⟩) (by show w.heap.size < _; omega) _) (by omega) (by omega) _ _ _ _ rfl HL4'.out, own_passL_four (ownsRow_far ob (p := ⟨w.heap.size, 3, none⟩) (by show w.heap.size < _; omega) _) (by omega) (by omega) _ _ _ _ rfl HL5.out⟩)
                rw [results_cell_tmp2 rfl]
                simp [asAddr, Result.andThen, s6.res]
            · have hv : ¬ Scrubs.viaQ ⟨cu, false, us, bs⟩ l := fun h => by
                rcases h.2 with h | h
                · exact Bool.false_ne_true h
                · exact hf (HFC.out.2 h)
              obtain ⟨j, hj⟩ : ∃ j : Nat, Scrubs.fromC ⟨cu, false, us, bs⟩ l = (j : Int) := ⟨(Scrubs.fromC ⟨cu, false, us, bs⟩ l).toNat, by have h3 : ¬ Scrubs.fromC ⟨cu, false, us, bs⟩ l < 0 := fun h => hf (HFC.out.2 h); omega⟩
              obtain ⟨et, ex⟩ := Scrubs.takenS_c hv hj
              dsimp only at et ex
              have hFX := Scrubs.cursorN_at hj
              rw [HF.out] at hFX
              rw [← hFX] at ex et
              rw [ex] at et
              have HTS := Lib.hid et
              have HTX := Lib.hid ex
              have hpw := E4.out.2
              have hnm := E4.out.1
              rw [ex] at hnm
              obtain ⟨X, hX⟩ : ∃ X, F = X := ⟨_, rfl⟩
              subst hX
              have HWI := Lib.hid (fun (W : World) (hW : Is W B m d bs) => with_any W B m d bs F hW hpw hnm (by omega))
              have HQU := Lib.hid hQU
              have HCU := Lib.hid hCU
              clear hv et ex hpw hnm hu hb hl hQU hCU hj hFX
              go_enter Try.func16, Try.ntmps16
              go_wp2_with (fail)
              refine HRT.out.mono ?_
              rintro e w0 ⟨rfl, x1⟩
              have S0 := Lib.hid (SW.out.ext x1)
              clear k0 k1 k2 k3 x1
              go_wp2_with (fail)
              refine (HST.out _ S0.out.x).mono ?_
              rintro e w1 ⟨rfl, x2⟩
              have s1 := S0.out.ext x2
              have a0 := s1.a.c0
              have a1 := s1.a.c1
              have a2 := s1.a.c2
              have a3 := s1.a.c3
              have b0 := s1.b.c0
              have b1 := s1.b.c1
              have b2 := s1.b.c2
              have b3 := s1.b.c3
              have b4 := s1.b.fz
              have S1 := Lib.hid s1
              clear s1 x2
              go_wp2_with (fail)
              go_region_with (first
                | (((with_reducible refine (HQU.out _ (S1.out.x.trans (Ext.drew _))).mono ?_); (rintro e w2 ⟨rfl, x2⟩; have z2 : Ext w1 w2 := (Ext.drew _).trans x2; have j0 := (S1.out.ext z2).a.c0; have j1 := (S1.out.ext z2).a.c1; have j2 := (S1.out.ext z2).a.c2; have j3 := (S1.out.ext z2).a.c3; clear x2)))
                | (((with_reducible refine (HCU.out _ (S1.out.x.trans z2)).mono ?_); (rintro e w3 ⟨rfl, x3⟩; have z3 : Ext w1 w3 := z2.trans x3; clear x3)))
                | fail)
              all_goals
                have s3 := S1.out.ext z3
                have a0 := s3.a.c0
                have a1 := s3.a.c1
                have a2 := s3.a.c2
                have a3 := s3.a.c3
                have b0 := s3.b.c0
                have b1 := s3.b.c1
                have b2 := s3.b.c2
                have b3 := s3.b.c3
                have b4 := s3.b.fz
                have S3 := Lib.hid s3
                clear s3 j0 j1 j2 j3
                have a4 := S3.out.a.fz
                have s4' := (S3.out.set0 F).set1 true
                clear b0 b1 b2 b3 b4
                have b0 := s4'.b.c0
                have b1 := s4'.b.c1
                have b2 := s4'.b.c2
                have b3 := s4'.b.c3
                have b4 := s4'.b.fz
                have S4' := Lib.hid s4'
                clear s4'
                go_wp2_with (fail)
                refine (HWI.out _ (HB.out.ext S4'.out.x)).mono ?_
                rintro e w5 ⟨v5, rfl, hnew5⟩
                obtain ⟨A5, c5, rfl, hi5⟩ := hnew5.is
                have s5 := S4'.out.ext hnew5.ext
                have hsz4 : w.heap.size + 2 ≤ _ := Nat.succ_le_of_lt S4'.out.b.lt
                have O5 := ownsRow_base hnew5.own hsz4
                have OU : True := trivial
                have OU' := Lib.hid OU
                obtain ⟨l5, hl5⟩ : ∃ l5, (Il.srt (bs ++ [F])).length = l5 := ⟨_, rfl⟩
                have HL5 := Lib.hid hl5
                rw [hl5] at O5
                rw [hl5]
                clear a0 a1 a2 a3 b0 b1 b2 b3 b4
                have a0 := s5.a.c0
                have a1 := s5.a.c1
                have a2 := s5.a.c2
                have a3 := s5.a.c3
                have a4 := s5.a.fz
                have b0 := s5.b.c0
                have b1 := s5.b.c1
                have b2 := s5.b.c2
                have b3 := s5.b.c3
                have b4 := s5.b.fz
                have S5 := Lib.hid s5
                have O5' := Lib.hid O5
                clear s5 hnew5 hi5 hl5 O5 OU
                go_wp2_with (fail)
                have s6 := S5.out.set3 (.slice A5 l5 c5)
                have OU := OU'.out
                have ob : w5.ownsRow (w.heap.size + 2) 3 1 (.slice A5 l5 c5) (Il.srt (bs ++ [F])).length (icells (Il.srt (bs ++ [F]))) := by rw [HL5.out]; exact O5'.out
                refine bodyPost_ret (v := .tuple #[sval F true (.slice (some ⟨bb, o, none⟩) n c) (.slice A5 l5 c5), .int .i64 F, .int .i64 0]) ?_ rfl (show GivesNL (Scrubs.takeS _ l) (Scrubs.takeN _ l) (Scrubs.takeE _ l) _ n B m w _ _ from by rw [E1.out, E2.out, E3.out, HTX.out, HTS.out]; exact ⟨some ⟨bb, o, none⟩, n, c, A5, _, c5, rfl, HU.out.ext s6.end, own_is_four (ownsRow_far ob (p := ⟨w.heap.size, 3, none⟩) (by show w.heap.size < _; omega) _) (by omega) _ _ _ _ rfl HL5.out, s6.end, .inl ⟨rfl, rfl⟩, own_passL_four (ownsRow_far ob (p := ⟨w.heap.size, 3, none⟩) (by show w.heap.size < _; omega) _) (by omega) (by omega) _ _ _ _ rfl HL5.out⟩)
                rw [results_cell_tmp2 rfl]
                simp [asAddr, Result.andThen, s6.res]
        · change Scrubs.fromQ ⟨cu, qu, us, bs⟩ = -1 at hQ
          rw [hQ] at hQU
          have HQ := Lib.hid hQ
          by_cases hf : F < 0
          · have E1 := Lib.hid (Scrubs.takeE_idle HR.out HS.out HBL.out ⟨by rw [hQ]; decide, HFC.out.1 hf⟩)
            have E2 := Lib.hid (Scrubs.take_err (s := ⟨cu, qu, us, bs⟩) (l := l) (by rw [E1.out]; decide)).1
            have E3 := Lib.hid (Scrubs.take_err (s := ⟨cu, qu, us, bs⟩) (l := l) (by rw [E1.out]; decide)).2
            have HQU := Lib.hid hQU
            have HCU := Lib.hid hCU
            clear hu hb hl hQU hCU hFC hF hQ hQlt
            go_enter Try.func16, Try.ntmps16
            go_wp2_with (fail)
            refine HRT.out.mono ?_
            rintro e w0 ⟨rfl, x1⟩
            have S0 := Lib.hid (SW.out.ext x1)
            clear k0 k1 k2 k3 x1
            go_wp2_with (fail)
            refine (HST.out _ S0.out.x).mono ?_
            rintro e w1 ⟨rfl, x2⟩
            have s1 := S0.out.ext x2
            have a0 := s1.a.c0
            have a1 := s1.a.c1
            have a2 := s1.a.c2
            have a3 := s1.a.c3
            have b0 := s1.b.c0
            have b1 := s1.b.c1
            have b2 := s1.b.c2
            have b3 := s1.b.c3
            have b4 := s1.b.fz
            have S1 := Lib.hid s1
            clear s1 x2
            go_wp2_with (fail)
            go_region_with (first
              | (((with_reducible refine (HQU.out _ (S1.out.x.trans (Ext.drew _))).mono ?_); (rintro e w2 ⟨rfl, x2⟩; have z2 : Ext w1 w2 := (Ext.drew _).trans x2; have j0 := (S1.out.ext z2).a.c0; have j1 := (S1.out.ext z2).a.c1; have j2 := (S1.out.ext z2).a.c2; have j3 := (S1.out.ext z2).a.c3; clear x2)))
              | (((with_reducible refine (HCU.out _ (S1.out.x.trans z2)).mono ?_); (rintro e w3 ⟨rfl, x3⟩; have z3 : Ext w1 w3 := z2.trans x3; clear x3)))
              | fail)
            all_goals
              have s3 := S1.out.ext z3
              have a0 := s3.a.c0
              have a1 := s3.a.c1
              have a2 := s3.a.c2
              have a3 := s3.a.c3
              have b0 := s3.b.c0
              have b1 := s3.b.c1
              have b2 := s3.b.c2
              have b3 := s3.b.c3
              have b4 := s3.b.fz
              have S3 := Lib.hid s3
              clear s3 j0 j1 j2 j3
              have SX := S3
              go_wp2_with (fail)
              refine bodyPost_ret (v := .tuple #[sval cu qu (.slice A n c) (.slice B m d), .int .i64 0, .int .i64 166]) ?_ rfl (show GivesNL (Scrubs.takeS ⟨cu, qu, us, bs⟩ l) (Scrubs.takeN ⟨cu, qu, us, bs⟩ l) (Scrubs.takeE ⟨cu, qu, us, bs⟩ l) A n B m w _ _ from by rw [E1.out, E2.out, E3.out]; exact ⟨A, n, c, B, m, d, rfl, HU.out.four (g := w.heap.size + 1) SX.out.x (by omega) _ _ _ _, HB.out.four (g := w.heap.size + 1) SX.out.x (by omega) _ _ _ _, SX.out.end, .inl ⟨rfl, rfl⟩, .inl ⟨rfl, rfl⟩⟩)
              rw [results_cell_tmp2 rfl]
              simp [asAddr, Result.andThen, SX.out.res]
          · have hv : ¬ Scrubs.viaQ ⟨cu, qu, us, bs⟩ l := fun h => by
              have := h.1
              rw [HQ.out] at this
              exact absurd this (by decide)
            have hidle := Scrubs.takeE_ok HR.out HS.out HBL.out (fun h => hf (HFC.out.2 h.2))
            have E1 := Lib.hid hidle
            have E2 := Lib.hid (Scrubs.take_ok hidle).1
            have E3 := Lib.hid (Scrubs.take_ok hidle).2
            have E4 := Lib.hid (Scrubs.take_more hidle)
            obtain ⟨j, hj⟩ : ∃ j : Nat, Scrubs.fromC ⟨cu, qu, us, bs⟩ l = (j : Int) := ⟨(Scrubs.fromC ⟨cu, qu, us, bs⟩ l).toNat, by have h3 : ¬ Scrubs.fromC ⟨cu, qu, us, bs⟩ l < 0 := fun h => hf (HFC.out.2 h); omega⟩
            clear hidle hFC hF hQ hQlt hm
            obtain ⟨et, ex⟩ := Scrubs.takenS_c hv hj
            dsimp only at et ex
            have hFX := Scrubs.cursorN_at hj
            rw [HF.out] at hFX
            rw [← hFX] at ex et
            rw [ex] at et
            have HTS := Lib.hid et
            have HTX := Lib.hid ex
            have hpw := E4.out.2
            have hnm := E4.out.1
            rw [ex] at hnm
            obtain ⟨X, hX⟩ : ∃ X, F = X := ⟨_, rfl⟩
            subst hX
            have HWI := Lib.hid (fun (W : World) (hW : Is W B m d bs) => with_any W B m d bs F hW hpw hnm (by omega))
            have HQU := Lib.hid hQU
            have HCU := Lib.hid hCU
            clear hv et ex hpw hnm hu hb hl hQU hCU hj hFX
            go_enter Try.func16, Try.ntmps16
            go_wp2_with (fail)
            refine HRT.out.mono ?_
            rintro e w0 ⟨rfl, x1⟩
            have S0 := Lib.hid (SW.out.ext x1)
            clear k0 k1 k2 k3 x1
            go_wp2_with (fail)
            refine (HST.out _ S0.out.x).mono ?_
            rintro e w1 ⟨rfl, x2⟩
            have s1 := S0.out.ext x2
            have a0 := s1.a.c0
            have a1 := s1.a.c1
            have a2 := s1.a.c2
            have a3 := s1.a.c3
            have b0 := s1.b.c0
            have b1 := s1.b.c1
            have b2 := s1.b.c2
            have b3 := s1.b.c3
            have b4 := s1.b.fz
            have S1 := Lib.hid s1
            clear s1 x2
            go_wp2_with (fail)
            go_region_with (first
              | (((with_reducible refine (HQU.out _ (S1.out.x.trans (Ext.drew _))).mono ?_); (rintro e w2 ⟨rfl, x2⟩; have z2 : Ext w1 w2 := (Ext.drew _).trans x2; have j0 := (S1.out.ext z2).a.c0; have j1 := (S1.out.ext z2).a.c1; have j2 := (S1.out.ext z2).a.c2; have j3 := (S1.out.ext z2).a.c3; clear x2)))
              | (((with_reducible refine (HCU.out _ (S1.out.x.trans z2)).mono ?_); (rintro e w3 ⟨rfl, x3⟩; have z3 : Ext w1 w3 := z2.trans x3; clear x3)))
              | fail)
            all_goals
              have s3 := S1.out.ext z3
              have a0 := s3.a.c0
              have a1 := s3.a.c1
              have a2 := s3.a.c2
              have a3 := s3.a.c3
              have b0 := s3.b.c0
              have b1 := s3.b.c1
              have b2 := s3.b.c2
              have b3 := s3.b.c3
              have b4 := s3.b.fz
              have S3 := Lib.hid s3
              clear s3 j0 j1 j2 j3
              have a4 := S3.out.a.fz
              have s4' := (S3.out.set0 F).set1 true
              clear b0 b1 b2 b3 b4
              have b0 := s4'.b.c0
              have b1 := s4'.b.c1
              have b2 := s4'.b.c2
              have b3 := s4'.b.c3
              have b4 := s4'.b.fz
              have S4' := Lib.hid s4'
              clear s4'
              go_wp2_with (fail)
              refine (HWI.out _ (HB.out.ext S4'.out.x)).mono ?_
              rintro e w5 ⟨v5, rfl, hnew5⟩
              obtain ⟨A5, c5, rfl, hi5⟩ := hnew5.is
              have s5 := S4'.out.ext hnew5.ext
              have hsz4 : w.heap.size + 2 ≤ _ := Nat.succ_le_of_lt S4'.out.b.lt
              have O5 := ownsRow_base hnew5.own hsz4
              have OU : True := trivial
              have OU' := Lib.hid OU
              obtain ⟨l5, hl5⟩ : ∃ l5, (Il.srt (bs ++ [F])).length = l5 := ⟨_, rfl⟩
              have HL5 := Lib.hid hl5
              rw [hl5] at O5
              rw [hl5]
              clear a0 a1 a2 a3 b0 b1 b2 b3 b4
              have a0 := s5.a.c0
              have a1 := s5.a.c1
              have a2 := s5.a.c2
              have a3 := s5.a.c3
              have a4 := s5.a.fz
              have b0 := s5.b.c0
              have b1 := s5.b.c1
              have b2 := s5.b.c2
              have b3 := s5.b.c3
              have b4 := s5.b.fz
              have S5 := Lib.hid s5
              have O5' := Lib.hid O5
              clear s5 hnew5 hi5 hl5 O5 OU
              go_wp2_with (fail)
              have s6 := S5.out.set3 (.slice A5 l5 c5)
              have OU := OU'.out
              have ob : w5.ownsRow (w.heap.size + 2) 3 1 (.slice A5 l5 c5) (Il.srt (bs ++ [F])).length (icells (Il.srt (bs ++ [F]))) := by rw [HL5.out]; exact O5'.out
              refine bodyPost_ret (v := .tuple #[sval F true (.slice A n c) (.slice A5 l5 c5), .int .i64 F, .int .i64 0]) ?_ rfl (show GivesNL (Scrubs.takeS _ l) (Scrubs.takeN _ l) (Scrubs.takeE _ l) _ n B m w _ _ from by rw [E1.out, E2.out, E3.out, HTX.out, HTS.out]; exact ⟨A, n, c, A5, _, c5, rfl, HU.out.ext s6.end, own_is_four (ownsRow_far ob (p := ⟨w.heap.size, 3, none⟩) (by show w.heap.size < _; omega) _) (by omega) _ _ _ _ rfl HL5.out, s6.end, .inl ⟨rfl, rfl⟩, own_passL_four (ownsRow_far ob (p := ⟨w.heap.size, 3, none⟩) (by show w.heap.size < _; omega) _) (by omega) (by omega) _ _ _ _ rfl HL5.out⟩)
              rw [results_cell_tmp2 rfl]
              simp [asAddr, Result.andThen, s6.res]
    · have E1 := Lib.hid (Scrubs.takeE_rising HR.out hs)
      have E2 := Lib.hid (Scrubs.take_err (s := ⟨cu, qu, us, bs⟩) (l := l) (by rw [E1.out]; decide)).1
      have E3 := Lib.hid (Scrubs.take_err (s := ⟨cu, qu, us, bs⟩) (l := l) (by rw [E1.out]; decide)).2
      rw [decide_eq_false hs] at hST
      have HST := Lib.hid hST
      clear hST hs hu hb hl
      go_enter Try.func16, Try.ntmps16
      go_wp2_with (fail)
      refine HRT.out.mono ?_
      rintro e w0 ⟨rfl, x1⟩
      have S0 := Lib.hid (SW.out.ext x1)
      clear k0 k1 k2 k3 x1
      go_wp2_with (fail)
      refine (HST.out _ S0.out.x).mono ?_
      rintro e w1 ⟨rfl, x2⟩
      have s1 := S0.out.ext x2
      have a0 := s1.a.c0
      have a1 := s1.a.c1
      have a2 := s1.a.c2
      have a3 := s1.a.c3
      have b0 := s1.b.c0
      have b1 := s1.b.c1
      have b2 := s1.b.c2
      have b3 := s1.b.c3
      have b4 := s1.b.fz
      have S1 := Lib.hid s1
      clear s1 x2
      go_wp2_with (fail)
      have SX := S1
      refine bodyPost_ret (v := .tuple #[sval cu qu (.slice A n c) (.slice B m d), .int .i64 0, .int .i64 2]) ?_ rfl (show GivesNL (Scrubs.takeS ⟨cu, qu, us, bs⟩ l) (Scrubs.takeN ⟨cu, qu, us, bs⟩ l) (Scrubs.takeE ⟨cu, qu, us, bs⟩ l) A n B m w _ _ from by rw [E1.out, E2.out, E3.out]; exact ⟨A, n, c, B, m, d, rfl, HU.out.four (g := w.heap.size + 1) SX.out.x (by omega) _ _ _ _, HB.out.four (g := w.heap.size + 1) SX.out.x (by omega) _ _ _ _, SX.out.end, .inl ⟨rfl, rfl⟩, .inl ⟨rfl, rfl⟩⟩)
      rw [results_cell_tmp2 rfl]
      simp [asAddr, Result.andThen, SX.out.res]
  · have E1 := Lib.hid (Scrubs.takeE_right (l := l) hr)
    have E2 := Lib.hid (Scrubs.take_err (s := ⟨cu, qu, us, bs⟩) (l := l) (by rw [E1.out]; decide)).1
    have E3 := Lib.hid (Scrubs.take_err (s := ⟨cu, qu, us, bs⟩) (l := l) (by rw [E1.out]; decide)).2
    rw [decide_eq_false hr] at hRT
    have HRT := Lib.hid hRT
    clear hRT hr hu hb hl hST
    go_enter Try.func16, Try.ntmps16
    go_wp2_with (fail)
    refine HRT.out.mono ?_
    rintro e w1 ⟨rfl, x1⟩
    have s1 := SW.out.ext x1
    have a0 := s1.a.c0
    have a1 := s1.a.c1
    have a2 := s1.a.c2
    have a3 := s1.a.c3
    have b0 := s1.b.c0
    have b1 := s1.b.c1
    have b2 := s1.b.c2
    have b3 := s1.b.c3
    have b4 := s1.b.fz
    have S1 := Lib.hid s1
    clear s1 k0 k1 k2 k3
    go_wp2_with (fail)
    have SX := S1
    refine bodyPost_ret (v := .tuple #[sval cu qu (.slice A n c) (.slice B m d), .int .i64 0, .int .i64 165]) ?_ rfl (show GivesNL (Scrubs.takeS ⟨cu, qu, us, bs⟩ l) (Scrubs.takeN ⟨cu, qu, us, bs⟩ l) (Scrubs.takeE ⟨cu, qu, us, bs⟩ l) A n B m w _ _ from by rw [E1.out, E2.out, E3.out]; exact ⟨A, n, c, B, m, d, rfl, HU.out.four (g := w.heap.size + 1) SX.out.x (by omega) _ _ _ _, HB.out.four (g := w.heap.size + 1) SX.out.x (by omega) _ _ _ _, SX.out.end, .inl ⟨rfl, rfl⟩, .inl ⟨rfl, rfl⟩⟩)
    rw [results_cell_tmp2 rfl]
    simp [asAddr, Result.andThen, SX.out.res]
end Go.Proofs.Ytkclimblcipmlaa
