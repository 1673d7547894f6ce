/- The contract of scrub.Right. -/
import Derived.Test.YtkclimblcipmlaaScBox
namespace Go.Proofs.Ytkclimblcipmlaa
open Go.RowKit

set_option maxRecDepth 100000 in
set_option maxHeartbeats 2000000 in
theorem scRight_any (w : World) (s : Scrubs.S) (A : Option Addr) (n c : Nat) (B : Option Addr) (m d : Nat) (hu : Is w A n c s.urged) (hb : Is w B m d s.busy) :
    Calls Try.prog 11 #[sval s.cur s.queue (.slice A n c) (.slice B m d)] w fun e w' => e = .returned (.bool (decide (Scrubs.right s))) ∧ Ext w w' := by
  have q1 := hu.max
  have q2 := hu.le
  have q3 := hb.max
  have q4 := hb.le
  obtain ⟨cu, qu, u, b⟩ := s
  have lu := Lib.hid hu.len
  have lb := Lib.hid hb.len
  obtain ⟨R, hR⟩ : ∃ R, decide (Scrubs.right ⟨cu, qu, u, b⟩) = R := ⟨_, rfl⟩
  rw [hR]
  have hRi : R = true ↔ ((cu = -1 ∨ Scrubs.stripe cu) ∧ n ≤ 1000 ∧ m ≤ 1000 ∧ Il.rising 0 Scrubs.great b ∧ Il.rising 0 Scrubs.great (Il.srt u)) := by
    rw [← hR, decide_eq_true_eq, ← lu.out, ← lb.out]
    exact Iff.rfl
  have HRI := Lib.hid hRi
  clear hR hRi
  have xA : Ext w (w.alloc (.cells #[.int .i64 cu, .bool qu, .slice A n c, .slice B m d] 24)) := Ext.alloc _ _
  have s1 := Sb.new w cu qu (.slice A n c) (.slice B m d) rfl
  have k0 := s1.c0
  have k2 := s1.c2
  have k3 := s1.c3
  have S1 := Lib.hid s1
  have hRB := scRising_any (w.alloc (.cells #[.int .i64 cu, .bool qu, .slice A n c, .slice B m d] 24)) B m d b (hb.ext xA)
  have HST := Lib.hid (scStripe_any (w.alloc (.cells #[.int .i64 cu, .bool qu, .slice A n c, .slice B m d] 24)) cu)
  have HU := Lib.hid (hu.ext xA)
  have HB := Lib.hid (hb.ext xA)
  have no : (¬ ((cu = -1 ∨ Scrubs.stripe cu) ∧ n ≤ 1000 ∧ m ≤ 1000 ∧ Il.rising 0 Scrubs.great b)) → R = false := fun h => by
    cases R with
    | false => rfl
    | true => have := HRI.out.1 rfl; exact absurd ⟨this.1, this.2.1, this.2.2.1, this.2.2.2.1⟩ h
  have NO := Lib.hid no
  clear hu hb s1 no
  by_cases hc : cu = -1 ∨ Scrubs.stripe cu
  · have HC := Lib.hid hc
    have he : cu = -1 ∨ ((cu != -1) = true ∧ Scrubs.stripe cu) := by
      by_cases h : cu = -1
      · exact .inl h
      · exact .inr ⟨by rw [bne_iff_ne]; exact h, hc.resolve_left h⟩
    clear hc
    by_cases hn : n ≤ 1000
    · by_cases hm : m ≤ 1000
      · have g1 : ¬ (1000 : Int) < n := by omega
        have g2 : ¬ (1000 : Int) < m := by omega
        by_cases hr : Il.rising 0 Scrubs.great b
        · rw [decide_eq_true hr] at hRB
          have HRB := Lib.hid hRB
          have HR := Lib.hid hr
          clear hRB hr
          rcases he with rfl | ⟨e1, hs⟩
          · go_enter Try.func11, Try.ntmps11
            go_wp2_with (fail)
            refine HRB.out.mono ?_
            rintro e w' ⟨rfl, rfl⟩
            go_wp2_with (fail)
            refine (cloneInts_any _ A n c u HU.out (by omega)).mono ?_
            rintro e w2 ⟨v, rfl, hv⟩
            obtain ⟨A1, c1, rfl, _⟩ := ownsRow_slice hv.own
            have hso := sort_own w2 _ _ c1 A1 u rfl (by have := lu.out; omega) hv.own
            have HSO := Lib.hid hso
            have HV := Lib.hid hv
            clear hso hv
            go_wp2_with (fail)
            refine HSO.out.mono ?_
            rintro e w3 ⟨rfl, ho, hg⟩
            rw [← Il.srt_length u] at ho
            obtain ⟨A2, c2, e2, hi⟩ := own_is ho
            rw [Il.srt_length] at e2 hi
            injection e2 with e2 _ e3
            subst e2 e3
            have x3 : Ext w w3 := (xA.trans HV.out.ext).ofGrown hg (fun k hk => by have := (HV.out.own.lt k hk).1; have := xA.size; omega)
            have HRS := Lib.hid (scRising_any w3 A1 u.length c1 (Il.srt u) hi)
            clear ho hg hi
            go_wp2_with (fail)
            refine HRS.out.mono ?_
            rintro e w' ⟨rfl, rfl⟩
            go_wp2_with (fail)
            go_ret
            refine ⟨ret_bool ?_, x3⟩
            rw [Bool.eq_iff_iff, decide_eq_true_eq, HRI.out]
            exact ⟨fun h => ⟨HC.out, hn, hm, HR.out, h⟩, fun h => h.2.2.2.2⟩
          · have hst := HST.out
            rw [decide_eq_true hs] at hst
            have HST2 := Lib.hid hst
            clear hst hs HST
            go_enter Try.func11, Try.ntmps11
            go_wp2_with (fail)
            refine HST2.out.mono ?_
            rintro e w' ⟨rfl, rfl⟩
            go_wp2_with (fail)
            refine HRB.out.mono ?_
            rintro e w' ⟨rfl, rfl⟩
            go_wp2_with (fail)
            refine (cloneInts_any _ A n c u HU.out (by omega)).mono ?_
            rintro e w2 ⟨v, rfl, hv⟩
            obtain ⟨A1, c1, rfl, _⟩ := ownsRow_slice hv.own
            have hso := sort_own w2 _ _ c1 A1 u rfl (by have := lu.out; omega) hv.own
            have HSO := Lib.hid hso
            have HV := Lib.hid hv
            clear hso hv
            go_wp2_with (fail)
            refine HSO.out.mono ?_
            rintro e w3 ⟨rfl, ho, hg⟩
            rw [← Il.srt_length u] at ho
            obtain ⟨A2, c2, e2, hi⟩ := own_is ho
            rw [Il.srt_length] at e2 hi
            injection e2 with e2 _ e3
            subst e2 e3
            have x3 : Ext w w3 := (xA.trans HV.out.ext).ofGrown hg (fun k hk => by have := (HV.out.own.lt k hk).1; have := xA.size; omega)
            have HRS := Lib.hid (scRising_any w3 A1 u.length c1 (Il.srt u) hi)
            clear ho hg hi
            go_wp2_with (fail)
            refine HRS.out.mono ?_
            rintro e w' ⟨rfl, rfl⟩
            go_wp2_with (fail)
            go_ret
            refine ⟨ret_bool ?_, x3⟩
            rw [Bool.eq_iff_iff, decide_eq_true_eq, HRI.out]
            exact ⟨fun h => ⟨HC.out, hn, hm, HR.out, h⟩, fun h => h.2.2.2.2⟩
        · obtain rfl := NO.out (fun h => hr h.2.2.2)
          rw [decide_eq_false hr] at hRB
          have HRB := Lib.hid hRB
          clear hRB hr
          rcases he with rfl | ⟨e1, hs⟩
          · go_enter Try.func11, Try.ntmps11
            go_wp2_with (fail)
            refine HRB.out.mono ?_
            rintro e w' ⟨rfl, rfl⟩
            go_wp2_with (fail)
            go_ret
            exact ⟨rfl, xA⟩
          · have hst := HST.out
            rw [decide_eq_true hs] at hst
            have HST2 := Lib.hid hst
            clear hst hs HST
            go_enter Try.func11, Try.ntmps11
            go_wp2_with (fail)
            refine HST2.out.mono ?_
            rintro e w' ⟨rfl, rfl⟩
            go_wp2_with (fail)
            refine HRB.out.mono ?_
            rintro e w' ⟨rfl, rfl⟩
            go_wp2_with (fail)
            go_ret
            exact ⟨rfl, xA⟩
      · obtain rfl := NO.out (fun h => hm h.2.2.1)
        have g1 : ¬ (1000 : Int) < n := by omega
        have g2 : (1000 : Int) < m := by omega
        clear hRB
        rcases he with rfl | ⟨e1, hs⟩
        · go_enter Try.func11, Try.ntmps11
          go_wp2_with (fail)
          go_ret
          exact ⟨rfl, xA⟩
        · have hst := HST.out
          rw [decide_eq_true hs] at hst
          have HST2 := Lib.hid hst
          clear hst hs HST
          go_enter Try.func11, Try.ntmps11
          go_wp2_with (fail)
          refine HST2.out.mono ?_
          rintro e w' ⟨rfl, rfl⟩
          go_wp2_with (fail)
          go_ret
          exact ⟨rfl, xA⟩
    · obtain rfl := NO.out (fun h => hn h.2.1)
      have g1 : (1000 : Int) < n := by omega
      clear hRB
      rcases he with rfl | ⟨e1, hs⟩
      · go_enter Try.func11, Try.ntmps11
        go_wp2_with (fail)
        go_ret
        exact ⟨rfl, xA⟩
      · have hst := HST.out
        rw [decide_eq_true hs] at hst
        have HST2 := Lib.hid hst
        clear hst hs HST
        go_enter Try.func11, Try.ntmps11
        go_wp2_with (fail)
        refine HST2.out.mono ?_
        rintro e w' ⟨rfl, rfl⟩
        go_wp2_with (fail)
        go_ret
        exact ⟨rfl, xA⟩
  · obtain rfl := NO.out (fun h => hc h.1)
    have hst := HST.out
    rw [decide_eq_false (fun h => hc (.inr h))] at hst
    have HST2 := Lib.hid hst
    have e1 : (cu != -1) = true := by rw [bne_iff_ne]; exact fun h => hc (.inl h)
    clear hst hc HST hRB
    go_enter Try.func11, Try.ntmps11
    go_wp2_with (fail)
    refine HST2.out.mono ?_
    rintro e w' ⟨rfl, rfl⟩
    go_wp2_with (fail)
    go_ret
    exact ⟨rfl, xA⟩
end Go.Proofs.Ytkclimblcipmlaa
