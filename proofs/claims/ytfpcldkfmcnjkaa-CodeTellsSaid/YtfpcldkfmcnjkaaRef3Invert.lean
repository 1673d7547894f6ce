/- The contracts of the document's Invert and Rank. -/
import Derived.Test.YtfpcldkfmcnjkaaRef3Steps
import Derived.Test.YtfpcldkfmcnjkaaCt7
import Derived.Test.YtfpcldkfmcnjkaaCt1
namespace Go.Proofs.Ytfpcldkfmcnjkaa
open Go.RowKit

set_option maxRecDepth 100000 in
set_option maxHeartbeats 2000000 in
theorem ref3Invert_any (w : World) (A : Option Addr) (n ca : Nat) (a : Gm.L) (ha : Mx w A n ca a) :
    Calls Try.prog 63 #[.slice A n ca] w (GivesME (invM a) (invE a) w) := by
  have hR := ref3Right_any w A n ca a ha
  have q1 := ha.max
  have q2 := ha.le
  have LA := Lib.hid ha.len
  by_cases h1 : Gm.right a
  · rw [decide_eq_true h1] at hR
    have hn : 0 < n := by have := h1.1; have := ha.len; omega
    have hn2 : n ≤ 255 := by have := h1.2.1; have := ha.len; omega
    obtain ⟨ba, oa, A0, n0, c0, rfl, hc0, hb0⟩ := ha.at_ hn
    rw [Nat.add_zero] at hc0
    have hcols : Gm.cols a = n0 := hb0.len
    have g0 : (0 : Int) < n := by omega
    have hm0 := hb0.max
    have hl0 := hb0.le
    by_cases h2 : n0 = n
    · subst h2
      have e1 : ((n0 : Int) != (n0 : Int)) = false := by simp
      have hsq : square a := ⟨h1, by rw [hcols, ha.len]⟩
      have hra : Gm.Rect n0 n0 a := ⟨ha.len, fun i hi => by rw [h1.2.2.2.2 i (by rw [ha.len]; exact hi), hcols]⟩
      have hst := fun (W : World) (hW : Ext w W) (B : Option Addr) (cb : Nat) (hm : Mx W B n0 cb (Gm.unit n0)) => steps_any W (some ⟨ba, oa, none⟩) B n0 ca cb n0 n0 a (Gm.unit n0) (ha.ext hW) hm hra (Gm.unit_rect n0) (by omega) hn2 hn2 hn2
      have hrk : (Gm.elimTo a (Gm.unit n0) n0).2.2 = Gm.rank a := by have := Gm.rank_of (m := a) (Gm.unit n0); rwa [hcols] at this
      have hiv : (Gm.elimTo a (Gm.unit n0) n0).2.1 = Gm.invert a := by unfold Gm.invert; rw [ha.len, hcols]
      rw [hrk, hiv] at hst
      have hul : (Gm.unit n0).length = n0 := (Gm.unit_rect n0).len
      have HUL := Lib.hid hul
      have HU := Lib.hid (fun W => ref3Unit_ok W n0 (by omega) hn2)
      have HST := Lib.hid hst
      have HR := Lib.hid hR
      have HC := Lib.hid hc0
      have hle := Gm.rank_le hra hn
      have hilen : ¬ Gm.rank a < n0 → (Gm.invert a).length = n0 := fun h => (Gm.inv_rect hra hn (by omega)).len
      have HIL := Lib.hid hilen
      by_cases h3 : Gm.rank a < n0
      · have eM : invM a = [] := by unfold invM; rw [if_pos hsq, if_pos (by rw [ha.len]; exact h3)]
        have eE : invE a = 31 := by unfold invE; rw [if_pos hsq, if_pos (by rw [ha.len]; exact h3)]
        rw [eM, eE]
        have h3' : (Gm.rank a : Int) < n0 := by omega
        clear eM eE hR hst hra hsq h1 ha hb0 hcols hc0 hrk hiv hul hilen
        generalize Gm.rank a = rk at *
        generalize Gm.invert a = iv at *
        generalize Gm.unit n0 = un at *
        go_enter Try.func63, Try.ntmps63
        go_wp2_with (fail)
        refine HR.out.mono ?_
        rintro e w1 ⟨rfl, x1⟩
        have hc1 := x1.cell HC.out
        go_wp2_with (fail)
        refine (HU.out w1).mono ?_
        intro e w2 hg
        obtain ⟨v2, cs2, rfl, hq2, x2⟩ := hg
        rw [HUL.out] at hq2
        obtain ⟨A2, c2, rfl, m2⟩ := hq2.mx
        have HST2 := Lib.hid (HST.out w2 (x1.trans x2) A2 c2 m2)
        clear hq2 m2
        go_wp2_with (fail)
        refine HST2.out.mono ?_
        rintro e w3 ⟨A3, c3, A4, c4, rfl, m3, x3⟩
        go_wp2_with (fail)
        go_ret2
        exact ⟨_, _, rfl, Mx.none _, (x1.trans x2).trans x3⟩
      · have eM : invM a = Gm.invert a := by unfold invM; rw [if_pos hsq, if_neg (by rw [ha.len]; exact h3)]
        have eE : invE a = 0 := by unfold invE; rw [if_pos hsq, if_neg (by rw [ha.len]; exact h3)]
        rw [eM, eE]
        have HIL2 := Lib.hid (HIL.out h3)
        have h3' : ¬ (Gm.rank a : Int) < n0 := by omega
        clear eM eE hR hst hra hsq h1 ha hb0 hcols hc0 hrk hiv hul hilen HIL
        generalize Gm.rank a = rk at *
        generalize Gm.invert a = iv at *
        generalize Gm.unit n0 = un at *
        go_enter Try.func63, Try.ntmps63
        go_wp2_with (fail)
        refine HR.out.mono ?_
        rintro e w1 ⟨rfl, x1⟩
        have hc1 := x1.cell HC.out
        go_wp2_with (fail)
        refine (HU.out w1).mono ?_
        intro e w2 hg
        obtain ⟨v2, cs2, rfl, hq2, x2⟩ := hg
        rw [HUL.out] at hq2
        obtain ⟨A2, c2, rfl, m2⟩ := hq2.mx
        have HST2 := Lib.hid (HST.out w2 (x1.trans x2) A2 c2 m2)
        clear hq2 m2
        go_wp2_with (fail)
        refine HST2.out.mono ?_
        rintro e w3 ⟨A3, c3, A4, c4, rfl, m3, x3⟩
        go_wp2_with (fail)
        go_ret2
        refine ⟨A4, c4, by rw [HIL2.out]; rfl, ?_, (x1.trans x2).trans x3⟩
        rw [HIL2.out]
        exact m3
    · have e1 : ((n0 : Int) != (n : Int)) = true := by rw [bne_iff_ne]; omega
      have hns : ¬ square a := fun q => h2 (by rw [← hcols, q.2, ha.len])
      have eM : invM a = [] := by unfold invM; rw [if_neg hns]
      have eE : invE a = 30 := by unfold invE; rw [if_neg hns]
      rw [eM, eE]
      have HR := Lib.hid hR
      have HC := Lib.hid hc0
      clear eM eE hR hns h1 ha hb0 hcols hc0 h2
      go_enter Try.func63, Try.ntmps63
      go_wp2_with (fail)
      refine HR.out.mono ?_
      rintro e w1 ⟨rfl, x1⟩
      have hc1 := x1.cell HC.out
      go_wp2_with (fail)
      go_ret2
      exact ⟨_, _, rfl, Mx.none _, x1⟩
  · rw [decide_eq_false h1] at hR
    have hns : ¬ square a := fun q => h1 q.1
    have eM : invM a = [] := by unfold invM; rw [if_neg hns]
    have eE : invE a = 30 := by unfold invE; rw [if_neg hns]
    rw [eM, eE]
    have HR := Lib.hid hR
    clear eM eE hR hns h1 ha
    go_enter Try.func63, Try.ntmps63
    go_wp2_with (fail)
    refine HR.out.mono ?_
    rintro e w1 ⟨rfl, x1⟩
    go_wp2_with (fail)
    go_ret2
    exact ⟨_, _, rfl, Mx.none _, x1⟩
end Go.Proofs.Ytfpcldkfmcnjkaa
