/- The contract of the document's Rank. -/
import Derived.Test.YtiianhlppkocgaaRef3Steps
import Derived.Test.YtiianhlppkocgaaMatRank
namespace Go.Proofs.Ytiianhlppkocgaa
open Go.RowKit

set_option maxRecDepth 100000 in
set_option maxHeartbeats 2000000 in
theorem ref3Rank_any (w : World) (A : Option Addr) (n ca : Nat) (a : Gm.L) (ha : Mx w A n ca a) :
    Calls Try.prog 27 #[.slice A n ca] w fun e w' => e = .returned (.int .i64 ((if Gm.right a then Gm.rank a else 0 : Nat) : Int)) ∧ Ext w w' := by
  have hR := ref3Right_any w A n ca a ha
  have q1 := ha.max
  have q2 := ha.le
  by_cases h1 : Gm.right a
  · rw [decide_eq_true h1] at hR
    rw [if_pos h1]
    have hn : 0 < n := by have := h1.1; have := ha.len; omega
    have hn2 : n ≤ 255 := by have := h1.2.1; have := ha.len; omega
    have hra : Gm.Rect n (Gm.cols a) a := ⟨ha.len, fun i hi => h1.2.2.2.2 i (by rw [ha.len]; exact hi)⟩
    have hst := fun (W : World) (hW : Ext w W) => steps_any W A A n ca ca (Gm.cols a) (Gm.cols a) a a (ha.ext hW) (ha.ext hW) hra hra (by omega) hn2 h1.2.2.2.1 h1.2.2.2.1
    have hrk : (Gm.elimTo a a (Gm.cols a)).2.2 = Gm.rank a := rfl
    rw [hrk] at hst
    have HST := Lib.hid hst
    have HR := Lib.hid hR
    clear hst hR hra hrk h1 ha
    generalize Gm.rank a = rk at *
    go_enter Try.func27, Try.ntmps27
    go_wp2_with (fail)
    refine HR.out.mono ?_
    rintro e w1 ⟨rfl, x1⟩
    go_wp2_with (fail)
    refine (HST.out w1 x1).mono ?_
    rintro e w2 ⟨A3, c3, A4, c4, rfl, _, x2⟩
    go_wp2_with (fail)
    go_ret
    exact ⟨rfl, x1.trans x2⟩
  · rw [decide_eq_false h1] at hR
    rw [if_neg h1]
    have HR := Lib.hid hR
    clear hR h1 ha
    go_enter Try.func27, Try.ntmps27
    go_wp2_with (fail)
    refine HR.out.mono ?_
    rintro e w1 ⟨rfl, x1⟩
    go_wp2_with (fail)
    go_ret
    exact ⟨rfl, x1⟩
end Go.Proofs.Ytiianhlppkocgaa
