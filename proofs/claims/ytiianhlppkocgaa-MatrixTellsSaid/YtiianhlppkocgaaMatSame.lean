/- The contracts of what compares matrices. -/
import Derived.Test.YtiianhlppkocgaaMatUnit
import Derived.Deep.DrawnRows
namespace Go.Proofs.Ytiianhlppkocgaa
open Go.RowKit
attribute [local go_sem ↓] Go.wp_at_zero Go.wp_at_succ

set_option maxRecDepth 100000 in
set_option maxHeartbeats 2000000 in
theorem sameLists_any (w : World) (A A' : Option Addr) (n c m c' : Nat) (a b : Gm.L) (ha : Mx w A n c a) (hb : Mx w A' m c' b) :
    Calls Try.prog 47 #[.slice A n c, .slice A' m c'] w fun e w' => e = .returned (.bool (decide (a = b))) ∧ Ext w w' := by
  have hm1 := ha.max
  have hm2 := ha.le
  have hm3 := hb.max
  have hm4 := hb.le
  have LA := Lib.hid ha.len
  have LB := Lib.hid hb.len
  by_cases hnm : n = m
  · subst hnm
    have e0 : ((n : Int) != (n : Int)) = false := by rw [bne_eq_false_iff_eq]
    go_enter Try.func47, Try.ntmps47
    go_wp2_with (fail)
    go_loopw [5] (fun s wr => ∃ k : Nat, k ≤ n ∧ s = .int .i64 k ∧ Ext w wr ∧ RowKit.Hid (∀ i, i < k → Gm.row a i = Gm.row b i)) (fun s _ => n - (intOf s).toNat)
    case atStart => exact ⟨0, Nat.zero_le _, rfl, Ext.refl w, Lib.hid fun j hj => absurd hj (Nat.not_lt_zero _)⟩
    case round =>
      obtain ⟨k, hk, rfl, hx, H⟩ := hrel
      by_cases hlt : k < n
      · have i1 : (k : Int) < n := by omega
        obtain ⟨b1, o1, A1, n1, c1, rfl, hc1, hr1⟩ := (ha.ext hx).at_ hlt
        obtain ⟨b2, o2, A2, n2, c2, rfl, hc2, hr2⟩ := (hb.ext hx).at_ hlt
        have hcall := sameBytes_any wr.drew A1 A2 n1 c1 n2 c2 (Gm.row a k) (Gm.row b k) (hr1.ext (Ext.drew _)) (hr2.ext (Ext.drew _))
        have HC := Lib.hid hcall
        have hS : wr.drew.cell? ⟨b1, o1 + k, none⟩ = some (.slice A1 n1 c1) ∧ wr.drew.cell? ⟨b2, o2 + k, none⟩ = some (.slice A2 n2 c2) := ⟨(Ext.drew wr).cell hc1, (Ext.drew wr).cell hc2⟩
        have HX := Lib.hid (hx.thenDrew)
        clear hcall hr1 hr2 ha hb hx
        by_cases e : Gm.row a k = Gm.row b k
        · have hv : (Gm.row a k == Gm.row b k) = true := by rw [beq_iff_eq]; exact e
          rw [hv] at HC
          have HE := Lib.hid e
          clear e hv
          go_wp2_with (fail)
          go_region_held3 (fun W => W.cell? ⟨b1, o1 + k, none⟩ = some (.slice A1 n1 c1) ∧ W.cell? ⟨b2, o2 + k, none⟩ = some (.slice A2 n2 c2)) (exact hS) (((with_reducible refine HC.out.mono ?_); (rintro e w4 ⟨rfl, rfl⟩)))
          all_goals
            go_wp2_with (fail)
            refine ⟨⟨k + 1, by omega, by go_num, HX.out, Lib.hid fun i hi => ?_⟩, by simp [intOf]; omega⟩
            by_cases e2 : i = k
            · rw [e2]; exact HE.out
            · exact H.out i (by omega)
        · have hv : (Gm.row a k == Gm.row b k) = false := by rw [beq_eq_false_iff_ne]; exact e
          rw [hv] at HC
          have HE := Lib.hid e
          clear e hv
          go_wp2_with (fail)
          go_region_held3 (fun W => W.cell? ⟨b1, o1 + k, none⟩ = some (.slice A1 n1 c1) ∧ W.cell? ⟨b2, o2 + k, none⟩ = some (.slice A2 n2 c2)) (exact hS) (((with_reducible refine HC.out.mono ?_); (rintro e w4 ⟨rfl, rfl⟩)))
          all_goals
            go_wp2_with (fail)
            go_ret
            exact ⟨ret_bool (decide_eq_false (fun h => HE.out (by rw [h]))).symm, HX.out⟩
      · have i1 : ¬ (k : Int) < n := by omega
        have hkn : k = n := by omega
        rw [hkn] at H
        go_wp2_with (fail)
        go_ret
        exact ⟨ret_bool (decide_eq_true (Gm.rows_ext (by rw [LA.out, LB.out]) (fun i hi => H.out i (by have := LA.out; omega)))).symm, hx⟩
  · have e0 : ((n : Int) != (m : Int)) = true := by rw [bne_iff_ne]; omega
    go_enter Try.func47, Try.ntmps47
    go_wp2_with (fail)
    go_ret
    exact ⟨ret_bool (decide_eq_false (fun h => hnm (by have := LA.out; have := LB.out; rw [h] at *; omega))).symm, Ext.refl w⟩
theorem sameMatrix_any (w : World) (A A' : Option Addr) (n c m c' : Nat) (a b : Gm.L) (ha : Mx w A n c a) (hb : Mx w A' m c' b) :
    Calls Try.prog 24 #[.slice A n c, .slice A' m c'] w fun e w' => e = .returned (.bool (decide (a = b))) ∧ Ext w w' := by
  go_enter Try.func24, Try.ntmps24
  go_wp2_with (fail)
  refine (sameLists_any w A A' n c m c' a b ha hb).mono ?_
  rintro e w1 ⟨rfl, x1⟩
  go_wp2_with (fail)
  go_ret
  exact ⟨rfl, x1⟩
end Go.Proofs.Ytiianhlppkocgaa
