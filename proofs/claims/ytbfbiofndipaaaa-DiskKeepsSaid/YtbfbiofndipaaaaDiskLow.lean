/- The contracts of a disk's none, there and operation. -/
import Derived.Test.YtbfbiofndipaaaaDiskBox
namespace Go.Proofs.Ytbfbiofndipaaaa
open Go.RowKit Go.Maps

abbrev dptr (g : Nat) : Value := .pointer (some ⟨g, 0, none⟩)
set_option maxRecDepth 100000 in
theorem dkNone_any (w : World) (g m b n : Nat) (D : DataW Nat) (d : Disks.D) (h : Dk w g m b n D d) :
    Calls Try.prog 39 #[dptr g] w fun e w' => e = .returned (.bool false) ∧ Ext w w' := by
  have k0 := h.c1
  go_enter Try.func39, Try.ntmps39
  go_wp2_with (fail)
  rename_i hK
  refine hK _ _ ?_
  go_wp2_with (fail)
  refine bodyPost_ret (results_tmp rfl _ _ _) rfl ?_
  exact ⟨rfl, Ext.refl _⟩
set_option maxRecDepth 100000 in
theorem dkNone_nil (w : World) :
    Calls Try.prog 39 #[.pointer none] w fun e w' => e = .returned (.bool true) ∧ Ext w w' := by
  go_enter Try.func39, Try.ntmps39
  go_wp2_with (fail)
  refine bodyPost_ret (results_tmp rfl _ _ _) rfl ?_
  exact ⟨rfl, Ext.refl _⟩
set_option maxRecDepth 100000 in
theorem dkThere_any (w : World) (g m b n : Nat) (D : DataW Nat) (d : Disks.D) (h : Dk w g m b n D d) (hN : d.med.length ≤ 65536) (i : Int) :
    Calls Try.prog 37 #[dptr g, .int .i64 i] w fun e w' => e = .returned (.int .i64 (Disks.there d i)) ∧ Ext w w' := by
  have hN0 := dkNone_any w g m b n D d h
  have H := Lib.hid h
  clear h
  go_enter Try.func37, Try.ntmps37
  go_wp2_with (fail)
  with_reducible refine hN0.mono ?_
  rintro e w1 ⟨rfl, x1⟩
  have k0 := (H.out.ext x1).c0
  have k3 := (H.out.ext x1).c3
  by_cases hd : d.down = true
  · rw [hd] at k3
    go_wp2_with (fail)
    refine bodyPost_ret (results_tmp rfl _ _ _) rfl ?_
    unfold Disks.there
    rw [if_pos hd]
    exact ⟨rfl, x1⟩
  · rw [Bool.not_eq_true] at hd
    rw [hd] at k3
    by_cases hi : i < 0
    · go_wp2_with (fail)
      refine bodyPost_ret (results_tmp rfl _ _ _) rfl ?_
      unfold Disks.there
      rw [if_neg (by rw [hd]; decide), if_pos (.inl hi)]
      exact ⟨rfl, x1⟩
    · by_cases hj : (d.med.length : Int) ≤ i
      · go_wp2_with (fail)
        refine bodyPost_ret (results_tmp rfl _ _ _) rfl ?_
        unfold Disks.there
        rw [if_neg (by rw [hd]; decide), if_pos (.inr hj)]
        exact ⟨rfl, x1⟩
      · go_wp2_with (fail)
        refine bodyPost_ret (results_tmp rfl _ _ _) rfl ?_
        unfold Disks.there
        rw [if_neg (by rw [hd]; decide), if_neg (by omega)]
        exact ⟨rfl, x1⟩
set_option maxRecDepth 100000 in
theorem dkOp_any (w : World) (g m b n : Nat) (D : DataW Nat) (d : Disks.D) (h : Dk w g m b n D d) (h1 : -1 ≤ d.arm) (h2 : d.arm < 2 ^ 63) :
    Calls Try.prog 38 #[dptr g] w fun e w' => e = .returned (.int .i64 (Disks.opE d)) ∧ Dk w' g m b n D (Disks.op d) ∧ Kp g m b w w' := by
  have k2 := h.c2
  have k3 := h.c3
  have f2 := h.fz 2
  have f3 := h.fz 3
  have H := Lib.hid h
  clear h
  by_cases h0 : d.arm = 0
  · rw [h0] at k2
    go_enter Try.func38, Try.ntmps38
    go_wp2_with (fail)
    refine bodyPost_ret (results_tmp rfl _ _ _) rfl ?_
    have e1 : Disks.opE d = 15 := if_pos h0
    have e2 : Disks.op d = { { d with down := true } with arm := -1 } := if_pos h0
    rw [e1, e2]
    exact ⟨rfl, (H.out.set3 true).set2 (-1), ((Kp.refl g m b w).set (p := ⟨g, 3, none⟩) (.inl rfl) _).set (p := ⟨g, 2, none⟩) (.inl rfl) _⟩
  · have e1 : Disks.opE d = 0 := if_neg h0
    have e2 : Disks.op d = { d with arm := max (d.arm - 1) (-1) } := if_neg h0
    by_cases h3 : d.arm = -1
    · rw [h3] at k2
      go_enter Try.func38, Try.ntmps38
      go_wp2_with (fail)
      refine bodyPost_ret (results_tmp rfl _ _ _) rfl ?_
      rw [e1, e2, show max (d.arm - 1) (-1) = -1 by omega]
      exact ⟨rfl, H.out.set2 (-1), (Kp.refl g m b w).set (p := ⟨g, 2, none⟩) (.inl rfl) _⟩
    · have h4 : 0 < d.arm := by omega
      obtain ⟨A, hA⟩ : ∃ A, d.arm = A := ⟨_, rfl⟩
      have e3 : max (d.arm - 1) (-1) = A - 1 := by omega
      rw [e3] at e2
      rw [hA] at k2 h4 h2
      clear h1 h0 h3 e3 hA
      go_enter Try.func38, Try.ntmps38
      go_wp2_with (fail)
      refine bodyPost_ret (results_tmp rfl _ _ _) rfl ?_
      rw [e1, e2]
      exact ⟨rfl, H.out.set2 _, (Kp.refl g m b w).set (p := ⟨g, 2, none⟩) (.inl rfl) _⟩
end Go.Proofs.Ytbfbiofndipaaaa
