/- The contracts of a disk's Size, Arm, Down. -/
import Derived.Test.YtbfbiofndipaaaaDiskNew
namespace Go.Proofs.Ytbfbiofndipaaaa
open Go.RowKit Go.Maps

set_option maxRecDepth 100000 in
theorem dkSize_any (w : World) (g m b n : Nat) (D : DataW Nat) (d : Disks.D) (h : Dk w g m b n D d) :
    Calls Try.prog 26 #[dptr g] w fun e w' => e = .returned (.int .i64 (d.med.length : Int)) ∧ Ext w w' := by
  have hN := dkNone_any w g m b n D d h
  have H := Lib.hid h
  clear h
  go_enter Try.func26, Try.ntmps26
  go_wp2_with (fail)
  with_reducible refine hN.mono ?_
  rintro e w1 ⟨rfl, x1⟩
  have k0 := (H.out.ext x1).c0
  go_wp2_with (fail)
  refine bodyPost_ret (results_tmp rfl _ _ _) rfl ?_
  exact ⟨rfl, x1⟩
set_option maxRecDepth 100000 in
theorem dkDown_any (w : World) (g m b n : Nat) (D : DataW Nat) (d : Disks.D) (h : Dk w g m b n D d) :
    Calls Try.prog 19 #[dptr g] w fun e w' => e = .returned (.bool d.down) ∧ Ext w w' := by
  have hN := dkNone_any w g m b n D d h
  have H := Lib.hid h
  clear h
  obtain ⟨z, hz⟩ : ∃ z, d.down = z := ⟨_, rfl⟩
  rw [hz]
  go_enter Try.func19, Try.ntmps19
  go_wp2_with (fail)
  with_reducible refine hN.mono ?_
  rintro e w1 ⟨rfl, x1⟩
  have k0 := (H.out.ext x1).c3
  rw [hz] at k0
  clear hz
  go_wp2_with (fail)
  refine bodyPost_ret (results_tmp rfl _ _ _) rfl ?_
  exact ⟨rfl, x1⟩
set_option maxRecDepth 100000 in
theorem dkArm_any (w : World) (g m b n : Nat) (D : DataW Nat) (d : Disks.D) (h : Dk w g m b n D d) (x : Int) :
    Calls Try.prog 16 #[dptr g, .int .i64 x] w fun e w' => e = .returned (.tuple #[]) ∧ Dk w' g m b n D (Disks.armD d x) ∧ Kp g m b w w' := by
  have hN := dkNone_any w g m b n D d h
  have H := Lib.hid h
  clear h
  by_cases hd : d.down = true
  · have e1 : Disks.armD d x = d := if_pos hd
    rw [e1]
    have HD := Lib.hid hd
    clear hd e1
    go_enter Try.func16, Try.ntmps16
    go_wp2_with (fail)
    with_reducible refine hN.mono ?_
    rintro e w1 ⟨rfl, x1⟩
    have k3 := (H.out.ext x1).c3
    rw [HD.out] at k3
    go_wp2_with (fail)
    refine bodyPost_end (results_none rfl _ _ _) rfl ?_
    exact ⟨rfl, H.out.ext x1, Kp.of x1 ..⟩
  · have e1 : Disks.armD d x = { d with arm := max x 0 } := if_neg hd
    rw [e1]
    rw [Bool.not_eq_true] at hd
    have HD := Lib.hid hd
    clear hd e1
    obtain ⟨y, hy⟩ : ∃ y, max x 0 = y := ⟨_, rfl⟩
    rw [hy]
    by_cases hx : x < 0
    · have ey : y = 0 := by omega
      subst ey
      clear hy
      go_enter Try.func16, Try.ntmps16
      go_wp2_with (fail)
      with_reducible refine hN.mono ?_
      rintro e w1 ⟨rfl, x1⟩
      have k2 := (H.out.ext x1).c2
      have k3 := (H.out.ext x1).c3
      have f2 := (H.out.ext x1).fz 2
      rw [HD.out] at k3
      go_wp2_with (fail)
      refine bodyPost_end (results_none rfl _ _ _) rfl ?_
      exact ⟨rfl, (H.out.ext x1).set2 0, (Kp.of x1 ..).set (p := ⟨g, 2, none⟩) (.inl rfl) _⟩
    · have ey : y = x := by omega
      subst ey
      clear hy
      go_enter Try.func16, Try.ntmps16
      go_wp2_with (fail)
      with_reducible refine hN.mono ?_
      rintro e w1 ⟨rfl, x1⟩
      have k2 := (H.out.ext x1).c2
      have k3 := (H.out.ext x1).c3
      have f2 := (H.out.ext x1).fz 2
      rw [HD.out] at k3
      go_wp2_with (fail)
      refine bodyPost_end (results_none rfl _ _ _) rfl ?_
      exact ⟨rfl, (H.out.ext x1).set2 y, (Kp.of x1 ..).set (p := ⟨g, 2, none⟩) (.inl rfl) _⟩
end Go.Proofs.Ytbfbiofndipaaaa
