/- Several texts in one: The contracts of a disk's Size, Arm, Down. Words for a byte of a sector turned. No statement of the seat is proved here. -/
import Derived.Test.YtaaegbccejjjcaaCt10
import Derived.StillTailTactics
namespace Go.Proofs.Ytaaegbccejjjcaa
open Go.RowKit Go.Maps

set_option maxRecDepth 100000 in
theorem dkSize_any (w : World) (g m b n : Nat) (D : DataW Nat) (d : Disks.D) (h : Dk w g m b n D d) :
    Calls Try.prog 27 #[dptr g] w fun e w' => e = .returned (.int .i64 (d.med.length : Int)) ∧ Ext w w' := by
  have hN := dkNone_any w g m b n D d h
  have H := Lib.hid h
  clear h
  go_enter Try.func27, Try.ntmps27
  go_wp2_with (fail)
  with_reducible refine hN.mono ?_
  rintro e w1 ⟨rfl, x1⟩
  have k0 := (H.out.ext x1).c0
  go_wp2_with (fail)
  refine bodyPost_ret (results_tmp rfl _ _ _) rfl ?_
  exact ⟨rfl, x1⟩
set_option maxRecDepth 100000 in
theorem dkArm_any (w : World) (g m b n : Nat) (D : DataW Nat) (d : Disks.D) (h : Dk w g m b n D d) (x : Int) :
    Calls Try.prog 24 #[dptr g, .int .i64 x] w fun e w' => e = .returned (.tuple #[]) ∧ Dk w' g m b n D (Disks.armD d x) ∧ Kp g m b w w' := by
  have hN := dkNone_any w g m b n D d h
  have H := Lib.hid h
  clear h
  by_cases hd : d.down = true
  · have e1 : Disks.armD d x = d := if_pos hd
    rw [e1]
    have HD := Lib.hid hd
    clear hd e1
    go_enter Try.func24, Try.ntmps24
    go_wp2_with (fail)
    with_reducible refine hN.mono ?_
    rintro e w1 ⟨rfl, x1⟩
    have k3 := (H.out.ext x1).c3
    rw [HD.out] at k3
    go_wp2_with (fail)
    refine bodyPost_end (results_none rfl _ _ _) rfl ?_
    exact ⟨rfl, H.out.ext x1, Kp.of x1 ..⟩
  · have e1 : Disks.armD d x = { d with arm := max x 0 } := if_neg hd
    rw [e1]
    rw [Bool.not_eq_true] at hd
    have HD := Lib.hid hd
    clear hd e1
    obtain ⟨y, hy⟩ : ∃ y, max x 0 = y := ⟨_, rfl⟩
    rw [hy]
    by_cases hx : x < 0
    · have ey : y = 0 := by omega
      subst ey
      clear hy
      go_enter Try.func24, Try.ntmps24
      go_wp2_with (fail)
      with_reducible refine hN.mono ?_
      rintro e w1 ⟨rfl, x1⟩
      have k2 := (H.out.ext x1).c2
      have k3 := (H.out.ext x1).c3
      have f2 := (H.out.ext x1).fz 2
      rw [HD.out] at k3
      go_wp2_with (fail)
      refine bodyPost_end (results_none rfl _ _ _) rfl ?_
      exact ⟨rfl, (H.out.ext x1).set2 0, (Kp.of x1 ..).set (p := ⟨g, 2, none⟩) (.inl rfl) _⟩
    · have ey : y = x := by omega
      subst ey
      clear hy
      go_enter Try.func24, Try.ntmps24
      go_wp2_with (fail)
      with_reducible refine hN.mono ?_
      rintro e w1 ⟨rfl, x1⟩
      have k2 := (H.out.ext x1).c2
      have k3 := (H.out.ext x1).c3
      have f2 := (H.out.ext x1).fz 2
      rw [HD.out] at k3
      go_wp2_with (fail)
      refine bodyPost_end (results_none rfl _ _ _) rfl ?_
      exact ⟨rfl, (H.out.ext x1).set2 y, (Kp.of x1 ..).set (p := ⟨g, 2, none⟩) (.inl rfl) _⟩
end Go.Proofs.Ytaaegbccejjjcaa
namespace Go.Proofs.Ytaaegbccejjjcaa
open Go.RowKit Go.Maps

theorem turn_len (s : List UInt8) (k : Nat) (t : UInt8) : (Disks.turn s k t).length = s.length := by simp [Disks.turn]
theorem Md.turn {w : World} {m : Nat} {l : List (List UInt8)} (h : Md w m l) {i k : Nat} (hi : i < l.length) (hk : k < 64) (x : UInt8) :
    Md (w.setCell ⟨m, i * 64 + k, none⟩ (.int .u8 (x.toNat : Int))) m (l.set i ((Gm.row l i).set k x)) := by
  have hl := h.wid i hi
  have hin : i * 64 + k < l.length * 64 := by have : (i + 1) * 64 ≤ l.length * 64 := Nat.mul_le_mul_right 64 hi; omega
  have hw := h.ok (i * 64 + k) hin
  rw [show 0 + (i * 64 + k) = i * 64 + k by omega] at hw
  obtain ⟨u, hu⟩ := Option.isSome_iff_exists.1 hw.1
  refine ⟨by simpa using h.lt, fun j hj => ?_, fun j hj p v hv => ?_, fun j hj => ?_⟩
  · rw [List.length_set] at hj
    rw [row_set l i j _ hi]
    split
    · rw [List.length_set]; exact hl
    · exact h.wid j hj
  · rw [List.length_set] at hj
    rw [row_set l i j _ hi] at hv
    by_cases e : i = j
    · subst e
      rw [if_pos rfl, dk_bcells_set, List.getElem?_set] at hv
      by_cases ep : k = p
      · subst ep
        rw [if_pos rfl, if_pos (by rw [bcells_len, hl]; exact hk)] at hv
        rw [World.cell?_setCell_same _ _ _ hu]
        exact hv
      · rw [if_neg ep] at hv
        rw [World.cell?_setCell_other _ _ _ _ (fun q => by injection q with _ q _; omega)]
        exact h.rows i hi p v hv
    · rw [if_neg e] at hv
      have hp : p < 64 := by
        have := (List.getElem?_eq_some_iff.1 hv).1
        rw [bcells_len, h.wid j hj] at this
        exact this
      rw [World.cell?_setCell_other _ _ _ _ (fun q => by injection q with _ q _; omega)]
      exact h.rows j hj p v hv
  · rw [List.length_set] at hj
    have q := h.ok j hj
    obtain ⟨u', hu'⟩ := Option.isSome_iff_exists.1 q.1
    refine ⟨?_, by rw [World.frozen?_setCell]; exact q.2⟩
    by_cases e : i * 64 + k = 0 + j
    · rw [← e] at hu' ⊢
      rw [World.cell?_setCell_same _ _ _ hu']
      rfl
    · rw [World.cell?_setCell_other _ _ _ _ (fun q => by injection q with _ q _; exact e q), hu']
      rfl
theorem Dk.turned {w : World} {g m b n : Nat} {D : DataW Nat} {d : Disks.D} (h : Dk w g m b n D d) {i k : Nat} (hi : i < d.med.length) (hk : k < 64) (x : UInt8) :
    Dk (w.setCell ⟨m, i * 64 + k, none⟩ (.int .u8 (x.toNat : Int))) g m b n D { d with med := d.med.set i ((Gm.row d.med i).set k x) } := by
  refine ⟨?_, h.md.turn hi hk x, map_kept h.mp (heap_setCell_other w ⟨m, i * 64 + k, none⟩ b _ (fun e => h.mb e.symm)), h.tie, h.gm, h.gb, h.mb⟩
  rw [List.length_set]
  exact (heap_setCell_other w ⟨m, i * 64 + k, none⟩ g _ h.gm).trans h.box
end Go.Proofs.Ytaaegbccejjjcaa
