/- The contract of a disk's Spoil. -/
import Derived.Test.YtbfbiofndipaaaaDiskSmall
import Derived.StillTailTactics
namespace Go.Proofs.Ytbfbiofndipaaaa
open Go.RowKit Go.Maps

theorem turn_len (s : List UInt8) (k : Nat) (t : UInt8) : (Disks.turn s k t).length = s.length := by simp [Disks.turn]
theorem Md.turn {w : World} {m : Nat} {l : List (List UInt8)} (h : Md w m l) {i k : Nat} (hi : i < l.length) (hk : k < 64) (x : UInt8) :
    Md (w.setCell ⟨m, i * 64 + k, none⟩ (.int .u8 (x.toNat : Int))) m (l.set i ((Gm.row l i).set k x)) := by
  have hl := h.wid i hi
  have hin : i * 64 + k < l.length * 64 := by have : (i + 1) * 64 ≤ l.length * 64 := Nat.mul_le_mul_right 64 hi; omega
  have hw := h.ok (i * 64 + k) hin
  rw [show 0 + (i * 64 + k) = i * 64 + k by omega] at hw
  obtain ⟨u, hu⟩ := Option.isSome_iff_exists.1 hw.1
  refine ⟨by simpa using h.lt, fun j hj => ?_, fun j hj p v hv => ?_, fun j hj => ?_⟩
  · rw [List.length_set] at hj
    rw [row_set l i j _ hi]
    split
    · rw [List.length_set]; exact hl
    · exact h.wid j hj
  · rw [List.length_set] at hj
    rw [row_set l i j _ hi] at hv
    by_cases e : i = j
    · subst e
      rw [if_pos rfl, dk_bcells_set, List.getElem?_set] at hv
      by_cases ep : k = p
      · subst ep
        rw [if_pos rfl, if_pos (by rw [bcells_len, hl]; exact hk)] at hv
        rw [World.cell?_setCell_same _ _ _ hu]
        exact hv
      · rw [if_neg ep] at hv
        rw [World.cell?_setCell_other _ _ _ _ (fun q => by injection q with _ q _; omega)]
        exact h.rows i hi p v hv
    · rw [if_neg e] at hv
      have hp : p < 64 := by
        have := (List.getElem?_eq_some_iff.1 hv).1
        rw [bcells_len, h.wid j hj] at this
        exact this
      rw [World.cell?_setCell_other _ _ _ _ (fun q => by injection q with _ q _; omega)]
      exact h.rows j hj p v hv
  · rw [List.length_set] at hj
    have q := h.ok j hj
    obtain ⟨u', hu'⟩ := Option.isSome_iff_exists.1 q.1
    refine ⟨?_, by rw [World.frozen?_setCell]; exact q.2⟩
    by_cases e : i * 64 + k = 0 + j
    · rw [← e] at hu' ⊢
      rw [World.cell?_setCell_same _ _ _ hu']
      rfl
    · rw [World.cell?_setCell_other _ _ _ _ (fun q => by injection q with _ q _; exact e q), hu']
      rfl
theorem Dk.turned {w : World} {g m b n : Nat} {D : DataW Nat} {d : Disks.D} (h : Dk w g m b n D d) {i k : Nat} (hi : i < d.med.length) (hk : k < 64) (x : UInt8) :
    Dk (w.setCell ⟨m, i * 64 + k, none⟩ (.int .u8 (x.toNat : Int))) g m b n D { d with med := d.med.set i ((Gm.row d.med i).set k x) } := by
  refine ⟨?_, h.md.turn hi hk x, map_kept h.mp (heap_setCell_other w ⟨m, i * 64 + k, none⟩ b _ (fun e => h.mb e.symm)), h.tie, h.gm, h.gb, h.mb⟩
  rw [List.length_set]
  exact (heap_setCell_other w ⟨m, i * 64 + k, none⟩ g _ h.gm).trans h.box
set_option maxRecDepth 100000 in
theorem dkSpoil_no (w : World) (g m b n : Nat) (D : DataW Nat) (d : Disks.D) (h : Dk w g m b n D d) (hM : d.med.length ≤ 65536) (i k : Int) (t : UInt8) (he : Disks.spoilE d i k ≠ 0) :
    Calls Try.prog 23 #[dptr g, .int .i64 i, .int .i64 k, .int .u8 (t.toNat : Int)] w fun e w' => e = .returned (.int .i64 (Disks.spoilE d i k)) ∧ Ext w w' := by
  have hN := dkNone_any w g m b n D d h
  have H := Lib.hid h
  clear h
  by_cases h1 : i < 0
  · have e1 : Disks.spoilE d i k = 50 := if_pos (.inl h1)
    rw [e1]
    clear he e1
    go_enter Try.func23, Try.ntmps23
    go_wp2_with (fail)
    with_reducible refine hN.mono ?_
    rintro e w1 ⟨rfl, x1⟩
    go_wp2_with (fail)
    refine bodyPost_ret (results_tmp rfl _ _ _) rfl ?_
    exact ⟨rfl, x1⟩
  · by_cases h2 : (d.med.length : Int) ≤ i
    · have e1 : Disks.spoilE d i k = 50 := if_pos (.inr h2)
      rw [e1]
      clear he e1
      go_enter Try.func23, Try.ntmps23
      go_wp2_with (fail)
      with_reducible refine hN.mono ?_
      rintro e w1 ⟨rfl, x1⟩
      have k0 := (H.out.ext x1).c0
      go_wp2_with (fail)
      refine bodyPost_ret (results_tmp rfl _ _ _) rfl ?_
      exact ⟨rfl, x1⟩
    · by_cases h3 : k < 0
      · have e1 : Disks.spoilE d i k = 2 := by unfold Disks.spoilE; rw [if_neg (by omega), if_pos (.inl h3)]
        rw [e1]
        clear he e1
        go_enter Try.func23, Try.ntmps23
        go_wp2_with (fail)
        with_reducible refine hN.mono ?_
        rintro e w1 ⟨rfl, x1⟩
        have k0 := (H.out.ext x1).c0
        go_wp2_with (fail)
        refine bodyPost_ret (results_tmp rfl _ _ _) rfl ?_
        exact ⟨rfl, x1⟩
      · have h4 : 64 ≤ k := by
          unfold Disks.spoilE at he
          rw [if_neg (by omega)] at he
          by_cases q : 64 ≤ k
          · exact q
          · rw [if_neg (by omega)] at he; exact absurd rfl he
        have e1 : Disks.spoilE d i k = 2 := by unfold Disks.spoilE; rw [if_neg (by omega), if_pos (.inr h4)]
        rw [e1]
        clear he e1
        go_enter Try.func23, Try.ntmps23
        go_wp2_with (fail)
        with_reducible refine hN.mono ?_
        rintro e w1 ⟨rfl, x1⟩
        have k0 := (H.out.ext x1).c0
        go_wp2_with (fail)
        refine bodyPost_ret (results_tmp rfl _ _ _) rfl ?_
        exact ⟨rfl, x1⟩
set_option maxRecDepth 100000 in
set_option maxHeartbeats 1000000 in
theorem dkSpoil_ok (w : World) (g m b n : Nat) (D : DataW Nat) (d : Disks.D) (h : Dk w g m b n D d) (hM : d.med.length ≤ 65536) (i k : Nat) (hi : i < d.med.length) (hk : k < 64) (t : UInt8) :
    Calls Try.prog 23 #[dptr g, .int .i64 (i : Int), .int .i64 (k : Int), .int .u8 (t.toNat : Int)] w fun e w' => e = .returned (.int .i64 0) ∧ Dk w' g m b n D { d with med := d.med.set i (Disks.turn (Gm.row d.med i) k t) } ∧ Kp g m b w w' := by
  have hN := dkNone_any w g m b n D d h
  have H := Lib.hid h
  have h1 : ¬ (i : Int) < 0 := by omega
  have h2 : ¬ (d.med.length : Int) ≤ i := by omega
  have h3 : ¬ (k : Int) < 0 := by omega
  have h4 : ¬ 64 ≤ (k : Int) := by omega
  have hc : ∀ W, Ext w W → W.cell? ⟨m, i * 64 + k, none⟩ = some (.int .u8 ((Gf.get (Gm.row d.med i) k).toNat : Int)) := fun W hW => by
    have := (h.ext hW).md.rows i hi k _ (dk_bcells_get (l := Gm.row d.med i) (k := k) (by rw [h.md.wid i hi]; exact hk))
    exact this
  have HC := Lib.hid hc
  clear h hc
  obtain ⟨x, hx⟩ : ∃ x, Gf.get (Gm.row d.med i) k = x := ⟨_, rfl⟩
  rw [hx] at HC
  have ht : Disks.turn (Gm.row d.med i) k t = (Gm.row d.med i).set k (x ^^^ t) := by unfold Disks.turn; rw [hx]
  rw [ht]
  clear hx ht
  go_enter Try.func23, Try.ntmps23
  go_wp2_with (fail)
  with_reducible refine hN.mono ?_
  rintro e w1 ⟨rfl, x1⟩
  have k0 := (H.out.ext x1).c0
  have kc := HC.out _ x1
  have X1 := Lib.hid x1
  clear x1
  go_upto_region 7 with (fail)
  go_still_tail 13, (by kernel_rfl)
  change wpList _ _ _ _ _ w1.drew
  have H9 := Lib.hid ((H.out.ext X1.out).ext (Ext.drew w1))
  have X9 := Lib.hid (X1.out.trans (Ext.drew w1))
  have kc9 : w1.drew.cell? ⟨m, i * 64 + k, none⟩ = _ := HC.out _ X9.out
  have f9 : w1.drew.frozen? ⟨m, i * 64 + k, none⟩ = false := by
    have := (H9.out.md.ok (i * 64 + k) (by have : (i + 1) * 64 ≤ d.med.length * 64 := Nat.mul_le_mul_right 64 hi; omega)).2
    rw [show 0 + (i * 64 + k) = i * 64 + k by omega] at this
    exact this
  clear k0 kc
  go_wp2_with (fail)
  refine bodyPost_ret (results_tmp rfl _ _ _) rfl ?_
  rw [xor_u8]
  exact ⟨rfl, H9.out.turned hi hk (x ^^^ t), (Kp.of X9.out ..).set (p := ⟨m, i * 64 + k, none⟩) (.inr (.inl rfl)) _⟩
end Go.Proofs.Ytbfbiofndipaaaa
