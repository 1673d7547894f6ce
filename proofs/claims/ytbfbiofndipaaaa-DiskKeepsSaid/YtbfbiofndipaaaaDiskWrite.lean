/- The contract of a disk's Write. -/
import Derived.Test.YtbfbiofndipaaaaDiskStore
namespace Go.Proofs.Ytbfbiofndipaaaa
open Go.RowKit Go.Maps

theorem sec_len {l : List UInt8} (hl : l.length = 64) : (Try.prog.info? 77).map (·.size) = some (bcells l).length := by
  rw [show (bcells l).length = 64 by simp [bcells, hl]]
  exact sec_info

abbrev GivesW (g m b n : Nat) (d : Disks.D) (er : Int) (w : World) (e : Ending) (w' : World) : Prop := e = .returned (.int .i64 er) ∧ (∃ n' D, n' ≤ n + 1 ∧ Dk w' g m b n' D d) ∧ Kp g m b w w'
set_option maxRecDepth 100000 in
set_option maxHeartbeats 8000000 in
theorem dkWrite_any (w : World) (g m b n : Nat) (D : DataW Nat) (d : Disks.D) (h : Dk w g m b n D d) (hf : Disks.Wf d) (h2 : d.arm < 2 ^ 63) (hn : n < maxLen) (i : Int) (A : Option Addr) (c e : Nat) (l : List UInt8) (hl : Bs w A c e l) (ha : Awy g m b A) :
    Calls Try.prog 13 #[dptr g, .int .i64 i, .slice A c e] w (GivesW g m b n (Disks.writeD d i l) (Disks.writeE d i l) w) := by
  have q1 := hl.max
  have q2 := hl.le
  have q3 := hl.len
  have hT := dkThere_any w g m b n D d h hf.max i
  have HO := Lib.hid (fun (W : World) (hW : Ext w W) => dkOp_any W g m b n D d (h.ext hW) hf.arm h2)
  have H := Lib.hid h
  have HL := Lib.hid hl
  have HF := Lib.hid hf
  have HN := Lib.hid hn
  have HA := Lib.hid ha
  clear h hl hf h2 hn ha
  go_enter Try.func13, Try.ntmps13
  go_wp2_with (fail)
  with_reducible refine hT.mono ?_
  rintro e1 w1 ⟨rfl, x1⟩
  have X1 := Lib.hid x1
  clear x1
  obtain ⟨t, ht⟩ : ∃ t, Disks.there d i = t := ⟨_, rfl⟩
  rw [ht]
  have HT := Lib.hid ht
  clear ht hT
  by_cases h0 : t = 0
  · subst h0
    by_cases h64 : c = 64
    · subst h64
      go_wp2_with (fail)
      with_reducible refine (HO.out _ X1.out).mono ?_
      rintro e2 w2 ⟨rfl, k2, x2⟩
      obtain ⟨A0, o0, rfl, hr⟩ := (HL.out.ext X1.out).range (by omega)
      have hr2 : w2.rangeAt A0 o0 (bcells l) := by
        obtain ⟨k3, o3, e3, h3⟩ := ((HL.out.ext X1.out).kp x2 HA.out).range (by omega)
        injection e3 with e3
        injection e3 with e3 e4
        rw [e3, e4]
        exact h3
      have X2 := Lib.hid x2
      have K2 := Lib.hid k2
      clear x2 hr k2
      by_cases hz : d.arm = 0
      · have ez : Disks.opE d = 15 := if_pos hz
        rw [ez]
        go_wp2_with (fail)
        refine bodyPost_ret (results_tmp rfl _ _ _) rfl ?_
        have e1 : Disks.writeE d i l = 15 := by unfold Disks.writeE; rw [HT.out, if_neg (by simp), if_neg (by omega), ez]
        have e2 : Disks.writeD d i l = Disks.op d := by unfold Disks.writeD; rw [HT.out, if_neg (by simp), if_neg (by omega), if_pos hz]
        rw [e1, e2]
        exact ⟨rfl, ⟨n, D, by omega, K2.out⟩, (Kp.of X1.out ..).trans X2.out⟩
      · have ez : Disks.opE d = 0 := if_neg hz
        have e1 : Disks.writeE d i l = 0 := by unfold Disks.writeE; rw [HT.out, if_neg (by simp), if_neg (by omega), ez]
        have e2 : Disks.writeD d i l = { Disks.op d with cac := d.cac.set i.toNat (some l) } := by unfold Disks.writeD; rw [HT.out, if_neg (by simp), if_neg (by omega), if_neg hz]
        have E1 := Lib.hid e1
        have E2 := Lib.hid e2
        rw [ez]
        have ei : 0 ≤ i ∧ i < d.med.length := by
          have := HT.out
          unfold Disks.there at this
          split at this
          · cases this
          · split at this
            · cases this
            · omega
        have hop : (Disks.op d).cac = d.cac := by unfold Disks.op; split <;> rfl
        have hml : (Disks.op d).med = d.med := by unfold Disks.op; split <;> rfl
        have R2 := Lib.hid hr2
        obtain ⟨j, rfl⟩ : ∃ j : Nat, i = j := ⟨i.toNat, by omega⟩
        rw [show ((j : Int)).toNat = j by omega] at E2
        have J := Lib.hid (show j < (Disks.op d).cac.length ∧ j < 65536 by rw [hop, HF.out.len]; have := HF.out.max; omega)
        have OP := Lib.hid hop
        have HZ := Lib.hid hz
        clear hr2 ei hop hml e1 e2 ez hz
        go_upto_region 9 with (fail)
        have hHeld : (fun W : World => Hid (W.cell? ⟨g, 1, none⟩ = some (.map (some b)) ∧ W.rangeAt A0 o0 (bcells l) ∧ Dk W g m b n D (Disks.op d) ∧ Kp g m b w W)) w2.drew := Lib.hid ⟨(K2.out.ext (Ext.drew _)).c1, R2.out, K2.out.ext (Ext.drew _), ((Kp.of X1.out ..).trans X2.out).trans (Kp.of (Ext.drew _) ..)⟩
        obtain ⟨V, hV⟩ : ∃ V : Value, Value.agg (bcells l).toArray = V := ⟨_, rfl⟩
        obtain ⟨w3, r1, r2, r3⟩ := Dk.store hHeld.out.2.2.1 HN.out J.out.1 J.out.2 l q3
        rw [hV] at r1
        have HV := Lib.hid hV
        clear hV
        have R9 := Lib.hid r2
        have X9 := Lib.hid (hHeld.out.2.2.2.trans r3)
        have RR := Lib.hid r1
        clear r1 r2 r3
        refine wp_region_T (S := fun W : World => Hid (W.cell? ⟨g, 1, none⟩ = some (.map (some b)) ∧ W.rangeAt A0 o0 (bcells l) ∧ Dk W g m b n D (Disks.op d) ∧ Kp g m b w W)) 8 rfl rfl ?_
        refine takeT (i := 0) (v := ?_) rfl (by kernel_rfl) (by kernel_rfl) (by kernel_rfl) (by kernel_rfl) (by decide) (fun _ _ _ h => h) (by kernel_rfl) (Or.inl ⟨by rfl, ?_⟩) (by assumption) ?_
        rotate_left
        · (intro W9 hSw; go_simp; (try with_reducible rfl))
        try simp only [Act.put, List.setIfInBounds_toArray, List.set_cons_zero, List.set_cons_succ]
        refine takeT (i := 1) (v := ?_) rfl (by kernel_rfl) (by kernel_rfl) (by kernel_rfl) (by kernel_rfl) (by decide) (fun _ _ _ h => h) (by kernel_rfl) (Or.inl ⟨by rfl, ?_⟩) (by assumption) ?_
        rotate_left
        · (intro W9 hSw; go_simp; (try with_reducible rfl))
        try simp only [Act.put, List.setIfInBounds_toArray, List.set_cons_zero, List.set_cons_succ]
        refine takeT (i := 2) (v := ?_) rfl (by kernel_rfl) (by kernel_rfl) (by kernel_rfl) (by kernel_rfl) (by decide) (fun _ _ _ h => h) (by kernel_rfl) (Or.inl ⟨by rfl, ?_⟩) (by assumption) ?_
        rotate_left
        · (intro W9 hSw; go_simp; (try with_reducible rfl))
        try simp only [Act.put, List.setIfInBounds_toArray, List.set_cons_zero, List.set_cons_succ]
        refine takeT (i := 3) (v := ?_) rfl (by kernel_rfl) (by kernel_rfl) (by kernel_rfl) (by kernel_rfl) (by decide) (fun _ _ _ h => h) (by kernel_rfl) (Or.inl ⟨by rfl, ?_⟩) (by assumption) ?_
        rotate_left
        · (intro W9 hSw; (have k9 := hSw.out.1); go_simp; (try with_reducible rfl))
        try simp only [Act.put, List.setIfInBounds_toArray, List.set_cons_zero, List.set_cons_succ]
        refine takeT (i := 4) (v := ?_) rfl (by kernel_rfl) (by kernel_rfl) (by kernel_rfl) (by kernel_rfl) (by decide) (fun _ _ _ h => h) (by kernel_rfl) (Or.inl ⟨by rfl, ?_⟩) (by assumption) ?_
        rotate_left
        · (intro W9 hSw; go_simp; (try with_reducible rfl))
        try simp only [Act.put, List.setIfInBounds_toArray, List.set_cons_zero, List.set_cons_succ]
        refine takeT (i := 5) (v := ?_) rfl (by kernel_rfl) (by kernel_rfl) (by kernel_rfl) (by kernel_rfl) (by decide) (fun _ _ _ h => h) (by kernel_rfl) (Or.inl ⟨by rfl, ?_⟩) (by assumption) ?_
        rotate_left
        · (intro W9 hSw; go_simp; (try with_reducible rfl))
        try simp only [Act.put, List.setIfInBounds_toArray, List.set_cons_zero, List.set_cons_succ]
        refine takeT (i := 6) (v := ?_) rfl (by kernel_rfl) (by kernel_rfl) (by kernel_rfl) (by kernel_rfl) (by decide) (fun _ _ _ h => h) (by kernel_rfl) (Or.inl ⟨by rfl, ?_⟩) (by assumption) ?_
        rotate_left
        · (intro W9 hSw; (have k9 := run_arrayAt (w := W9) 77 5 64 (some ⟨A0, o0, none⟩) 64 e sec_under (Nat.le_refl _)); go_simp; (try with_reducible rfl))
        try simp only [Act.put, List.setIfInBounds_toArray, List.set_cons_zero, List.set_cons_succ]
        have hi9 : (Try.prog.info? 77).map (·.size) = some (bcells l).length := sec_len q3
        refine takeT (i := 7) (v := V) rfl (by kernel_rfl) (by kernel_rfl) (by kernel_rfl) (by kernel_rfl) (by decide) (fun _ _ _ h => h) (by kernel_rfl) (by rw [← HV.out]; exact yieldsIf_load_mid (by rfl) _ _ rfl A0 o0 rfl (bcells l) (.array 64 5) (fun W9 hSw => hSw.out.2.1) sec_under (by decide) hi9) (by assumption) ?_
        clear hi9
        try simp only [Act.put, List.setIfInBounds_toArray, List.set_cons_zero, List.set_cons_succ]
        refine oneT (i := 8) rfl (by kernel_rfl) (fun K hK => ?_)
        rw [if_pos (by kernel_rfl)]
        clear hHeld
        have r1 := RR.out
        go_wp2_with (fail)
        refine hK.out _ _ (fun h => absurd (show true = false from h) (by decide)) ?_
        clear hK K
        try simp only [Act.put, List.setIfInBounds_toArray, List.set_cons_zero, List.set_cons_succ]
        refine doneT (by kernel_rfl) ?_ _
        go_wp2_with (fail)
        refine bodyPost_ret (results_tmp rfl _ _ _) rfl ?_
        have R := R9.out
        rw [OP.out] at R
        rw [E1.out, E2.out]
        exact ⟨rfl, ⟨n + 1, _, Nat.le_refl _, R⟩, X9.out⟩
    · go_wp2_with (fail)
      refine bodyPost_ret (results_tmp rfl _ _ _) rfl ?_
      have e1 : Disks.writeE d i l = 2 := by unfold Disks.writeE; rw [HT.out, if_neg (by simp), if_pos (by omega)]
      have e2 : Disks.writeD d i l = d := by unfold Disks.writeD; rw [HT.out, if_neg (by simp), if_pos (by omega)]
      rw [e1, e2]
      exact ⟨rfl, ⟨n, D, by omega, H.out.ext X1.out⟩, Kp.of X1.out ..⟩
  · go_wp2_with (fail)
    refine bodyPost_ret (results_tmp rfl _ _ _) rfl ?_
    have e1 : Disks.writeE d i l = t := by unfold Disks.writeE; rw [HT.out, if_pos h0]
    have e2 : Disks.writeD d i l = d := by unfold Disks.writeD; rw [HT.out, if_pos h0]
    rw [e1, e2]
    exact ⟨rfl, ⟨n, D, by omega, H.out.ext X1.out⟩, Kp.of X1.out ..⟩
end Go.Proofs.Ytbfbiofndipaaaa
