/- Several texts in one: Steps at a disk: a sector is loaded, a sector is stored in the cache. The contract of a disk's Write. -/
import Derived.Test.YtbfbiofndipaaaaCt8
import Derived.Laws.Cover3
namespace Go.Proofs.Ytbfbiofndipaaaa
open Go.RowKit Go.Maps

theorem map_under : Try.prog.underlying 65 = some (.map 3 77) := by kernel_rfl
theorem int_under5 : Try.prog.underlying 3 = some (.int .i64) := by kernel_rfl
theorem sec_under : Try.prog.underlying 77 = some (.array 64 5) := by kernel_rfl
theorem int_key5 : Keyed Try.prog 3 := int_keyed int_under5
theorem lk_of {i : Int} (h1 : 0 ≤ i) (h2 : i < 65536) : keyOf Try.prog 3 (.int .i64 i) = some (lk i) := keyOf_int_mk int_under5 (by
  have a : decide (IntKind.i64.min ≤ i) = true := decide_eq_true (by have : IntKind.i64.min = -9223372036854775808 := rfl; omega)
  have c : decide (i ≤ IntKind.i64.max) = true := decide_eq_true (by have : IntKind.i64.max = 9223372036854775807 := rfl; omega)
  show (decide (IntKind.i64.min ≤ i) && decide (i ≤ IntKind.i64.max)) = true
  rw [a, c]
  rfl)
/-- A list lies away from the disk. -/
def Awy (g m b : Nat) (A : Option Addr) : Prop := ∀ p, A = some p → p.block ≠ g ∧ p.block ≠ m ∧ p.block ≠ b
theorem Dk.put {w w' : World} {g m b n : Nat} {D : DataW Nat} {d : Disks.D} (h : Dk w g m b n D d) {i : Nat} (hi : i < d.cac.length) (s : List UInt8) (hm : w'.ownsMap Try.prog 3 secR b (n + 1) (D.put (lk i) (.lit (.string s)))) (ht : w.mapTurned w' b) :
    Dk w' g m b (n + 1) (D.put (lk i) (.lit (.string s))) { d with cac := d.cac.set i (some s) } := by
  have hg := ht.grown
  exact ⟨(hg.block g h.lt (fun e => h.gb (by injection e))).trans h.box, h.md.same hg.size (hg.block m h.md.lt (fun e => h.mb (by injection e))), hm, h.tie.put h.mp.isMap hi s, h.gm, h.gb, h.mb⟩
theorem Bs.range {w : World} {A : Option Addr} {n c : Nat} {l : List UInt8} (h : Bs w A n c l) (hn : 0 < n) : ∃ k o, A = some ⟨k, o, none⟩ ∧ w.rangeAt k o (bcells l) := by
  obtain ⟨k, o, e, hc⟩ := h.rd.2 hn
  exact ⟨k, o, e, fun j v hv => hc j v hv⟩
theorem Bs.kp {w w' : World} {A : Option Addr} {n c : Nat} {l : List UInt8} {g m b : Nat} (h : Bs w A n c l) (hk : Kp g m b w w') (ha : Awy g m b A) : Bs w' A n c l := by
  refine ⟨h.len, h.le, h.max, h.rd.1, fun hn => ?_⟩
  obtain ⟨k, o, e, hc⟩ := h.rd.2 hn
  refine ⟨k, o, e, fun j v hv => ?_⟩
  have q := hc j v hv
  obtain ⟨a1, a2, a3⟩ := ha _ e
  rw [← q]
  exact World.cell?_of_block (hk.block k (World.block_lt_of_cell? _ _ q) a1 a2 a3)
set_option maxRecDepth 100000 in
theorem sec_load (W : World) (k o : Nat) (l : List UInt8) (hl : l.length = 64) (h : W.rangeAt k o (bcells l)) : (Instr.loadAt 77 (.pointer (some ⟨k, o, none⟩))).run Try.prog W = .ok (.agg (bcells l).toArray) W := by
  have hi : (Try.prog.info? 77).map (·.size) = some (bcells l).length := by
    rw [show (bcells l).length = 64 by simp [bcells, hl]]
    exact sec_info
  simp only [Instr.loadAt, Instr.sureAddr, Sem.run_bind, Sem.run_pure, Result.andThen_ok, run_loadVar_mid W k o 77 (bcells l) (.array 64 5) h sec_under (by decide) hi]
set_option maxRecDepth 100000 in
theorem Dk.store {w : World} {g m b n : Nat} {D : DataW Nat} {d : Disks.D} (h : Dk w g m b n D d) (hn : n < maxLen) {j : Nat} (hj : j < d.cac.length) (h6 : j < 65536) (l : List UInt8) (hl : l.length = 64) :
    ∃ w3, (Instr.mapUpdate 65 (.map (some b)) (.int .i64 (j : Int)) (.agg (bcells l).toArray)).run Try.prog w = .ok () w3 ∧ Dk w3 g m b (n + 1) (D.put (lk j) (.lit (.string l))) { d with cac := d.cac.set j (some l) } ∧ Kp g m b w w3 := by
  have hk := lk_of (i := (j : Int)) (by omega) (by omega)
  have hv : secR (.agg (bcells l).toArray) = some (.lit (.string l), []) := secR_mk hl
  obtain ⟨w3, r1, r2, r3⟩ := h.mp.store int_key5 map_under hn hk hv
  exact ⟨w3, r1, h.put hj l r2 r3, (Kp.refl g m b w).grown r3.grown (fun k e => .inr (.inr (.inl (by injection e with e; exact e.symm))))⟩
end Go.Proofs.Ytbfbiofndipaaaa
namespace Go.Proofs.Ytbfbiofndipaaaa
open Go.RowKit Go.Maps
set_option linter.unusedSimpArgs false

theorem sec_len {l : List UInt8} (hl : l.length = 64) : (Try.prog.info? 77).map (·.size) = some (bcells l).length := by
  rw [show (bcells l).length = 64 by simp [bcells, hl]]
  exact sec_info

abbrev GivesW (g m b n : Nat) (d : Disks.D) (er : Int) (w : World) (e : Ending) (w' : World) : Prop := e = .returned (.int .i64 er) ∧ (∃ n' D, n' ≤ n + 1 ∧ Dk w' g m b n' D d) ∧ Kp g m b w w'
set_option maxRecDepth 100000 in
set_option maxHeartbeats 8000000 in
theorem dkWrite_any (w : World) (g m b n : Nat) (D : DataW Nat) (d : Disks.D) (h : Dk w g m b n D d) (hf : Disks.Wf d) (h2 : d.arm < 2 ^ 63) (hn : n < maxLen) (i : Int) (A : Option Addr) (c e : Nat) (l : List UInt8) (hl : Bs w A c e l) (ha : Awy g m b A) :
    Calls Try.prog 13 #[dptr g, .int .i64 i, .slice A c e] w (GivesW g m b n (Disks.writeD d i l) (Disks.writeE d i l) w) := by
  have q1 := hl.max
  have q2 := hl.le
  have q3 := hl.len
  have hT := dkThere_any w g m b n D d h hf.max i
  have HO := Lib.hid (fun (W : World) (hW : Ext w W) => dkOp_any W g m b n D d (h.ext hW) hf.arm h2)
  have H := Lib.hid h
  have HL := Lib.hid hl
  have HF := Lib.hid hf
  have HN := Lib.hid hn
  have HA := Lib.hid ha
  clear h hl hf h2 hn ha
  go_enter Try.func13, Try.ntmps13
  go_wp2_with (fail)
  with_reducible refine hT.mono ?_
  rintro e1 w1 ⟨rfl, x1⟩
  have X1 := Lib.hid x1
  clear x1
  obtain ⟨t, ht⟩ : ∃ t, Disks.there d i = t := ⟨_, rfl⟩
  rw [ht]
  have HT := Lib.hid ht
  clear ht hT
  by_cases h0 : t = 0
  · subst h0
    by_cases h64 : c = 64
    · subst h64
      go_wp2_with (fail)
      with_reducible refine (HO.out _ X1.out).mono ?_
      rintro e2 w2 ⟨rfl, k2, x2⟩
      obtain ⟨A0, o0, rfl, hr⟩ := (HL.out.ext X1.out).range (by omega)
      have hr2 : w2.rangeAt A0 o0 (bcells l) := by
        obtain ⟨k3, o3, e3, h3⟩ := ((HL.out.ext X1.out).kp x2 HA.out).range (by omega)
        injection e3 with e3
        injection e3 with e3 e4
        rw [e3, e4]
        exact h3
      have X2 := Lib.hid x2
      have K2 := Lib.hid k2
      clear x2 hr k2
      by_cases hz : d.arm = 0
      · have ez : Disks.opE d = 15 := if_pos hz
        rw [ez]
        go_wp2_with (fail)
        refine bodyPost_ret (results_tmp rfl _ _ _) rfl ?_
        have e1 : Disks.writeE d i l = 15 := by unfold Disks.writeE; rw [HT.out, if_neg (by simp), if_neg (by omega), ez]
        have e2 : Disks.writeD d i l = Disks.op d := by unfold Disks.writeD; rw [HT.out, if_neg (by simp), if_neg (by omega), if_pos hz]
        rw [e1, e2]
        exact ⟨rfl, ⟨n, D, by omega, K2.out⟩, (Kp.of X1.out ..).trans X2.out⟩
      · have ez : Disks.opE d = 0 := if_neg hz
        have e1 : Disks.writeE d i l = 0 := by unfold Disks.writeE; rw [HT.out, if_neg (by simp), if_neg (by omega), ez]
        have e2 : Disks.writeD d i l = { Disks.op d with cac := d.cac.set i.toNat (some l) } := by unfold Disks.writeD; rw [HT.out, if_neg (by simp), if_neg (by omega), if_neg hz]
        have E1 := Lib.hid e1
        have E2 := Lib.hid e2
        rw [ez]
        have ei : 0 ≤ i ∧ i < d.med.length := by
          have := HT.out
          unfold Disks.there at this
          split at this
          · cases this
          · split at this
            · cases this
            · omega
        have hop : (Disks.op d).cac = d.cac := by unfold Disks.op; split <;> rfl
        have hml : (Disks.op d).med = d.med := by unfold Disks.op; split <;> rfl
        have R2 := Lib.hid hr2
        obtain ⟨j, rfl⟩ : ∃ j : Nat, i = j := ⟨i.toNat, by omega⟩
        rw [show ((j : Int)).toNat = j by omega] at E2
        have J := Lib.hid (show j < (Disks.op d).cac.length ∧ j < 65536 by rw [hop, HF.out.len]; have := HF.out.max; omega)
        have OP := Lib.hid hop
        have HZ := Lib.hid hz
        clear hr2 ei hop hml e1 e2 ez hz
        go_upto_region 9 with (fail)
        have hHeld : (fun W : World => Hid (W.cell? ⟨g, 1, none⟩ = some (.map (some b)) ∧ W.rangeAt A0 o0 (bcells l) ∧ Dk W g m b n D (Disks.op d) ∧ Kp g m b w W)) w2.drew := Lib.hid ⟨(K2.out.ext (Ext.drew _)).c1, R2.out, K2.out.ext (Ext.drew _), ((Kp.of X1.out ..).trans X2.out).trans (Kp.of (Ext.drew _) ..)⟩
        obtain ⟨V, hV⟩ : ∃ V : Value, Value.agg (bcells l).toArray = V := ⟨_, rfl⟩
        obtain ⟨w3, r1, r2, r3⟩ := Dk.store hHeld.out.2.2.1 HN.out J.out.1 J.out.2 l q3
        rw [hV] at r1
        have HV := Lib.hid hV
        clear hV
        have R9 := Lib.hid r2
        have X9 := Lib.hid (hHeld.out.2.2.2.trans r3)
        have RR := Lib.hid r1
        clear r1 r2 r3
        refine wp_region_T (S := fun W : World => Hid (W.cell? ⟨g, 1, none⟩ = some (.map (some b)) ∧ W.rangeAt A0 o0 (bcells l) ∧ Dk W g m b n D (Disks.op d) ∧ Kp g m b w W)) 8 rfl rfl ?_
        refine takeT (i := 0) (v := ?_) rfl (by kernel_rfl) (by kernel_rfl) (by kernel_rfl) (by kernel_rfl) (by decide) (fun _ _ _ h => h) (by kernel_rfl) (Or.inl ⟨by rfl, ?_⟩) (by assumption) ?_
        rotate_left
        · (intro W9 hSw; go_simp; (try with_reducible rfl))
        try simp only [Act.put, List.setIfInBounds_toArray, List.set_cons_zero, List.set_cons_succ]
        refine takeT (i := 1) (v := ?_) rfl (by kernel_rfl) (by kernel_rfl) (by kernel_rfl) (by kernel_rfl) (by decide) (fun _ _ _ h => h) (by kernel_rfl) (Or.inl ⟨by rfl, ?_⟩) (by assumption) ?_
        rotate_left
        · (intro W9 hSw; go_simp; (try with_reducible rfl))
        try simp only [Act.put, List.setIfInBounds_toArray, List.set_cons_zero, List.set_cons_succ]
        refine takeT (i := 2) (v := ?_) rfl (by kernel_rfl) (by kernel_rfl) (by kernel_rfl) (by kernel_rfl) (by decide) (fun _ _ _ h => h) (by kernel_rfl) (Or.inl ⟨by rfl, ?_⟩) (by assumption) ?_
        rotate_left
        · (intro W9 hSw; go_simp; (try with_reducible rfl))
        try simp only [Act.put, List.setIfInBounds_toArray, List.set_cons_zero, List.set_cons_succ]
        refine takeT (i := 3) (v := ?_) rfl (by kernel_rfl) (by kernel_rfl) (by kernel_rfl) (by kernel_rfl) (by decide) (fun _ _ _ h => h) (by kernel_rfl) (Or.inl ⟨by rfl, ?_⟩) (by assumption) ?_
        rotate_left
        · (intro W9 hSw; (have k9 := hSw.out.1); go_simp; (try with_reducible rfl))
        try simp only [Act.put, List.setIfInBounds_toArray, List.set_cons_zero, List.set_cons_succ]
        refine takeT (i := 4) (v := ?_) rfl (by kernel_rfl) (by kernel_rfl) (by kernel_rfl) (by kernel_rfl) (by decide) (fun _ _ _ h => h) (by kernel_rfl) (Or.inl ⟨by rfl, ?_⟩) (by assumption) ?_
        rotate_left
        · (intro W9 hSw; go_simp; (try with_reducible rfl))
        try simp only [Act.put, List.setIfInBounds_toArray, List.set_cons_zero, List.set_cons_succ]
        refine takeT (i := 5) (v := ?_) rfl (by kernel_rfl) (by kernel_rfl) (by kernel_rfl) (by kernel_rfl) (by decide) (fun _ _ _ h => h) (by kernel_rfl) (Or.inl ⟨by rfl, ?_⟩) (by assumption) ?_
        rotate_left
        · (intro W9 hSw; go_simp; (try with_reducible rfl))
        try simp only [Act.put, List.setIfInBounds_toArray, List.set_cons_zero, List.set_cons_succ]
        refine takeT (i := 6) (v := ?_) rfl (by kernel_rfl) (by kernel_rfl) (by kernel_rfl) (by kernel_rfl) (by decide) (fun _ _ _ h => h) (by kernel_rfl) (Or.inl ⟨by rfl, ?_⟩) (by assumption) ?_
        rotate_left
        · (intro W9 hSw; (have k9 := run_arrayAt (w := W9) 77 5 64 (some ⟨A0, o0, none⟩) 64 e sec_under (Nat.le_refl _)); go_simp; (try with_reducible rfl))
        try simp only [Act.put, List.setIfInBounds_toArray, List.set_cons_zero, List.set_cons_succ]
        have hi9 : (Try.prog.info? 77).map (·.size) = some (bcells l).length := sec_len q3
        refine takeT (i := 7) (v := V) rfl (by kernel_rfl) (by kernel_rfl) (by kernel_rfl) (by kernel_rfl) (by decide) (fun _ _ _ h => h) (by kernel_rfl) (by rw [← HV.out]; exact yieldsIf_load_mid (by rfl) _ _ rfl A0 o0 rfl (bcells l) (.array 64 5) (fun W9 hSw => hSw.out.2.1) sec_under (by decide) hi9) (by assumption) ?_
        clear hi9
        try simp only [Act.put, List.setIfInBounds_toArray, List.set_cons_zero, List.set_cons_succ]
        refine oneT (i := 8) rfl (by kernel_rfl) (fun K hK => ?_)
        rw [if_pos (by kernel_rfl)]
        clear hHeld
        have r1 := RR.out
        go_wp2_with (fail)
        refine hK.out _ _ (fun h => absurd (show true = false from h) (by decide)) ?_
        clear hK K
        try simp only [Act.put, List.setIfInBounds_toArray, List.set_cons_zero, List.set_cons_succ]
        refine doneT (by kernel_rfl) ?_ _
        go_wp2_with (fail)
        refine bodyPost_ret (results_tmp rfl _ _ _) rfl ?_
        have R := R9.out
        rw [OP.out] at R
        rw [E1.out, E2.out]
        exact ⟨rfl, ⟨n + 1, _, Nat.le_refl _, R⟩, X9.out⟩
    · go_wp2_with (fail)
      refine bodyPost_ret (results_tmp rfl _ _ _) rfl ?_
      have e1 : Disks.writeE d i l = 2 := by unfold Disks.writeE; rw [HT.out, if_neg (by simp), if_pos (by omega)]
      have e2 : Disks.writeD d i l = d := by unfold Disks.writeD; rw [HT.out, if_neg (by simp), if_pos (by omega)]
      rw [e1, e2]
      exact ⟨rfl, ⟨n, D, by omega, H.out.ext X1.out⟩, Kp.of X1.out ..⟩
  · go_wp2_with (fail)
    refine bodyPost_ret (results_tmp rfl _ _ _) rfl ?_
    have e1 : Disks.writeE d i l = t := by unfold Disks.writeE; rw [HT.out, if_pos h0]
    have e2 : Disks.writeD d i l = d := by unfold Disks.writeD; rw [HT.out, if_pos h0]
    rw [e1, e2]
    exact ⟨rfl, ⟨n, D, by omega, H.out.ext X1.out⟩, Kp.of X1.out ..⟩
end Go.Proofs.Ytbfbiofndipaaaa
