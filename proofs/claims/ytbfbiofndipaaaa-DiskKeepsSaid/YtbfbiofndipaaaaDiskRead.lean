/- The contract of a disk's Read. -/
import Derived.Test.YtbfbiofndipaaaaDiskSec
namespace Go.Proofs.Ytbfbiofndipaaaa
open Go.RowKit Go.Maps

theorem there_ok {d : Disks.D} {i : Int} (h : Disks.there d i = 0) : 0 ≤ i ∧ i < d.med.length := by
  unfold Disks.there at h
  split at h
  · cases h
  · split at h
    · cases h
    · omega
theorem sec_is {d : Disks.D} (hf : Disks.Wf d) {i : Nat} (hi : i < d.med.length) : (Disks.sec d i).length = 64 := by
  unfold Disks.sec
  cases hc : Disks.cget d.cac i with
  | none => exact hf.med i hi
  | some s => exact hf.cac i s hc
abbrev GivesR0 (er : Int) (w : World) (e : Ending) (w' : World) : Prop := e = .returned (.tuple #[.slice none 0 0, .int .i64 er]) ∧ Ext w w'
abbrev GivesR1 (s : List UInt8) (w : World) (e : Ending) (w' : World) : Prop := ∃ k, e = .returned (.tuple #[.slice (some ⟨k, 0, none⟩) 64 64, .int .i64 0]) ∧ Sv w w' k s
set_option maxRecDepth 100000 in
theorem dkRead_no (w : World) (g m b n : Nat) (D : DataW Nat) (d : Disks.D) (h : Dk w g m b n D d) (hf : Disks.Wf d) (i : Int) (h0 : Disks.there d i ≠ 0) :
    Calls Try.prog 24 #[dptr g, .int .i64 i] w (GivesR0 (Disks.there d i) w) := by
  have hT := dkThere_any w g m b n D d h hf.max i
  obtain ⟨t, ht⟩ : ∃ t, Disks.there d i = t := ⟨_, rfl⟩
  rw [ht] at h0 hT ⊢
  clear ht h hf
  go_enter Try.func24, Try.ntmps24
  go_wp2_with (fail)
  with_reducible refine hT.mono ?_
  rintro e1 w1 ⟨rfl, x1⟩
  go_wp2_with (fail)
  refine bodyPost_ret (results_tmp2 rfl _ _ _) rfl ?_
  exact ⟨rfl, x1⟩
set_option maxRecDepth 100000 in
set_option maxHeartbeats 2000000 in
theorem dkRead_ok (w : World) (g m b n : Nat) (D : DataW Nat) (d : Disks.D) (h : Dk w g m b n D d) (hf : Disks.Wf d) (i : Int) (h0 : Disks.there d i = 0) :
    Calls Try.prog 24 #[dptr g, .int .i64 i] w (GivesR1 (Disks.sec d i.toNat) w) := by
  have hT := dkThere_any w g m b n D d h hf.max i
  obtain ⟨i1, i2⟩ := there_ok h0
  rw [h0] at hT
  clear h0
  obtain ⟨j, rfl⟩ : ∃ j : Nat, i = j := ⟨i.toNat, by omega⟩
  rw [show ((j : Int)).toNat = j by omega]
  have j2 : j < d.med.length := by omega
  have j3 : j < 65536 := by have := hf.max; omega
  have H := Lib.hid h
  have HF := Lib.hid hf
  have HJ := Lib.hid j2
  clear h hf i1 i2 j2
  go_enter Try.func24, Try.ntmps24
  go_wp2_with (fail)
  with_reducible refine hT.mono ?_
  rintro e1 w1 ⟨rfl, x1⟩
  have H1 := Lib.hid (H.out.ext x1)
  have X1 := Lib.hid x1
  have k1 := H1.out.c1
  clear hT x1
  by_cases hc : (Disks.cget d.cac j).isSome = true
  · have HC := Lib.hid hc
    clear hc
    go_wp2_with (first
      | (at_lookup; refine Dk.look H1.out rfl _ _ rfl j j3 rfl rfl ?_; intro V s hV hs hat; (have HV := Lib.hid hV); (have HA := Lib.hid hat); clear hV hat; rw [HC.out])
      | ((with_reducible refine opIs ⟨some 7, .alloc 77, _, _, _, _⟩ ?_); refine wpList_allocR rfl 77 rfl _ (run_alloc_sec _) ?_; (have S1 := Lib.hid (Sv.made X1.out)); (obtain ⟨w2, hr2, s2⟩ := S1.out.store hs); (rw [← HV.out] at hr2); (have S2 := Lib.hid s2); clear s2)
      | ((with_reducible refine opIs ⟨none, .store 77 (.tmp 7) (.tmp 22), _, _, _, _⟩ ?_); refine wpList_storeR rfl 77 (.tmp 7) (.tmp 22) rfl rfl rfl hr2 ?_))
    refine bodyPost_ret (results_tmp2 rfl _ _ _) rfl ?_
    refine ⟨w1.heap.size, rfl, ?_⟩
    obtain ⟨t, ht⟩ := Option.isSome_iff_exists.1 HC.out
    have e : Disks.sec d j = s := by unfold Disks.sec; rw [ht, HA.out t ht]; rfl
    rw [e]
    exact S2.out
  · rw [Bool.not_eq_true] at hc
    have HC := Lib.hid hc
    clear hc
    go_wp2_with (first
      | (at_lookup; refine Dk.look H1.out rfl _ _ rfl j j3 rfl rfl ?_; intro V s hV hs hat; (have HV := Lib.hid hV); (have HA := Lib.hid hat); clear hV hat; rw [HC.out])
      | ((with_reducible refine opIs ⟨some 7, .alloc 77, _, _, _, _⟩ ?_); refine wpList_allocR rfl 77 rfl _ (run_alloc_sec _) ?_; (have S1 := Lib.hid (Sv.made X1.out)); (obtain ⟨w2, hr2, s2⟩ := S1.out.store hs); (rw [← HV.out] at hr2); (have S2 := Lib.hid s2); (have k5 := (H.out.ext S2.out.ext).c0); (have l5 := (H.out.ext S2.out.ext).md.load HJ.out); (obtain ⟨V2, hV2⟩ : ∃ V2, secV (Gm.row d.med j) = V2 := ⟨_, rfl⟩); (rw [hV2] at l5); (have HV2 := Lib.hid hV2); (obtain ⟨w3, hr3, s3⟩ := S2.out.store (HF.out.med j HJ.out)); (rw [HV2.out] at hr3); (have S3 := Lib.hid s3); (have L5 := Lib.hid l5); (have j2 := HJ.out); clear s2 s3 hV2 l5)
      | ((with_reducible refine opIs ⟨none, .store 77 (.tmp 7) (.tmp 22), _, _, _, _⟩ ?_); refine wpList_storeR rfl 77 (.tmp 7) (.tmp 22) rfl rfl rfl hr2 ?_)
      | ((with_reducible refine opIs ⟨some 32, .load 77 (.tmp 31), _, _, _, _⟩ ?_); refine wpList_loadR rfl 77 (.tmp 31) rfl rfl L5.out ?_)
      | ((with_reducible refine opIs ⟨none, .store 77 (.tmp 7) (.tmp 32), _, _, _, _⟩ ?_); refine wpList_storeR rfl 77 (.tmp 7) (.tmp 32) rfl rfl rfl hr3 ?_))
    refine bodyPost_ret (results_tmp2 rfl _ _ _) rfl ?_
    refine ⟨w1.heap.size, rfl, ?_⟩
    have e : Disks.sec d j = Gm.row d.med j := by
      unfold Disks.sec
      cases hq : Disks.cget d.cac j with
      | none => rfl
      | some t => have := HC.out; rw [hq] at this; cases this
    rw [e]
    exact S3.out
end Go.Proofs.Ytbfbiofndipaaaa
