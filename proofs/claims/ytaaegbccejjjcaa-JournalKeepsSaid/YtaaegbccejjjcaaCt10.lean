/- Several texts in one: The contract of a disk's Read. The contract of a disk's New. -/
import Derived.Test.YtaaegbccejjjcaaCt9
import Derived.Laws.MakeOwn
namespace Go.Proofs.Ytaaegbccejjjcaa
open Go.RowKit Go.Maps

theorem there_ok {d : Disks.D} {i : Int} (h : Disks.there d i = 0) : 0 ≤ i ∧ i < d.med.length := by
  unfold Disks.there at h
  split at h
  · cases h
  · split at h
    · cases h
    · omega
theorem sec_is {d : Disks.D} (hf : Disks.Wf d) {i : Nat} (hi : i < d.med.length) : (Disks.sec d i).length = 64 := by
  unfold Disks.sec
  cases hc : Disks.cget d.cac i with
  | none => exact hf.med i hi
  | some s => exact hf.cac i s hc
abbrev GivesR0 (er : Int) (w : World) (e : Ending) (w' : World) : Prop := e = .returned (.tuple #[.slice none 0 0, .int .i64 er]) ∧ Ext w w'
abbrev GivesR1 (s : List UInt8) (w : World) (e : Ending) (w' : World) : Prop := ∃ k, e = .returned (.tuple #[.slice (some ⟨k, 0, none⟩) 64 64, .int .i64 0]) ∧ Sv w w' k s
set_option maxRecDepth 100000 in
theorem dkRead_no (w : World) (g m b n : Nat) (D : DataW Nat) (d : Disks.D) (h : Dk w g m b n D d) (hf : Disks.Wf d) (i : Int) (h0 : Disks.there d i ≠ 0) :
    Calls Try.prog 52 #[dptr g, .int .i64 i] w (GivesR0 (Disks.there d i) w) := by
  have hT := dkThere_any w g m b n D d h hf.max i
  obtain ⟨t, ht⟩ : ∃ t, Disks.there d i = t := ⟨_, rfl⟩
  rw [ht] at h0 hT ⊢
  clear ht h hf
  go_enter Try.func52, Try.ntmps52
  go_wp2_with (fail)
  with_reducible refine hT.mono ?_
  rintro e1 w1 ⟨rfl, x1⟩
  go_wp2_with (fail)
  refine bodyPost_ret (results_tmp2 rfl _ _ _) rfl ?_
  exact ⟨rfl, x1⟩
set_option maxRecDepth 100000 in
set_option maxHeartbeats 2000000 in
theorem dkRead_ok (w : World) (g m b n : Nat) (D : DataW Nat) (d : Disks.D) (h : Dk w g m b n D d) (hf : Disks.Wf d) (i : Int) (h0 : Disks.there d i = 0) :
    Calls Try.prog 52 #[dptr g, .int .i64 i] w (GivesR1 (Disks.sec d i.toNat) w) := by
  have hT := dkThere_any w g m b n D d h hf.max i
  obtain ⟨i1, i2⟩ := there_ok h0
  rw [h0] at hT
  clear h0
  obtain ⟨j, rfl⟩ : ∃ j : Nat, i = j := ⟨i.toNat, by omega⟩
  rw [show ((j : Int)).toNat = j by omega]
  have j2 : j < d.med.length := by omega
  have j3 : j < 65536 := by have := hf.max; omega
  have H := Lib.hid h
  have HF := Lib.hid hf
  have HJ := Lib.hid j2
  clear h hf i1 i2 j2
  go_enter Try.func52, Try.ntmps52
  go_wp2_with (fail)
  with_reducible refine hT.mono ?_
  rintro e1 w1 ⟨rfl, x1⟩
  have H1 := Lib.hid (H.out.ext x1)
  have X1 := Lib.hid x1
  have k1 := H1.out.c1
  clear hT x1
  by_cases hc : (Disks.cget d.cac j).isSome = true
  · have HC := Lib.hid hc
    clear hc
    go_wp2_with (first
      | (at_lookup; refine Dk.look H1.out rfl _ _ rfl j j3 rfl rfl ?_; intro V s hV hs hat; (have HV := Lib.hid hV); (have HA := Lib.hid hat); clear hV hat; rw [HC.out])
      | ((with_reducible refine opIs ⟨some 7, .alloc 81, _, _, _, _⟩ ?_); refine wpList_allocR rfl 81 rfl _ (run_alloc_sec _) ?_; (have S1 := Lib.hid (Sv.made X1.out)); (obtain ⟨w2, hr2, s2⟩ := S1.out.store hs); (rw [← HV.out] at hr2); (have S2 := Lib.hid s2); clear s2)
      | ((with_reducible refine opIs ⟨none, .store 81 (.tmp 7) (.tmp 22), _, _, _, _⟩ ?_); refine wpList_storeR rfl 81 (.tmp 7) (.tmp 22) rfl rfl rfl hr2 ?_))
    refine bodyPost_ret (results_tmp2 rfl _ _ _) rfl ?_
    refine ⟨w1.heap.size, rfl, ?_⟩
    obtain ⟨t, ht⟩ := Option.isSome_iff_exists.1 HC.out
    have e : Disks.sec d j = s := by unfold Disks.sec; rw [ht, HA.out t ht]; rfl
    rw [e]
    exact S2.out
  · rw [Bool.not_eq_true] at hc
    have HC := Lib.hid hc
    clear hc
    go_wp2_with (first
      | (at_lookup; refine Dk.look H1.out rfl _ _ rfl j j3 rfl rfl ?_; intro V s hV hs hat; (have HV := Lib.hid hV); (have HA := Lib.hid hat); clear hV hat; rw [HC.out])
      | ((with_reducible refine opIs ⟨some 7, .alloc 81, _, _, _, _⟩ ?_); refine wpList_allocR rfl 81 rfl _ (run_alloc_sec _) ?_; (have S1 := Lib.hid (Sv.made X1.out)); (obtain ⟨w2, hr2, s2⟩ := S1.out.store hs); (rw [← HV.out] at hr2); (have S2 := Lib.hid s2); (have k5 := (H.out.ext S2.out.ext).c0); (have l5 := (H.out.ext S2.out.ext).md.load HJ.out); (obtain ⟨V2, hV2⟩ : ∃ V2, secV (Gm.row d.med j) = V2 := ⟨_, rfl⟩); (rw [hV2] at l5); (have HV2 := Lib.hid hV2); (obtain ⟨w3, hr3, s3⟩ := S2.out.store (HF.out.med j HJ.out)); (rw [HV2.out] at hr3); (have S3 := Lib.hid s3); (have L5 := Lib.hid l5); (have j2 := HJ.out); clear s2 s3 hV2 l5)
      | ((with_reducible refine opIs ⟨none, .store 81 (.tmp 7) (.tmp 22), _, _, _, _⟩ ?_); refine wpList_storeR rfl 81 (.tmp 7) (.tmp 22) rfl rfl rfl hr2 ?_)
      | ((with_reducible refine opIs ⟨some 32, .load 81 (.tmp 31), _, _, _, _⟩ ?_); refine wpList_loadR rfl 81 (.tmp 31) rfl rfl L5.out ?_)
      | ((with_reducible refine opIs ⟨none, .store 81 (.tmp 7) (.tmp 32), _, _, _, _⟩ ?_); refine wpList_storeR rfl 81 (.tmp 7) (.tmp 32) rfl rfl rfl hr3 ?_))
    refine bodyPost_ret (results_tmp2 rfl _ _ _) rfl ?_
    refine ⟨w1.heap.size, rfl, ?_⟩
    have e : Disks.sec d j = Gm.row d.med j := by
      unfold Disks.sec
      cases hq : Disks.cget d.cac j with
      | none => rfl
      | some t => have := HC.out; rw [hq] at this; cases this
    rw [e]
    exact S3.out
end Go.Proofs.Ytaaegbccejjjcaa
namespace Go.Proofs.Ytaaegbccejjjcaa
open Go.RowKit Go.Maps

theorem sec_parts : (Try.prog.info? 81).map (fun i => (i.zero, i.size, i.bytes)) = some (some (secV zeros64), 64, 64) := by kernel_rfl
theorem made_at (N j : Nat) (h : j < N) : (madeCells (bcells zeros64).toArray N)[j]? = some (.int .u8 0) := by
  unfold madeCells
  rw [Array.getElem?_map, Array.getElem?_range, if_pos h]
  have hs : (bcells zeros64).toArray.size = 64 := by simp [bcells_len, zeros64_len]
  rw [hs]
  have hj : j % 64 < 64 := Nat.mod_lt _ (by omega)
  have e : bcells zeros64 = List.replicate 64 (.int .u8 0) := by simp [bcells, zeros64]
  rw [e]
  show some ((List.replicate 64 (Value.int .u8 0)).toArray[j % 64]!) = _
  rw [getElem!_pos _ _ (by rw [List.size_toArray, List.length_replicate]; exact hj), List.getElem_toArray, List.getElem_replicate]
theorem zrow (N i : Nat) (h : i < N) : Gm.row (List.replicate N (List.replicate 64 (0 : UInt8))) i = zeros64 := by
  unfold Gm.row
  rw [List.getD_eq_getElem?_getD, List.getElem?_replicate, if_pos h]
  rfl
/-- The medium's block, made. -/
def med0 (N : Nat) : Obj := .cells (madeCells (bcells zeros64).toArray (N * 64)) 81 (0, 0)
theorem run_make_sec (W : World) (N : Nat) (hN : N ≤ 65536) : (Instr.makeSlice 62 (.int .i64 (N : Int)) (.int .i64 (N : Int))).run Try.prog W = .ok (.slice (some ⟨W.heap.size, 0, none⟩) N N) (W.alloc (med0 N)) := by
  obtain ⟨i, hi, hz, h1, h2⟩ := info_parts sec_parts
  have h := run_make (P := Try.prog) W 62 81 i _ Try.underlying62 hi hz .i64 .i64 (N : Int) (N : Int) (by omega) (Int.le_refl _) (by rw [h2]; omega) (by omega)
  rw [h1] at h
  exact h
set_option maxRecDepth 100000 in
theorem dkNew_no (w : World) (n : Int) (hn : n < 1 ∨ 65536 < n) :
    Calls Try.prog 9 #[.int .i64 n] w fun e w' => e = .returned (.tuple #[.pointer none, .int .i64 2]) ∧ w = w' := by
  rcases hn with hn | hn
  · go_enter Try.func9, Try.ntmps9
    go_wp2_with (fail)
    refine bodyPost_ret (results_tmp2 rfl _ _ _) rfl ?_
    exact ⟨rfl, rfl⟩
  · have h1 : ¬ n < 1 := by omega
    go_enter Try.func9, Try.ntmps9
    go_wp2_with (fail)
    refine bodyPost_ret (results_tmp2 rfl _ _ _) rfl ?_
    exact ⟨rfl, rfl⟩
set_option maxRecDepth 100000 in
theorem dkNew_ok (w : World) (N : Nat) (h1 : 1 ≤ N) (h2 : N ≤ 65536) :
    Calls Try.prog 9 #[.int .i64 (N : Int)] w fun e w' => ∃ g, e = .returned (.tuple #[dptr g, .int .i64 0]) ∧ ∃ m b, Dk w' g m b 0 (.map []) (Disks.new N) ∧ Ext w w' ∧ w.heap.size ≤ g ∧ w.heap.size ≤ m ∧ w.heap.size ≤ b := by
  have a1 : ¬ (N : Int) < 1 := by omega
  have a2 : ¬ (65536 : Int) < N := by omega
  have hmk := fun W => run_make_sec W N h2
  go_enter Try.func9, Try.ntmps9
  have hmm := fun W => run_makeMap (P := Try.prog) 63 W
  go_wp2_with (fail)
  refine bodyPost_ret (results_tmp2 rfl _ _ _) rfl ?_
  have e0 : ((w.alloc (med0 N)).alloc (.map #[] 0)).heap.size = w.heap.size + 1 + 1 := by simp
  have e1 : (w.alloc (med0 N)).heap.size = w.heap.size + 1 := by simp
  have hx : Ext (w.alloc (med0 N)) (((w.alloc (med0 N)).alloc (.map #[] 0)).alloc (.cells (dcells w.heap.size (w.heap.size + 1) N (-1) false) 65)) := (Ext.alloc _ _).thenAlloc _
  have hx2 : Ext ((w.alloc (med0 N)).alloc (.map #[] 0)) (((w.alloc (med0 N)).alloc (.map #[] 0)).alloc (.cells (dcells w.heap.size (w.heap.size + 1) N (-1) false) 65)) := Ext.alloc _ _
  have hl : (Disks.new N).med.length = N := List.length_replicate ..
  refine ⟨w.heap.size + 1 + 1, rfl, w.heap.size, w.heap.size + 1, ⟨?_, ?_, ?_, Tie.nil N, by omega, by omega, by omega⟩, ((Ext.alloc w _).thenAlloc _).thenAlloc _, by omega, by omega, by omega⟩
  · rw [hl]
    have := heap_alloc_new ((w.alloc (med0 N)).alloc (.map #[] 0)) (.cells (dcells w.heap.size (w.heap.size + 1) N (-1) false) 65)
    rw [e0] at this
    exact this
  · refine Md.ext ?_ hx
    have hb : (w.alloc (med0 N)).heap[w.heap.size]? = some (med0 N) := heap_alloc_new w _
    have hc : ∀ j, j < N * 64 → (w.alloc (med0 N)).cell? ⟨w.heap.size, j, none⟩ = some (.int .u8 0) := fun j hj => by
      rw [cell_of_row _ _ _ _ _ _ hb]
      exact made_at _ _ hj
    refine ⟨by rw [e1]; omega, fun i hi => ?_, fun i hi j v hv => ?_, fun j hj => ⟨?_, frozen_of_row _ _ _ _ _ hb⟩⟩
    · rw [hl] at hi
      exact (congrArg List.length (zrow N i hi)).trans zeros64_len
    · rw [hl] at hi
      have e : bcells zeros64 = List.replicate 64 (.int .u8 0) := by simp [bcells, zeros64]
      have hj : j < 64 := by
        have := (List.getElem?_eq_some_iff.1 hv).1
        rw [show (Disks.new N).med = List.replicate N (List.replicate 64 0) from rfl, zrow N i hi, e, List.length_replicate] at this
        exact this
      rw [show (Disks.new N).med = List.replicate N (List.replicate 64 0) from rfl, zrow N i hi, e, List.getElem?_replicate, if_pos hj] at hv
      rw [hc _ (by have : (i + 1) * 64 ≤ N * 64 := Nat.mul_le_mul_right 64 hi; omega)]
      exact hv
    · rw [hl] at hj
      rw [show 0 + j = j by omega, hc j hj]
      rfl
  · refine map_kept ?_ (hx2.block (w.heap.size + 1) (by rw [e0]; omega))
    have := World.ownsMap_made (w.alloc (med0 N)) Try.prog 3 secR
    rw [e1] at this
    exact this
end Go.Proofs.Ytaaegbccejjjcaa
