/- Several texts in one: The contract of a disk's New. The contracts of a disk's Size, Arm, Down. -/
import Derived.Test.YtbfbiofndipaaaaCt10
import Derived.Laws.MakeOwn
namespace Go.Proofs.Ytbfbiofndipaaaa
open Go.RowKit Go.Maps

theorem sec_parts : (Try.prog.info? 77).map (fun i => (i.zero, i.size, i.bytes)) = some (some (secV zeros64), 64, 64) := by kernel_rfl
theorem made_at (N j : Nat) (h : j < N) : (madeCells (bcells zeros64).toArray N)[j]? = some (.int .u8 0) := by
  unfold madeCells
  rw [Array.getElem?_map, Array.getElem?_range, if_pos h]
  have hs : (bcells zeros64).toArray.size = 64 := by simp [bcells_len, zeros64_len]
  rw [hs]
  have hj : j % 64 < 64 := Nat.mod_lt _ (by omega)
  have e : bcells zeros64 = List.replicate 64 (.int .u8 0) := by simp [bcells, zeros64]
  rw [e]
  show some ((List.replicate 64 (Value.int .u8 0)).toArray[j % 64]!) = _
  rw [getElem!_pos _ _ (by rw [List.size_toArray, List.length_replicate]; exact hj), List.getElem_toArray, List.getElem_replicate]
theorem zrow (N i : Nat) (h : i < N) : Gm.row (List.replicate N (List.replicate 64 (0 : UInt8))) i = zeros64 := by
  unfold Gm.row
  rw [List.getD_eq_getElem?_getD, List.getElem?_replicate, if_pos h]
  rfl
/-- The medium's block, made. -/
def med0 (N : Nat) : Obj := .cells (madeCells (bcells zeros64).toArray (N * 64)) 77 (0, 0)
theorem run_make_sec (W : World) (N : Nat) (hN : N ≤ 65536) : (Instr.makeSlice 64 (.int .i64 (N : Int)) (.int .i64 (N : Int))).run Try.prog W = .ok (.slice (some ⟨W.heap.size, 0, none⟩) N N) (W.alloc (med0 N)) := by
  obtain ⟨i, hi, hz, h1, h2⟩ := info_parts sec_parts
  have h := run_make (P := Try.prog) W 64 77 i _ Try.underlying64 hi hz .i64 .i64 (N : Int) (N : Int) (by omega) (Int.le_refl _) (by rw [h2]; omega) (by omega)
  rw [h1] at h
  exact h
set_option maxRecDepth 100000 in
theorem dkNew_no (w : World) (n : Int) (hn : n < 1 ∨ 65536 < n) :
    Calls Try.prog 11 #[.int .i64 n] w fun e w' => e = .returned (.tuple #[.pointer none, .int .i64 2]) ∧ w = w' := by
  rcases hn with hn | hn
  · go_enter Try.func11, Try.ntmps11
    go_wp2_with (fail)
    refine bodyPost_ret (results_tmp2 rfl _ _ _) rfl ?_
    exact ⟨rfl, rfl⟩
  · have h1 : ¬ n < 1 := by omega
    go_enter Try.func11, Try.ntmps11
    go_wp2_with (fail)
    refine bodyPost_ret (results_tmp2 rfl _ _ _) rfl ?_
    exact ⟨rfl, rfl⟩
set_option maxRecDepth 100000 in
theorem dkNew_ok (w : World) (N : Nat) (h1 : 1 ≤ N) (h2 : N ≤ 65536) :
    Calls Try.prog 11 #[.int .i64 (N : Int)] w fun e w' => ∃ g, e = .returned (.tuple #[dptr g, .int .i64 0]) ∧ ∃ m b, Dk w' g m b 0 (.map []) (Disks.new N) ∧ Ext w w' ∧ w.heap.size ≤ g ∧ w.heap.size ≤ m ∧ w.heap.size ≤ b := by
  have a1 : ¬ (N : Int) < 1 := by omega
  have a2 : ¬ (65536 : Int) < N := by omega
  have hmk := fun W => run_make_sec W N h2
  go_enter Try.func11, Try.ntmps11
  have hmm := fun W => run_makeMap (P := Try.prog) 65 W
  go_wp2_with (fail)
  refine bodyPost_ret (results_tmp2 rfl _ _ _) rfl ?_
  have e0 : ((w.alloc (med0 N)).alloc (.map #[] 0)).heap.size = w.heap.size + 1 + 1 := by simp
  have e1 : (w.alloc (med0 N)).heap.size = w.heap.size + 1 := by simp
  have hx : Ext (w.alloc (med0 N)) (((w.alloc (med0 N)).alloc (.map #[] 0)).alloc (.cells (dcells w.heap.size (w.heap.size + 1) N (-1) false) 67)) := (Ext.alloc _ _).thenAlloc _
  have hx2 : Ext ((w.alloc (med0 N)).alloc (.map #[] 0)) (((w.alloc (med0 N)).alloc (.map #[] 0)).alloc (.cells (dcells w.heap.size (w.heap.size + 1) N (-1) false) 67)) := Ext.alloc _ _
  have hl : (Disks.new N).med.length = N := List.length_replicate ..
  refine ⟨w.heap.size + 1 + 1, rfl, w.heap.size, w.heap.size + 1, ⟨?_, ?_, ?_, Tie.nil N, by omega, by omega, by omega⟩, ((Ext.alloc w _).thenAlloc _).thenAlloc _, by omega, by omega, by omega⟩
  · rw [hl]
    have := heap_alloc_new ((w.alloc (med0 N)).alloc (.map #[] 0)) (.cells (dcells w.heap.size (w.heap.size + 1) N (-1) false) 67)
    rw [e0] at this
    exact this
  · refine Md.ext ?_ hx
    have hb : (w.alloc (med0 N)).heap[w.heap.size]? = some (med0 N) := heap_alloc_new w _
    have hc : ∀ j, j < N * 64 → (w.alloc (med0 N)).cell? ⟨w.heap.size, j, none⟩ = some (.int .u8 0) := fun j hj => by
      rw [cell_of_row _ _ _ _ _ _ hb]
      exact made_at _ _ hj
    refine ⟨by rw [e1]; omega, fun i hi => ?_, fun i hi j v hv => ?_, fun j hj => ⟨?_, frozen_of_row _ _ _ _ _ hb⟩⟩
    · rw [hl] at hi
      exact (congrArg List.length (zrow N i hi)).trans zeros64_len
    · rw [hl] at hi
      have e : bcells zeros64 = List.replicate 64 (.int .u8 0) := by simp [bcells, zeros64]
      have hj : j < 64 := by
        have := (List.getElem?_eq_some_iff.1 hv).1
        rw [show (Disks.new N).med = List.replicate N (List.replicate 64 0) from rfl, zrow N i hi, e, List.length_replicate] at this
        exact this
      rw [show (Disks.new N).med = List.replicate N (List.replicate 64 0) from rfl, zrow N i hi, e, List.getElem?_replicate, if_pos hj] at hv
      rw [hc _ (by have : (i + 1) * 64 ≤ N * 64 := Nat.mul_le_mul_right 64 hi; omega)]
      exact hv
    · rw [hl] at hj
      rw [show 0 + j = j by omega, hc j hj]
      rfl
  · refine map_kept ?_ (hx2.block (w.heap.size + 1) (by rw [e0]; omega))
    have := World.ownsMap_made (w.alloc (med0 N)) Try.prog 3 secR
    rw [e1] at this
    exact this
end Go.Proofs.Ytbfbiofndipaaaa
namespace Go.Proofs.Ytbfbiofndipaaaa
open Go.RowKit Go.Maps

set_option maxRecDepth 100000 in
theorem dkSize_any (w : World) (g m b n : Nat) (D : DataW Nat) (d : Disks.D) (h : Dk w g m b n D d) :
    Calls Try.prog 26 #[dptr g] w fun e w' => e = .returned (.int .i64 (d.med.length : Int)) ∧ Ext w w' := by
  have hN := dkNone_any w g m b n D d h
  have H := Lib.hid h
  clear h
  go_enter Try.func26, Try.ntmps26
  go_wp2_with (fail)
  with_reducible refine hN.mono ?_
  rintro e w1 ⟨rfl, x1⟩
  have k0 := (H.out.ext x1).c0
  go_wp2_with (fail)
  refine bodyPost_ret (results_tmp rfl _ _ _) rfl ?_
  exact ⟨rfl, x1⟩
set_option maxRecDepth 100000 in
theorem dkDown_any (w : World) (g m b n : Nat) (D : DataW Nat) (d : Disks.D) (h : Dk w g m b n D d) :
    Calls Try.prog 19 #[dptr g] w fun e w' => e = .returned (.bool d.down) ∧ Ext w w' := by
  have hN := dkNone_any w g m b n D d h
  have H := Lib.hid h
  clear h
  obtain ⟨z, hz⟩ : ∃ z, d.down = z := ⟨_, rfl⟩
  rw [hz]
  go_enter Try.func19, Try.ntmps19
  go_wp2_with (fail)
  with_reducible refine hN.mono ?_
  rintro e w1 ⟨rfl, x1⟩
  have k0 := (H.out.ext x1).c3
  rw [hz] at k0
  clear hz
  go_wp2_with (fail)
  refine bodyPost_ret (results_tmp rfl _ _ _) rfl ?_
  exact ⟨rfl, x1⟩
set_option maxRecDepth 100000 in
theorem dkArm_any (w : World) (g m b n : Nat) (D : DataW Nat) (d : Disks.D) (h : Dk w g m b n D d) (x : Int) :
    Calls Try.prog 16 #[dptr g, .int .i64 x] w fun e w' => e = .returned (.tuple #[]) ∧ Dk w' g m b n D (Disks.armD d x) ∧ Kp g m b w w' := by
  have hN := dkNone_any w g m b n D d h
  have H := Lib.hid h
  clear h
  by_cases hd : d.down = true
  · have e1 : Disks.armD d x = d := if_pos hd
    rw [e1]
    have HD := Lib.hid hd
    clear hd e1
    go_enter Try.func16, Try.ntmps16
    go_wp2_with (fail)
    with_reducible refine hN.mono ?_
    rintro e w1 ⟨rfl, x1⟩
    have k3 := (H.out.ext x1).c3
    rw [HD.out] at k3
    go_wp2_with (fail)
    refine bodyPost_end (results_none rfl _ _ _) rfl ?_
    exact ⟨rfl, H.out.ext x1, Kp.of x1 ..⟩
  · have e1 : Disks.armD d x = { d with arm := max x 0 } := if_neg hd
    rw [e1]
    rw [Bool.not_eq_true] at hd
    have HD := Lib.hid hd
    clear hd e1
    obtain ⟨y, hy⟩ : ∃ y, max x 0 = y := ⟨_, rfl⟩
    rw [hy]
    by_cases hx : x < 0
    · have ey : y = 0 := by omega
      subst ey
      clear hy
      go_enter Try.func16, Try.ntmps16
      go_wp2_with (fail)
      with_reducible refine hN.mono ?_
      rintro e w1 ⟨rfl, x1⟩
      have k2 := (H.out.ext x1).c2
      have k3 := (H.out.ext x1).c3
      have f2 := (H.out.ext x1).fz 2
      rw [HD.out] at k3
      go_wp2_with (fail)
      refine bodyPost_end (results_none rfl _ _ _) rfl ?_
      exact ⟨rfl, (H.out.ext x1).set2 0, (Kp.of x1 ..).set (p := ⟨g, 2, none⟩) (.inl rfl) _⟩
    · have ey : y = x := by omega
      subst ey
      clear hy
      go_enter Try.func16, Try.ntmps16
      go_wp2_with (fail)
      with_reducible refine hN.mono ?_
      rintro e w1 ⟨rfl, x1⟩
      have k2 := (H.out.ext x1).c2
      have k3 := (H.out.ext x1).c3
      have f2 := (H.out.ext x1).fz 2
      rw [HD.out] at k3
      go_wp2_with (fail)
      refine bodyPost_end (results_none rfl _ _ _) rfl ?_
      exact ⟨rfl, (H.out.ext x1).set2 y, (Kp.of x1 ..).set (p := ⟨g, 2, none⟩) (.inl rfl) _⟩
end Go.Proofs.Ytbfbiofndipaaaa
