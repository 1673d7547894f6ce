/- Several texts in one: The contracts of maps.Keys and slices.Sorted at the disk's cache; of a disk's Cached. The contract of a disk's Cached. -/
import Derived.Test.YtbfbiofndipaaaaCt12
import Derived.Test.YtbfbiofndipaaaaCt13
import Derived.Test.YtbfbiofndipaaaaCt5
import Derived.Sort.EveryDepth
namespace Go.Proofs.Ytbfbiofndipaaaa
open Go.RowKit Go.Maps Go.Sort Go.Shelf

theorem sortsK (m : Nat) : AnyZI.SortsIn Try.prog sortedA_ren Fence.wide m :=
  ⟨fun blk off cap ss W hH hblk hsz => callsIn_wide.2 (Any.slices_Sort_int laysSort blk off cap ss W hH hblk hsz),
   fun p cap W => callsIn_wide.2 ((calls_of_every_depth fun D => AnyS.slices_Sort_int_none_alone laysSort D p cap W).mono (fun e w' h => h))⟩
set_option maxHeartbeats 1000000 in
/-- slices.Sorted(maps.Keys(m)). -/
theorem keys_any (w : World) (b nn : Nat) (D0 : DataW Nat) (hown : w.ownsMap Try.prog 3 secR b nn D0) (hmax : Maps.size D0 ≤ maxLen) (hbytes : Maps.size D0 * 8 ≤ 140737488355328) :
    Calls Try.prog 41 #[.map (some b)] w fun e w1 => ∃ v, e = .returned v ∧ Ext w w1 ∧
      Calls Try.prog 40 #[v] w1 fun e w' => ∃ (v : Value) (ss : List Int), e = .returned v ∧ ss.Perm (intKeys D0) ∧
        w'.ownsRow w.heap.size 3 1 v ss.length ((ss.mergeSort (fun x y => decide (x ≤ y))).map encZ) ∧ Ext w w' := by
  have hbl := hown.lt
  have hseq : SeqGives Fence.wide 2 Try.prog 48 #[.pointer (some ⟨w.heap.size, 0, none⟩)] encZ (fun ss => ss.Perm (intKeys D0)) (Maps.size D0) (w.alloc (.cells #[.map (some b)] 65)) :=
    AnyZI.keys_gives (ρ := keysA_ren) { keysA with } Fence.wide _ trivial rfl (by omega) w.heap.size b nn D0 _ (by simp) (by simp) (by
      obtain ⟨es, clock, hb, Ft, hs, hD⟩ := hown
      exact ⟨es, clock, (Below.heap_alloc _ _ b hbl).trans hb, Ft, hs, hD⟩)
  have cK := AnyZI.keys_in keysA Fence.wide 5 trivial rfl (some b) w
  have cS := AnyZI.sorted_in sortedA Fence.wide 5 trivial trivial trivial trivial rfl (by omega) (sortsK _) (enters_of Try.func47 (by kernel_rfl) rfl) 48 #[.pointer (some ⟨w.heap.size, 0, none⟩)] trivial (enters_of Try.func48 (by kernel_rfl) rfl) _ _ hmax hbytes _ hseq
  refine (callsIn_wide.1 cK).mono ?_
  rintro e w1 ⟨rfl, rfl⟩
  refine ⟨_, rfl, Ext.alloc _ _, ?_⟩
  refine (callsIn_wide.1 cS).mono ?_
  rintro e w' ⟨v, ss, rfl, hS, hrow, hnil, hb⟩
  exact ⟨v, ss, rfl, hS, ownsRow_base_a hrow (by simp), (Ext.alloc _ _).trans hb⟩
end Go.Proofs.Ytbfbiofndipaaaa
namespace Disks
theorem upto_mem {l : List (Option (List UInt8))} {k : Nat} {x : Int} : x ∈ upto l k ↔ 0 ≤ x ∧ x < k ∧ (cget l x.toNat).isSome = true := by
  induction k with
  | zero =>
    constructor
    · intro h; cases h
    · rintro ⟨h1, h2, _⟩; omega
  | succ k ih =>
    unfold upto
    by_cases h : (cget l k).isSome = true
    · rw [if_pos h, List.mem_append, ih, List.mem_singleton]
      constructor
      · rintro (⟨a, b, c⟩ | rfl)
        · exact ⟨a, by omega, c⟩
        · exact ⟨by omega, by omega, by rw [show ((k : Int)).toNat = k by omega]; exact h⟩
      · rintro ⟨a, b, c⟩
        by_cases e : x = (k : Int)
        · exact .inr e
        · exact .inl ⟨a, by omega, c⟩
    · rw [if_neg h, ih]
      constructor
      · rintro ⟨a, b, c⟩; exact ⟨a, by omega, c⟩
      · rintro ⟨a, b, c⟩
        refine ⟨a, ?_, c⟩
        have : x ≠ (k : Int) := fun e => by rw [e, show ((k : Int)).toNat = k by omega] at c; exact h c
        omega
theorem upto_rising (l : List (Option (List UInt8))) (k : Nat) : (upto l k).Pairwise (· < ·) := by
  induction k with
  | zero => exact List.Pairwise.nil
  | succ k ih =>
    unfold upto
    split
    · refine List.pairwise_append.2 ⟨ih, List.pairwise_singleton .., fun a ha b hb => ?_⟩
      rw [List.mem_singleton] at hb
      have := (upto_mem.1 ha).2.1
      omega
    · exact ih
theorem upto_len (l : List (Option (List UInt8))) (k : Nat) : (upto l k).length ≤ k := by
  induction k with
  | zero => exact Nat.le_refl _
  | succ k ih =>
    unfold upto
    split
    · rw [List.length_append, List.length_singleton]; omega
    · omega
end Disks
namespace Go.Proofs.Ytbfbiofndipaaaa
open Go.RowKit Go.Maps Go.Sort Go.Shelf

theorem Dk.keys {w : World} {g m b n : Nat} {D : DataW Nat} {d : Disks.D} (h : Dk w g m b n D d) : (Disks.cached d).Perm (intKeys D) := by
  obtain ⟨es, hD, hpw, _⟩ := h.mp.entries int_key5
  obtain ⟨es', hD', hko⟩ := h.mp.keysOf
  obtain rfl : es = es' := by rw [hD] at hD'; simpa using hD'
  subst hD
  refine perm_intKeys hpw (fun p hp => by obtain ⟨v, hv⟩ := hko p hp; obtain ⟨x, _, hx, _⟩ := Maps.keyOf_i64 int_under5 hv; exact ⟨x, hx⟩) ((Disks.upto_rising _ _).imp (fun q => by omega)) (fun x => ?_)
  rw [Disks.cached, Disks.upto_mem]
  have := h.tie.has x
  rw [show Lit.int .i64 x = lk x from rfl, this]
  constructor
  · rintro ⟨a, _, c⟩; exact ⟨a, c⟩
  · rintro ⟨a, c⟩
    refine ⟨a, ?_, c⟩
    rcases Nat.lt_or_ge x.toNat d.cac.length with q | q
    · omega
    · rw [Disks.cget_ge q] at c; cases c
theorem sorted_cached {d : Disks.D} {ss : List Int} (h : ss.Perm (Disks.cached d)) : ss.mergeSort (fun x y => decide (x ≤ y)) = Disks.cached d := by
  have h1 : (ss.mergeSort (fun x y => decide (x ≤ y))).Pairwise (· ≤ ·) :=
    (List.pairwise_mergeSort (le := fun x y : Int => decide (x ≤ y)) (fun a b c h1 h2 => by simp at *; omega) (fun a b => by simp; omega) ss).imp (fun h => by simpa using h)
  have h2 : (Disks.cached d).Pairwise (· ≤ ·) := (Disks.upto_rising _ _).imp (fun q => by omega)
  exact List.Perm.eq_of_pairwise (le := (· ≤ ·)) (fun a b _ _ p q => by omega) h1 h2 ((List.mergeSort_perm _ _).trans h)
theorem size_keys {D : DataW Nat} {d : Disks.D} (h : (Disks.cached d).Perm (intKeys D)) (hm : IsMap D) : Maps.size D = (Disks.cached d).length := by
  rw [h.length_eq]
  obtain ⟨es, rfl⟩ := hm
  show _ = List.length (List.map _ _)
  rw [List.length_map]
  rfl
set_option maxRecDepth 100000 in
set_option maxHeartbeats 1000000 in
theorem dkCached_any (w : World) (g m b n : Nat) (D : DataW Nat) (d : Disks.D) (h : Dk w g m b n D d) (hf : Disks.Wf d) :
    Calls Try.prog 22 #[dptr g] w fun e w' => ∃ v, e = .returned v ∧ w'.ownsRow w.heap.size 3 1 v (Disks.cached d).length (icells (Disks.cached d)) ∧ Ext w w' := by
  have hN := dkNone_any w g m b n D d h
  have hl : (Disks.cached d).length ≤ 65536 := Nat.le_trans (Disks.upto_len _ _) (by rw [hf.len]; exact hf.max)
  have hp := h.keys
  have hz := size_keys hp h.mp.isMap
  have H := Lib.hid h
  have hk := fun (W : World) (hW : Ext w W) => keys_any W b n D (h.ext hW).mp (by unfold maxLen; omega) (by omega)
  have HK := Lib.hid hk
  have HP := Lib.hid hp
  have HF := Lib.hid hf
  clear h hf hl hp hz hk
  go_enter Try.func22, Try.ntmps22
  go_wp2_with (fail)
  with_reducible refine hN.mono ?_
  rintro e w1 ⟨rfl, x1⟩
  have k1 := (H.out.ext x1).c1
  have X1 := Lib.hid x1
  clear x1 hN
  go_wp2_with (fail)
  with_reducible refine (HK.out _ X1.out).mono ?_
  rintro e w2 ⟨v2, rfl, x2, hS⟩
  have X2 := Lib.hid x2
  have HS := Lib.hid hS
  clear x2 hS
  go_wp2_with (fail)
  with_reducible refine HS.out.mono ?_
  rintro e w3 ⟨v3, ss, rfl, hp3, ho3, x3⟩
  have HP3 := Lib.hid hp3
  have HO3 := Lib.hid ho3
  have X3 := Lib.hid x3
  clear hp3 ho3 x3 HS
  go_wp2_with (fail)
  refine bodyPost_ret (results_tmp rfl _ _ _) rfl ?_
  have hpp := HP3.out.trans HP.out.symm
  have ho := HO3.out
  rw [sorted_cached hpp, hpp.length_eq] at ho
  exact ⟨_, rfl, ownsRow_base_a ho X1.out.size, X1.out.trans X3.out⟩
end Go.Proofs.Ytbfbiofndipaaaa
