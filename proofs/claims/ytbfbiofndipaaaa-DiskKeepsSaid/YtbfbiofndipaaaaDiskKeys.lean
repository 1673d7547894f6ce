/- The contracts of maps.Keys and slices.Sorted at the disk's cache; of a disk's Cached. -/
import Derived.Test.YtbfbiofndipaaaaDiskFlush
import Derived.Test.YtbfbiofndipaaaaLaysKeys
import Derived.Test.YtbfbiofndipaaaaLaysSort
import Derived.Test.YtbfbiofndipaaaaInts
import Derived.Sort.EveryDepth
namespace Go.Proofs.Ytbfbiofndipaaaa
open Go.RowKit Go.Maps Go.Sort Go.Shelf

theorem sortsK (m : Nat) : AnyZI.SortsIn Try.prog sortedA_ren Fence.wide m :=
  ⟨fun blk off cap ss W hH hblk hsz => callsIn_wide.2 (Any.slices_Sort_int laysSort blk off cap ss W hH hblk hsz),
   fun p cap W => callsIn_wide.2 ((calls_of_every_depth fun D => AnyS.slices_Sort_int_none_alone laysSort D p cap W).mono (fun e w' h => h))⟩
set_option maxHeartbeats 1000000 in
/-- slices.Sorted(maps.Keys(m)). -/
theorem keys_any (w : World) (b nn : Nat) (D0 : DataW Nat) (hown : w.ownsMap Try.prog 3 secR b nn D0) (hmax : Maps.size D0 ≤ maxLen) (hbytes : Maps.size D0 * 8 ≤ 140737488355328) :
    Calls Try.prog 41 #[.map (some b)] w fun e w1 => ∃ v, e = .returned v ∧ Ext w w1 ∧
      Calls Try.prog 40 #[v] w1 fun e w' => ∃ (v : Value) (ss : List Int), e = .returned v ∧ ss.Perm (intKeys D0) ∧
        w'.ownsRow w.heap.size 3 1 v ss.length ((ss.mergeSort (fun x y => decide (x ≤ y))).map encZ) ∧ Ext w w' := by
  have hbl := hown.lt
  have hseq : SeqGives Fence.wide 2 Try.prog 48 #[.pointer (some ⟨w.heap.size, 0, none⟩)] encZ (fun ss => ss.Perm (intKeys D0)) (Maps.size D0) (w.alloc (.cells #[.map (some b)] 65)) :=
    AnyZI.keys_gives (ρ := keysA_ren) { keysA with } Fence.wide _ trivial rfl (by omega) w.heap.size b nn D0 _ (by simp) (by simp) (by
      obtain ⟨es, clock, hb, Ft, hs, hD⟩ := hown
      exact ⟨es, clock, (Below.heap_alloc _ _ b hbl).trans hb, Ft, hs, hD⟩)
  have cK := AnyZI.keys_in keysA Fence.wide 5 trivial rfl (some b) w
  have cS := AnyZI.sorted_in sortedA Fence.wide 5 trivial trivial trivial trivial rfl (by omega) (sortsK _) (enters_of Try.func47 (by kernel_rfl) rfl) 48 #[.pointer (some ⟨w.heap.size, 0, none⟩)] trivial (enters_of Try.func48 (by kernel_rfl) rfl) _ _ hmax hbytes _ hseq
  refine (callsIn_wide.1 cK).mono ?_
  rintro e w1 ⟨rfl, rfl⟩
  refine ⟨_, rfl, Ext.alloc _ _, ?_⟩
  refine (callsIn_wide.1 cS).mono ?_
  rintro e w' ⟨v, ss, rfl, hS, hrow, hnil, hb⟩
  exact ⟨v, ss, rfl, hS, ownsRow_base_a hrow (by simp), (Ext.alloc _ _).trans hb⟩
end Go.Proofs.Ytbfbiofndipaaaa
