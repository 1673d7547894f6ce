/- Several texts in one: What the kit's library contracts ask of this program: the numbers of the library's functions, and that their bodies are these. No statement of the seat is proved here. The contracts of maps.Keys and slices.Sorted at the disk's cache; of a disk's Cached. -/
import Derived.Shelf.Sort.Plain
import Derived.Shelf.Slices.In.SortNone
import Derived.Test.YtaaegbccejjjcaaProg
import Derived.Test.YtaaegbccejjjcaaCt12
import Derived.Test.YtaaegbccejjjcaaCt5
import Derived.Sort.EveryDepth
namespace Go.Proofs.Ytaaegbccejjjcaa
open Go.Shelf
def laysSort_ren : Go.Shelf.Ren := ⟨fun | 189 => 56 | 125 => 60 | 257 => 59 | 128 => 70 | 129 => 71 | 294 => 61 | 295 => 62 | 296 => 63 | 297 => 64 | 298 => 65 | 299 => 66 | 216 => 67 | 300 => 68 | 301 => 69 | 328 => 72 | 329 => 73 | 330 => 74 | 331 => 75 | 332 => 76 | 215 => 77 | 343 => 78 | n => n,
  fun | 28 => 78 | 3 => 3 | 46 => 94 | 0 => 0 | 51 => 114 | 53 => 88 | 4 => 4 | 183 => 106 | 182 => 105 | 131 => 111 | 5 => 5 | 9 => 9 | 218 => 116 | 222 => 120 | 228 => 122 | 229 => 123 | n => n,
  fun | n => n⟩
theorem laysSort : Go.Proofs.Lays.n189 Try.prog laysSort_ren := {
  mixed := by kernel_rfl,
  f125 := Try.func60.trans (congrArg some (by kernel_rfl)),
  f128 := Try.func70.trans (congrArg some (by kernel_rfl)),
  f129 := Try.func71.trans (congrArg some (by kernel_rfl)),
  f189 := Try.func56.trans (congrArg some (by kernel_rfl)),
  f215 := Try.func77.trans (congrArg some (by kernel_rfl)),
  f216 := Try.func67.trans (congrArg some (by kernel_rfl)),
  f257 := Try.func59.trans (congrArg some (by kernel_rfl)),
  f294 := Try.func61.trans (congrArg some (by kernel_rfl)),
  f295 := Try.func62.trans (congrArg some (by kernel_rfl)),
  f296 := Try.func63.trans (congrArg some (by kernel_rfl)),
  f297 := Try.func64.trans (congrArg some (by kernel_rfl)),
  f298 := Try.func65.trans (congrArg some (by kernel_rfl)),
  f299 := Try.func66.trans (congrArg some (by kernel_rfl)),
  f300 := Try.func68.trans (congrArg some (by kernel_rfl)),
  f301 := Try.func69.trans (congrArg some (by kernel_rfl)),
  f328 := Try.func72.trans (congrArg some (by kernel_rfl)),
  f329 := Try.func73.trans (congrArg some (by kernel_rfl)),
  f330 := Try.func74.trans (congrArg some (by kernel_rfl)),
  f331 := Try.func75.trans (congrArg some (by kernel_rfl)),
  f332 := Try.func76.trans (congrArg some (by kernel_rfl)),
  f343 := Try.func78.trans (congrArg some (by kernel_rfl)),
  t0 := Try.underlying0,
  a0 := Try.isAgg0,
  z0 := Try.sizeOf0,
  v0 := Try.zeroValue0,
  t3 := Try.underlying3,
  a3 := Try.isAgg3,
  z3 := Try.sizeOf3,
  v3 := Try.zeroValue3,
  t4 := Try.underlying4,
  a4 := Try.isAgg4,
  z4 := Try.sizeOf4,
  v4 := Try.zeroValue4,
  t5 := Try.underlying5,
  a5 := Try.isAgg5,
  z5 := Try.sizeOf5,
  v5 := Try.zeroValue5,
  t9 := Try.underlying9,
  a9 := Try.isAgg9,
  z9 := Try.sizeOf9,
  v9 := Try.zeroValue9,
  t28 := Try.underlying78,
  a28 := Try.isAgg78,
  z28 := Try.sizeOf78,
  v28 := Try.zeroValue78,
  t46 := Try.underlying94,
  a46 := Try.isAgg94,
  z46 := Try.sizeOf94,
  v46 := Try.zeroValue94,
  t51 := Try.underlying114,
  a51 := Try.isAgg114,
  z51 := Try.sizeOf114,
  v51 := Try.zeroValue114,
  t53 := Try.underlying88,
  a53 := Try.isAgg88,
  z53 := Try.sizeOf88,
  v53 := Try.zeroValue88,
  t131 := Try.underlying111,
  a131 := Try.isAgg111,
  z131 := Try.sizeOf111,
  v131 := Try.zeroValue111,
  t182 := Try.underlying105,
  a182 := Try.isAgg105,
  z182 := Try.sizeOf105,
  v182 := Try.zeroValue105,
  t183 := Try.underlying106,
  a183 := Try.isAgg106,
  z183 := Try.sizeOf106,
  v183 := Try.zeroValue106,
  t218 := Try.underlying116,
  a218 := Try.isAgg116,
  z218 := Try.sizeOf116,
  v218 := Try.zeroValue116,
  t222 := Try.underlying120,
  a222 := Try.isAgg120,
  z222 := Try.sizeOf120,
  v222 := Try.zeroValue120,
  t228 := Try.underlying122,
  a228 := Try.isAgg122,
  z228 := Try.sizeOf122,
  v228 := Try.zeroValue122,
  t229 := Try.underlying123,
  a229 := Try.isAgg123,
  z229 := Try.sizeOf123,
  v229 := Try.zeroValue123 }
end Go.Proofs.Ytaaegbccejjjcaa
namespace Go.Proofs.Ytaaegbccejjjcaa
open Go.RowKit Go.Maps Go.Sort Go.Shelf

theorem sortsK (m : Nat) : AnyZI.SortsIn Try.prog sortedA_ren Fence.wide m :=
  ⟨fun blk off cap ss W hH hblk hsz => callsIn_wide.2 (Any.slices_Sort_int laysSort blk off cap ss W hH hblk hsz),
   fun p cap W => callsIn_wide.2 ((calls_of_every_depth fun D => AnyS.slices_Sort_int_none_alone laysSort D p cap W).mono (fun e w' h => h))⟩
set_option maxHeartbeats 1000000 in
/-- slices.Sorted(maps.Keys(m)). -/
theorem keys_any (w : World) (b nn : Nat) (D0 : DataW Nat) (hown : w.ownsMap Try.prog 3 secR b nn D0) (hmax : Maps.size D0 ≤ maxLen) (hbytes : Maps.size D0 * 8 ≤ 140737488355328) :
    Calls Try.prog 51 #[.map (some b)] w fun e w1 => ∃ v, e = .returned v ∧ Ext w w1 ∧
      Calls Try.prog 50 #[v] w1 fun e w' => ∃ (v : Value) (ss : List Int), e = .returned v ∧ ss.Perm (intKeys D0) ∧
        w'.ownsRow w.heap.size 3 1 v ss.length ((ss.mergeSort (fun x y => decide (x ≤ y))).map encZ) ∧ Ext w w' := by
  have hbl := hown.lt
  have hseq : SeqGives Fence.wide 2 Try.prog 57 #[.pointer (some ⟨w.heap.size, 0, none⟩)] encZ (fun ss => ss.Perm (intKeys D0)) (Maps.size D0) (w.alloc (.cells #[.map (some b)] 63)) :=
    AnyZI.keys_gives (ρ := keysA_ren) { keysA with } Fence.wide _ trivial rfl (by omega) w.heap.size b nn D0 _ (by simp) (by simp) (by
      obtain ⟨es, clock, hb, Ft, hs, hD⟩ := hown
      exact ⟨es, clock, (Below.heap_alloc _ _ b hbl).trans hb, Ft, hs, hD⟩)
  have cK := AnyZI.keys_in keysA Fence.wide 5 trivial rfl (some b) w
  have cS := AnyZI.sorted_in sortedA Fence.wide 5 trivial trivial trivial trivial rfl (by omega) (sortsK _) (enters_of Try.func56 (by kernel_rfl) rfl) 57 #[.pointer (some ⟨w.heap.size, 0, none⟩)] trivial (enters_of Try.func57 (by kernel_rfl) rfl) _ _ hmax hbytes _ hseq
  refine (callsIn_wide.1 cK).mono ?_
  rintro e w1 ⟨rfl, rfl⟩
  refine ⟨_, rfl, Ext.alloc _ _, ?_⟩
  refine (callsIn_wide.1 cS).mono ?_
  rintro e w' ⟨v, ss, rfl, hS, hrow, hnil, hb⟩
  exact ⟨v, ss, rfl, hS, ownsRow_base_a hrow (by simp), (Ext.alloc _ _).trans hb⟩
end Go.Proofs.Ytaaegbccejjjcaa
