/- Several texts in one: The contract of slices.Clone at []int. What the kit's library contracts ask of this program: the numbers of the library's functions, and that their bodies are these. No statement of the seat is proved here. -/
import Derived.Test.YtfpglkacjecoeaaCt4
import Derived.Shelf.Sort.Plain
import Derived.Shelf.Slices.In.SortNone
import Derived.Test.YtfpglkacjecoeaaProg
namespace Go.Proofs.Ytfpglkacjecoeaa
open Go.RowKit

theorem cloneInts_none (w : World) (n c : Nat) :
    Calls Try.prog 32 #[.slice none n c] w fun e w' => e = .returned (.slice none 0 0) ∧ w = w' := by
  have hnil := fun wx => Lib.run_eql_slice_nil (P := Try.prog) wx 24 3 none n c 0 0 Try.underlying24
  go_enter Try.func32, Try.ntmps32
  go_wp2
  go_ret
  exact ⟨rfl, rfl⟩
theorem cloneInts_some (w : World) (ad : Addr) (n c : Nat) (l : List Int) (hl : Is w (some ad) n c l) (hn : n ≤ 17592186044416) :
    Calls Try.prog 32 #[.slice (some ad) n c] w fun e w' => ∃ v, e = .returned v ∧ NewInts w w' v l := by
  obtain ⟨i0, hi0, hz0, hz1, hz2⟩ := info_parts int_info
  have hm := hl.max
  have hle := hl.le
  have hnil : ∀ wx, (binOp .eql 24 (.slice (some ad) n c) (.slice none 0 0)).run Try.prog wx = .ok (.bool false) wx := fun wx => Lib.run_eql_slice_nil (P := Try.prog) wx 24 3 (some ad) n c 0 0 Try.underlying24
  go_enter Try.func32, Try.ntmps32
  go_wp2_with (
    at_builtin
    refine wpList_append_rd _ rfl (.tmp 5) (.tmp 6) 24 rfl w.heap.size 3 i0 _ 1 8 Try.underlying24 hi0 hz0 hz1 hz2 rfl (by omega) (.slice (some ⟨w.heap.size, 0, none⟩) 0 0) 0 [] rfl
      (World.ownsRow_lit w #[] 0 (Nat.le_refl _) (by unfold maxLen; omega) rfl) (some ad) n c (icells l) rfl (hl.rd.ext (Ext.alloc _ _)) (icells_one l) (by omega) (by unfold maxLen; omega) (by simp) ?_
    intro v1 w1 hown hg hat)
  go_ret
  refine ⟨v1, rfl, ?_, ?_⟩
  · rw [hl.len]; simpa using hown
  · exact (Ext.alloc w _).ofGrown hg (by simp [Value.ownBlock])
theorem cloneInts_any (w : World) (A : Option Addr) (n c : Nat) (l : List Int) (hl : Is w A n c l) (hn : n ≤ 17592186044416) :
    Calls Try.prog 32 #[.slice A n c] w fun e w' => ∃ v, e = .returned v ∧ NewInts w w' v l := by
  rcases A with _ | ad
  · refine (cloneInts_none w n c).mono ?_
    rintro e w' ⟨rfl, rfl⟩
    have h0 := hl.nil_of_none
    subst h0
    exact ⟨_, rfl, World.ownsRow_nil _ _ _ _, Ext.refl w⟩
  · exact cloneInts_some w ad n c l hl hn
end Go.Proofs.Ytfpglkacjecoeaa
namespace Go.Proofs.Ytfpglkacjecoeaa
open Go.Shelf
def laysSort_ren : Go.Shelf.Ren := ⟨fun | 189 => 33 | 125 => 48 | 257 => 47 | 128 => 69 | 129 => 70 | 294 => 60 | 295 => 61 | 296 => 62 | 297 => 63 | 298 => 64 | 299 => 65 | 216 => 66 | 300 => 67 | 301 => 68 | 328 => 79 | 329 => 80 | 330 => 81 | 331 => 82 | 332 => 83 | 215 => 84 | 343 => 92 | n => n,
  fun | 28 => 24 | 3 => 3 | 46 => 90 | 0 => 0 | 51 => 118 | 53 => 120 | 4 => 4 | 183 => 110 | 182 => 109 | 131 => 115 | 5 => 5 | 9 => 9 | 218 => 128 | 222 => 132 | 228 => 138 | 229 => 139 | n => n,
  fun | n => n⟩
theorem laysSort : Go.Proofs.Lays.n189 Try.prog laysSort_ren := {
  mixed := by kernel_rfl,
  f125 := Try.func48.trans (congrArg some (by kernel_rfl)),
  f128 := Try.func69.trans (congrArg some (by kernel_rfl)),
  f129 := Try.func70.trans (congrArg some (by kernel_rfl)),
  f189 := Try.func33.trans (congrArg some (by kernel_rfl)),
  f215 := Try.func84.trans (congrArg some (by kernel_rfl)),
  f216 := Try.func66.trans (congrArg some (by kernel_rfl)),
  f257 := Try.func47.trans (congrArg some (by kernel_rfl)),
  f294 := Try.func60.trans (congrArg some (by kernel_rfl)),
  f295 := Try.func61.trans (congrArg some (by kernel_rfl)),
  f296 := Try.func62.trans (congrArg some (by kernel_rfl)),
  f297 := Try.func63.trans (congrArg some (by kernel_rfl)),
  f298 := Try.func64.trans (congrArg some (by kernel_rfl)),
  f299 := Try.func65.trans (congrArg some (by kernel_rfl)),
  f300 := Try.func67.trans (congrArg some (by kernel_rfl)),
  f301 := Try.func68.trans (congrArg some (by kernel_rfl)),
  f328 := Try.func79.trans (congrArg some (by kernel_rfl)),
  f329 := Try.func80.trans (congrArg some (by kernel_rfl)),
  f330 := Try.func81.trans (congrArg some (by kernel_rfl)),
  f331 := Try.func82.trans (congrArg some (by kernel_rfl)),
  f332 := Try.func83.trans (congrArg some (by kernel_rfl)),
  f343 := Try.func92.trans (congrArg some (by kernel_rfl)),
  t0 := Try.underlying0,
  a0 := Try.isAgg0,
  z0 := Try.sizeOf0,
  v0 := Try.zeroValue0,
  t3 := Try.underlying3,
  a3 := Try.isAgg3,
  z3 := Try.sizeOf3,
  v3 := Try.zeroValue3,
  t4 := Try.underlying4,
  a4 := Try.isAgg4,
  z4 := Try.sizeOf4,
  v4 := Try.zeroValue4,
  t5 := Try.underlying5,
  a5 := Try.isAgg5,
  z5 := Try.sizeOf5,
  v5 := Try.zeroValue5,
  t9 := Try.underlying9,
  a9 := Try.isAgg9,
  z9 := Try.sizeOf9,
  v9 := Try.zeroValue9,
  t28 := Try.underlying24,
  a28 := Try.isAgg24,
  z28 := Try.sizeOf24,
  v28 := Try.zeroValue24,
  t46 := Try.underlying90,
  a46 := Try.isAgg90,
  z46 := Try.sizeOf90,
  v46 := Try.zeroValue90,
  t51 := Try.underlying118,
  a51 := Try.isAgg118,
  z51 := Try.sizeOf118,
  v51 := Try.zeroValue118,
  t53 := Try.underlying120,
  a53 := Try.isAgg120,
  z53 := Try.sizeOf120,
  v53 := Try.zeroValue120,
  t131 := Try.underlying115,
  a131 := Try.isAgg115,
  z131 := Try.sizeOf115,
  v131 := Try.zeroValue115,
  t182 := Try.underlying109,
  a182 := Try.isAgg109,
  z182 := Try.sizeOf109,
  v182 := Try.zeroValue109,
  t183 := Try.underlying110,
  a183 := Try.isAgg110,
  z183 := Try.sizeOf110,
  v183 := Try.zeroValue110,
  t218 := Try.underlying128,
  a218 := Try.isAgg128,
  z218 := Try.sizeOf128,
  v218 := Try.zeroValue128,
  t222 := Try.underlying132,
  a222 := Try.isAgg132,
  z222 := Try.sizeOf132,
  v222 := Try.zeroValue132,
  t228 := Try.underlying138,
  a228 := Try.isAgg138,
  z228 := Try.sizeOf138,
  v228 := Try.zeroValue138,
  t229 := Try.underlying139,
  a229 := Try.isAgg139,
  z229 := Try.sizeOf139,
  v229 := Try.zeroValue139 }
end Go.Proofs.Ytfpglkacjecoeaa
