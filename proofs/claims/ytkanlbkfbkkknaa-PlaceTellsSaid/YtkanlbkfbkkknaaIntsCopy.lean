/- The contract of CopyInts. -/
import Derived.Test.YtkanlbkfbkkknaaInts
namespace Go.Proofs.Ytkanlbkfbkkknaa
open Go.RowKit

theorem copyInts_any (w : World) (A : Option Addr) (n c : Nat) (l : List Int) (hl : Is w A n c l) (hn : n ≤ 17592186044416) :
    Calls Try.prog 24 #[.slice A n c] w fun e w' => ∃ v, e = .returned v ∧ NewInts w w' v l := by
  obtain ⟨i0, hi0, hz0, hz1, hz2⟩ := info_parts int_info
  have hm := hl.max
  have hle := hl.le
  go_enter Try.func24, Try.ntmps24
  go_wp2_with (
    at_builtin
    refine wpList_append_rd _ rfl (.tmp 4) (.tmp 5) 28 rfl w.heap.size 3 i0 _ 1 8 Try.underlying28 hi0 hz0 hz1 hz2 rfl (by omega) (.slice none 0 0) 0 [] rfl (World.ownsRow_nil _ _ _ _) A n c (icells l) rfl hl.rd (icells_one l) (by omega) (by unfold maxLen; omega) (Nat.le_refl _) ?_
    intro v1 w1 hown hg hat)
  go_ret
  refine ⟨v1, rfl, ?_, ?_⟩
  · rw [hl.len]; simpa using hown
  · exact (Ext.refl w).ofGrown hg (by simp [Value.ownBlock])
end Go.Proofs.Ytkanlbkfbkkknaa
