/- The contract of slices.Clone at []int. -/
import Derived.Test.YtkanlbkfbkkknaaInts
namespace Go.Proofs.Ytkanlbkfbkkknaa
open Go.RowKit

theorem cloneInts_none (w : World) (n c : Nat) :
    Calls Try.prog 50 #[.slice none n c] w fun e w' => e = .returned (.slice none 0 0) ∧ w = w' := by
  have hnil := fun wx => Lib.run_eql_slice_nil (P := Try.prog) wx 28 3 none n c 0 0 Try.underlying28
  go_enter Try.func50, Try.ntmps50
  go_wp2
  go_ret
  exact ⟨rfl, rfl⟩
theorem cloneInts_some (w : World) (ad : Addr) (n c : Nat) (l : List Int) (hl : Is w (some ad) n c l) (hn : n ≤ 17592186044416) :
    Calls Try.prog 50 #[.slice (some ad) n c] w fun e w' => ∃ v, e = .returned v ∧ NewInts w w' v l := by
  obtain ⟨i0, hi0, hz0, hz1, hz2⟩ := info_parts int_info
  have hm := hl.max
  have hle := hl.le
  have hnil : ∀ wx, (binOp .eql 28 (.slice (some ad) n c) (.slice none 0 0)).run Try.prog wx = .ok (.bool false) wx := fun wx => Lib.run_eql_slice_nil (P := Try.prog) wx 28 3 (some ad) n c 0 0 Try.underlying28
  go_enter Try.func50, Try.ntmps50
  go_wp2_with (
    at_builtin
    refine wpList_append_rd _ rfl (.tmp 5) (.tmp 6) 28 rfl w.heap.size 3 i0 _ 1 8 Try.underlying28 hi0 hz0 hz1 hz2 rfl (by omega) (.slice (some ⟨w.heap.size, 0, none⟩) 0 0) 0 [] rfl
      (World.ownsRow_lit w #[] 0 (Nat.le_refl _) (by unfold maxLen; omega) rfl) (some ad) n c (icells l) rfl (hl.rd.ext (Ext.alloc _ _)) (icells_one l) (by omega) (by unfold maxLen; omega) (by simp) ?_
    intro v1 w1 hown hg hat)
  go_ret
  refine ⟨v1, rfl, ?_, ?_⟩
  · rw [hl.len]; simpa using hown
  · exact (Ext.alloc w _).ofGrown hg (by simp [Value.ownBlock])
theorem cloneInts_any (w : World) (A : Option Addr) (n c : Nat) (l : List Int) (hl : Is w A n c l) (hn : n ≤ 17592186044416) :
    Calls Try.prog 50 #[.slice A n c] w fun e w' => ∃ v, e = .returned v ∧ NewInts w w' v l := by
  rcases A with _ | ad
  · refine (cloneInts_none w n c).mono ?_
    rintro e w' ⟨rfl, rfl⟩
    have h0 := hl.nil_of_none
    subst h0
    exact ⟨_, rfl, World.ownsRow_nil _ _ _ _, Ext.refl w⟩
  · exact cloneInts_some w ad n c l hl hn
end Go.Proofs.Ytkanlbkfbkkknaa
