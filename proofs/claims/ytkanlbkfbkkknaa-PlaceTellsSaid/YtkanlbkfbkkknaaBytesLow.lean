/- Bytes handed back in memory of the call's own; what copies and compares them (for seats without the field). -/
import Derived.Test.YtkanlbkfbkkknaaMem
namespace Go.Proofs.Ytkanlbkfbkkknaa
open Go.RowKit

theorem u8_infoB : (Try.prog.info? 5).map (fun i => (i.zero, i.size, i.bytes)) = some (some (.int .u8 0), 1, 1) := by kernel_rfl
/-- A list of bytes handed back in memory of the call's own. -/
structure NewB (w w' : World) (v : Value) (l : List UInt8) : Prop where
  own : w'.ownsRow w.heap.size 5 1 v l.length (bcells l)
  ext : Ext w w'
theorem NewB.bs {w w' : World} {v : Value} {l : List UInt8} (h : NewB w w' v l) : ∃ A c, v = .slice A l.length c ∧ Bs w' A l.length c l := by
  obtain ⟨A, c, rfl, _, _⟩ := ownsRow_slice h.own
  exact ⟨A, c, rfl, (Own.mk (base := w.heap.size) (e := 5) h.own).bs⟩
theorem copyBytesB (w : World) (A : Option Addr) (n c : Nat) (l : List UInt8) (hl : Bs w A n c l) (hn : n ≤ 140737488355328) :
    Calls Try.prog 33 #[.slice A n c] w fun e w' => ∃ v, e = .returned v ∧ NewB w w' v l := by
  obtain ⟨i0, hi0, hz0, hz1, hz2⟩ := info_parts u8_infoB
  have hm := hl.max
  have hle := hl.le
  go_enter Try.func33, Try.ntmps33
  go_wp2_with (
    at_builtin
    refine wpList_append_rd _ rfl (.tmp 4) (.tmp 5) 50 rfl w.heap.size 5 i0 _ 1 1 Try.underlying50 hi0 hz0 hz1 hz2 rfl (by omega) (.slice none 0 0) 0 [] rfl (World.ownsRow_nil _ _ _ _) A n c (bcells l) rfl hl.rd (bcells_one l) (by omega) (by unfold maxLen; omega) (Nat.le_refl _) ?_
    intro v1 w1 hown hg hat)
  go_ret
  refine ⟨v1, rfl, ?_, ?_⟩
  · rw [hl.len]; simpa using hown
  · exact (Ext.refl w).ofGrown hg (by simp [Value.ownBlock])
theorem sameBytesB (w : World) (A A' : Option Addr) (n c m c' : Nat) (x y : List UInt8) (hx : Bs w A n c x) (hy : Bs w A' m c' y) :
    Calls Try.prog 29 #[.slice A n c, .slice A' m c'] w fun e w' => e = .returned (.bool (x == y)) ∧ w = w' := by
  have h1 := run_text (P := Try.prog) w 50 9 5 Try.underlying50 Try.underlying5 Try.underlying9 A n c x hx
  have h2 := run_text (P := Try.prog) w 50 9 5 Try.underlying50 Try.underlying5 Try.underlying9 A' m c' y hy
  go_enter Try.func29, Try.ntmps29
  go_wp2
  go_ret
  exact ⟨ret_bool (text_eq x y), rfl⟩
end Go.Proofs.Ytkanlbkfbkkknaa
