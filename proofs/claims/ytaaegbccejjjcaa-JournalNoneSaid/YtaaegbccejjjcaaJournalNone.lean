/- JournalNone's walk. -/
import Derived.Test.YtaaegbccejjjcaaCt28
import Derived.Test.YtaaegbccejjjcaaCt2
namespace Go.Proofs.Ytaaegbccejjjcaa
open Go.RowKit Go.Maps Go.Sort Go.Shelf

namespace journalNone
set_option maxRecDepth 100000 in
set_option maxHeartbeats 4000000 in
theorem walk (W : World) (A : Option Addr) (n c : Nat) (z : List Int) (hz : IsRow .u8 W A n c z) :
    Calls Try.prog 6 #[.slice A n c] W fun e W' => e = .returned (.bool true) ∧ Ext W W' := by
  obtain ⟨l, hl⟩ := hz.bytes
  have HL := Lib.hid hl
  clear hz hl
  go_enter Try.func6, Try.ntmps6
  try dsimp only [List.append]
  go_wp2_with (fail)
  obtain ⟨g, hg⟩ : ∃ g, W.heap.size = g := ⟨_, rfl⟩
  obtain ⟨w1, hw1⟩ : ∃ w1, W.alloc zjour = w1 := ⟨_, rfl⟩
  have X1 := Lib.hid (show Ext W w1 by rw [← hw1]; exact Ext.alloc _ _)
  have N1 : RowKit.Hid (NoJ w1 (.pointer (some ⟨g, 0, none⟩))) := Lib.hid (.inr ⟨g, rfl, by
    rw [← hw1, ← hg]
    have h0 : (W.alloc zjour).heap[W.heap.size]? = some (.cells #[.pointer none, .int .i64 0, .int .i64 0, .int .i64 0, .int .i64 0, .slice none 0 0, .slice none 0 0, .bool false] 50 (0, 0)) := heap_alloc_new W zjour
    rw [cell_of_row _ _ _ _ _ _ h0]
    rfl⟩)
  unfold zjour at hw1
  rw [hg, hw1]
  clear hw1 hg
  go_loopw [12] (fun s wr => ∃ k : Nat, k ≤ 2 ∧ s = .int .i64 k ∧ wr = w1) (fun s _ => 2 - (intOf s).toNat)
  case atStart => exact ⟨0, by omega, rfl, rfl⟩
  case round =>
    obtain ⟨k, hk, rfl, rfl⟩ := hrel
    have hkk : k = 0 ∨ k = 1 ∨ k = 2 := by omega
    rcases hkk with rfl | rfl | rfl
    · have hs := fun W' (hx : Ext W W') => short_any W' A n c l (HL.out.ext hx)
      have HN : RowKit.Hid (NoJ wr (.pointer none)) := Lib.hid (.inl rfl)
      have h1 := append_no wr _ HN.out A (min n 400) c
      have h2 := point_no wr _ HN.out A (min n 400) c
      have h3 := base_no HN.out
      have h4 := records_no HN.out
      have h5 := room_no HN.out
      have h6 := over_no HN.out
      have hix : (Instr.index 51 (.agg #[.pointer none, .pointer (some ⟨g, 0, none⟩)]) (.int .i64 0)).run Try.prog wr = .ok (.pointer none) wr := by kernel_rfl
      go_wp2_with (fail)
      with_reducible refine (hs wr X1.out).mono ?_
      rintro e w2 ⟨rfl, rfl⟩
      go_wp2_with (fail)
      with_reducible refine h1.mono ?_
      rintro e w2 ⟨rfl, rfl⟩
      go_wp2_with (fail)
      with_reducible refine (hs wr X1.out).mono ?_
      rintro e w2 ⟨rfl, rfl⟩
      go_wp2_with (fail)
      with_reducible refine h2.mono ?_
      rintro e w2 ⟨rfl, rfl⟩
      go_wp2_with (fail)
      with_reducible refine h3.mono ?_
      rintro e w2 ⟨rfl, rfl⟩
      go_wp2_with (fail)
      with_reducible refine h4.mono ?_
      rintro e w2 ⟨rfl, rfl⟩
      go_wp2_with (fail)
      with_reducible refine h5.mono ?_
      rintro e w2 ⟨rfl, rfl⟩
      go_wp2_with (fail)
      with_reducible refine h6.mono ?_
      rintro e w2 ⟨rfl, rfl⟩
      go_wp2_with (fail)
      refine ⟨⟨1, by omega, by go_num, trivial⟩, by simp [intOf]⟩
    · have hs := fun W' (hx : Ext W W') => short_any W' A n c l (HL.out.ext hx)
      have HN : RowKit.Hid (NoJ wr (.pointer (some ⟨g, 0, none⟩))) := Lib.hid N1.out
      have h1 := append_no wr _ HN.out A (min n 400) c
      have h2 := point_no wr _ HN.out A (min n 400) c
      have h3 := base_no HN.out
      have h4 := records_no HN.out
      have h5 := room_no HN.out
      have h6 := over_no HN.out
      have hix : (Instr.index 51 (.agg #[.pointer none, .pointer (some ⟨g, 0, none⟩)]) (.int .i64 1)).run Try.prog wr = .ok (.pointer (some ⟨g, 0, none⟩)) wr := by kernel_rfl
      go_wp2_with (fail)
      with_reducible refine (hs wr X1.out).mono ?_
      rintro e w2 ⟨rfl, rfl⟩
      go_wp2_with (fail)
      with_reducible refine h1.mono ?_
      rintro e w2 ⟨rfl, rfl⟩
      go_wp2_with (fail)
      with_reducible refine (hs wr X1.out).mono ?_
      rintro e w2 ⟨rfl, rfl⟩
      go_wp2_with (fail)
      with_reducible refine h2.mono ?_
      rintro e w2 ⟨rfl, rfl⟩
      go_wp2_with (fail)
      with_reducible refine h3.mono ?_
      rintro e w2 ⟨rfl, rfl⟩
      go_wp2_with (fail)
      with_reducible refine h4.mono ?_
      rintro e w2 ⟨rfl, rfl⟩
      go_wp2_with (fail)
      with_reducible refine h5.mono ?_
      rintro e w2 ⟨rfl, rfl⟩
      go_wp2_with (fail)
      with_reducible refine h6.mono ?_
      rintro e w2 ⟨rfl, rfl⟩
      go_wp2_with (fail)
      refine ⟨⟨2, by omega, by go_num, trivial⟩, by simp [intOf]⟩
    · have ho := open_nil wr
      have ha := awake24 wr
      go_wp2_with (fail)
      with_reducible refine ho.mono ?_
      rintro e w2 ⟨rfl, rfl⟩
      go_wp2_with (fail)
      with_reducible refine ha.mono ?_
      rintro e w2 ⟨rfl, x2⟩
      go_wp2_with (fail)
      go_ret
      exact ⟨rfl, X1.out.trans x2⟩
end journalNone
end Go.Proofs.Ytaaegbccejjjcaa
