/- A code that New did not make: what its calls answer. -/
import Derived.Test.YtfpcldkfmcnjkaaCodeBox
namespace Go.Proofs.Ytfpcldkfmcnjkaa
open Go.RowKit

/-- What is no code that New made: none, or one without a field. -/
def NoCode (w : World) (p : Value) : Prop := p = .pointer none ∨ ∃ b, p = .pointer (some ⟨b, 0, none⟩) ∧ w.cell? ⟨b, 0, none⟩ = some (.pointer none)
theorem NoCode.ext {w w' : World} {p : Value} (h : NoCode w p) (hx : Ext w w') : NoCode w' p := by
  rcases h with h | ⟨b, h, hc⟩
  · exact .inl h
  · exact .inr ⟨b, h, hx.cell hc⟩
theorem noc_made_nil (w : World) : Calls Try.prog 43 #[.pointer none] w fun e w' => e = .returned (.bool false) ∧ w = w' := by
  go_enter Try.func43, Try.ntmps43
  go_wp2
  go_ret
  exact ⟨rfl, rfl⟩
theorem noc_made (w : World) (p : Value) (h : NoCode w p) : Calls Try.prog 43 #[p] w fun e w' => e = .returned (.bool false) ∧ w = w' := by
  rcases h with rfl | ⟨b, rfl, hc⟩
  · exact noc_made_nil w
  · go_enter Try.func43, Try.ntmps43
    go_wp2
    go_ret
    exact ⟨rfl, rfl⟩
theorem noc_need (w : World) (p : Value) (h : NoCode w p) : Calls Try.prog 20 #[p] w fun e w' => e = .returned (.int .i64 0) ∧ w = w' := by
  go_enter Try.func20, Try.ntmps20
  go_wp2_with (fail)
  refine (noc_made _ _ h).mono ?_
  rintro e w' ⟨rfl, rfl⟩
  go_wp2_with (fail)
  go_ret
  exact ⟨rfl, rfl⟩
theorem noc_all (w : World) (p : Value) (h : NoCode w p) : Calls Try.prog 14 #[p] w fun e w' => e = .returned (.int .i64 0) ∧ w = w' := by
  go_enter Try.func14, Try.ntmps14
  go_wp2_with (fail)
  refine (noc_made _ _ h).mono ?_
  rintro e w' ⟨rfl, rfl⟩
  go_wp2_with (fail)
  go_ret
  exact ⟨rfl, rfl⟩
theorem noc_matrix (w : World) (p : Value) (h : NoCode w p) : Calls Try.prog 35 #[p] w fun e w' => e = .returned (.slice none 0 0) ∧ w = w' := by
  go_enter Try.func35, Try.ntmps35
  go_wp2_with (fail)
  refine (noc_made _ _ h).mono ?_
  rintro e w' ⟨rfl, rfl⟩
  go_wp2_with (fail)
  go_ret
  exact ⟨rfl, rfl⟩
theorem noc_encode (w : World) (p v : Value) (h : NoCode w p) : Calls Try.prog 13 #[p, v] w fun e w' => e = .returned (.tuple #[.slice none 0 0, .int .i64 1]) ∧ w = w' := by
  go_enter Try.func13, Try.ntmps13
  go_wp2_with (fail)
  refine (noc_made _ _ h).mono ?_
  rintro e w' ⟨rfl, rfl⟩
  go_wp2_with (fail)
  go_ret2
  exact ⟨rfl, rfl⟩
theorem noc_decode (w : World) (p u v : Value) (h : NoCode w p) : Calls Try.prog 21 #[p, u, v] w fun e w' => e = .returned (.tuple #[.slice none 0 0, .int .i64 1]) ∧ w = w' := by
  go_enter Try.func21, Try.ntmps21
  go_wp2_with (fail)
  refine (noc_made _ _ h).mono ?_
  rintro e w' ⟨rfl, rfl⟩
  go_wp2_with (fail)
  go_ret2
  exact ⟨rfl, rfl⟩
theorem noc_rebuild (w : World) (p u v : Value) (i : Int) (h : NoCode w p) : Calls Try.prog 26 #[p, u, v, .int .i64 i] w fun e w' => e = .returned (.tuple #[.slice none 0 0, .int .i64 1]) ∧ w = w' := by
  go_enter Try.func26, Try.ntmps26
  go_wp2_with (fail)
  refine (noc_decode _ _ _ _ h).mono ?_
  rintro e w' ⟨rfl, rfl⟩
  go_wp2_with (fail)
  go_ret2
  exact ⟨rfl, rfl⟩
theorem noc_split (w : World) (p v : Value) (i : Int) (h : NoCode w p) : Calls Try.prog 27 #[p, v, .int .i64 i] w fun e w' => e = .returned (.tuple #[.slice none 0 0, .int .i64 1]) ∧ w = w' := by
  go_enter Try.func27, Try.ntmps27
  try dsimp only [List.append]
  go_wp2_with (fail)
  refine (noc_made _ _ h).mono ?_
  rintro e w' ⟨rfl, rfl⟩
  go_wp2_with (fail)
  go_ret2
  exact ⟨rfl, rfl⟩
theorem noc_join (w : World) (p v : Value) (i : Int) (ho : p.oneCell' = true) (h : NoCode w p) : Calls Try.prog 28 #[p, v, .int .i64 i] w fun e w' => e = .returned (.tuple #[.slice none 0 0, .int .i64 1]) ∧ Ext w w' := by
  have hx : Ext w (w.alloc (.cells #[p] 27)) := Ext.alloc _ _
  have hcb : (w.alloc (.cells #[p] 27)).cell? ⟨w.heap.size, 0, none⟩ = some p := by rw [World.cell?_alloc_new]; rfl
  have H := Lib.hid (noc_made _ _ (h.ext hx))
  rcases h with rfl | ⟨b, rfl, hc⟩
  · go_enter Try.func28, Try.ntmps28
    go_wp2_with (fail)
    refine H.out.mono ?_
    rintro e w' ⟨rfl, rfl⟩
    go_wp2_with (fail)
    go_ret2
    exact ⟨rfl, hx⟩
  · clear hc
    go_enter Try.func28, Try.ntmps28
    go_wp2_with (fail)
    refine H.out.mono ?_
    rintro e w' ⟨rfl, rfl⟩
    go_wp2_with (fail)
    go_ret2
    exact ⟨rfl, hx⟩
theorem noc_fits (w : World) (p v : Value) (h : NoCode w p) : Calls Try.prog 23 #[p, v] w fun e w' => e = .returned (.bool false) ∧ w = w' := by
  go_enter Try.func23, Try.ntmps23
  go_wp2_with (fail)
  refine (noc_made _ _ h).mono ?_
  rintro e w' ⟨rfl, rfl⟩
  go_wp2_with (fail)
  go_ret
  exact ⟨rfl, rfl⟩
end Go.Proofs.Ytfpcldkfmcnjkaa
