/- A field that New did not make: what Cauchy, Mul, Invert and Rank answer with it. -/
import Derived.Test.YtiianhlppkocgaaMatFunc
namespace Go.Proofs.Ytiianhlppkocgaa
open Go.RowKit

/-- What is no field that New made: none, or one that is not marked. -/
def NoField (w : World) (p : Value) : Prop := p = .pointer none ∨ ∃ b, p = .pointer (some ⟨b, 0, none⟩) ∧ w.cell? ⟨b, 0, none⟩ = some (.bool false)
theorem NoField.ext {w w' : World} {p : Value} (h : NoField w p) (hx : Ext w w') : NoField w' p := by
  rcases h with h | ⟨b, h, hc⟩
  · exact .inl h
  · exact .inr ⟨b, h, hx.cell hc⟩
theorem nof_is_nil (w : World) : Calls Try.prog 52 #[.pointer none] w fun e w' => e = .returned (.bool false) ∧ w = w' := by
  go_enter Try.func52, Try.ntmps52
  go_wp2
  go_ret
  exact ⟨rfl, rfl⟩
theorem nof_is (w : World) (p : Value) (h : NoField w p) : Calls Try.prog 52 #[p] w fun e w' => e = .returned (.bool false) ∧ w = w' := by
  rcases h with rfl | ⟨b, rfl, hc⟩
  · exact nof_is_nil w
  · go_enter Try.func52, Try.ntmps52
    go_wp2
    go_ret
    exact ⟨rfl, rfl⟩
theorem nof_add (w : World) (p : Value) (x y : Int) (h : NoField w p) : Calls Try.prog 36 #[p, .int .u8 x, .int .u8 y] w fun e w' => e = .returned (.int .u8 0) ∧ w = w' := by
  go_enter Try.func36, Try.ntmps36
  go_wp2_with (go_at_call 52; refine (nof_is _ _ h).mono ?_; rintro e w' ⟨rfl, rfl⟩)
  go_ret
  exact ⟨rfl, rfl⟩
theorem nof_none (w : World) (p : Value) (h : NoField w p) : Calls Try.prog 34 #[p] w fun e w' => e = .returned (.bool true) ∧ w = w' := by
  go_enter Try.func34, Try.ntmps34
  go_wp2_with (fail)
  refine (nof_add _ _ 0 1 h).mono ?_
  rintro e w' ⟨rfl, rfl⟩
  go_wp2_with (fail)
  go_ret
  exact ⟨rfl, rfl⟩
theorem nof_cauchy (w : World) (p : Value) (r c : Int) (h : NoField w p) : Calls Try.prog 13 #[p, .int .i64 r, .int .i64 c] w fun e w' => e = .returned (.tuple #[.slice none 0 0, .int .i64 1]) ∧ w = w' := by
  go_enter Try.func13, Try.ntmps13
  go_wp2_with (fail)
  refine (nof_none _ _ h).mono ?_
  rintro e w' ⟨rfl, rfl⟩
  go_wp2_with (fail)
  go_ret2
  exact ⟨rfl, rfl⟩
theorem nof_mul (w : World) (p a b : Value) (h : NoField w p) : Calls Try.prog 14 #[p, a, b] w fun e w' => e = .returned (.tuple #[.slice none 0 0, .int .i64 1]) ∧ w = w' := by
  go_enter Try.func14, Try.ntmps14
  go_wp2_with (fail)
  refine (nof_none _ _ h).mono ?_
  rintro e w' ⟨rfl, rfl⟩
  go_wp2_with (fail)
  go_ret2
  exact ⟨rfl, rfl⟩
theorem nof_invert (w : World) (p a : Value) (h : NoField w p) : Calls Try.prog 15 #[p, a] w fun e w' => e = .returned (.tuple #[.slice none 0 0, .int .i64 1]) ∧ w = w' := by
  go_enter Try.func15, Try.ntmps15
  go_wp2_with (fail)
  refine (nof_none _ _ h).mono ?_
  rintro e w' ⟨rfl, rfl⟩
  go_wp2_with (fail)
  go_ret2
  exact ⟨rfl, rfl⟩
theorem nof_rank (w : World) (p a : Value) (h : NoField w p) : Calls Try.prog 17 #[p, a] w fun e w' => e = .returned (.int .i64 0) ∧ w = w' := by
  go_enter Try.func17, Try.ntmps17
  go_wp2_with (fail)
  refine (nof_none _ _ h).mono ?_
  rintro e w' ⟨rfl, rfl⟩
  go_wp2_with (fail)
  go_ret
  exact ⟨rfl, rfl⟩
def nofield : Array Value := (.bool false :: (List.replicate 510 (Value.int .u8 0) ++ List.replicate 256 (Value.int .i64 0))).toArray
theorem run_build_nofield (w : World) : (Instr.build 42 #[]).run Try.prog w = .ok (.agg nofield) w := by kernel_rfl
set_option maxRecDepth 100000 in
theorem nofield_at (w : World) (t : TypeId) {g : Nat} (hg : w.heap.size = g) : NoField (w.alloc (.cells nofield t)) (.pointer (some ⟨g, 0, none⟩)) := by
  subst hg
  refine .inr ⟨_, rfl, ?_⟩
  rw [World.cell?_alloc_new]
  rfl
end Go.Proofs.Ytiianhlppkocgaa
