/- ScrubTells' walk, of arguments as they come in. -/
import Derived.Test.YtkclimblcipmlaaScrubTells
import Derived.Test.YtkclimblcipmlaaScOpen
namespace Go.Proofs.Ytkclimblcipmlaa
open Go.ChangeShapes Go.WideShapes Go.ChangeAt Go.RowKit
namespace scrubTells
set_option maxRecDepth 100000 in
theorem walk {H : Type} {enc : TypeId × Value → H} {base : Nat} (w : World) (v0 : Value) (d0 : DataW H) (p0 : List MemPlace) (v1 : Value) (d1 : DataW H) (p1 : List MemPlace) (o0 : Value.okWide Try.prog w .any base 24 v0) (h0 : DataW.Trod enc Try.prog w 0 (fun _ => true) true 24 v0 d0 p0) (o1 : Value.okWide Try.prog w .any base 34 v1) (h1 : DataW.Trod enc Try.prog w 0 (fun _ => true) true 34 v1 d1 p1) :
    Calls Try.prog 4 #[v0, v1] w fun e w' => e = .returned (.bool true) ∧ Ext w w' := by
  obtain ⟨s, A, n, c, B, m, e, rfl, hu, hb⟩ := scrub_open o0 h0
  obtain ⟨A', n', c', op, rfl, ho⟩ := os_open o1 h1
  exact scrubTells_any w s A n c B m e A' n' c' op hu hb ho
end scrubTells
end Go.Proofs.Ytkclimblcipmlaa
