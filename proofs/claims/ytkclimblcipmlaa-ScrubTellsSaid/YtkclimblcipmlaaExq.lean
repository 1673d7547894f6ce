/- A drawn region whose calls make memory, walked once: the class of the worlds that have grown. No statement of the seat is proved here. -/
import Derived.Test.YtkclimblcipmlaaMem
namespace Go.Proofs.Ytkclimblcipmlaa
open Go.RowKit

/-- A world that has grown out of another one. -/
structure Ex (w0 : World) where
  w : World
  ext : Ext w0 w
def Ex.one (w0 : World) : Ex w0 := ⟨w0.drew, Ext.drew w0⟩
instance (w0 : World) : Nonempty (Ex w0) := ⟨Ex.one w0⟩
/-- The class. -/
abbrev Gr (w0 w' : World) : Prop := ∃ u : Ex w0, w' = u.w
theorem Ex.call {P : Program} {f : FuncId} {args : Array Value} {w0 : World} {v : Value} (u : Ex w0) (h : Calls P f args u.w fun e w' => e = .returned v ∧ Ext u.w w') :
    Calls P f args u.w fun e w'' => e = .returned v ∧ ∃ u' : Ex w0, w'' = u'.w :=
  h.mono fun _ w' ⟨he, hx⟩ => ⟨he, ⟨⟨w', u.ext.trans hx⟩, rfl⟩⟩
theorem Ex.callSame {P : Program} {f : FuncId} {args : Array Value} {w0 : World} {v : Value} (u : Ex w0) (h : Calls P f args u.w fun e w' => e = .returned v ∧ u.w = w') :
    Calls P f args u.w fun e w'' => e = .returned v ∧ ∃ u' : Ex w0, w'' = u'.w :=
  h.mono fun _ w' ⟨he, hx⟩ => ⟨he, u, hx.symm⟩
theorem Ex.callDr {P : Program} {f : FuncId} {args : Array Value} {w0 : World} {v : Value} (u : Ex w0) (h : Calls P f args u.w fun e w' => e = .returned v ∧ Dr u.w w') :
    Calls P f args u.w fun e w'' => e = .returned v ∧ ∃ u' : Ex w0, w'' = u'.w :=
  h.mono fun _ w' ⟨he, hx⟩ => ⟨he, ⟨⟨w', u.ext.trans hx.ext⟩, rfl⟩⟩
/-- A region whose operations are written out, at the class of the worlds that have grown. -/
theorem wp_region_grow {P : Program} {id : Nat} {Q : Exit → Act → World → Prop} {a : Act} {w : World} {l : List Oper} (hm : P.follows .mixedOrders = true) (hB : Region.lexB .any l.toArray = true)
    (h : wpQuiet P l.toArray (fun w' => ∃ u : Ex w, w' = u.w) (fun a' => ∀ w', (∃ u : Ex w, w' = u.w) → Q .normal a' w') l a) : (Code.region id l.toArray true).wp P Q a w :=
  wp_region_quiet (C := fun w' => ∃ u : Ex w, w' = u.w) hm hB ⟨Ex.one w, rfl⟩ (by simpa using h)
end Go.Proofs.Ytkclimblcipmlaa
