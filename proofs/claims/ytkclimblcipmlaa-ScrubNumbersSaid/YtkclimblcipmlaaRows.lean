/-
  No cell of these rows narrows 'for every input' (looked for: loops, veiled, ifaces, maps, wideKeys, modest, calm, conditions, laid).
  DERIVED. THE GIVEN ROWS OF THIS SEAT. 5 by the template 'for every input the law returns true; each argument reads behind the call as it read before'; 0 by the template 'total and deterministic' (their statements: YtkclimblcipmlaaTotals.lean).
  GIVEN WITH THE SEED: the statements are not yours to turn. If you find one false, say at which input.
  Laid BY PROGRAM, IN A SANDBOX (cutbox-rows.mjs): the forced cells as the released guide's own fill.sh prints them over the translation 8327a741ff4d0641… (all of the seat's roots in one cut). By AI agents, Wed Nov 11 2026. No macro, syntax, notation, axiom, sorry.
-/
import Derived.Test.YtkclimblcipmlaaChecked
import GoSem.Claim
import GoSem.ClaimJoined
import GoSem.ClaimMapViews
import Derived.JoinedTies
import Derived.KernelRfl
namespace Go.Proofs.Ytkclimblcipmlaa
/- THE CELL 'sum', in the pinned program and in every row, IS THE sha256 OF THE DUMP (.gsa) THAT YtkclimblcipmlaaProg.lean LOADS. Nothing in Lean hashes anything: it is a label: what it is worth is what the hold of that sum in a sandbox is worth. -/
noncomputable def Try.pinned : Pinned := { name := "ytkclimblcipmlaa", sum := "8327a741ff4d0641ed7632e20aa34f63b8831040b18b1c3f95e4b88004ae96ac", checked := Try.checked }
namespace Rows
def none {H : Type} : Left H := { results := [], args := [] }

/-- 'cooperagelaw16.ScrubNumbers': WHATEVER THE INPUT: true; the input reads as it did. -/
def scrubNumbersSpec : ChangeSpec := { name := "scrubNumbers", fn := fun _ => fun
  | [] => { results := [.lit (.bool true)], args := [] }
  | _ => none }
def scrubNumbersRow : OpenClaim := { program := "ytkclimblcipmlaa", sum := "8327a741ff4d0641ed7632e20aa34f63b8831040b18b1c3f95e4b88004ae96ac", func := "cooperage/cooperagelaw16.ScrubNumbers", spec := "scrubNumbers", unfollowed := true, recurses := true, apart := false }
def ScrubNumbersSaid : Prop := scrubNumbersRow.holds Try.pinned (OpenSpec.ofChange scrubNumbersSpec)

/-- ITS FALSE NEIGHBOUR: 'it returns false'. Refute it at one input. -/
def scrubNumbersWrong : ChangeSpec := { name := "scrubNumbers", fn := fun _ => fun
  | [] => { results := [.lit (.bool false)], args := [] }
  | _ => none }
def ScrubNumbersWrongFalsely : Prop := scrubNumbersRow.holds Try.pinned (OpenSpec.ofChange scrubNumbersWrong)

/-- 'cooperagelaw16.ScrubTells': WHATEVER THE INPUT: true; the input reads as it did. -/
def scrubTellsSpec : ChangeSpec := { name := "scrubTells", fn := fun _ => fun
  | [d1, d2] => { results := [.lit (.bool true)], args := [d1, d2] }
  | _ => none }
def scrubTellsRow : OpenClaim := { program := "ytkclimblcipmlaa", sum := "8327a741ff4d0641ed7632e20aa34f63b8831040b18b1c3f95e4b88004ae96ac", func := "cooperage/cooperagelaw16.ScrubTells", spec := "scrubTells", unfollowed := true, recurses := true, apart := false }
def ScrubTellsSaid : Prop := scrubTellsRow.holds Try.pinned (OpenSpec.ofChange scrubTellsSpec)

/-- ITS FALSE NEIGHBOUR: 'it returns false'. Refute it at one input. -/
def scrubTellsWrong : ChangeSpec := { name := "scrubTells", fn := fun _ => fun
  | [d1, d2] => { results := [.lit (.bool false)], args := [d1, d2] }
  | _ => none }
def ScrubTellsWrongFalsely : Prop := scrubTellsRow.holds Try.pinned (OpenSpec.ofChange scrubTellsWrong)

/-- 'cooperagelaw16.ScrubComes': WHATEVER THE INPUT: true; the input reads as it did. -/
def scrubComesSpec : ChangeSpec := { name := "scrubComes", fn := fun _ => fun
  | [d1, d2, d3] => { results := [.lit (.bool true)], args := [d1, d2, d3] }
  | _ => none }
def scrubComesRow : OpenClaim := { program := "ytkclimblcipmlaa", sum := "8327a741ff4d0641ed7632e20aa34f63b8831040b18b1c3f95e4b88004ae96ac", func := "cooperage/cooperagelaw16.ScrubComes", spec := "scrubComes", unfollowed := true, recurses := true, apart := false }
def ScrubComesSaid : Prop := scrubComesRow.holds Try.pinned (OpenSpec.ofChange scrubComesSpec)

/-- ITS FALSE NEIGHBOUR: 'it returns false'. Refute it at one input. -/
def scrubComesWrong : ChangeSpec := { name := "scrubComes", fn := fun _ => fun
  | [d1, d2, d3] => { results := [.lit (.bool false)], args := [d1, d2, d3] }
  | _ => none }
def ScrubComesWrongFalsely : Prop := scrubComesRow.holds Try.pinned (OpenSpec.ofChange scrubComesWrong)

/-- 'cooperagelaw16.ScrubOnce': WHATEVER THE INPUT: true; the input reads as it did. -/
def scrubOnceSpec : ChangeSpec := { name := "scrubOnce", fn := fun _ => fun
  | [d1, d2] => { results := [.lit (.bool true)], args := [d1, d2] }
  | _ => none }
def scrubOnceRow : OpenClaim := { program := "ytkclimblcipmlaa", sum := "8327a741ff4d0641ed7632e20aa34f63b8831040b18b1c3f95e4b88004ae96ac", func := "cooperage/cooperagelaw16.ScrubOnce", spec := "scrubOnce", unfollowed := true, recurses := true, apart := false }
def ScrubOnceSaid : Prop := scrubOnceRow.holds Try.pinned (OpenSpec.ofChange scrubOnceSpec)

/-- ITS FALSE NEIGHBOUR: 'it returns false'. Refute it at one input. -/
def scrubOnceWrong : ChangeSpec := { name := "scrubOnce", fn := fun _ => fun
  | [d1, d2] => { results := [.lit (.bool false)], args := [d1, d2] }
  | _ => none }
def ScrubOnceWrongFalsely : Prop := scrubOnceRow.holds Try.pinned (OpenSpec.ofChange scrubOnceWrong)

/-- 'cooperagelaw16.ScrubQueue': WHATEVER THE INPUT: true; the input reads as it did. -/
def scrubQueueSpec : ChangeSpec := { name := "scrubQueue", fn := fun _ => fun
  | [d1, d2] => { results := [.lit (.bool true)], args := [d1, d2] }
  | _ => none }
def scrubQueueRow : OpenClaim := { program := "ytkclimblcipmlaa", sum := "8327a741ff4d0641ed7632e20aa34f63b8831040b18b1c3f95e4b88004ae96ac", func := "cooperage/cooperagelaw16.ScrubQueue", spec := "scrubQueue", unfollowed := true, recurses := true, apart := false }
def ScrubQueueSaid : Prop := scrubQueueRow.holds Try.pinned (OpenSpec.ofChange scrubQueueSpec)

/-- ITS FALSE NEIGHBOUR: 'it returns false'. Refute it at one input. -/
def scrubQueueWrong : ChangeSpec := { name := "scrubQueue", fn := fun _ => fun
  | [d1, d2] => { results := [.lit (.bool false)], args := [d1, d2] }
  | _ => none }
def ScrubQueueWrongFalsely : Prop := scrubQueueRow.holds Try.pinned (OpenSpec.ofChange scrubQueueWrong)

/- THE SECOND FORM. 'bulk': how many values and letters a reading holds, each counted each time it is reached (what is shared counts as often as it is met; a slice's spare places count too). A statement '..UptoSaid' is the law's where the arguments, and the package variables that the reading takes, are together of bulk at most 1048576: NARROWER than '..Said'. Prove '..Said' where nothing that the law and all that it calls make is longer than what came in: it says more and counts as full. Else prove '..UptoSaid'. A law counts once. -/
mutual
def uptoBulk {H : Type} : DataW H → Nat
  | .lit (.string bytes) => bytes.length + 1
  | .lit _ => 1
  | .nil => 1
  | .ptr d => uptoBulk d + 1
  | .slice elems spare => uptoBulkAll elems + uptoBulkAll spare + 1
  | .agg parts => uptoBulkAll parts + 1
  | .iface _ d => uptoBulk d + 1
  | .map entries => uptoBulkEntries entries + 1
  | .held _ => 1
def uptoBulkAll {H : Type} : List (DataW H) → Nat
  | [] => 0
  | d :: r => uptoBulk d + uptoBulkAll r
def uptoBulkEntries {H : Type} : List (Lit × DataW H) → Nat
  | [] => 0
  | x :: r => uptoBulkEntry x + uptoBulkEntries r
def uptoBulkEntry {H : Type} : Lit × DataW H → Nat
  | (.string bytes, d) => bytes.length + uptoBulk d + 1
  | (_, d) => uptoBulk d + 1
 end
def uptoSmall : (H : Type) → List (DataW H) → Bool := fun _ ds => decide (uptoBulkAll ds ≤ 1048576)
def OpenSpec.upto (s : _root_.Go.ChangeSpec) : _root_.Go.OpenSpec := { _root_.Go.OpenSpec.ofChange s with cond := some uptoSmall }

/-- 'cooperagelaw16.ScrubNumbers', WHERE WHAT IT READS IS OF BULK AT MOST 1048576: true; the input reads as it did. -/
def scrubNumbersUptoRow : OpenClaim := { program := "ytkclimblcipmlaa", sum := "8327a741ff4d0641ed7632e20aa34f63b8831040b18b1c3f95e4b88004ae96ac", func := "cooperage/cooperagelaw16.ScrubNumbers", spec := "scrubNumbers", unfollowed := true, recurses := true, apart := false, narrowed := true }
def ScrubNumbersUptoSaid : Prop := scrubNumbersUptoRow.holds Try.pinned (OpenSpec.upto scrubNumbersSpec)

/-- 'cooperagelaw16.ScrubTells', WHERE WHAT IT READS IS OF BULK AT MOST 1048576: true; the input reads as it did. -/
def scrubTellsUptoRow : OpenClaim := { program := "ytkclimblcipmlaa", sum := "8327a741ff4d0641ed7632e20aa34f63b8831040b18b1c3f95e4b88004ae96ac", func := "cooperage/cooperagelaw16.ScrubTells", spec := "scrubTells", unfollowed := true, recurses := true, apart := false, narrowed := true }
def ScrubTellsUptoSaid : Prop := scrubTellsUptoRow.holds Try.pinned (OpenSpec.upto scrubTellsSpec)

/-- 'cooperagelaw16.ScrubComes', WHERE WHAT IT READS IS OF BULK AT MOST 1048576: true; the input reads as it did. -/
def scrubComesUptoRow : OpenClaim := { program := "ytkclimblcipmlaa", sum := "8327a741ff4d0641ed7632e20aa34f63b8831040b18b1c3f95e4b88004ae96ac", func := "cooperage/cooperagelaw16.ScrubComes", spec := "scrubComes", unfollowed := true, recurses := true, apart := false, narrowed := true }
def ScrubComesUptoSaid : Prop := scrubComesUptoRow.holds Try.pinned (OpenSpec.upto scrubComesSpec)

/-- 'cooperagelaw16.ScrubOnce', WHERE WHAT IT READS IS OF BULK AT MOST 1048576: true; the input reads as it did. -/
def scrubOnceUptoRow : OpenClaim := { program := "ytkclimblcipmlaa", sum := "8327a741ff4d0641ed7632e20aa34f63b8831040b18b1c3f95e4b88004ae96ac", func := "cooperage/cooperagelaw16.ScrubOnce", spec := "scrubOnce", unfollowed := true, recurses := true, apart := false, narrowed := true }
def ScrubOnceUptoSaid : Prop := scrubOnceUptoRow.holds Try.pinned (OpenSpec.upto scrubOnceSpec)

/-- 'cooperagelaw16.ScrubQueue', WHERE WHAT IT READS IS OF BULK AT MOST 1048576: true; the input reads as it did. -/
def scrubQueueUptoRow : OpenClaim := { program := "ytkclimblcipmlaa", sum := "8327a741ff4d0641ed7632e20aa34f63b8831040b18b1c3f95e4b88004ae96ac", func := "cooperage/cooperagelaw16.ScrubQueue", spec := "scrubQueue", unfollowed := true, recurses := true, apart := false, narrowed := true }
def ScrubQueueUptoSaid : Prop := scrubQueueUptoRow.holds Try.pinned (OpenSpec.upto scrubQueueSpec)

end Rows
end Go.Proofs.Ytkclimblcipmlaa
