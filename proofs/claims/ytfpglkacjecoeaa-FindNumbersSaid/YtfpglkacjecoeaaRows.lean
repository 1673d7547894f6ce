/-
  No cell of these rows narrows 'for every input' (looked for: loops, veiled, ifaces, maps, wideKeys, modest, calm, conditions, laid).
  DERIVED. THE GIVEN ROWS OF THIS SEAT. 5 by the template 'for every input the law returns true; each argument reads behind the call as it read before'; 0 by the template 'total and deterministic' (their statements: YtfpglkacjecoeaaTotals.lean).
  GIVEN WITH THE SEED: the statements are not yours to turn. If you find one false, say at which input.
  Laid BY PROGRAM, IN A SANDBOX (cutbox-rows.mjs): the forced cells as the released guide's own fill.sh prints them over the translation 950c3a671beb8625… (all of the seat's roots in one cut). By AI agents, Wed Nov 11 2026. No macro, syntax, notation, axiom, sorry.
-/
import Derived.Test.YtfpglkacjecoeaaChecked
import GoSem.Claim
import GoSem.ClaimJoined
import GoSem.ClaimMapViews
import Derived.JoinedTies
import Derived.KernelRfl
namespace Go.Proofs.Ytfpglkacjecoeaa
/- THE CELL 'sum', in the pinned program and in every row, IS THE sha256 OF THE DUMP (.gsa) THAT YtfpglkacjecoeaaProg.lean LOADS. Nothing in Lean hashes anything: it is a label: what it is worth is what the hold of that sum in a sandbox is worth. -/
noncomputable def Try.pinned : Pinned := { name := "ytfpglkacjecoeaa", sum := "950c3a671beb8625013236be68ce7c5326b6045f802ac9a9814d22f03859d676", checked := Try.checked }
namespace Rows
def none {H : Type} : Left H := { results := [], args := [] }

/-- 'cooperagelaw13.FindNumbers': WHATEVER THE INPUT: true; the input reads as it did. -/
def findNumbersSpec : ChangeSpec := { name := "findNumbers", fn := fun _ => fun
  | [] => { results := [.lit (.bool true)], args := [] }
  | _ => none }
def findNumbersRow : OpenClaim := { program := "ytfpglkacjecoeaa", sum := "950c3a671beb8625013236be68ce7c5326b6045f802ac9a9814d22f03859d676", func := "cooperage/cooperagelaw13.FindNumbers", spec := "findNumbers", unfollowed := true, recurses := true, apart := false }
def FindNumbersSaid : Prop := findNumbersRow.holds Try.pinned (OpenSpec.ofChange findNumbersSpec)

/-- ITS FALSE NEIGHBOUR: 'it returns false'. Refute it at one input. -/
def findNumbersWrong : ChangeSpec := { name := "findNumbers", fn := fun _ => fun
  | [] => { results := [.lit (.bool false)], args := [] }
  | _ => none }
def FindNumbersWrongFalsely : Prop := findNumbersRow.holds Try.pinned (OpenSpec.ofChange findNumbersWrong)

/-- 'cooperagelaw13.FindEnds': WHATEVER THE INPUT: true; the input reads as it did. -/
def findEndsSpec : ChangeSpec := { name := "findEnds", fn := fun _ => fun
  | [d1, d2, d3, d4] => { results := [.lit (.bool true)], args := [d1, d2, d3, d4] }
  | _ => none }
def findEndsRow : OpenClaim := { program := "ytfpglkacjecoeaa", sum := "950c3a671beb8625013236be68ce7c5326b6045f802ac9a9814d22f03859d676", func := "cooperage/cooperagelaw13.FindEnds", spec := "findEnds", unfollowed := true, recurses := true, apart := false }
def FindEndsSaid : Prop := findEndsRow.holds Try.pinned (OpenSpec.ofChange findEndsSpec)

/-- ITS FALSE NEIGHBOUR: 'it returns false'. Refute it at one input. -/
def findEndsWrong : ChangeSpec := { name := "findEnds", fn := fun _ => fun
  | [d1, d2, d3, d4] => { results := [.lit (.bool false)], args := [d1, d2, d3, d4] }
  | _ => none }
def FindEndsWrongFalsely : Prop := findEndsRow.holds Try.pinned (OpenSpec.ofChange findEndsWrong)

/-- 'cooperagelaw13.FindLacks': WHATEVER THE INPUT: true; the input reads as it did. -/
def findLacksSpec : ChangeSpec := { name := "findLacks", fn := fun _ => fun
  | [d1, d2, d3] => { results := [.lit (.bool true)], args := [d1, d2, d3] }
  | _ => none }
def findLacksRow : OpenClaim := { program := "ytfpglkacjecoeaa", sum := "950c3a671beb8625013236be68ce7c5326b6045f802ac9a9814d22f03859d676", func := "cooperage/cooperagelaw13.FindLacks", spec := "findLacks", unfollowed := true, recurses := true, apart := false }
def FindLacksSaid : Prop := findLacksRow.holds Try.pinned (OpenSpec.ofChange findLacksSpec)

/-- ITS FALSE NEIGHBOUR: 'it returns false'. Refute it at one input. -/
def findLacksWrong : ChangeSpec := { name := "findLacks", fn := fun _ => fun
  | [d1, d2, d3] => { results := [.lit (.bool false)], args := [d1, d2, d3] }
  | _ => none }
def FindLacksWrongFalsely : Prop := findLacksRow.holds Try.pinned (OpenSpec.ofChange findLacksWrong)

/-- 'cooperagelaw13.FindSpares': WHATEVER THE INPUT: true; the input reads as it did. -/
def findSparesSpec : ChangeSpec := { name := "findSpares", fn := fun _ => fun
  | [d] => { results := [.lit (.bool true)], args := [d] }
  | _ => none }
def findSparesRow : OpenClaim := { program := "ytfpglkacjecoeaa", sum := "950c3a671beb8625013236be68ce7c5326b6045f802ac9a9814d22f03859d676", func := "cooperage/cooperagelaw13.FindSpares", spec := "findSpares", unfollowed := true, recurses := true, apart := false }
def FindSparesSaid : Prop := findSparesRow.holds Try.pinned (OpenSpec.ofChange findSparesSpec)

/-- ITS FALSE NEIGHBOUR: 'it returns false'. Refute it at one input. -/
def findSparesWrong : ChangeSpec := { name := "findSpares", fn := fun _ => fun
  | [d] => { results := [.lit (.bool false)], args := [d] }
  | _ => none }
def FindSparesWrongFalsely : Prop := findSparesRow.holds Try.pinned (OpenSpec.ofChange findSparesWrong)

/-- 'cooperagelaw13.FindAny': WHATEVER THE INPUT: true; the input reads as it did. -/
def findAnySpec : ChangeSpec := { name := "findAny", fn := fun _ => fun
  | [d1, d2, d3] => { results := [.lit (.bool true)], args := [d1, d2, d3] }
  | _ => none }
def findAnyRow : OpenClaim := { program := "ytfpglkacjecoeaa", sum := "950c3a671beb8625013236be68ce7c5326b6045f802ac9a9814d22f03859d676", func := "cooperage/cooperagelaw13.FindAny", spec := "findAny", unfollowed := true, recurses := true, apart := false }
def FindAnySaid : Prop := findAnyRow.holds Try.pinned (OpenSpec.ofChange findAnySpec)

/-- ITS FALSE NEIGHBOUR: 'it returns false'. Refute it at one input. -/
def findAnyWrong : ChangeSpec := { name := "findAny", fn := fun _ => fun
  | [d1, d2, d3] => { results := [.lit (.bool false)], args := [d1, d2, d3] }
  | _ => none }
def FindAnyWrongFalsely : Prop := findAnyRow.holds Try.pinned (OpenSpec.ofChange findAnyWrong)

/- THE SECOND FORM. 'bulk': how many values and letters a reading holds, each counted each time it is reached (what is shared counts as often as it is met; a slice's spare places count too). A statement '..UptoSaid' is the law's where the arguments, and the package variables that the reading takes, are together of bulk at most 1048576: NARROWER than '..Said'. Prove '..Said' where nothing that the law and all that it calls make is longer than what came in: it says more and counts as full. Else prove '..UptoSaid'. A law counts once. -/
mutual
def uptoBulk {H : Type} : DataW H → Nat
  | .lit (.string bytes) => bytes.length + 1
  | .lit _ => 1
  | .nil => 1
  | .ptr d => uptoBulk d + 1
  | .slice elems spare => uptoBulkAll elems + uptoBulkAll spare + 1
  | .agg parts => uptoBulkAll parts + 1
  | .iface _ d => uptoBulk d + 1
  | .map entries => uptoBulkEntries entries + 1
  | .held _ => 1
def uptoBulkAll {H : Type} : List (DataW H) → Nat
  | [] => 0
  | d :: r => uptoBulk d + uptoBulkAll r
def uptoBulkEntries {H : Type} : List (Lit × DataW H) → Nat
  | [] => 0
  | x :: r => uptoBulkEntry x + uptoBulkEntries r
def uptoBulkEntry {H : Type} : Lit × DataW H → Nat
  | (.string bytes, d) => bytes.length + uptoBulk d + 1
  | (_, d) => uptoBulk d + 1
 end
def uptoSmall : (H : Type) → List (DataW H) → Bool := fun _ ds => decide (uptoBulkAll ds ≤ 1048576)
def OpenSpec.upto (s : _root_.Go.ChangeSpec) : _root_.Go.OpenSpec := { _root_.Go.OpenSpec.ofChange s with cond := some uptoSmall }

/-- 'cooperagelaw13.FindNumbers', WHERE WHAT IT READS IS OF BULK AT MOST 1048576: true; the input reads as it did. -/
def findNumbersUptoRow : OpenClaim := { program := "ytfpglkacjecoeaa", sum := "950c3a671beb8625013236be68ce7c5326b6045f802ac9a9814d22f03859d676", func := "cooperage/cooperagelaw13.FindNumbers", spec := "findNumbers", unfollowed := true, recurses := true, apart := false, narrowed := true }
def FindNumbersUptoSaid : Prop := findNumbersUptoRow.holds Try.pinned (OpenSpec.upto findNumbersSpec)

/-- 'cooperagelaw13.FindEnds', WHERE WHAT IT READS IS OF BULK AT MOST 1048576: true; the input reads as it did. -/
def findEndsUptoRow : OpenClaim := { program := "ytfpglkacjecoeaa", sum := "950c3a671beb8625013236be68ce7c5326b6045f802ac9a9814d22f03859d676", func := "cooperage/cooperagelaw13.FindEnds", spec := "findEnds", unfollowed := true, recurses := true, apart := false, narrowed := true }
def FindEndsUptoSaid : Prop := findEndsUptoRow.holds Try.pinned (OpenSpec.upto findEndsSpec)

/-- 'cooperagelaw13.FindLacks', WHERE WHAT IT READS IS OF BULK AT MOST 1048576: true; the input reads as it did. -/
def findLacksUptoRow : OpenClaim := { program := "ytfpglkacjecoeaa", sum := "950c3a671beb8625013236be68ce7c5326b6045f802ac9a9814d22f03859d676", func := "cooperage/cooperagelaw13.FindLacks", spec := "findLacks", unfollowed := true, recurses := true, apart := false, narrowed := true }
def FindLacksUptoSaid : Prop := findLacksUptoRow.holds Try.pinned (OpenSpec.upto findLacksSpec)

/-- 'cooperagelaw13.FindSpares', WHERE WHAT IT READS IS OF BULK AT MOST 1048576: true; the input reads as it did. -/
def findSparesUptoRow : OpenClaim := { program := "ytfpglkacjecoeaa", sum := "950c3a671beb8625013236be68ce7c5326b6045f802ac9a9814d22f03859d676", func := "cooperage/cooperagelaw13.FindSpares", spec := "findSpares", unfollowed := true, recurses := true, apart := false, narrowed := true }
def FindSparesUptoSaid : Prop := findSparesUptoRow.holds Try.pinned (OpenSpec.upto findSparesSpec)

/-- 'cooperagelaw13.FindAny', WHERE WHAT IT READS IS OF BULK AT MOST 1048576: true; the input reads as it did. -/
def findAnyUptoRow : OpenClaim := { program := "ytfpglkacjecoeaa", sum := "950c3a671beb8625013236be68ce7c5326b6045f802ac9a9814d22f03859d676", func := "cooperage/cooperagelaw13.FindAny", spec := "findAny", unfollowed := true, recurses := true, apart := false, narrowed := true }
def FindAnyUptoSaid : Prop := findAnyUptoRow.holds Try.pinned (OpenSpec.upto findAnySpec)

end Rows
end Go.Proofs.Ytfpglkacjecoeaa
