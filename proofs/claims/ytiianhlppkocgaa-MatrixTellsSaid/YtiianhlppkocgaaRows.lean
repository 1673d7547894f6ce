/-
  No cell of these rows narrows 'for every input' (looked for: loops, veiled, ifaces, maps, wideKeys, modest, calm, conditions, laid).
  DERIVED. THE GIVEN ROWS OF THIS SEAT. 7 by the template 'for every input the law returns true; each argument reads behind the call as it read before'; 0 by the template 'total and deterministic' (their statements: YtiianhlppkocgaaTotals.lean).
  GIVEN WITH THE SEED: the statements are not yours to turn. If you find one false, say at which input.
  Laid BY PROGRAM, IN A SANDBOX (cutbox-rows.mjs): the forced cells as the released guide's own fill.sh prints them over the translation 1476817c0e47560a… (all of the seat's roots in one cut). By AI agents, Wed Nov 11 2026. No macro, syntax, notation, axiom, sorry.
-/
import Derived.Test.YtiianhlppkocgaaChecked
import GoSem.Claim
import GoSem.ClaimJoined
import GoSem.ClaimMapViews
import Derived.JoinedTies
import Derived.KernelRfl
namespace Go.Proofs.Ytiianhlppkocgaa
/- THE CELL 'sum', in the pinned program and in every row, IS THE sha256 OF THE DUMP (.gsa) THAT YtiianhlppkocgaaProg.lean LOADS. Nothing in Lean hashes anything: it is a label: what it is worth is what the hold of that sum in a sandbox is worth. -/
noncomputable def Try.pinned : Pinned := { name := "ytiianhlppkocgaa", sum := "1476817c0e47560a8574025d553600995b7c1958b6dfaa6dd2dcf6a34f2bc99c", checked := Try.checked }
namespace Rows
def none {H : Type} : Left H := { results := [], args := [] }

/-- 'cooperagelaw03.MatrixNumbers': WHATEVER THE INPUT: true; the input reads as it did. -/
def matrixNumbersSpec : ChangeSpec := { name := "matrixNumbers", fn := fun _ => fun
  | [] => { results := [.lit (.bool true)], args := [] }
  | _ => none }
def matrixNumbersRow : OpenClaim := { program := "ytiianhlppkocgaa", sum := "1476817c0e47560a8574025d553600995b7c1958b6dfaa6dd2dcf6a34f2bc99c", func := "cooperage/cooperagelaw03.MatrixNumbers", spec := "matrixNumbers", unfollowed := true, recurses := true, apart := false }
def MatrixNumbersSaid : Prop := matrixNumbersRow.holds Try.pinned (OpenSpec.ofChange matrixNumbersSpec)

/-- ITS FALSE NEIGHBOUR: 'it returns false'. Refute it at one input. -/
def matrixNumbersWrong : ChangeSpec := { name := "matrixNumbers", fn := fun _ => fun
  | [] => { results := [.lit (.bool false)], args := [] }
  | _ => none }
def MatrixNumbersWrongFalsely : Prop := matrixNumbersRow.holds Try.pinned (OpenSpec.ofChange matrixNumbersWrong)

/-- 'cooperagelaw03.MatrixTells': WHATEVER THE INPUT: true; the input reads as it did. -/
def matrixTellsSpec : ChangeSpec := { name := "matrixTells", fn := fun _ => fun
  | [d1, d2, d3, d4, d5] => { results := [.lit (.bool true)], args := [d1, d2, d3, d4, d5] }
  | _ => none }
def matrixTellsRow : OpenClaim := { program := "ytiianhlppkocgaa", sum := "1476817c0e47560a8574025d553600995b7c1958b6dfaa6dd2dcf6a34f2bc99c", func := "cooperage/cooperagelaw03.MatrixTells", spec := "matrixTells", unfollowed := true, recurses := true, apart := false }
def MatrixTellsSaid : Prop := matrixTellsRow.holds Try.pinned (OpenSpec.ofChange matrixTellsSpec)

/-- ITS FALSE NEIGHBOUR: 'it returns false'. Refute it at one input. -/
def matrixTellsWrong : ChangeSpec := { name := "matrixTells", fn := fun _ => fun
  | [d1, d2, d3, d4, d5] => { results := [.lit (.bool false)], args := [d1, d2, d3, d4, d5] }
  | _ => none }
def MatrixTellsWrongFalsely : Prop := matrixTellsRow.holds Try.pinned (OpenSpec.ofChange matrixTellsWrong)

/-- 'cooperagelaw03.MatrixCauchy': WHATEVER THE INPUT: true; the input reads as it did. -/
def matrixCauchySpec : ChangeSpec := { name := "matrixCauchy", fn := fun _ => fun
  | [d1, d2, d3, d4] => { results := [.lit (.bool true)], args := [d1, d2, d3, d4] }
  | _ => none }
def matrixCauchyRow : OpenClaim := { program := "ytiianhlppkocgaa", sum := "1476817c0e47560a8574025d553600995b7c1958b6dfaa6dd2dcf6a34f2bc99c", func := "cooperage/cooperagelaw03.MatrixCauchy", spec := "matrixCauchy", unfollowed := true, recurses := true, apart := false }
def MatrixCauchySaid : Prop := matrixCauchyRow.holds Try.pinned (OpenSpec.ofChange matrixCauchySpec)

/-- ITS FALSE NEIGHBOUR: 'it returns false'. Refute it at one input. -/
def matrixCauchyWrong : ChangeSpec := { name := "matrixCauchy", fn := fun _ => fun
  | [d1, d2, d3, d4] => { results := [.lit (.bool false)], args := [d1, d2, d3, d4] }
  | _ => none }
def MatrixCauchyWrongFalsely : Prop := matrixCauchyRow.holds Try.pinned (OpenSpec.ofChange matrixCauchyWrong)

/-- 'cooperagelaw03.MatrixInverse': WHATEVER THE INPUT: true; the input reads as it did. -/
def matrixInverseSpec : ChangeSpec := { name := "matrixInverse", fn := fun _ => fun
  | [d1, d2] => { results := [.lit (.bool true)], args := [d1, d2] }
  | _ => none }
def matrixInverseRow : OpenClaim := { program := "ytiianhlppkocgaa", sum := "1476817c0e47560a8574025d553600995b7c1958b6dfaa6dd2dcf6a34f2bc99c", func := "cooperage/cooperagelaw03.MatrixInverse", spec := "matrixInverse", unfollowed := true, recurses := true, apart := false }
def MatrixInverseSaid : Prop := matrixInverseRow.holds Try.pinned (OpenSpec.ofChange matrixInverseSpec)

/-- ITS FALSE NEIGHBOUR: 'it returns false'. Refute it at one input. -/
def matrixInverseWrong : ChangeSpec := { name := "matrixInverse", fn := fun _ => fun
  | [d1, d2] => { results := [.lit (.bool false)], args := [d1, d2] }
  | _ => none }
def MatrixInverseWrongFalsely : Prop := matrixInverseRow.holds Try.pinned (OpenSpec.ofChange matrixInverseWrong)

/-- 'cooperagelaw03.MatrixProducts': WHATEVER THE INPUT: true; the input reads as it did. -/
def matrixProductsSpec : ChangeSpec := { name := "matrixProducts", fn := fun _ => fun
  | [d1, d2, d3, d4] => { results := [.lit (.bool true)], args := [d1, d2, d3, d4] }
  | _ => none }
def matrixProductsRow : OpenClaim := { program := "ytiianhlppkocgaa", sum := "1476817c0e47560a8574025d553600995b7c1958b6dfaa6dd2dcf6a34f2bc99c", func := "cooperage/cooperagelaw03.MatrixProducts", spec := "matrixProducts", unfollowed := true, recurses := true, apart := false }
def MatrixProductsSaid : Prop := matrixProductsRow.holds Try.pinned (OpenSpec.ofChange matrixProductsSpec)

/-- ITS FALSE NEIGHBOUR: 'it returns false'. Refute it at one input. -/
def matrixProductsWrong : ChangeSpec := { name := "matrixProducts", fn := fun _ => fun
  | [d1, d2, d3, d4] => { results := [.lit (.bool false)], args := [d1, d2, d3, d4] }
  | _ => none }
def MatrixProductsWrongFalsely : Prop := matrixProductsRow.holds Try.pinned (OpenSpec.ofChange matrixProductsWrong)

/-- 'cooperagelaw03.MatrixRows': WHATEVER THE INPUT: true; the input reads as it did. -/
def matrixRowsSpec : ChangeSpec := { name := "matrixRows", fn := fun _ => fun
  | [d1, d2, d3, d4] => { results := [.lit (.bool true)], args := [d1, d2, d3, d4] }
  | _ => none }
def matrixRowsRow : OpenClaim := { program := "ytiianhlppkocgaa", sum := "1476817c0e47560a8574025d553600995b7c1958b6dfaa6dd2dcf6a34f2bc99c", func := "cooperage/cooperagelaw03.MatrixRows", spec := "matrixRows", unfollowed := true, recurses := true, apart := false }
def MatrixRowsSaid : Prop := matrixRowsRow.holds Try.pinned (OpenSpec.ofChange matrixRowsSpec)

/-- ITS FALSE NEIGHBOUR: 'it returns false'. Refute it at one input. -/
def matrixRowsWrong : ChangeSpec := { name := "matrixRows", fn := fun _ => fun
  | [d1, d2, d3, d4] => { results := [.lit (.bool false)], args := [d1, d2, d3, d4] }
  | _ => none }
def MatrixRowsWrongFalsely : Prop := matrixRowsRow.holds Try.pinned (OpenSpec.ofChange matrixRowsWrong)

/-- 'cooperagelaw03.MatrixSpares': WHATEVER THE INPUT: true; the input reads as it did. -/
def matrixSparesSpec : ChangeSpec := { name := "matrixSpares", fn := fun _ => fun
  | [d1, d2] => { results := [.lit (.bool true)], args := [d1, d2] }
  | _ => none }
def matrixSparesRow : OpenClaim := { program := "ytiianhlppkocgaa", sum := "1476817c0e47560a8574025d553600995b7c1958b6dfaa6dd2dcf6a34f2bc99c", func := "cooperage/cooperagelaw03.MatrixSpares", spec := "matrixSpares", unfollowed := true, recurses := true, apart := false }
def MatrixSparesSaid : Prop := matrixSparesRow.holds Try.pinned (OpenSpec.ofChange matrixSparesSpec)

/-- ITS FALSE NEIGHBOUR: 'it returns false'. Refute it at one input. -/
def matrixSparesWrong : ChangeSpec := { name := "matrixSpares", fn := fun _ => fun
  | [d1, d2] => { results := [.lit (.bool false)], args := [d1, d2] }
  | _ => none }
def MatrixSparesWrongFalsely : Prop := matrixSparesRow.holds Try.pinned (OpenSpec.ofChange matrixSparesWrong)

/- THE SECOND FORM. 'bulk': how many values and letters a reading holds, each counted each time it is reached (what is shared counts as often as it is met; a slice's spare places count too). A statement '..UptoSaid' is the law's where the arguments, and the package variables that the reading takes, are together of bulk at most 1048576: NARROWER than '..Said'. Prove '..Said' where nothing that the law and all that it calls make is longer than what came in: it says more and counts as full. Else prove '..UptoSaid'. A law counts once. -/
mutual
def uptoBulk {H : Type} : DataW H → Nat
  | .lit (.string bytes) => bytes.length + 1
  | .lit _ => 1
  | .nil => 1
  | .ptr d => uptoBulk d + 1
  | .slice elems spare => uptoBulkAll elems + uptoBulkAll spare + 1
  | .agg parts => uptoBulkAll parts + 1
  | .iface _ d => uptoBulk d + 1
  | .map entries => uptoBulkEntries entries + 1
  | .held _ => 1
def uptoBulkAll {H : Type} : List (DataW H) → Nat
  | [] => 0
  | d :: r => uptoBulk d + uptoBulkAll r
def uptoBulkEntries {H : Type} : List (Lit × DataW H) → Nat
  | [] => 0
  | x :: r => uptoBulkEntry x + uptoBulkEntries r
def uptoBulkEntry {H : Type} : Lit × DataW H → Nat
  | (.string bytes, d) => bytes.length + uptoBulk d + 1
  | (_, d) => uptoBulk d + 1
 end
def uptoSmall : (H : Type) → List (DataW H) → Bool := fun _ ds => decide (uptoBulkAll ds ≤ 1048576)
def OpenSpec.upto (s : _root_.Go.ChangeSpec) : _root_.Go.OpenSpec := { _root_.Go.OpenSpec.ofChange s with cond := some uptoSmall }

/-- 'cooperagelaw03.MatrixNumbers', WHERE WHAT IT READS IS OF BULK AT MOST 1048576: true; the input reads as it did. -/
def matrixNumbersUptoRow : OpenClaim := { program := "ytiianhlppkocgaa", sum := "1476817c0e47560a8574025d553600995b7c1958b6dfaa6dd2dcf6a34f2bc99c", func := "cooperage/cooperagelaw03.MatrixNumbers", spec := "matrixNumbers", unfollowed := true, recurses := true, apart := false, narrowed := true }
def MatrixNumbersUptoSaid : Prop := matrixNumbersUptoRow.holds Try.pinned (OpenSpec.upto matrixNumbersSpec)

/-- 'cooperagelaw03.MatrixTells', WHERE WHAT IT READS IS OF BULK AT MOST 1048576: true; the input reads as it did. -/
def matrixTellsUptoRow : OpenClaim := { program := "ytiianhlppkocgaa", sum := "1476817c0e47560a8574025d553600995b7c1958b6dfaa6dd2dcf6a34f2bc99c", func := "cooperage/cooperagelaw03.MatrixTells", spec := "matrixTells", unfollowed := true, recurses := true, apart := false, narrowed := true }
def MatrixTellsUptoSaid : Prop := matrixTellsUptoRow.holds Try.pinned (OpenSpec.upto matrixTellsSpec)

/-- 'cooperagelaw03.MatrixCauchy', WHERE WHAT IT READS IS OF BULK AT MOST 1048576: true; the input reads as it did. -/
def matrixCauchyUptoRow : OpenClaim := { program := "ytiianhlppkocgaa", sum := "1476817c0e47560a8574025d553600995b7c1958b6dfaa6dd2dcf6a34f2bc99c", func := "cooperage/cooperagelaw03.MatrixCauchy", spec := "matrixCauchy", unfollowed := true, recurses := true, apart := false, narrowed := true }
def MatrixCauchyUptoSaid : Prop := matrixCauchyUptoRow.holds Try.pinned (OpenSpec.upto matrixCauchySpec)

/-- 'cooperagelaw03.MatrixInverse', WHERE WHAT IT READS IS OF BULK AT MOST 1048576: true; the input reads as it did. -/
def matrixInverseUptoRow : OpenClaim := { program := "ytiianhlppkocgaa", sum := "1476817c0e47560a8574025d553600995b7c1958b6dfaa6dd2dcf6a34f2bc99c", func := "cooperage/cooperagelaw03.MatrixInverse", spec := "matrixInverse", unfollowed := true, recurses := true, apart := false, narrowed := true }
def MatrixInverseUptoSaid : Prop := matrixInverseUptoRow.holds Try.pinned (OpenSpec.upto matrixInverseSpec)

/-- 'cooperagelaw03.MatrixProducts', WHERE WHAT IT READS IS OF BULK AT MOST 1048576: true; the input reads as it did. -/
def matrixProductsUptoRow : OpenClaim := { program := "ytiianhlppkocgaa", sum := "1476817c0e47560a8574025d553600995b7c1958b6dfaa6dd2dcf6a34f2bc99c", func := "cooperage/cooperagelaw03.MatrixProducts", spec := "matrixProducts", unfollowed := true, recurses := true, apart := false, narrowed := true }
def MatrixProductsUptoSaid : Prop := matrixProductsUptoRow.holds Try.pinned (OpenSpec.upto matrixProductsSpec)

/-- 'cooperagelaw03.MatrixRows', WHERE WHAT IT READS IS OF BULK AT MOST 1048576: true; the input reads as it did. -/
def matrixRowsUptoRow : OpenClaim := { program := "ytiianhlppkocgaa", sum := "1476817c0e47560a8574025d553600995b7c1958b6dfaa6dd2dcf6a34f2bc99c", func := "cooperage/cooperagelaw03.MatrixRows", spec := "matrixRows", unfollowed := true, recurses := true, apart := false, narrowed := true }
def MatrixRowsUptoSaid : Prop := matrixRowsUptoRow.holds Try.pinned (OpenSpec.upto matrixRowsSpec)

/-- 'cooperagelaw03.MatrixSpares', WHERE WHAT IT READS IS OF BULK AT MOST 1048576: true; the input reads as it did. -/
def matrixSparesUptoRow : OpenClaim := { program := "ytiianhlppkocgaa", sum := "1476817c0e47560a8574025d553600995b7c1958b6dfaa6dd2dcf6a34f2bc99c", func := "cooperage/cooperagelaw03.MatrixSpares", spec := "matrixSpares", unfollowed := true, recurses := true, apart := false, narrowed := true }
def MatrixSparesUptoSaid : Prop := matrixSparesUptoRow.holds Try.pinned (OpenSpec.upto matrixSparesSpec)

end Rows
end Go.Proofs.Ytiianhlppkocgaa
