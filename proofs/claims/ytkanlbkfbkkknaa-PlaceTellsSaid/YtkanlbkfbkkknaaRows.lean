/-
  No cell of these rows narrows 'for every input' (looked for: loops, veiled, ifaces, maps, wideKeys, modest, calm, conditions, laid).
  DERIVED. THE GIVEN ROWS OF THIS SEAT. 7 by the template 'for every input the law returns true; each argument reads behind the call as it read before'; 0 by the template 'total and deterministic' (their statements: YtkanlbkfbkkknaaTotals.lean).
  GIVEN WITH THE SEED: the statements are not yours to turn. If you find one false, say at which input.
  Laid BY PROGRAM, IN A SANDBOX (cutbox-rows.mjs): the forced cells as the released guide's own fill.sh prints them over the translation 416b5051b2298b5d… (all of the seat's roots in one cut). By AI agents, Wed Nov 11 2026. No macro, syntax, notation, axiom, sorry.
-/
import Derived.Test.YtkanlbkfbkkknaaChecked
import GoSem.Claim
import GoSem.ClaimJoined
import GoSem.ClaimMapViews
import Derived.JoinedTies
import Derived.KernelRfl
namespace Go.Proofs.Ytkanlbkfbkkknaa
/- THE CELL 'sum', in the pinned program and in every row, IS THE sha256 OF THE DUMP (.gsa) THAT YtkanlbkfbkkknaaProg.lean LOADS. Nothing in Lean hashes anything: it is a label: what it is worth is what the hold of that sum in a sandbox is worth. -/
noncomputable def Try.pinned : Pinned := { name := "ytkanlbkfbkkknaa", sum := "416b5051b2298b5d80d14390a6d841b5e79131f10d7f8e68f27e795701c768ae", checked := Try.checked }
namespace Rows
def none {H : Type} : Left H := { results := [], args := [] }

/-- 'cooperagelaw09.PlaceMoves': WHATEVER THE INPUT: true; the input reads as it did. -/
def placeMovesSpec : ChangeSpec := { name := "placeMoves", fn := fun _ => fun
  | [d1, d2, d3, d4] => { results := [.lit (.bool true)], args := [d1, d2, d3, d4] }
  | _ => none }
def placeMovesRow : OpenClaim := { program := "ytkanlbkfbkkknaa", sum := "416b5051b2298b5d80d14390a6d841b5e79131f10d7f8e68f27e795701c768ae", func := "cooperage/cooperagelaw09.PlaceMoves", spec := "placeMoves", unfollowed := true, recurses := true, apart := false }
def PlaceMovesSaid : Prop := placeMovesRow.holds Try.pinned (OpenSpec.ofChange placeMovesSpec)

/-- ITS FALSE NEIGHBOUR: 'it returns false'. Refute it at one input. -/
def placeMovesWrong : ChangeSpec := { name := "placeMoves", fn := fun _ => fun
  | [d1, d2, d3, d4] => { results := [.lit (.bool false)], args := [d1, d2, d3, d4] }
  | _ => none }
def PlaceMovesWrongFalsely : Prop := placeMovesRow.holds Try.pinned (OpenSpec.ofChange placeMovesWrong)

/-- 'cooperagelaw09.PlaceShares': WHATEVER THE INPUT: true; the input reads as it did. -/
def placeSharesSpec : ChangeSpec := { name := "placeShares", fn := fun _ => fun
  | [d1, d2, d3, d4] => { results := [.lit (.bool true)], args := [d1, d2, d3, d4] }
  | _ => none }
def placeSharesRow : OpenClaim := { program := "ytkanlbkfbkkknaa", sum := "416b5051b2298b5d80d14390a6d841b5e79131f10d7f8e68f27e795701c768ae", func := "cooperage/cooperagelaw09.PlaceShares", spec := "placeShares", unfollowed := true, recurses := true, apart := false }
def PlaceSharesSaid : Prop := placeSharesRow.holds Try.pinned (OpenSpec.ofChange placeSharesSpec)

/-- ITS FALSE NEIGHBOUR: 'it returns false'. Refute it at one input. -/
def placeSharesWrong : ChangeSpec := { name := "placeShares", fn := fun _ => fun
  | [d1, d2, d3, d4] => { results := [.lit (.bool false)], args := [d1, d2, d3, d4] }
  | _ => none }
def PlaceSharesWrongFalsely : Prop := placeSharesRow.holds Try.pinned (OpenSpec.ofChange placeSharesWrong)

/-- 'cooperagelaw09.PlaceBack': WHATEVER THE INPUT: true; the input reads as it did. -/
def placeBackSpec : ChangeSpec := { name := "placeBack", fn := fun _ => fun
  | [d1, d2, d3, d4] => { results := [.lit (.bool true)], args := [d1, d2, d3, d4] }
  | _ => none }
def placeBackRow : OpenClaim := { program := "ytkanlbkfbkkknaa", sum := "416b5051b2298b5d80d14390a6d841b5e79131f10d7f8e68f27e795701c768ae", func := "cooperage/cooperagelaw09.PlaceBack", spec := "placeBack", unfollowed := true, recurses := true, apart := false }
def PlaceBackSaid : Prop := placeBackRow.holds Try.pinned (OpenSpec.ofChange placeBackSpec)

/-- ITS FALSE NEIGHBOUR: 'it returns false'. Refute it at one input. -/
def placeBackWrong : ChangeSpec := { name := "placeBack", fn := fun _ => fun
  | [d1, d2, d3, d4] => { results := [.lit (.bool false)], args := [d1, d2, d3, d4] }
  | _ => none }
def PlaceBackWrongFalsely : Prop := placeBackRow.holds Try.pinned (OpenSpec.ofChange placeBackWrong)

/-- 'cooperagelaw09.PlaceSpares': WHATEVER THE INPUT: true; the input reads as it did. -/
def placeSparesSpec : ChangeSpec := { name := "placeSpares", fn := fun _ => fun
  | [d1, d2, d3] => { results := [.lit (.bool true)], args := [d1, d2, d3] }
  | _ => none }
def placeSparesRow : OpenClaim := { program := "ytkanlbkfbkkknaa", sum := "416b5051b2298b5d80d14390a6d841b5e79131f10d7f8e68f27e795701c768ae", func := "cooperage/cooperagelaw09.PlaceSpares", spec := "placeSpares", unfollowed := true, recurses := true, apart := false }
def PlaceSparesSaid : Prop := placeSparesRow.holds Try.pinned (OpenSpec.ofChange placeSparesSpec)

/-- ITS FALSE NEIGHBOUR: 'it returns false'. Refute it at one input. -/
def placeSparesWrong : ChangeSpec := { name := "placeSpares", fn := fun _ => fun
  | [d1, d2, d3] => { results := [.lit (.bool false)], args := [d1, d2, d3] }
  | _ => none }
def PlaceSparesWrongFalsely : Prop := placeSparesRow.holds Try.pinned (OpenSpec.ofChange placeSparesWrong)

/-- 'cooperagelaw09.PlaceNumbers': WHATEVER THE INPUT: true; the input reads as it did. -/
def placeNumbersSpec : ChangeSpec := { name := "placeNumbers", fn := fun _ => fun
  | [] => { results := [.lit (.bool true)], args := [] }
  | _ => none }
def placeNumbersRow : OpenClaim := { program := "ytkanlbkfbkkknaa", sum := "416b5051b2298b5d80d14390a6d841b5e79131f10d7f8e68f27e795701c768ae", func := "cooperage/cooperagelaw09.PlaceNumbers", spec := "placeNumbers", unfollowed := true, recurses := true, apart := false }
def PlaceNumbersSaid : Prop := placeNumbersRow.holds Try.pinned (OpenSpec.ofChange placeNumbersSpec)

/-- ITS FALSE NEIGHBOUR: 'it returns false'. Refute it at one input. -/
def placeNumbersWrong : ChangeSpec := { name := "placeNumbers", fn := fun _ => fun
  | [] => { results := [.lit (.bool false)], args := [] }
  | _ => none }
def PlaceNumbersWrongFalsely : Prop := placeNumbersRow.holds Try.pinned (OpenSpec.ofChange placeNumbersWrong)

/-- 'cooperagelaw09.PlaceTells': WHATEVER THE INPUT: true; the input reads as it did. -/
def placeTellsSpec : ChangeSpec := { name := "placeTells", fn := fun _ => fun
  | [d1, d2, d3, d4, d5] => { results := [.lit (.bool true)], args := [d1, d2, d3, d4, d5] }
  | _ => none }
def placeTellsRow : OpenClaim := { program := "ytkanlbkfbkkknaa", sum := "416b5051b2298b5d80d14390a6d841b5e79131f10d7f8e68f27e795701c768ae", func := "cooperage/cooperagelaw09.PlaceTells", spec := "placeTells", unfollowed := true, recurses := true, apart := false }
def PlaceTellsSaid : Prop := placeTellsRow.holds Try.pinned (OpenSpec.ofChange placeTellsSpec)

/-- ITS FALSE NEIGHBOUR: 'it returns false'. Refute it at one input. -/
def placeTellsWrong : ChangeSpec := { name := "placeTells", fn := fun _ => fun
  | [d1, d2, d3, d4, d5] => { results := [.lit (.bool false)], args := [d1, d2, d3, d4, d5] }
  | _ => none }
def PlaceTellsWrongFalsely : Prop := placeTellsRow.holds Try.pinned (OpenSpec.ofChange placeTellsWrong)

/-- 'cooperagelaw09.PlaceBytes': WHATEVER THE INPUT: true; the input reads as it did. -/
def placeBytesSpec : ChangeSpec := { name := "placeBytes", fn := fun _ => fun
  | [d1, d2, d3, d4] => { results := [.lit (.bool true)], args := [d1, d2, d3, d4] }
  | _ => none }
def placeBytesRow : OpenClaim := { program := "ytkanlbkfbkkknaa", sum := "416b5051b2298b5d80d14390a6d841b5e79131f10d7f8e68f27e795701c768ae", func := "cooperage/cooperagelaw09.PlaceBytes", spec := "placeBytes", unfollowed := true, recurses := true, apart := false }
def PlaceBytesSaid : Prop := placeBytesRow.holds Try.pinned (OpenSpec.ofChange placeBytesSpec)

/-- ITS FALSE NEIGHBOUR: 'it returns false'. Refute it at one input. -/
def placeBytesWrong : ChangeSpec := { name := "placeBytes", fn := fun _ => fun
  | [d1, d2, d3, d4] => { results := [.lit (.bool false)], args := [d1, d2, d3, d4] }
  | _ => none }
def PlaceBytesWrongFalsely : Prop := placeBytesRow.holds Try.pinned (OpenSpec.ofChange placeBytesWrong)

/- THE SECOND FORM. 'bulk': how many values and letters a reading holds, each counted each time it is reached (what is shared counts as often as it is met; a slice's spare places count too). A statement '..UptoSaid' is the law's where the arguments, and the package variables that the reading takes, are together of bulk at most 1048576: NARROWER than '..Said'. Prove '..Said' where nothing that the law and all that it calls make is longer than what came in: it says more and counts as full. Else prove '..UptoSaid'. A law counts once. -/
mutual
def uptoBulk {H : Type} : DataW H → Nat
  | .lit (.string bytes) => bytes.length + 1
  | .lit _ => 1
  | .nil => 1
  | .ptr d => uptoBulk d + 1
  | .slice elems spare => uptoBulkAll elems + uptoBulkAll spare + 1
  | .agg parts => uptoBulkAll parts + 1
  | .iface _ d => uptoBulk d + 1
  | .map entries => uptoBulkEntries entries + 1
  | .held _ => 1
def uptoBulkAll {H : Type} : List (DataW H) → Nat
  | [] => 0
  | d :: r => uptoBulk d + uptoBulkAll r
def uptoBulkEntries {H : Type} : List (Lit × DataW H) → Nat
  | [] => 0
  | x :: r => uptoBulkEntry x + uptoBulkEntries r
def uptoBulkEntry {H : Type} : Lit × DataW H → Nat
  | (.string bytes, d) => bytes.length + uptoBulk d + 1
  | (_, d) => uptoBulk d + 1
 end
def uptoSmall : (H : Type) → List (DataW H) → Bool := fun _ ds => decide (uptoBulkAll ds ≤ 1048576)
def OpenSpec.upto (s : _root_.Go.ChangeSpec) : _root_.Go.OpenSpec := { _root_.Go.OpenSpec.ofChange s with cond := some uptoSmall }

/-- 'cooperagelaw09.PlaceMoves', WHERE WHAT IT READS IS OF BULK AT MOST 1048576: true; the input reads as it did. -/
def placeMovesUptoRow : OpenClaim := { program := "ytkanlbkfbkkknaa", sum := "416b5051b2298b5d80d14390a6d841b5e79131f10d7f8e68f27e795701c768ae", func := "cooperage/cooperagelaw09.PlaceMoves", spec := "placeMoves", unfollowed := true, recurses := true, apart := false, narrowed := true }
def PlaceMovesUptoSaid : Prop := placeMovesUptoRow.holds Try.pinned (OpenSpec.upto placeMovesSpec)

/-- 'cooperagelaw09.PlaceShares', WHERE WHAT IT READS IS OF BULK AT MOST 1048576: true; the input reads as it did. -/
def placeSharesUptoRow : OpenClaim := { program := "ytkanlbkfbkkknaa", sum := "416b5051b2298b5d80d14390a6d841b5e79131f10d7f8e68f27e795701c768ae", func := "cooperage/cooperagelaw09.PlaceShares", spec := "placeShares", unfollowed := true, recurses := true, apart := false, narrowed := true }
def PlaceSharesUptoSaid : Prop := placeSharesUptoRow.holds Try.pinned (OpenSpec.upto placeSharesSpec)

/-- 'cooperagelaw09.PlaceBack', WHERE WHAT IT READS IS OF BULK AT MOST 1048576: true; the input reads as it did. -/
def placeBackUptoRow : OpenClaim := { program := "ytkanlbkfbkkknaa", sum := "416b5051b2298b5d80d14390a6d841b5e79131f10d7f8e68f27e795701c768ae", func := "cooperage/cooperagelaw09.PlaceBack", spec := "placeBack", unfollowed := true, recurses := true, apart := false, narrowed := true }
def PlaceBackUptoSaid : Prop := placeBackUptoRow.holds Try.pinned (OpenSpec.upto placeBackSpec)

/-- 'cooperagelaw09.PlaceSpares', WHERE WHAT IT READS IS OF BULK AT MOST 1048576: true; the input reads as it did. -/
def placeSparesUptoRow : OpenClaim := { program := "ytkanlbkfbkkknaa", sum := "416b5051b2298b5d80d14390a6d841b5e79131f10d7f8e68f27e795701c768ae", func := "cooperage/cooperagelaw09.PlaceSpares", spec := "placeSpares", unfollowed := true, recurses := true, apart := false, narrowed := true }
def PlaceSparesUptoSaid : Prop := placeSparesUptoRow.holds Try.pinned (OpenSpec.upto placeSparesSpec)

/-- 'cooperagelaw09.PlaceNumbers', WHERE WHAT IT READS IS OF BULK AT MOST 1048576: true; the input reads as it did. -/
def placeNumbersUptoRow : OpenClaim := { program := "ytkanlbkfbkkknaa", sum := "416b5051b2298b5d80d14390a6d841b5e79131f10d7f8e68f27e795701c768ae", func := "cooperage/cooperagelaw09.PlaceNumbers", spec := "placeNumbers", unfollowed := true, recurses := true, apart := false, narrowed := true }
def PlaceNumbersUptoSaid : Prop := placeNumbersUptoRow.holds Try.pinned (OpenSpec.upto placeNumbersSpec)

/-- 'cooperagelaw09.PlaceTells', WHERE WHAT IT READS IS OF BULK AT MOST 1048576: true; the input reads as it did. -/
def placeTellsUptoRow : OpenClaim := { program := "ytkanlbkfbkkknaa", sum := "416b5051b2298b5d80d14390a6d841b5e79131f10d7f8e68f27e795701c768ae", func := "cooperage/cooperagelaw09.PlaceTells", spec := "placeTells", unfollowed := true, recurses := true, apart := false, narrowed := true }
def PlaceTellsUptoSaid : Prop := placeTellsUptoRow.holds Try.pinned (OpenSpec.upto placeTellsSpec)

/-- 'cooperagelaw09.PlaceBytes', WHERE WHAT IT READS IS OF BULK AT MOST 1048576: true; the input reads as it did. -/
def placeBytesUptoRow : OpenClaim := { program := "ytkanlbkfbkkknaa", sum := "416b5051b2298b5d80d14390a6d841b5e79131f10d7f8e68f27e795701c768ae", func := "cooperage/cooperagelaw09.PlaceBytes", spec := "placeBytes", unfollowed := true, recurses := true, apart := false, narrowed := true }
def PlaceBytesUptoSaid : Prop := placeBytesUptoRow.holds Try.pinned (OpenSpec.upto placeBytesSpec)

end Rows
end Go.Proofs.Ytkanlbkfbkkknaa
