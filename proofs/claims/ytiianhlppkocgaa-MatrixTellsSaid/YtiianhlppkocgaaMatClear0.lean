/- Small words for stores into one block. -/
import Derived.Test.YtiianhlppkocgaaMatMake
namespace Go.Proofs.Ytiianhlppkocgaa
open Go.RowKit

theorem Ext.gb {w w' : World} (hx : Ext w w') (row : Option Nat) : w.grownBy w' row := ⟨hx.os, hx.tape, hx.output, hx.size, fun k hk _ => hx.block k hk⟩
theorem gb_set {w w1 : World} {g : Nat} (h : w.grownBy w1 (some g)) (i : Nat) (u : Value) : w.grownBy (w1.setCell ⟨g, i, none⟩ u) (some g) :=
  ⟨h.os, h.tape, h.output, by simpa using h.size, fun k hk hne => (heap_setCell_other w1 ⟨g, i, none⟩ k u (fun e => hne (by rw [e]))).trans (h.block k hk hne)⟩
theorem grownBy_trans' {a w w' : World} {row : Option Nat} (h : a.grownBy w row) (k : w.grownBy w' row) : a.grownBy w' row :=
  ⟨k.os.trans h.os, k.tape.trans h.tape, k.output.trans h.output, Nat.le_trans h.size k.size, fun i hi hne => (k.block i (Nat.lt_of_lt_of_le hi h.size) hne).trans (h.block i hi hne)⟩
theorem FieldAt.gb {w w' : World} {b : Nat} (h : FieldAt w b) {g : Nat} (hg : w.grownBy w' (some g)) (hne : b ≠ g) : FieldAt w' b :=
  ⟨hg.cell h.made (fun e => hne (by injection e)), fun i hi => hg.cell (h.exp i hi) (fun e => hne (by injection e)), fun x => hg.cell (h.log x) (fun e => hne (by injection e))⟩

end Go.Proofs.Ytiianhlppkocgaa
