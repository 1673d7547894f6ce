/- A disk of sectors, in plain words (chapter 05). No program in sight. -/
import Derived.Test.YtbfbiofndipaaaaGe
namespace Disks

/-- Of each sector what is on the medium, what is in the cache; behind how many operations the power fails (below 0: it does not); is it off? -/
structure D where
  med : List (List UInt8)
  cac : List (Option (List UInt8))
  arm : Int
  down : Bool
/-- Rows of a list of lists; what the cache has at a place. -/
def cget (l : List (Option (List UInt8))) (i : Nat) : Option (List UInt8) := l.getD i none
structure Wf (d : D) : Prop where
  len : d.cac.length = d.med.length
  med : ∀ i, i < d.med.length → (Gm.row d.med i).length = 64
  cac : ∀ i s, cget d.cac i = some s → s.length = 64
  arm : -1 ≤ d.arm
  pos : 1 ≤ d.med.length
  max : d.med.length ≤ 65536
theorem cget_lt {l : List (Option (List UInt8))} {i : Nat} (h : i < l.length) : cget l i = l[i] := by simp [cget, h]
theorem cget_ge {l : List (Option (List UInt8))} {i : Nat} (h : l.length ≤ i) : cget l i = none := by simp [cget, h]
theorem cget_set_eq {l : List (Option (List UInt8))} {i : Nat} (h : i < l.length) (x : Option (List UInt8)) : cget (l.set i x) i = x := by simp [cget, h]
theorem cget_set_ne {l : List (Option (List UInt8))} {i j : Nat} (h : i ≠ j) (x : Option (List UInt8)) : cget (l.set i x) j = cget l j := by
  unfold cget
  rw [List.getD_eq_getElem?_getD, List.getD_eq_getElem?_getD, List.getElem?_set_ne h]
/-- New. -/
def new (n : Nat) : D := ⟨List.replicate n (List.replicate 64 0), List.replicate n none, -1, false⟩
/-- May a sector be asked? -/
def there (d : D) (i : Int) : Int := if d.down then 15 else if i < 0 ∨ (d.med.length : Int) ≤ i then 50 else 0
/-- One operation. -/
def op (d : D) : D := if d.arm = 0 then { d with down := true, arm := -1 } else { d with arm := max (d.arm - 1) (-1) }
def opE (d : D) : Int := if d.arm = 0 then 15 else 0
def writeE (d : D) (i : Int) (b : List UInt8) : Int := if there d i ≠ 0 then there d i else if b.length ≠ 64 then 2 else opE d
def writeD (d : D) (i : Int) (b : List UInt8) : D := if there d i ≠ 0 then d else if b.length ≠ 64 then d else if d.arm = 0 then op d else { op d with cac := d.cac.set i.toNat (some b) }
def sec (d : D) (i : Nat) : List UInt8 := (cget d.cac i).getD (Gm.row d.med i)
def readB (d : D) (i : Int) : List UInt8 := if there d i ≠ 0 then [] else sec d i.toNat
def flushE (d : D) : Int := if there d 0 ≠ 0 then there d 0 else opE d
/-- All that is cached is on the medium. -/
def merged (d : D) : List (List UInt8) := (List.range d.med.length).map (sec d)
def emptied (d : D) : List (Option (List UInt8)) := List.replicate d.med.length none
def flushD (d : D) : D := if there d 0 ≠ 0 then d else if d.arm = 0 then op d else { op d with med := merged d, cac := emptied d }
def turn (s : List UInt8) (at_ : Nat) (t : UInt8) : List UInt8 := s.set at_ (Gf.get s at_ ^^^ t)
def spoilE (d : D) (i at_ : Int) : Int := if i < 0 ∨ (d.med.length : Int) ≤ i then 50 else if at_ < 0 ∨ 64 ≤ at_ then 2 else 0
def spoilD (d : D) (i at_ : Int) (t : UInt8) : D := if spoilE d i at_ ≠ 0 then d else { d with med := d.med.set i.toNat (turn (Gm.row d.med i.toNat) at_.toNat t) }
/-- The sectors below k that are cached, rising. -/
def upto (l : List (Option (List UInt8))) : Nat → List Int
  | 0 => []
  | k + 1 => if (cget l k).isSome then upto l k ++ [(k : Int)] else upto l k
def cached (d : D) : List Int := upto d.cac d.cac.length
def armD (d : D) (n : Int) : D := if d.down then d else { d with arm := max n 0 }
/-- Is the sector i, the k-th that is cached, kept? -/
def kept (keeps : List Bool) (k : Nat) : Bool := keeps.getD k false
/-- The medium behind a crash. -/
def left (d : D) (keeps : List Bool) (i : Nat) : List UInt8 := if kept keeps (upto d.cac i).length then sec d i else Gm.row d.med i
def crashD (d : D) (keeps : List Bool) : D := ⟨(List.range d.med.length).map (left d keeps), emptied d, -1, false⟩
end Disks
