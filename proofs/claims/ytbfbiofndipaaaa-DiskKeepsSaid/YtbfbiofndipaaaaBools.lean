/- Slices of bools that came in. No statement of the seat is proved here. -/
import Derived.Test.YtbfbiofndipaaaaOpen
import Derived.Deep.Grids
namespace Go.Proofs.Ytbfbiofndipaaaa
open Go.ChangeShapes Go.WideShapes Go.ChangeAt Go.RowKit

def bget (l : List Bool) (k : Nat) : Bool := l.getD k false
/-- A slice of bools. -/
structure Bls (w : World) (A : Option Addr) (n c : Nat) (l : List Bool) : Prop where
  len : l.length = n
  le : n ≤ c
  max : c ≤ 9223372036854775807
  rd : ∀ k, k < n → ∃ b off, A = some ⟨b, off, none⟩ ∧ w.cell? ⟨b, off + k, none⟩ = some (.bool (bget l k))
theorem Bls.ext {w w' : World} {A : Option Addr} {n c : Nat} {l : List Bool} (h : Bls w A n c l) (hx : Ext w w') : Bls w' A n c l :=
  ⟨h.len, h.le, h.max, fun k hk => by obtain ⟨b, off, e, h1⟩ := h.rd k hk; exact ⟨b, off, e, hx.cell h1⟩⟩
theorem Bls.of_trod {H : Type} {enc : TypeId × Value → H} {W : World} {t e : TypeId} {a : Option Addr} {len cap : Nat} {d : DataW H} {p : List MemPlace} (ht : Try.prog.underlying t = some (.slice e)) (he : Try.prog.underlying e = some .bool) (hc : Try.prog.cellsOf e = 1)
    (h : DataW.Trod enc Try.prog W 0 (fun _ => true) true t (.slice a len cap) d p) : ∃ l, Bls W a len cap l := by
  obtain ⟨fuel, hf⟩ := h
  rcases Go.Deep.open_bools ht he hc hf with ⟨hcs, _⟩ | ⟨x, l, c, B, hcs, _, hl, hm, _, hcell⟩
  · simp [Value.cells] at hcs
    obtain ⟨rfl, rfl, rfl⟩ := hcs
    exact ⟨[], rfl, Nat.le_refl _, by omega, fun k hk => absurd hk (Nat.not_lt_zero _)⟩
  · simp [Value.cells] at hcs
    obtain ⟨rfl, rfl, rfl⟩ := hcs
    refine ⟨(List.range len).map B, by simp, hl, by unfold maxLen at hm; omega, fun k hk => ?_⟩
    have h0 := hcell 0 (by omega)
    have e := cells_spot h0
    obtain ⟨b, off, sp⟩ := x
    have e' : sp = none := by injection e
    subst e'
    refine ⟨b, off, rfl, ?_⟩
    have := hcell k (by omega)
    rw [addr_add] at this
    rw [this]
    simp [bget, hk]
end Go.Proofs.Ytbfbiofndipaaaa
