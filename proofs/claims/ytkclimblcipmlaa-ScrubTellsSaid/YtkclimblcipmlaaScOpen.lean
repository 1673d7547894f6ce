/- A scrubbing that came in as an argument. -/
import Derived.Test.YtkclimblcipmlaaScOps
import Derived.Test.YtkclimblcipmlaaScBox
namespace Go.Proofs.Ytkclimblcipmlaa
open Go.ChangeShapes Go.WideShapes Go.ChangeAt Go.RowKit

set_option maxRecDepth 100000 in
theorem scrub_open {H : Type} {enc : TypeId × Value → H} {W : World} {r : Reach} {b0 : Nat} {v : Value} {d : DataW H} {p : List MemPlace} (hv : Value.okWide Try.prog W r b0 24 v) (h : DataW.Trod enc Try.prog W 0 (fun _ => true) true 24 v d p) :
    ∃ (s : Scrubs.S) (A : Option Addr) (n c : Nat) (B : Option Addr) (m e : Nat), v = sval s.cur s.queue (.slice A n c) (.slice B m e) ∧ Is W A n c s.urged ∧ Is W B m e s.busy := by
  obtain ⟨cs, rfl, hsz⟩ := okWide_struct Try.underlying24 hv
  obtain ⟨l⟩ := cs
  match l, hsz.trans (show Try.prog.cellsOf 24 = 4 by kernel_rfl) with
  | [c0, c1, c2, c3], _ =>
    obtain ⟨fuel, hf⟩ := h
    obtain ⟨xs, n, _, hx, _, hlen, hg⟩ := DataW.trod_struct Try.underlying24 hf
    have fld : ∀ (i : Nat) (f : Field) (c : Value), f.offset = i → Try.prog.cellsOf f.type = 1 → ([c0, c1, c2, c3] : List Value)[i]? = some c → DataW.trod enc Try.prog W 0 (fun _ => true) true n f.type ((([c0, c1, c2, c3] : List Value).drop f.offset).take (Try.prog.cellsOf f.type)) = xs[i]? → i < 4 → ∃ y, DataW.trod enc Try.prog W 0 (fun _ => true) true n f.type [c] = some y := by
      intro i f c ho hc hi hy h5
      have hx5 : xs.length = 4 := hlen
      rw [List.getElem?_eq_getElem (by omega), ho, hc] at hy
      have hl : i < ([c0, c1, c2, c3] : List Value).length := h5
      rw [List.drop_eq_getElem_cons hl] at hy
      rw [List.getElem?_eq_getElem hl] at hi
      injection hi with hi
      rw [hi] at hy
      exact ⟨_, hy⟩
    obtain ⟨y0, k0⟩ := fld 0 _ c0 rfl (by kernel_rfl) rfl (hg 0 _ rfl) (by omega)
    obtain ⟨y1, k1⟩ := fld 1 _ c1 rfl (by kernel_rfl) rfl (hg 1 _ rfl) (by omega)
    obtain ⟨y2, k2⟩ := fld 2 _ c2 rfl (by kernel_rfl) rfl (hg 2 _ rfl) (by omega)
    obtain ⟨y3, k3⟩ := fld 3 _ c3 rfl (by kernel_rfl) rfl (hg 3 _ rfl) (by omega)
    obtain ⟨z0, e0, _, _⟩ := DataW.trod_int Try.underlying3 k0
    obtain ⟨z1, e1, _⟩ := DataW.trod_bool Try.underlying4 k1
    injection e0 with e0
    injection e1 with e1
    subst e0 e1
    have hs : ∀ x y, DataW.trod enc Try.prog W 0 (fun _ => true) true n 22 [x] = some y → ∃ A n c l, x = .slice A n c ∧ Is W A n c l := by
      intro x y k
      have hs : ∃ A n c, x = .slice A n c := by
        rcases Go.Deep.open_slice Try.underlying22 k with ⟨hcs, _⟩ | ⟨_, l, c, _, _, _, _, hcs, _⟩
        · injection hcs with hcs; exact ⟨_, _, _, hcs⟩
        · injection hcs with hcs; exact ⟨_, _, _, hcs⟩
      obtain ⟨A, m, c, rfl⟩ := hs
      obtain ⟨zs, hz⟩ := IsRow.of_trod (k := .i64) (e := 3) Try.underlying22 Try.underlying3 (by kernel_rfl) (show DataW.Trod enc Try.prog W 0 (fun _ => true) true 22 (.slice A m c) y.1 y.2 from ⟨n, by simpa [Value.cells] using k⟩)
      exact ⟨A, m, c, _, rfl, hz.ints⟩
    obtain ⟨A, a1, a2, u, rfl, hu⟩ := hs c2 _ k2
    obtain ⟨B, b1, b2, b, rfl, hb⟩ := hs c3 _ k3
    exact ⟨⟨z0, z1, u, b⟩, A, a1, a2, B, b1, b2, rfl, hu, hb⟩
end Go.Proofs.Ytkclimblcipmlaa
