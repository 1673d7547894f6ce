/- Lists of bytes' lists that came in as arguments, opened. No statement of the seat is proved here. -/
import Derived.Test.YtiianhlppkocgaaOpen
import Derived.Test.YtiianhlppkocgaaMx
import Derived.Deep.Slices
namespace Go.Proofs.Ytiianhlppkocgaa
open Go.ChangeShapes Go.WideShapes Go.ChangeAt Go.RowKit

theorem bs_of_trod {H : Type} {enc : TypeId × Value → H} {W : World} {e u : TypeId} {fuel : Nat} {v : Value} {x : DataW H × List MemPlace} (he : Try.prog.underlying e = some (.slice u)) (hu : Try.prog.underlying u = some (.int .u8)) (hcu : Try.prog.cellsOf u = 1)
    (h : DataW.trod enc Try.prog W 0 (fun _ => true) true fuel e [v] = some x) : ∃ A n c l, v = .slice A n c ∧ Bs W A n c l := by
  have hs : ∃ A n c, v = .slice A n c := by
    rcases Go.Deep.open_slice he h with ⟨hcs, _⟩ | ⟨_, _, _, _, _, _, _, hcs, _⟩
    · injection hcs with hcs; exact ⟨_, _, _, hcs⟩
    · injection hcs with hcs; exact ⟨_, _, _, hcs⟩
  obtain ⟨A, n, c, rfl⟩ := hs
  obtain ⟨zs, hz⟩ := IsRow.of_trod (k := .u8) he hu hcu (show DataW.Trod enc Try.prog W 0 (fun _ => true) true e (.slice A n c) x.1 x.2 from ⟨fuel, by simpa [Value.cells] using h⟩)
  obtain ⟨l, hl⟩ := hz.bytes
  exact ⟨A, n, c, l, rfl, hl⟩
theorem mx_of_trod {H : Type} {enc : TypeId × Value → H} {W : World} {t e u : TypeId} {fuel : Nat} {v : Value} {x : DataW H × List MemPlace} (ht : Try.prog.underlying t = some (.slice e)) (hce : Try.prog.cellsOf e = 1) (he : Try.prog.underlying e = some (.slice u)) (hu : Try.prog.underlying u = some (.int .u8)) (hcu : Try.prog.cellsOf u = 1)
    (h : DataW.trod enc Try.prog W 0 (fun _ => true) true fuel t [v] = some x) : ∃ A n c m, v = .slice A n c ∧ Mx W A n c m := by
  rcases Go.Deep.open_slice1 ht hce h with ⟨hcs, _⟩ | ⟨a, len, cap, m, nf, V, D, Pl, hcs, hb, hl, hm, hmm, _, hV⟩
  · injection hcs with hcs
    exact ⟨none, 0, 0, [], hcs, Mx.none W⟩
  · injection hcs with hcs
    have hmc : m = cap := by rw [hmm]; rfl
    have each : ∀ i, i < len → ∃ q : Option Addr × Nat × Nat × List UInt8, V i = .slice q.1 q.2.1 q.2.2.1 ∧ Bs W q.1 q.2.1 q.2.2.1 q.2.2.2 := fun i hi => by
      obtain ⟨A, n, c, l, e1, e2⟩ := bs_of_trod he hu hcu (hV i (by omega)).2
      exact ⟨(A, n, c, l), e1, e2⟩
    obtain ⟨f, hf⟩ := Go.Deep.choose_lt each
    refine ⟨some a, len, cap, (List.range len).map fun i => (f i).2.2.2, hcs, by simp, hl, by unfold maxLen at hm; omega, (List.range len).map V, ⟨by simp, fun hn => ?_⟩, ⟨by simp, fun i hi => ?_⟩⟩
    · have hsp := cells_spot (hV 0 (by omega)).1
      refine ⟨a.block, a.off, by rw [← hsp], fun j w hw => ?_⟩
      have hj : j < len := by have := (List.getElem?_eq_some_iff.1 hw).1; simpa using this
      have hc := (hV j (by omega)).1
      rw [hsp, addr_add] at hc
      rw [hc, ← hw]
      simp [hj]
    · simp only [List.length_map, List.length_range] at hi
      obtain ⟨e1, e2⟩ := hf i hi
      refine ⟨(f i).1, (f i).2.1, (f i).2.2.1, by simp [hi, e1], ?_⟩
      rw [Gm.row_range _ hi]
      exact e2
theorem mx_open {H : Type} {enc : TypeId × Value → H} {W : World} {t e u : TypeId} {v : Value} {d : DataW H} {p : List MemPlace} (ht : Try.prog.underlying t = some (.slice e)) (hce : Try.prog.cellsOf e = 1) (he : Try.prog.underlying e = some (.slice u)) (hu : Try.prog.underlying u = some (.int .u8)) (hcu : Try.prog.cellsOf u = 1)
    {r : Reach} {b0 : Nat} (hv : Value.okWide Try.prog W r b0 t v) (h : DataW.Trod enc Try.prog W 0 (fun _ => true) true t v d p) : ∃ A n c m, v = .slice A n c ∧ Mx W A n c m := by
  obtain ⟨A, n, c, rfl⟩ := okWide_slice ht hv
  obtain ⟨fuel, hf⟩ := h
  exact mx_of_trod ht hce he hu hcu (by simpa [Value.cells] using hf)
end Go.Proofs.Ytiianhlppkocgaa
