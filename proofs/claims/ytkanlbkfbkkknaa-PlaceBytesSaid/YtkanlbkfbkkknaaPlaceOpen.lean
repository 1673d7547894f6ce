/- Pairs of bytes that came in. -/
import Derived.Test.YtkanlbkfbkkknaaOpen
import Derived.Test.YtkanlbkfbkkknaaPlacePlaced
namespace Go.Proofs.Ytkanlbkfbkkknaa
open Go.ChangeShapes Go.WideShapes Go.ChangeAt Go.RowKit

theorem Ms.of_trod {H : Type} {enc : TypeId × Value → H} {W : World} {t e u : TypeId} {a : Option Addr} {len cap : Nat} {d : DataW H} {p : List MemPlace} (ht : Try.prog.underlying t = some (.slice e)) (he : Try.prog.underlying e = some (.array 2 u)) (hu : Try.prog.underlying u = some (.int .u8)) (hc : Try.prog.cellsOf u = 1) (hce : Try.prog.cellsOf e = 2)
    (h : DataW.Trod enc Try.prog W 0 (fun _ => true) true t (.slice a len cap) d p) : ∃ ms, Ms W a len cap ms := by
  obtain ⟨fuel, hf⟩ := h
  rcases Go.Deep.open_slice ht hf with ⟨hcs, _⟩ | ⟨x, l, c, m, n, D, Pl, hcs, _, hl, hm, hmm, _, hx⟩
  · simp [Value.cells] at hcs
    obtain ⟨rfl, rfl, rfl⟩ := hcs
    exact ⟨[], rfl, Nat.le_refl _, by omega, fun k hk => absurd hk (Nat.not_lt_zero _)⟩
  · simp [Value.cells] at hcs
    obtain ⟨rfl, rfl, rfl⟩ := hcs
    have cellsAt : ∀ k, k < len → ∃ q : UInt8 × UInt8, W.cell? (x.add (k * 2)) = some (.int .u8 (q.1.toNat : Int)) ∧ W.cell? (x.add (k * 2 + 1)) = some (.int .u8 (q.2.toNat : Int)) := by
      intro k hk
      obtain ⟨cs', h1, h2⟩ := hx k (by rw [hmm]; simp; omega)
      obtain ⟨_, hlen, hcell⟩ := World.cells?_some h1
      obtain ⟨zs, hzl, hzc, hzw⟩ := trod_int_array he hu hc hce h2
      match zs, hzl with
      | [y, z], _ =>
        obtain ⟨y, rfl⟩ := wf_u8 (hzw y (by simp))
        obtain ⟨z, rfl⟩ := wf_u8 (hzw z (by simp))
        subst hzc
        have c0 := hcell 0 (by rw [hce]; omega)
        have c1 := hcell 1 (by rw [hce]; omega)
        rw [hce, Go.Deep.add_add] at c0 c1
        exact ⟨(y, z), by simpa using c0, by simpa using c1⟩
    have each : ∀ k, k < len → ∃ q : UInt8 × UInt8, ∃ b off, x = ⟨b, off, none⟩ ∧ W.cell? ⟨b, off + k * 2, none⟩ = some (.int .u8 (q.1.toNat : Int)) ∧ W.cell? ⟨b, off + k * 2 + 1, none⟩ = some (.int .u8 (q.2.toNat : Int)) := by
      intro k hk
      obtain ⟨q0, s0, _⟩ := cellsAt 0 (by omega)
      rw [Nat.zero_mul] at s0
      have hsp := cells_spot s0
      obtain ⟨q, r0, r1⟩ := cellsAt k hk
      rw [hsp, addr_add] at r0 r1
      exact ⟨q, x.block, x.off, hsp, r0, by simpa [Nat.add_assoc] using r1⟩
    obtain ⟨f, hf⟩ := Go.Deep.choose_lt each
    refine ⟨(List.range len).map f, by simp, hl, by unfold maxLen at hm; omega, fun k hk => ?_⟩
    have hk' : k < len := by simpa using hk
    obtain ⟨b, off, e1, e2, e3⟩ := hf k hk'
    refine ⟨b, off, by rw [e1], ?_, ?_⟩
    · simpa using e2
    · simpa using e3
end Go.Proofs.Ytkanlbkfbkkknaa
