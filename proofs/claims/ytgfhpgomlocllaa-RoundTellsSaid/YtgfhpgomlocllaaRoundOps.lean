/- Ops that came in as an argument. -/
import Derived.Test.YtgfhpgomlocllaaRoundDoes
import Derived.Test.YtgfhpgomlocllaaOpen
import Derived.Deep.Fields
namespace Go.Proofs.Ytgfhpgomlocllaa
open Go.ChangeShapes Go.WideShapes Go.ChangeAt Go.RowKit

instance : Inhabited OpR := ⟨⟨0, 0, 0, 0⟩⟩
def opget (l : List OpR) (k : Nat) : OpR := l.getD k ⟨0, 0, 0, 0⟩
/-- A slice of ops. -/
structure Ops (w : World) (A : Option Addr) (n c : Nat) (l : List OpR) : Prop where
  len : l.length = n
  le : n ≤ c
  max : c ≤ 9223372036854775807
  at_ : ∀ k, k < l.length → ∃ b off, A = some ⟨b, off, none⟩ ∧ w.cell? ⟨b, off + k * 4, none⟩ = some (.int .i64 (opget l k).kind) ∧ w.cell? ⟨b, off + k * 4 + 1, none⟩ = some (.int .i64 (opget l k).index) ∧ w.cell? ⟨b, off + k * 4 + 2, none⟩ = some (.int .u8 (opget l k).op) ∧ w.cell? ⟨b, off + k * 4 + 3, none⟩ = some (.int .i64 (opget l k).e)
theorem Ops.ext {w w' : World} {A : Option Addr} {n c : Nat} {l : List OpR} (h : Ops w A n c l) (hx : Ext w w') : Ops w' A n c l :=
  ⟨h.len, h.le, h.max, fun k hk => by
    obtain ⟨b, off, e, c0, c1, c2, c3⟩ := h.at_ k hk
    exact ⟨b, off, e, hx.cell c0, hx.cell c1, hx.cell c2, hx.cell c3⟩⟩
theorem Ops.of_trod {H : Type} {enc : TypeId × Value → H} {W : World} {t e : TypeId} {fs : Array Field} {f0 f1 f2 f3 : Field} {a : Option Addr} {len cap : Nat} {d : DataW H} {p : List MemPlace} (ht : Try.prog.underlying t = some (.slice e)) (he : Try.prog.underlying e = some (.struct fs)) (hce : Try.prog.cellsOf e = 4)
    (g0 : fs[0]? = some f0) (g1 : fs[1]? = some f1) (g2 : fs[2]? = some f2) (g3 : fs[3]? = some f3) (o0 : f0.offset = 0) (o1 : f1.offset = 1) (o2 : f2.offset = 2) (o3 : f3.offset = 3)
    (c0 : Try.prog.cellsOf f0.type = 1) (c1 : Try.prog.cellsOf f1.type = 1) (c2 : Try.prog.cellsOf f2.type = 1) (c3 : Try.prog.cellsOf f3.type = 1)
    (u0 : Try.prog.underlying f0.type = some (.int .i64)) (u1 : Try.prog.underlying f1.type = some (.int .i64)) (u2 : Try.prog.underlying f2.type = some (.int .u8)) (u3 : Try.prog.underlying f3.type = some (.int .i64))
    (h : DataW.Trod enc Try.prog W 0 (fun _ => true) true t (.slice a len cap) d p) : ∃ l, Ops W a len cap l := by
  obtain ⟨fuel, hf⟩ := h
  rcases Go.Deep.open_slice ht hf with ⟨hcs, _⟩ | ⟨x, l, c, m, n, D, Pl, hcs, _, hl, hm, hmm, _, hx⟩
  · simp [Value.cells] at hcs
    obtain ⟨rfl, rfl, rfl⟩ := hcs
    exact ⟨[], rfl, Nat.le_refl _, by omega, fun k hk => absurd hk (Nat.not_lt_zero _)⟩
  · simp [Value.cells] at hcs
    obtain ⟨rfl, rfl, rfl⟩ := hcs
    have one : ∀ (cs : List Value) (i : Nat) (k : IntKind) (f : Field) (n : Nat) (y : DataW H × List MemPlace), cs.length = 4 → i < 4 → f.offset = i → Try.prog.cellsOf f.type = 1 → Try.prog.underlying f.type = some (.int k) → DataW.trod enc Try.prog W 0 (fun _ => true) true n f.type ((cs.drop f.offset).take (Try.prog.cellsOf f.type)) = some y → ∃ z : Int, cs[i]? = some (.int k z) := by
      intro cs i k f n y hcl hi ho hc hu hy
      rw [ho, hc, Go.Deep.take1_drop cs i undef (by omega)] at hy
      obtain ⟨z, hz, _, _⟩ := DataW.trod_int hu hy
      injection hz with hz
      refine ⟨z, ?_⟩
      rw [List.getD_eq_getElem?_getD, List.getElem?_eq_getElem (by omega), Option.getD_some] at hz
      rw [List.getElem?_eq_getElem (by omega), hz]
    have cellsAt : ∀ k, k < len → ∃ q : OpR, W.cell? (x.add (k * 4)) = some (.int .i64 q.kind) ∧ W.cell? (x.add (k * 4 + 1)) = some (.int .i64 q.index) ∧ W.cell? (x.add (k * 4 + 2)) = some (.int .u8 q.op) ∧ W.cell? (x.add (k * 4 + 3)) = some (.int .i64 q.e) := by
      intro k hk
      obtain ⟨cs', h1, h2⟩ := hx k (by rw [hmm]; simp; omega)
      obtain ⟨_, hlen, hcell⟩ := World.cells?_some h1
      rw [hce] at hlen
      obtain ⟨xs, n', _, _, _, hxl, hfd⟩ := DataW.trod_struct he h2
      have y0 := hfd 0 f0 g0
      have y1 := hfd 1 f1 g1
      have y2 := hfd 2 f2 g2
      have y3 := hfd 3 f3 g3
      have q0 : 0 < fs.size := (Array.getElem?_eq_some_iff.1 g0).1
      have q1 : 1 < fs.size := (Array.getElem?_eq_some_iff.1 g1).1
      have q2 : 2 < fs.size := (Array.getElem?_eq_some_iff.1 g2).1
      have q3 : 3 < fs.size := (Array.getElem?_eq_some_iff.1 g3).1
      rw [List.getElem?_eq_getElem (by omega)] at y0 y1 y2 y3
      obtain ⟨z0, e0⟩ := one cs' 0 .i64 f0 _ _ hlen (by omega) o0 c0 u0 y0
      obtain ⟨z1, e1⟩ := one cs' 1 .i64 f1 _ _ hlen (by omega) o1 c1 u1 y1
      obtain ⟨z2, e2⟩ := one cs' 2 .u8 f2 _ _ hlen (by omega) o2 c2 u2 y2
      obtain ⟨z3, e3⟩ := one cs' 3 .i64 f3 _ _ hlen (by omega) o3 c3 u3 y3
      have k0 := hcell 0 (by omega)
      have k1 := hcell 1 (by omega)
      have k2 := hcell 2 (by omega)
      have k3 := hcell 3 (by omega)
      rw [hce, Go.Deep.add_add] at k0 k1 k2 k3
      refine ⟨⟨z0, z1, z2, z3⟩, ?_, ?_, ?_, ?_⟩
      · simpa [e0] using k0
      · simpa [e1] using k1
      · simpa [e2] using k2
      · simpa [e3] using k3
    have each : ∀ k, k < len → ∃ q : OpR, ∃ b off, x = ⟨b, off, none⟩ ∧ W.cell? ⟨b, off + k * 4, none⟩ = some (.int .i64 q.kind) ∧ W.cell? ⟨b, off + k * 4 + 1, none⟩ = some (.int .i64 q.index) ∧ W.cell? ⟨b, off + k * 4 + 2, none⟩ = some (.int .u8 q.op) ∧ W.cell? ⟨b, off + k * 4 + 3, none⟩ = some (.int .i64 q.e) := by
      intro k hk
      obtain ⟨q0, s0, _⟩ := cellsAt 0 (by omega)
      rw [Nat.zero_mul] at s0
      have hsp := cells_spot s0
      obtain ⟨q, r0, r1, r2, r3⟩ := cellsAt k hk
      rw [hsp, addr_add] at r0 r1 r2 r3
      exact ⟨q, x.block, x.off, hsp, r0, by simpa [Nat.add_assoc] using r1, by simpa [Nat.add_assoc] using r2, by simpa [Nat.add_assoc] using r3⟩
    obtain ⟨f, hf⟩ := Go.Deep.choose_lt each
    refine ⟨(List.range len).map f, by simp, hl, by unfold maxLen at hm; omega, fun k hk => ?_⟩
    have hk' : k < len := by simpa using hk
    obtain ⟨b, off, e1, e2, e3, e4, e5⟩ := hf k hk'
    have hg : opget ((List.range len).map f) k = f k := by unfold opget; simp [hk']
    rw [hg]
    exact ⟨b, off, by rw [e1], e2, e3, e4, e5⟩
theorem ops_open {H : Type} {enc : TypeId × Value → H} {W : World} {r : Reach} {b0 : Nat} {v : Value} {d : DataW H} {p : List MemPlace} (hv : Value.okWide Try.prog W r b0 49 v) (h : DataW.Trod enc Try.prog W 0 (fun _ => true) true 49 v d p) : ∃ A n c l, v = .slice A n c ∧ Ops W A n c l := by
  obtain ⟨A, n, c, rfl⟩ := okWide_slice Try.underlying49 hv
  obtain ⟨l, hl⟩ := Ops.of_trod Try.underlying49 Try.underlying52 (by kernel_rfl) rfl rfl rfl rfl rfl rfl rfl rfl (by kernel_rfl) (by kernel_rfl) (by kernel_rfl) (by kernel_rfl) Try.underlying3 Try.underlying3 Try.underlying32 Try.underlying28 h
  exact ⟨A, n, c, l, rfl, hl⟩
end Go.Proofs.Ytgfhpgomlocllaa
