/- Ops that came in as an argument. -/
import Derived.Test.YtkclimblcipmlaaScRight2
import Derived.Test.YtkclimblcipmlaaScList
import Derived.Deep.Fields
namespace Go.Proofs.Ytkclimblcipmlaa
open Go.ChangeShapes Go.WideShapes Go.ChangeAt Go.RowKit

theorem IsRow.ints {w : World} {a : Option Addr} {len cap : Nat} {zs : List Int} (h : IsRow .i64 w a len cap zs) : Is w a len cap (zs.take len) := by
  rcases h with ⟨rfl, rfl, rfl, rfl⟩ | ⟨x, rfl, h1, h2, h3, h4, _⟩
  · exact Is.none w
  · have hl : (zs.take len).length = len := by rw [List.length_take]; omega
    refine ⟨hl, h1, by unfold maxLen at h2; omega, by rw [icells_length, hl]; omega, fun hn => ?_⟩
    have h0 := h4 0 (by omega)
    have hsp := cells_spot h0
    refine ⟨x.block, x.off, by rw [← hsp], fun j u hu => ?_⟩
    have hj : j < len := by
      have := (List.getElem?_eq_some_iff.1 hu).1
      rwa [icells_length, hl] at this
    have hc := h4 j (by omega)
    rw [hsp, addr_add] at hc
    rw [hc, ← hu, icells_get (by rw [hl]; exact hj), Il.get_take hj]
    rfl
/-- An op. -/
structure Op16 where
  kind : Int
  n : Int
  A : Option Addr
  m : Nat
  c : Nat
  l : List Int
instance : Inhabited Op16 := ⟨⟨0, 0, none, 0, 0, []⟩⟩
/-- A slice of ops. -/
structure Oss (w : World) (A : Option Addr) (n c : Nat) (o : Nat → Op16) : Prop where
  le : n ≤ c
  max : c ≤ 9223372036854775807
  at_ : ∀ k, k < n → ∃ b off, A = some ⟨b, off, none⟩ ∧ w.cell? ⟨b, off + k * 3, none⟩ = some (.int .i64 (o k).kind) ∧ w.cell? ⟨b, off + k * 3 + 1, none⟩ = some (.int .i64 (o k).n) ∧ w.cell? ⟨b, off + k * 3 + 2, none⟩ = some (.slice (o k).A (o k).m (o k).c) ∧ Is w (o k).A (o k).m (o k).c (o k).l
theorem Oss.ext {w w' : World} {A : Option Addr} {n c : Nat} {o : Nat → Op16} (h : Oss w A n c o) (hx : Ext w w') : Oss w' A n c o :=
  ⟨h.le, h.max, fun k hk => by
    obtain ⟨b, off, e, c0, c1, c2, c3⟩ := h.at_ k hk
    exact ⟨b, off, e, hx.cell c0, hx.cell c1, hx.cell c2, c3.ext hx⟩⟩
set_option maxRecDepth 100000 in
set_option maxHeartbeats 1000000 in
theorem os_open {H : Type} {enc : TypeId × Value → H} {W : World} {r : Reach} {b0 : Nat} {v : Value} {d : DataW H} {p : List MemPlace} (hv : Value.okWide Try.prog W r b0 34 v) (h : DataW.Trod enc Try.prog W 0 (fun _ => true) true 34 v d p) : ∃ A n c o, v = .slice A n c ∧ Oss W A n c o := by
  obtain ⟨A, len, cap, rfl⟩ := okWide_slice Try.underlying34 hv
  have hce : Try.prog.cellsOf 37 = 3 := by kernel_rfl
  obtain ⟨fuel, hf⟩ := h
  rcases Go.Deep.open_slice Try.underlying34 hf with ⟨hcs, _⟩ | ⟨x, l, c, m, n, D, Pl, hcs, _, hl, hm, hmm, _, hx⟩
  · simp [Value.cells] at hcs
    obtain ⟨rfl, rfl, rfl⟩ := hcs
    exact ⟨none, 0, 0, fun _ => default, rfl, Nat.le_refl _, by omega, fun k hk => absurd hk (Nat.not_lt_zero _)⟩
  · simp [Value.cells] at hcs
    obtain ⟨rfl, rfl, rfl⟩ := hcs
    have cellsAt : ∀ k, k < len → ∃ q : Op16, W.cell? (x.add (k * 3)) = some (.int .i64 q.kind) ∧ W.cell? (x.add (k * 3 + 1)) = some (.int .i64 q.n) ∧ W.cell? (x.add (k * 3 + 2)) = some (.slice q.A q.m q.c) ∧ Is W q.A q.m q.c q.l := by
      intro k hk
      obtain ⟨cs', h1, h2⟩ := hx k (by rw [hmm]; simp; omega)
      obtain ⟨_, hlen, hcell⟩ := World.cells?_some h1
      rw [hce] at hlen
      match cs', hlen with
      | [c0, c1, c2], _ =>
        obtain ⟨xs, n', _, _, _, hxl, hg⟩ := DataW.trod_struct Try.underlying37 h2
        have fld : ∀ (i : Nat) (f : Field) (c : Value), f.offset = i → Try.prog.cellsOf f.type = 1 → ([c0, c1, c2] : List Value)[i]? = some c → DataW.trod enc Try.prog W 0 (fun _ => true) true n' f.type ((([c0, c1, c2] : List Value).drop f.offset).take (Try.prog.cellsOf f.type)) = xs[i]? → i < 3 → ∃ y, DataW.trod enc Try.prog W 0 (fun _ => true) true n' f.type [c] = some y := by
          intro i f c ho hc hi hy h5
          have hx5 : xs.length = 3 := hxl
          rw [List.getElem?_eq_getElem (by omega), ho, hc] at hy
          have hl : i < ([c0, c1, c2] : List Value).length := h5
          rw [List.drop_eq_getElem_cons hl] at hy
          rw [List.getElem?_eq_getElem hl] at hi
          injection hi with hi
          rw [hi] at hy
          exact ⟨_, hy⟩
        obtain ⟨y0, k0⟩ := fld 0 _ c0 rfl (by kernel_rfl) rfl (hg 0 _ rfl) (by omega)
        obtain ⟨y1, k1⟩ := fld 1 _ c1 rfl (by kernel_rfl) rfl (hg 1 _ rfl) (by omega)
        obtain ⟨y2, k2⟩ := fld 2 _ c2 rfl (by kernel_rfl) rfl (hg 2 _ rfl) (by omega)
        obtain ⟨z0, e0, _, _⟩ := DataW.trod_int Try.underlying3 k0
        obtain ⟨z1, e1, _, _⟩ := DataW.trod_int Try.underlying3 k1
        injection e0 with e0
        injection e1 with e1
        subst e0 e1
        have hs : ∃ A n c, c2 = .slice A n c := by
          rcases Go.Deep.open_slice Try.underlying22 k2 with ⟨hcs, _⟩ | ⟨x, l, c, _, _, _, _, hcs, _⟩
          · injection hcs with hcs; exact ⟨_, _, _, hcs⟩
          · injection hcs with hcs; exact ⟨_, _, _, hcs⟩
        obtain ⟨B, q, e, rfl⟩ := hs
        obtain ⟨zs, hz⟩ := IsRow.of_trod (k := .i64) (e := 3) Try.underlying22 Try.underlying3 (by kernel_rfl) (show DataW.Trod enc Try.prog W 0 (fun _ => true) true 22 (.slice B q e) y2.1 y2.2 from ⟨n', by simpa [Value.cells] using k2⟩)
        have j0 := hcell 0 (by rw [hce]; omega)
        have j1 := hcell 1 (by rw [hce]; omega)
        have j2 := hcell 2 (by rw [hce]; omega)
        rw [hce, Go.Deep.add_add] at j0 j1 j2
        exact ⟨⟨z0, z1, B, q, e, _⟩, by simpa using j0, by simpa using j1, by simpa using j2, hz.ints⟩
    have each : ∀ k, k < len → ∃ q : Op16, ∃ b off, x = ⟨b, off, none⟩ ∧ W.cell? ⟨b, off + k * 3, none⟩ = some (.int .i64 q.kind) ∧ W.cell? ⟨b, off + k * 3 + 1, none⟩ = some (.int .i64 q.n) ∧ W.cell? ⟨b, off + k * 3 + 2, none⟩ = some (.slice q.A q.m q.c) ∧ Is W q.A q.m q.c q.l := by
      intro k hk
      obtain ⟨q0, s0, _⟩ := cellsAt 0 (by omega)
      rw [Nat.zero_mul] at s0
      have hsp := cells_spot s0
      obtain ⟨q, r0, r1, r2, r3⟩ := cellsAt k hk
      rw [hsp, addr_add] at r0 r1 r2
      exact ⟨q, x.block, x.off, hsp, r0, by simpa [Nat.add_assoc] using r1, by simpa [Nat.add_assoc] using r2, r3⟩
    obtain ⟨f, hf⟩ := Go.Deep.choose_lt each
    refine ⟨some x, len, cap, f, rfl, hl, by unfold maxLen at hm; omega, fun k hk => ?_⟩
    obtain ⟨b, off, e1, e2, e3, e4, e5⟩ := hf k hk
    exact ⟨b, off, by rw [e1], e2, e3, e4, e5⟩
end Go.Proofs.Ytkclimblcipmlaa
