/- Ops of chapter 05 that came in as an argument. No statement of the seat is proved here. -/
import Derived.Test.YtbfbiofndipaaaaBools
import Derived.Test.YtbfbiofndipaaaaDiskReads
import Derived.Deep.Fields
namespace Go.Proofs.Ytbfbiofndipaaaa
open Go.ChangeShapes Go.WideShapes Go.ChangeAt Go.RowKit

/-- An op. -/
structure Op05 where
  kind : Int
  i : Int
  at_ : Int
  n : Int
  b : UInt8
  A : Option Addr
  m : Nat
  c : Nat
  l : List Bool
instance : Inhabited Op05 := ⟨⟨0, 0, 0, 0, 0, none, 0, 0, []⟩⟩
/-- What is told of an op's numbers. -/
structure Ok05 (o : Op05) : Prop where
  kind : (Lit.int .i64 o.kind).wf = true
  i : (Lit.int .i64 o.i).wf = true
  at_ : (Lit.int .i64 o.at_).wf = true
  n : (Lit.int .i64 o.n).wf = true
/-- The six cells of an op. -/
abbrev ocells (o : Op05) : List Value := [.int .i64 o.kind, .int .i64 o.i, .int .i64 o.at_, .int .i64 o.n, .int .u8 (o.b.toNat : Int), .slice o.A o.m o.c]
abbrev oval (o : Op05) : Value := .agg (ocells o).toArray
/-- A slice of ops. -/
structure Os05 (w : World) (A : Option Addr) (n c : Nat) (o : Nat → Op05) : Prop where
  le : n ≤ c
  max : c ≤ 9223372036854775807
  at_ : ∀ k, k < n → ∃ b off, A = some ⟨b, off, none⟩ ∧ w.cell? ⟨b, off + k * 6, none⟩ = some (.int .i64 (o k).kind) ∧ w.cell? ⟨b, off + k * 6 + 1, none⟩ = some (.int .i64 (o k).i) ∧ w.cell? ⟨b, off + k * 6 + 2, none⟩ = some (.int .i64 (o k).at_) ∧ w.cell? ⟨b, off + k * 6 + 3, none⟩ = some (.int .i64 (o k).n) ∧ w.cell? ⟨b, off + k * 6 + 4, none⟩ = some (.int .u8 ((o k).b.toNat : Int)) ∧ w.cell? ⟨b, off + k * 6 + 5, none⟩ = some (.slice (o k).A (o k).m (o k).c) ∧ Bls w (o k).A (o k).m (o k).c (o k).l ∧ Ok05 (o k)
theorem Os05.ext {w w' : World} {A : Option Addr} {n c : Nat} {o : Nat → Op05} (h : Os05 w A n c o) (hx : Ext w w') : Os05 w' A n c o :=
  ⟨h.le, h.max, fun k hk => by
    obtain ⟨b, off, e, c0, c1, c2, c3, c4, c5, c6, c7⟩ := h.at_ k hk
    exact ⟨b, off, e, hx.cell c0, hx.cell c1, hx.cell c2, hx.cell c3, hx.cell c4, hx.cell c5, c6.ext hx, c7⟩⟩
set_option maxRecDepth 100000 in
set_option maxHeartbeats 1000000 in
theorem os05_open {H : Type} {enc : TypeId × Value → H} {W : World} {r : Reach} {b0 : Nat} {v : Value} {d : DataW H} {p : List MemPlace} (hv : Value.okWide Try.prog W r b0 22 v) (h : DataW.Trod enc Try.prog W 0 (fun _ => true) true 22 v d p) : ∃ A n c o, v = .slice A n c ∧ Os05 W A n c o := by
  obtain ⟨A, len, cap, rfl⟩ := okWide_slice Try.underlying22 hv
  have hce : Try.prog.cellsOf 31 = 6 := by kernel_rfl
  obtain ⟨fuel, hf⟩ := h
  rcases Go.Deep.open_slice Try.underlying22 hf with ⟨hcs, _⟩ | ⟨x, l, c, m, n, D, Pl, hcs, _, hl, hm, hmm, _, hx⟩
  · simp [Value.cells] at hcs
    obtain ⟨rfl, rfl, rfl⟩ := hcs
    exact ⟨none, 0, 0, fun _ => default, rfl, Nat.le_refl _, by omega, fun k hk => absurd hk (Nat.not_lt_zero _)⟩
  · simp [Value.cells] at hcs
    obtain ⟨rfl, rfl, rfl⟩ := hcs
    have cellsAt : ∀ k, k < len → ∃ q : Op05, W.cell? (x.add (k * 6)) = some (.int .i64 q.kind) ∧ W.cell? (x.add (k * 6 + 1)) = some (.int .i64 q.i) ∧ W.cell? (x.add (k * 6 + 2)) = some (.int .i64 q.at_) ∧ W.cell? (x.add (k * 6 + 3)) = some (.int .i64 q.n) ∧ W.cell? (x.add (k * 6 + 4)) = some (.int .u8 (q.b.toNat : Int)) ∧ W.cell? (x.add (k * 6 + 5)) = some (.slice q.A q.m q.c) ∧ Bls W q.A q.m q.c q.l ∧ Ok05 q := by
      intro k hk
      obtain ⟨cs', h1, h2⟩ := hx k (by rw [hmm]; simp; omega)
      obtain ⟨_, hlen, hcell⟩ := World.cells?_some h1
      rw [hce] at hlen
      match cs', hlen with
      | [c0, c1, c2, c3, c4, c5], _ =>
        obtain ⟨xs, n', _, _, _, hxl, hg⟩ := DataW.trod_struct Try.underlying31 h2
        have fld : ∀ (i : Nat) (f : Field) (c : Value), f.offset = i → Try.prog.cellsOf f.type = 1 → ([c0, c1, c2, c3, c4, c5] : List Value)[i]? = some c → DataW.trod enc Try.prog W 0 (fun _ => true) true n' f.type ((([c0, c1, c2, c3, c4, c5] : List Value).drop f.offset).take (Try.prog.cellsOf f.type)) = xs[i]? → i < 6 → ∃ y, DataW.trod enc Try.prog W 0 (fun _ => true) true n' f.type [c] = some y := by
          intro i f c ho hc hi hy h5
          have hx5 : xs.length = 6 := hxl
          rw [List.getElem?_eq_getElem (by omega), ho, hc] at hy
          have hl : i < ([c0, c1, c2, c3, c4, c5] : List Value).length := h5
          rw [List.drop_eq_getElem_cons hl] at hy
          rw [List.getElem?_eq_getElem hl] at hi
          injection hi with hi
          rw [hi] at hy
          exact ⟨_, hy⟩
        obtain ⟨y0, k0⟩ := fld 0 _ c0 rfl (by kernel_rfl) rfl (hg 0 _ rfl) (by omega)
        obtain ⟨y1, k1⟩ := fld 1 _ c1 rfl (by kernel_rfl) rfl (hg 1 _ rfl) (by omega)
        obtain ⟨y2, k2⟩ := fld 2 _ c2 rfl (by kernel_rfl) rfl (hg 2 _ rfl) (by omega)
        obtain ⟨y3, k3⟩ := fld 3 _ c3 rfl (by kernel_rfl) rfl (hg 3 _ rfl) (by omega)
        obtain ⟨y4, k4⟩ := fld 4 _ c4 rfl (by kernel_rfl) rfl (hg 4 _ rfl) (by omega)
        obtain ⟨y5, k5⟩ := fld 5 _ c5 rfl (by kernel_rfl) rfl (hg 5 _ rfl) (by omega)
        obtain ⟨z0, e0, _, u0⟩ := DataW.trod_int Try.underlying3 k0
        obtain ⟨z1, e1, _, u1⟩ := DataW.trod_int Try.underlying3 k1
        obtain ⟨z2, e2, _, u2⟩ := DataW.trod_int Try.underlying3 k2
        obtain ⟨z3, e3, _, u3⟩ := DataW.trod_int Try.underlying3 k3
        obtain ⟨z4, e4, _, u4⟩ := DataW.trod_int Try.underlying5 k4
        injection e0 with e0
        injection e1 with e1
        injection e2 with e2
        injection e3 with e3
        injection e4 with e4
        subst e0 e1 e2 e3 e4
        obtain ⟨zb, rfl⟩ := wf_u8 u4
        have hs : ∃ A n c, c5 = .slice A n c := by
          rcases Go.Deep.open_slice Try.underlying29 k5 with ⟨hcs, _⟩ | ⟨x, l, c, _, _, _, _, hcs, _⟩
          · injection hcs with hcs; exact ⟨_, _, _, hcs⟩
          · injection hcs with hcs; exact ⟨_, _, _, hcs⟩
        obtain ⟨B, q, e, rfl⟩ := hs
        obtain ⟨l, hl⟩ := Bls.of_trod (H := H) (enc := enc) (d := y5.1) (p := y5.2) Try.underlying29 Try.underlying4 (by kernel_rfl) ⟨n', by simpa [Value.cells] using k5⟩
        have j0 := hcell 0 (by rw [hce]; omega)
        have j1 := hcell 1 (by rw [hce]; omega)
        have j2 := hcell 2 (by rw [hce]; omega)
        have j3 := hcell 3 (by rw [hce]; omega)
        have j4 := hcell 4 (by rw [hce]; omega)
        have j5 := hcell 5 (by rw [hce]; omega)
        rw [hce, Go.Deep.add_add] at j0 j1 j2 j3 j4 j5
        exact ⟨⟨z0, z1, z2, z3, zb, B, q, e, l⟩, by simpa using j0, by simpa using j1, by simpa using j2, by simpa using j3, by simpa using j4, by simpa using j5, hl, ⟨u0, u1, u2, u3⟩⟩
    have each : ∀ k, k < len → ∃ q : Op05, ∃ b off, x = ⟨b, off, none⟩ ∧ W.cell? ⟨b, off + k * 6, none⟩ = some (.int .i64 q.kind) ∧ W.cell? ⟨b, off + k * 6 + 1, none⟩ = some (.int .i64 q.i) ∧ W.cell? ⟨b, off + k * 6 + 2, none⟩ = some (.int .i64 q.at_) ∧ W.cell? ⟨b, off + k * 6 + 3, none⟩ = some (.int .i64 q.n) ∧ W.cell? ⟨b, off + k * 6 + 4, none⟩ = some (.int .u8 (q.b.toNat : Int)) ∧ W.cell? ⟨b, off + k * 6 + 5, none⟩ = some (.slice q.A q.m q.c) ∧ Bls W q.A q.m q.c q.l ∧ Ok05 q := by
      intro k hk
      obtain ⟨q0, s0, _⟩ := cellsAt 0 (by omega)
      rw [Nat.zero_mul] at s0
      have hsp := cells_spot s0
      obtain ⟨q, r0, r1, r2, r3, r4, r5, r6, r7⟩ := cellsAt k hk
      rw [hsp, addr_add] at r0 r1 r2 r3 r4 r5
      exact ⟨q, x.block, x.off, hsp, r0, by simpa [Nat.add_assoc] using r1, by simpa [Nat.add_assoc] using r2, by simpa [Nat.add_assoc] using r3, by simpa [Nat.add_assoc] using r4, by simpa [Nat.add_assoc] using r5, r6, r7⟩
    obtain ⟨f, hf⟩ := Go.Deep.choose_lt each
    refine ⟨some x, len, cap, f, rfl, hl, by unfold maxLen at hm; omega, fun k hk => ?_⟩
    obtain ⟨b, off, e1, e2⟩ := hf k hk
    exact ⟨b, off, by rw [e1], e2⟩
end Go.Proofs.Ytbfbiofndipaaaa
