/- Placements, and three numbers, that came in as arguments. No statement of the seat is proved here. -/
import Derived.Test.YtkanlbkfbkkknaaOpen
import Derived.Test.YtkanlbkfbkkknaaPlace
import Derived.Deep.Fields
import Derived.Deep.Slices
namespace Go.Proofs.Ytkanlbkfbkkknaa
open Go.ChangeShapes Go.WideShapes Go.ChangeAt Go.RowKit

theorem IsRow.ints9 {w : World} {a : Option Addr} {len cap : Nat} {zs : List Int} (h : IsRow .i64 w a len cap zs) : Is w a len cap (zs.take len) := by
  rcases h with ⟨rfl, rfl, rfl, rfl⟩ | ⟨x, rfl, h1, h2, h3, h4, _⟩
  · exact Is.none w
  · have hl : (zs.take len).length = len := by rw [List.length_take]; omega
    refine ⟨hl, h1, by unfold maxLen at h2; omega, by rw [icells_length, hl]; omega, fun hn => ?_⟩
    have h0 := h4 0 (by omega)
    have hsp := cells_spot h0
    refine ⟨x.block, x.off, by rw [← hsp], fun j u hu => ?_⟩
    have hj : j < len := by
      have := (List.getElem?_eq_some_iff.1 hu).1
      rwa [icells_length, hl] at this
    have hc := h4 j (by omega)
    rw [hsp, addr_add] at hc
    rw [hc, ← hu, icells_get (by rw [hl]; exact hj), Il.get_take hj]
    rfl
theorem open_i64x3 {H : Type} {enc : TypeId × Value → H} {W : World} {r : Reach} {b0 : Nat} {t e : TypeId} {v : Value} {d : DataW H} {p : List MemPlace} (ht : Try.prog.underlying t = some (.array 3 e)) (he : Try.prog.underlying e = some (.int .i64)) (hc : Try.prog.cellsOf e = 1) (hct : Try.prog.cellsOf t = 3)
    (hv : Value.okWide Try.prog W r b0 t v) (h : DataW.Trod enc Try.prog W 0 (fun _ => true) true t v d p) : ∃ x y z : Int, v = .agg #[.int .i64 x, .int .i64 y, .int .i64 z] := by
  obtain ⟨cs, rfl, _⟩ := okWide_array ht hv
  obtain ⟨fuel, hf⟩ := h
  obtain ⟨zs, hl, hcs, _⟩ := trod_int_array ht he hc hct hf
  match zs, hl with
  | [a, b, c], _ =>
    refine ⟨a, b, c, ?_⟩
    have : cs = ([Value.int .i64 a, .int .i64 b, .int .i64 c]).toArray := by
      rw [← Array.toList_inj]
      exact hcs
    rw [this]
theorem places_open {H : Type} {enc : TypeId × Value → H} {W : World} {r : Reach} {b0 : Nat} {v : Value} {d : DataW H} {p : List MemPlace} (hv : Value.okWide Try.prog W r b0 24 v) (h : DataW.Trod enc Try.prog W 0 (fun _ => true) true 24 v d p) : ∃ A n c l, v = .slice A n c ∧ Ps W A n c l := by
  obtain ⟨A, len, cap, rfl⟩ := okWide_slice Try.underlying24 hv
  have hce : Try.prog.cellsOf 33 = 2 := by kernel_rfl
  obtain ⟨fuel, hf⟩ := h
  rcases Go.Deep.open_slice Try.underlying24 hf with ⟨hcs, _⟩ | ⟨x, l, c, m, n, D, PP, hcs, _, hl, hm, hmm, _, hx⟩
  · simp [Value.cells] at hcs
    obtain ⟨rfl, rfl, rfl⟩ := hcs
    exact ⟨none, 0, 0, [], rfl, rfl, Nat.le_refl _, by omega, fun k hk => absurd hk (Nat.not_lt_zero _)⟩
  · simp [Value.cells] at hcs
    obtain ⟨rfl, rfl, rfl⟩ := hcs
    have cellsAt : ∀ k, k < len → ∃ (q : Pl.P) (B : Option Addr) (m e : Nat), W.cell? (x.add (k * 2)) = some (.int .i64 q.1) ∧ W.cell? (x.add (k * 2 + 1)) = some (.slice B m e) ∧ Is W B m e q.2 := by
      intro k hk
      obtain ⟨cs', h1, h2⟩ := hx k (by rw [hmm]; simp; omega)
      obtain ⟨_, hlen, hcell⟩ := World.cells?_some h1
      rw [hce] at hlen
      match cs', hlen with
      | [c0, c1], _ =>
        obtain ⟨xs, n', _, _, _, hxl, hg⟩ := DataW.trod_struct Try.underlying33 h2
        have fld : ∀ (i : Nat) (f : Field) (c : Value), f.offset = i → Try.prog.cellsOf f.type = 1 → ([c0, c1] : List Value)[i]? = some c → DataW.trod enc Try.prog W 0 (fun _ => true) true n' f.type ((([c0, c1] : List Value).drop f.offset).take (Try.prog.cellsOf f.type)) = xs[i]? → i < 2 → ∃ y, DataW.trod enc Try.prog W 0 (fun _ => true) true n' f.type [c] = some y := by
          intro i f c ho hc hi hy h5
          have hx5 : xs.length = 2 := hxl
          rw [List.getElem?_eq_getElem (by omega), ho, hc] at hy
          have hl : i < ([c0, c1] : List Value).length := h5
          rw [List.drop_eq_getElem_cons hl] at hy
          rw [List.getElem?_eq_getElem hl] at hi
          injection hi with hi
          rw [hi] at hy
          exact ⟨_, hy⟩
        obtain ⟨y0, k0⟩ := fld 0 _ c0 rfl (by kernel_rfl) rfl (hg 0 _ rfl) (by omega)
        obtain ⟨y1, k1⟩ := fld 1 _ c1 rfl (by kernel_rfl) rfl (hg 1 _ rfl) (by omega)
        obtain ⟨z0, e0, _, _⟩ := DataW.trod_int Try.underlying3 k0
        injection e0 with e0
        subst e0
        have hs : ∃ A n c, c1 = .slice A n c := by
          rcases Go.Deep.open_slice Try.underlying28 k1 with ⟨hcs, _⟩ | ⟨x, l, c, _, _, _, _, hcs, _⟩
          · injection hcs with hcs; exact ⟨_, _, _, hcs⟩
          · injection hcs with hcs; exact ⟨_, _, _, hcs⟩
        obtain ⟨B, q, e, rfl⟩ := hs
        obtain ⟨zs, hz⟩ := IsRow.of_trod (k := .i64) (e := 3) Try.underlying28 Try.underlying3 (by kernel_rfl) (show DataW.Trod enc Try.prog W 0 (fun _ => true) true 28 (.slice B q e) y1.1 y1.2 from ⟨n', by simpa [Value.cells] using k1⟩)
        have j0 := hcell 0 (by rw [hce]; omega)
        have j1 := hcell 1 (by rw [hce]; omega)
        rw [hce, Go.Deep.add_add] at j0 j1
        exact ⟨(z0, zs.take q), B, q, e, by simpa using j0, by simpa using j1, hz.ints9⟩
    have each : ∀ k, k < len → ∃ q : Pl.P, ∃ b off B m e, x = ⟨b, off, none⟩ ∧ W.cell? ⟨b, off + k * 2, none⟩ = some (.int .i64 q.1) ∧ W.cell? ⟨b, off + k * 2 + 1, none⟩ = some (.slice B m e) ∧ Is W B m e q.2 := by
      intro k hk
      obtain ⟨q0, _, _, _, s0, _⟩ := cellsAt 0 (by omega)
      rw [Nat.zero_mul] at s0
      have hsp := cells_spot s0
      obtain ⟨q, B, m, e, r0, r1, r2⟩ := cellsAt k hk
      rw [hsp, addr_add] at r0 r1
      exact ⟨q, x.block, x.off, B, m, e, hsp, r0, by simpa [Nat.add_assoc] using r1, r2⟩
    obtain ⟨f, hf⟩ := Go.Deep.choose_lt each
    refine ⟨some x, len, cap, (List.range len).map f, rfl, by simp, hl, by unfold maxLen at hm; omega, fun k hk => ?_⟩
    rw [Pl.pget_map_range f hk]
    obtain ⟨b, off, B, m, e, e1, e2, e3, e4⟩ := hf k hk
    exact ⟨b, off, B, m, e, by rw [e1], e2, e3, e4⟩
end Go.Proofs.Ytkanlbkfbkkknaa
