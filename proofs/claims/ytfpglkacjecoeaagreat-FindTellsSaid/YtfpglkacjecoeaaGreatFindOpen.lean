/- A find that came in as an argument, opened. No statement of the seat is proved here. -/
import Derived.Test.YtfpglkacjecoeaaGreatCt14
import Derived.Test.YtfpglkacjecoeaaGreatCt4
import Derived.Deep.Fields
namespace Go.Proofs.YtfpglkacjecoeaaGreat
open Go.ChangeShapes Go.WideShapes Go.ChangeAt Go.RowKit

theorem IsRow.ints13 {w : World} {a : Option Addr} {len cap : Nat} {zs : List Int} (h : IsRow .i64 w a len cap zs) : Is w a len cap (zs.take len) := by
  rcases h with ⟨rfl, rfl, rfl, rfl⟩ | ⟨x, rfl, h1, h2, h3, h4, _⟩
  · exact Is.none w
  · have hl : (zs.take len).length = len := by rw [List.length_take]; omega
    refine ⟨hl, h1, by unfold maxLen at h2; omega, by rw [icells_length, hl]; omega, fun hn => ?_⟩
    have h0 := h4 0 (by omega)
    have hsp := cells_spot h0
    refine ⟨x.block, x.off, by rw [← hsp], fun j u hu => ?_⟩
    have hj : j < len := by
      have := (List.getElem?_eq_some_iff.1 hu).1
      rwa [icells_length, hl] at this
    have hc := h4 j (by omega)
    rw [hsp, addr_add] at hc
    rw [hc, ← hu, icells_get (by rw [hl]; exact hj), Il.get_take hj]
    rfl
set_option maxRecDepth 100000 in
theorem is_of_trod {H : Type} {enc : TypeId × Value → H} {W : World} {fuel : Nat} {v : Value} {x : DataW H × List MemPlace} (h : DataW.trod enc Tryz.prog W 0 (fun _ => true) true fuel 22 [v] = some x) : ∃ A n c l, v = .slice A n c ∧ Is W A n c l := by
  have hs : ∃ A n c, v = .slice A n c := by
    rcases Go.Deep.open_slice Tryz.underlying22 h with ⟨hcs, _⟩ | ⟨_, _, _, _, _, _, _, hcs, _⟩
    · injection hcs with hcs; exact ⟨_, _, _, hcs⟩
    · injection hcs with hcs; exact ⟨_, _, _, hcs⟩
  obtain ⟨A, m, c, rfl⟩ := hs
  obtain ⟨zs, hz⟩ := IsRow.of_trod (k := .i64) (e := 3) Tryz.underlying22 Tryz.underlying3 (by kernel_rfl) (show DataW.Trod enc Tryz.prog W 0 (fun _ => true) true 22 (.slice A m c) x.1 x.2 from ⟨fuel, by simpa [Value.cells] using h⟩)
  exact ⟨A, m, c, zs.take m, rfl, hz.ints13⟩
set_option maxRecDepth 100000 in
set_option maxHeartbeats 1000000 in
theorem find_open {H : Type} {enc : TypeId × Value → H} {W : World} {r : Reach} {b0 : Nat} {v : Value} {d : DataW H} {p : List MemPlace} (hv : Value.okWide Tryz.prog W r b0 25 v) (h : DataW.Trod enc Tryz.prog W 0 (fun _ => true) true 25 v d p) :
    ∃ (f : Finds.F) (A : Option Addr) (n c : Nat) (B : Option Addr) (m d : Nat) (C : Option Addr) (k e : Nat), v = fval f.stripe f.version f.need f.phase (.slice A n c) (.slice B m d) (.slice C k e) ∧ Fd W f A n c B m d C k e := by
  obtain ⟨cs, rfl, hsz⟩ := okWide_struct Tryz.underlying25 hv
  obtain ⟨l⟩ := cs
  match l, hsz.trans (show Tryz.prog.cellsOf 25 = 7 by kernel_rfl) with
  | [c0, c1, c2, c3, c4, c5, c6], _ =>
    obtain ⟨fuel, hf⟩ := h
    obtain ⟨xs, n, _, hx, _, hlen, hg⟩ := DataW.trod_struct Tryz.underlying25 hf
    have fld : ∀ (i : Nat) (f : Field) (c : Value), f.offset = i → Tryz.prog.cellsOf f.type = 1 → ([c0, c1, c2, c3, c4, c5, c6] : List Value)[i]? = some c → DataW.trod enc Tryz.prog W 0 (fun _ => true) true n f.type ((([c0, c1, c2, c3, c4, c5, c6] : List Value).drop f.offset).take (Tryz.prog.cellsOf f.type)) = xs[i]? → i < 7 → ∃ y, DataW.trod enc Tryz.prog W 0 (fun _ => true) true n f.type [c] = some y := by
      intro i f c ho hc hi hy h5
      have hx5 : xs.length = 7 := hlen
      rw [List.getElem?_eq_getElem (by omega), ho, hc] at hy
      have hl : i < ([c0, c1, c2, c3, c4, c5, c6] : List Value).length := h5
      rw [List.drop_eq_getElem_cons hl] at hy
      rw [List.getElem?_eq_getElem hl] at hi
      injection hi with hi
      rw [hi] at hy
      exact ⟨_, hy⟩
    obtain ⟨y0, k0⟩ := fld 0 _ c0 rfl (by kernel_rfl) rfl (hg 0 _ rfl) (by omega)
    obtain ⟨y1, k1⟩ := fld 1 _ c1 rfl (by kernel_rfl) rfl (hg 1 _ rfl) (by omega)
    obtain ⟨y2, k2⟩ := fld 2 _ c2 rfl (by kernel_rfl) rfl (hg 2 _ rfl) (by omega)
    obtain ⟨y3, k3⟩ := fld 3 _ c3 rfl (by kernel_rfl) rfl (hg 3 _ rfl) (by omega)
    obtain ⟨y4, k4⟩ := fld 4 _ c4 rfl (by kernel_rfl) rfl (hg 4 _ rfl) (by omega)
    obtain ⟨y5, k5⟩ := fld 5 _ c5 rfl (by kernel_rfl) rfl (hg 5 _ rfl) (by omega)
    obtain ⟨y6, k6⟩ := fld 6 _ c6 rfl (by kernel_rfl) rfl (hg 6 _ rfl) (by omega)
    obtain ⟨z0, e0, _, _⟩ := DataW.trod_int Tryz.underlying3 k0
    obtain ⟨z1, e1, _, _⟩ := DataW.trod_int Tryz.underlying3 k1
    obtain ⟨z2, e2, _, _⟩ := DataW.trod_int Tryz.underlying3 k2
    obtain ⟨z3, e3, _, _⟩ := DataW.trod_int Tryz.underlying3 k3
    injection e0 with e0
    injection e1 with e1
    injection e2 with e2
    injection e3 with e3
    subst e0 e1 e2 e3
    obtain ⟨A, n4, c4', l4, rfl, h4⟩ := is_of_trod k4
    obtain ⟨B, n5, c5', l5, rfl, h5⟩ := is_of_trod k5
    obtain ⟨C, n6, c6', l6, rfl, h6⟩ := mx_of_trod Tryz.underlying23 (by kernel_rfl) Tryz.underlying46 Tryz.underlying5 (by kernel_rfl) k6
    exact ⟨⟨z0, z1, z2, z3, l4, l5, l6⟩, A, n4, c4', B, n5, c5', C, n6, c6', rfl, h4, h5, h6⟩
set_option maxRecDepth 100000 in
theorem open_i64x4 {H : Type} {enc : TypeId × Value → H} {W : World} {r : Reach} {b0 : Nat} {t e : TypeId} {v : Value} {d : DataW H} {p : List MemPlace} (ht : Tryz.prog.underlying t = some (.array 4 e)) (he : Tryz.prog.underlying e = some (.int .i64)) (hc : Tryz.prog.cellsOf e = 1) (hct : Tryz.prog.cellsOf t = 4)
    (hv : Value.okWide Tryz.prog W r b0 t v) (h : DataW.Trod enc Tryz.prog W 0 (fun _ => true) true t v d p) : ∃ x y z u : Int, v = .agg #[.int .i64 x, .int .i64 y, .int .i64 z, .int .i64 u] := by
  obtain ⟨cs, rfl, _⟩ := okWide_array ht hv
  obtain ⟨fuel, hf⟩ := h
  obtain ⟨zs, hl, hcs, _⟩ := trod_int_array ht he hc hct hf
  match zs, hl with
  | [a, b, c, d], _ =>
    refine ⟨a, b, c, d, ?_⟩
    have : cs = ([Value.int .i64 a, .int .i64 b, .int .i64 c, .int .i64 d]).toArray := by
      rw [← Array.toList_inj]
      exact hcs
    rw [this]
end Go.Proofs.YtfpglkacjecoeaaGreat
