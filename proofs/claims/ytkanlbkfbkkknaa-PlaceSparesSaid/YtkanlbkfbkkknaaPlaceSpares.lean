/- PlaceSpares' walk: what is told shares no memory with what was handed in; for every input. -/
import Derived.Test.YtkanlbkfbkkknaaPlaceOpen
import Derived.Test.YtkanlbkfbkkknaaPlaceAwake
import Derived.Test.YtkanlbkfbkkknaaPlBack
namespace Go.Proofs.Ytkanlbkfbkkknaa
open Go.ChangeShapes Go.WideShapes Go.ChangeAt Go.RowKit

/-- Cells that are there, and may be written. -/
structure Room (w : World) (b n : Nat) : Prop where
  there : ∀ j, j < n → ∃ u, w.cell? ⟨b, j, none⟩ = some u
  free : ∀ j, w.frozen? ⟨b, j, none⟩ = false
theorem Room.ext {w w' : World} {b n : Nat} (h : Room w b n) (hb : b < w.heap.size) (hx : Ext w w') : Room w' b n :=
  ⟨fun j hj => by obtain ⟨u, hu⟩ := h.there j hj; exact ⟨u, hx.cell hu⟩, fun j => (Below.frozen hx (p := ⟨b, j, none⟩) hb).trans (h.free j)⟩
theorem Room.store {w : World} {b n : Nat} (h : Room w b n) (p : Addr) (u : Value) : Room (w.setCell p u) b n :=
  ⟨fun j hj => by obtain ⟨v, hv⟩ := h.there j hj; exact cell?_setCell_some hv, fun j => by rw [World.frozen?_setCell]; exact h.free j⟩
/-- Placements' rows, all from block B on, each of which may be written. -/
structure Rows2 (B : Nat) (w : World) (A : Option Addr) (m c : Nat) : Prop where
  le : m ≤ c
  max : c ≤ 9223372036854775807
  at_ : ∀ k, k < m → ∃ b A' n' c', A = some ⟨b, 0, none⟩ ∧ B ≤ b ∧ w.cell? ⟨b, k * 2 + 1, none⟩ = some (.slice A' n' c') ∧ n' ≤ c' ∧ c' ≤ 9223372036854775807 ∧ (0 < n' → ∃ b', A' = some ⟨b', 0, none⟩ ∧ b' ≠ b ∧ B ≤ b' ∧ Room w b' n')
theorem Rows2.store {B : Nat} {w : World} {b m c : Nat} (h : Rows2 B w (some ⟨b, 0, none⟩) m c) {p : Addr} (hp : p.block ≠ b) (u : Value) : Rows2 B (w.setCell p u) (some ⟨b, 0, none⟩) m c := by
  refine ⟨h.le, h.max, fun k hk => ?_⟩
  obtain ⟨b1, A', n', c', e, h1, h2, h3, h4, h5⟩ := h.at_ k hk
  injection e with e
  injection e with e
  subst e
  refine ⟨b, A', n', c', rfl, h1, ?_, h3, h4, fun hn => ?_⟩
  · rw [World.cell?_setCell_other _ _ _ _ (fun e => hp (by rw [e]))]; exact h2
  · obtain ⟨b', e1, e2, e3, e4⟩ := h5 hn
    exact ⟨b', e1, e2, e3, e4.store _ _⟩
theorem Rows2.far {B : Nat} {w : World} {A : Option Addr} {m c : Nat} (h : Rows2 B w A m c) {p : Addr} (hp : p.block < B) (u : Value) : Rows2 B (w.setCell p u) A m c := by
  refine ⟨h.le, h.max, fun k hk => ?_⟩
  obtain ⟨b, A', n', c', e, h1, h2, h3, h4, h5⟩ := h.at_ k hk
  refine ⟨b, A', n', c', e, h1, ?_, h3, h4, fun hn => ?_⟩
  · rw [World.cell?_setCell_other _ _ _ _ (fun e => by rw [e] at hp; exact absurd hp (by show ¬ b < B; omega))]; exact h2
  · obtain ⟨b', e1, e2, e3, e4⟩ := h5 hn
    exact ⟨b', e1, e2, e3, e4.store _ _⟩
theorem NewPs.rows {w w' : World} {v : Value} {l : List Pl.P} (h : NewPs w w' v l) : ∃ A c, v = .slice A l.length c ∧ Rows2 w.heap.size w' A l.length c := by
  obtain ⟨cs, h1, h2⟩ := h.own.cells
  obtain ⟨A, c, rfl, q1, q2⟩ := ownsRow_slice h1
  refine ⟨A, c, rfl, q1, q2, fun k hk => ?_⟩
  obtain ⟨A1, n1, c1, a1, a2, a3, a4, _, a6⟩ := h2 k hk
  obtain ⟨b, rfl, e1, e2⟩ := own_addr h1 (by omega)
  refine ⟨b, A1, n1, c1, rfl, e1, ?_, a3.le, a3.max, fun hn => ?_⟩
  · rw [h1.cellAt _ (by omega)]; exact a2
  · obtain ⟨b', rfl, f1, f2, f3⟩ := a6 trivial hn
    refine ⟨b', rfl, fun e => ?_, f1, fun j hj => ?_, f3⟩
    · have := (a4 hn b' rfl).2
      rw [e] at this
      exact this rfl
    · obtain ⟨b2, o2, e, hc⟩ := a3.rd.intAt hj
      injection e with e
      injection e with e e'
      subst e
      subst e'
      rw [Nat.zero_add] at hc
      exact ⟨_, hc⟩

namespace placeSpares
/-- Where the first loop stands. -/
structure At1 (B0 B : Nat) (w0 w : World) (g : Nat) (A : Option Addr) (n c : Nat) (A2 : Option Addr) (m c2 : Nat) : Prop where
  box : w.cell? ⟨g, 1, none⟩ = some (.slice A n c)
  row : 0 < n → ∃ b, A = some ⟨b, 0, none⟩ ∧ b ≠ g ∧ B0 ≤ b ∧ b < B ∧ Room w b n
  rows : Rows2 B w A2 m c2
  ext : Ext w0 w
/-- Where the second and third loops stand. -/
structure At2 (B : Nat) (w0 w : World) (A2 : Option Addr) (m c2 : Nat) : Prop where
  rows : Rows2 B w A2 m c2
  ext : Ext w0 w

set_option maxRecDepth 100000 in
set_option maxHeartbeats 4000000 in
theorem walk {H : Type} {enc : TypeId × Value → H} {base : Nat} (w : World) (v0 : Value) (d0 : DataW H) (p0 : List MemPlace) (a1 a2 : Int)
    (o0 : Value.okWide Try.prog w .any base 22 v0) (h0 : DataW.Trod enc Try.prog w 0 (fun _ => true) true 22 v0 d0 p0)
    (w1 : (Lit.int .u16 a1).wf = true) (w2 : (Lit.int .u8 a2).wf = true) :
    Calls Try.prog 6 #[v0, .int .u16 a1, .int .u8 a2] w fun e w' => e = .returned (.bool true) ∧ Ext w w' := by
  obtain ⟨x, y, z, rfl⟩ := open_u8x3 Try.underlying22 Try.underlying5 (by kernel_rfl) (by kernel_rfl) o0 h0
  obtain ⟨a, rfl⟩ := wf_u8 w2
  obtain ⟨s, rfl, hs⟩ : ∃ s : Nat, a1 = (s : Int) ∧ s < 65536 := by
    have := bounds_u16 w1
    exact ⟨a1.toNat, by omega, by omega⟩
  clear o0 h0 w1 w2
  have la := a.toNat_lt
  obtain ⟨hall, hlow, hlen⟩ := Pl.placedTo_facts x y z [] 8 (Nat.le_refl _)
  have hl40 : 1 ≤ (Pl.placed x y z []).length ∧ (Pl.placed x y z []).length ≤ 40 := by have : (Pl.placed x y z []).length = 1 + z.toNat % 40 := hlen; omega
  have HALL := Lib.hid (show Pl.All (Pl.placed x y z []) from hall)
  have HLOW := Lib.hid (show Pl.Low (Pl.placed x y z []) 9 from hlow)
  have UND := Lib.hid (Pl.placed_under x y z [])
  have MS : ∀ W : World, Ms W none 0 0 [] := fun W => ⟨rfl, Nat.le_refl _, by omega, fun k hk => absurd hk (Nat.not_lt_zero _)⟩
  have MS := Lib.hid MS
  clear hall hlow hlen
  go_enter Try.func6, Try.ntmps6
  try dsimp only [List.append]
  go_wp2_with (fail)
  have b0 : (w.alloc (.cells #[.int .u8 (x.toNat : Int), .int .u8 (y.toNat : Int), .int .u8 (z.toNat : Int)] 22)).heap[w.heap.size]? = some (.cells #[.int .u8 (x.toNat : Int), .int .u8 (y.toNat : Int), .int .u8 (z.toNat : Int)] 22 (0, 0)) := heap_alloc_new w _
  have g0 : w.heap.size < (w.alloc (.cells #[.int .u8 (x.toNat : Int), .int .u8 (y.toNat : Int), .int .u8 (z.toNat : Int)] 22)).heap.size := by simp
  refine (placed_any _ x y z none 0 0 [] (MS.out _)).mono ?_
  rintro r w1 ⟨B, m, d, rfl, hp, x1⟩
  have b1 := (x1.block w.heap.size g0).trans b0
  have c0 : w1.cell? ⟨w.heap.size, 0, none⟩ = some (.int .u8 (x.toNat : Int)) := by rw [cell_of_row w1 _ _ _ _ _ b1]; rfl
  have c1 : w1.cell? ⟨w.heap.size, 1, none⟩ = some (.int .u8 (y.toNat : Int)) := by rw [cell_of_row w1 _ _ _ _ _ b1]; rfl
  have c2 : w1.cell? ⟨w.heap.size, 2, none⟩ = some (.int .u8 (z.toNat : Int)) := by rw [cell_of_row w1 _ _ _ _ _ b1]; rfl
  have X1 := Lib.hid ((Ext.alloc w _).trans x1)
  clear b0 g0 x1 b1
  go_wp2_with (fail)
  refine (placed_any _ x y z none 0 0 [] (MS.out _)).mono ?_
  rintro r w2 ⟨B2, m2, d2, rfl, hp2, x2⟩
  have hp := hp.ext x2
  have X2 := Lib.hid (X1.out.trans x2)
  have L := Lib.hid hp.len
  have L2 := Lib.hid hp2.len
  clear c0 c1 c2 x2
  generalize Pl.placed x y z [] = l at *
  have hm : 1 ≤ m ∧ m ≤ 40 := by rw [← L.out]; exact hl40
  go_wp2_with (fail)
  refine (of_ok w2 B m d l s hp (by omega) (by omega) (by omega) (by have := (HALL.out.2.2 _ (Pl.pget_mem (l := l) (k := s % m) (by rw [L.out]; exact Nat.mod_lt _ (by omega)))).1.2.2.2.2.2; omega)).mono ?_
  rintro r w3 ⟨v, rfl, hv⟩
  obtain ⟨D, e, rfl, q1, q2⟩ := ownsRow_slice hv.own
  have own3 := hv.own
  have hp3 := hp.ext hv.ext
  have X3 := Lib.hid (X2.out.trans hv.ext)
  have x3 := hv.ext
  generalize (Pl.pget l (s % m)).2 = pn at *
  generalize (Pl.pget l (s % m)).1 = pe at *
  clear hv
  go_wp2_with (fail)
  obtain ⟨ia, ha, ha1, ha2⟩ : ∃ i : Int, (a.toNat : Int) % 40 = i ∧ 0 ≤ i ∧ i < 40 := ⟨_, rfl, by omega, by omega⟩
  rw [ha]
  clear ha la
  have M1 := Lib.hid (Pl.mayMove_fresh (a := ia) (b := 50) HLOW.out (by omega) (by omega) (by omega) (by omega) (UND.out.out (by omega)))
  have box : (w3.alloc (.cells #[.int .i64 pe, .slice D pn.length e] 33)).cell? ⟨w3.heap.size, 1, none⟩ = some (.slice D pn.length e) := by rw [World.cell?_alloc_new]; rfl
  have hsz : (w3.alloc (.cells #[.int .i64 pe, .slice D pn.length e] 33)).heap.size = w3.heap.size + 1 := by simp
  have x4 : Ext w3 (w3.alloc (.cells #[.int .i64 pe, .slice D pn.length e] 33)) := Ext.alloc _ _
  have hrow : 0 < pn.length → ∃ b, D = some ⟨b, 0, none⟩ ∧ w2.heap.size ≤ b ∧ b < w3.heap.size ∧ Room w3 b pn.length := by
    intro hn
    obtain ⟨b, rfl, h1, h2⟩ := own_addr own3 hn
    exact ⟨b, rfl, h1, h2, fun j hj => ⟨.int .i64 (Il.get pn j), by rw [own3.cellAt j (by omega), icells_get hj]⟩, fun j => own3.frozenAt j⟩
  generalize (w3.alloc (.cells #[.int .i64 pe, .slice D pn.length e] 33)) = W at *
  refine (move_ok W B m d l (hp3.ext x4) ia 50 HALL.out M1.out).mono ?_
  rintro r w4 ⟨v, gs, rfl, hv, _⟩
  obtain ⟨A2, c2, rfl, hrows⟩ := hv.rows
  have hml : (Pl.moved l ia 50).length = m := by rw [Pl.moved_length]; exact L.out
  rw [hml] at hrows ⊢
  rw [hsz] at hrows
  have hg3 : w3.heap.size < W.heap.size := by omega
  have at1 : At1 w2.heap.size (w3.heap.size + 1) w2 w4 w3.heap.size D pn.length e A2 m c2 := by
    refine ⟨hv.ext.cell box, fun hn => ?_, hrows, (x3.trans x4).trans hv.ext⟩
    obtain ⟨b, e1, h1, h2, h3⟩ := hrow hn
    exact ⟨b, e1, by omega, h1, by omega, (h3.ext h2 x4).ext (by omega) hv.ext⟩
  have hm1 := hrows.le
  have hm2 := hrows.max
  have hmx := hp.max
  have hle := hp.le
  have e00 : ((m : Int) != (m : Int)) = false := by simp
  have g2 : w2.heap.size ≤ w3.heap.size := x3.size
  have X2' := X2
  clear hrow hsz x4 box hv hml hrows own3 x3 hp3 hg3 MS
  have bx := at1.box
  go_wp2_with (fail)
  clear bx
  go_loopw [67] (fun i wr => ∃ k : Nat, k ≤ pn.length ∧ i = .int .i64 k ∧ At1 w2.heap.size (w3.heap.size + 1) w2 wr w3.heap.size D pn.length e A2 m c2) (fun i _ => pn.length - (intOf i).toNat)
  case atStart => exact ⟨0, by omega, rfl, at1⟩
  case round =>
    obtain ⟨k, hk, rfl, at2⟩ := hrel
    clear at1
    by_cases hlt : k < pn.length
    · have q3 : (k : Int) < pn.length := by omega
      obtain ⟨b, rfl, n1, n2, n3, n4⟩ := at2.row (by omega)
      have bx := at2.box
      obtain ⟨u, hu⟩ := n4.there k hlt
      have hf := n4.free k
      have AT := Lib.hid at2
      have hbs := World.block_lt_of_cell? _ _ hu
      clear at2 n4
      go_wp2_with (fail)
      refine ⟨⟨k + 1, by omega, by go_num, ?_⟩, by simp [intOf]; omega⟩
      refine ⟨?_, fun hn => ?_, AT.out.rows.far (by show b < w3.heap.size + 1; omega) _, AT.out.ext.set_ (by show w2.heap.size ≤ b; omega) _⟩
      · rw [World.cell?_setCell_other _ _ _ _ (fun e => by injection e with e1; omega)]; exact AT.out.box
      · obtain ⟨b', e1, e2, e3, e4, e5⟩ := AT.out.row hn
        exact ⟨b', e1, e2, e3, e4, e5.store _ _⟩
    · have q3 : ¬ (k : Int) < pn.length := by omega
      have at3 : At2 (w3.heap.size + 1) w2 wr A2 m c2 := ⟨at2.rows, at2.ext⟩
      clear at2
      go_wp2_with (fail)
      go_loopw [77] (fun i wr => ∃ k : Nat, k ≤ m ∧ i = .int .i64 k ∧ At2 (w3.heap.size + 1) w2 wr A2 m c2) (fun i _ => m - (intOf i).toNat)
      case atStart => exact ⟨0, by omega, rfl, at3⟩
      case round =>
        obtain ⟨g, hg, rfl, at4⟩ := hrel
        clear at3
        by_cases hlg : g < m
        · have q4 : (g : Int) < m := by omega
          obtain ⟨b, A', n', c', rfl, h1, h2, h3, h4, h5⟩ := at4.rows.at_ g hlg
          have AT := Lib.hid at4
          have H5 := Lib.hid h5
          obtain ⟨wo, rfl⟩ : ∃ wo : World, wo = wr := ⟨_, rfl⟩
          clear at4 h5
          go_wp2_with (fail)
          go_loopw [86] (fun i wr => ∃ k : Nat, k ≤ n' ∧ i = .int .i64 k ∧ At2 (w3.heap.size + 1) w2 wr (some ⟨b, 0, none⟩) m c2 ∧ wr.cell? ⟨b, g * 2 + 1, none⟩ = some (.slice A' n' c') ∧ (0 < n' → ∃ b', A' = some ⟨b', 0, none⟩ ∧ b' ≠ b ∧ w3.heap.size + 1 ≤ b' ∧ Room wr b' n')) (fun i _ => n' - (intOf i).toNat)
          case atStart => exact ⟨0, by omega, rfl, AT.out, h2, H5.out⟩
          case round =>
            obtain ⟨j, hj, rfl, at5, h2', h5'⟩ := hrel
            clear h2 H5 AT
            by_cases hlj : j < n'
            · have q5 : (j : Int) < n' := by omega
              obtain ⟨b', rfl, n1, n2, n3⟩ := h5' (by omega)
              obtain ⟨u, hu⟩ := n3.there j hlj
              have hf := n3.free j
              have AT := Lib.hid at5
              have N3 := Lib.hid n3
              clear at5 n3 h5'
              go_wp2_with (fail)
              refine ⟨⟨j + 1, by omega, by go_num, ⟨AT.out.rows.store (by show b' ≠ b; exact n1) _, AT.out.ext.set_ (by show w2.heap.size ≤ b'; omega) _⟩, ?_, fun _ => ⟨b', rfl, n1, n2, N3.out.store _ _⟩⟩, by simp [intOf]; omega⟩
              rw [World.cell?_setCell_other _ _ _ _ (fun e => by injection e with e1; omega)]; exact h2'
            · have q5 : ¬ (j : Int) < n' := by omega
              clear h2' h5'
              go_wp2_with (fail)
              exact ⟨⟨g + 1, by omega, by go_num, at5⟩, by simp [intOf]; omega⟩
        · have q4 : ¬ (g : Int) < m := by omega
          have xx := at4.ext
          clear at4
          go_wp2_with (fail)
          refine (samePlaces_any _ B B2 m d m2 d2 _ _ (hp.ext xx) (hp2.ext xx)).mono ?_
          rintro r w9 ⟨rfl, hd⟩
          rw [decide_eq_true rfl]
          go_wp2_with (fail)
          refine (awake_any _).mono ?_
          rintro r w10 ⟨rfl, x10⟩
          go_wp2_with (fail)
          go_ret
          exact ⟨rfl, ((X2'.out.trans xx).trans (Dr.ext hd)).trans x10⟩
end placeSpares
end Go.Proofs.Ytkanlbkfbkkknaa
