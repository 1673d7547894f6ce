/- A round and four numbers that came in as arguments; the words of RoundTells' walk. -/
import Derived.Test.YtgfhpgomlocllaaRoundHeld
import Derived.Test.YtgfhpgomlocllaaRoundOps
namespace Go.Proofs.Ytgfhpgomlocllaa
open Go.ChangeShapes Go.WideShapes Go.ChangeAt Go.RowKit

theorem IsRow.ints {w : World} {a : Option Addr} {len cap : Nat} {zs : List Int} (h : IsRow .i64 w a len cap zs) : Is w a len cap (zs.take len) := by
  rcases h with ⟨rfl, rfl, rfl, rfl⟩ | ⟨x, rfl, h1, h2, h3, h4, _⟩
  · exact Is.none w
  · have hl : (zs.take len).length = len := by rw [List.length_take]; omega
    refine ⟨hl, h1, by unfold maxLen at h2; omega, by rw [icells_length, hl]; omega, fun hn => ?_⟩
    have h0 := h4 0 (by omega)
    have hsp := cells_spot h0
    refine ⟨x.block, x.off, by rw [← hsp], fun j u hu => ?_⟩
    have hj : j < len := by
      have := (List.getElem?_eq_some_iff.1 hu).1
      rwa [icells_length, hl] at this
    have hc := h4 j (by omega)
    rw [hsp, addr_add] at hc
    rw [hc, ← hu, icells_get (by rw [hl]; exact hj), Il.get_take hj]
    rfl
theorem round_open {H : Type} {enc : TypeId × Value → H} {W : World} {r : Reach} {b0 : Nat} {v : Value} {d : DataW H} {p : List MemPlace} (hv : Value.okWide Try.prog W r b0 25 v) (h : DataW.Trod enc Try.prog W 0 (fun _ => true) true 25 v d p) :
    ∃ (q : Rounds.R) (A : Option Addr) (n c : Nat), v = rval q A n c ∧ Is W A n c q.marks := by
  obtain ⟨cs, rfl, hsz⟩ := okWide_struct Try.underlying25 hv
  obtain ⟨l⟩ := cs
  match l, hsz.trans (show Try.prog.cellsOf 25 = 5 by kernel_rfl) with
  | [c0, c1, c2, c3, c4], _ =>
    obtain ⟨fuel, hf⟩ := h
    obtain ⟨xs, n, _, hx, _, hlen, hg⟩ := DataW.trod_struct Try.underlying25 hf
    have fld : ∀ (i : Nat) (f : Field) (c : Value), f.offset = i → Try.prog.cellsOf f.type = 1 → ([c0, c1, c2, c3, c4] : List Value)[i]? = some c → DataW.trod enc Try.prog W 0 (fun _ => true) true n f.type ((([c0, c1, c2, c3, c4] : List Value).drop f.offset).take (Try.prog.cellsOf f.type)) = xs[i]? → i < 5 → ∃ y, DataW.trod enc Try.prog W 0 (fun _ => true) true n f.type [c] = some y := by
      intro i f c ho hc hi hy h5
      have hx5 : xs.length = 5 := hlen
      rw [List.getElem?_eq_getElem (by omega), ho, hc] at hy
      have hl : i < ([c0, c1, c2, c3, c4] : List Value).length := h5
      rw [List.drop_eq_getElem_cons hl] at hy
      rw [List.getElem?_eq_getElem hl] at hi
      injection hi with hi
      rw [hi] at hy
      exact ⟨_, hy⟩
    obtain ⟨y0, k0⟩ := fld 0 _ c0 rfl (by kernel_rfl) rfl (hg 0 _ rfl) (by omega)
    obtain ⟨y1, k1⟩ := fld 1 _ c1 rfl (by kernel_rfl) rfl (hg 1 _ rfl) (by omega)
    obtain ⟨y2, k2⟩ := fld 2 _ c2 rfl (by kernel_rfl) rfl (hg 2 _ rfl) (by omega)
    obtain ⟨y3, k3⟩ := fld 3 _ c3 rfl (by kernel_rfl) rfl (hg 3 _ rfl) (by omega)
    obtain ⟨y4, k4⟩ := fld 4 _ c4 rfl (by kernel_rfl) rfl (hg 4 _ rfl) (by omega)
    obtain ⟨z0, e0, _, _⟩ := DataW.trod_int Try.underlying3 k0
    obtain ⟨z1, e1, _, _⟩ := DataW.trod_int Try.underlying3 k1
    obtain ⟨z2, e2, _, _⟩ := DataW.trod_int Try.underlying3 k2
    obtain ⟨z3, e3, _, _⟩ := DataW.trod_int Try.underlying3 k3
    injection e0 with e0
    injection e1 with e1
    injection e2 with e2
    injection e3 with e3
    subst e0 e1 e2 e3
    have hs : ∃ A n c, c4 = .slice A n c := by
      rcases Go.Deep.open_slice Try.underlying23 k4 with ⟨hcs, _⟩ | ⟨x, l, c, _, _, _, _, hcs, _⟩
      · injection hcs with hcs; exact ⟨_, _, _, hcs⟩
      · injection hcs with hcs; exact ⟨_, _, _, hcs⟩
    obtain ⟨A, m, c, rfl⟩ := hs
    obtain ⟨zs, hz⟩ := IsRow.of_trod (k := .i64) (e := 3) Try.underlying23 Try.underlying3 (by kernel_rfl) (show DataW.Trod enc Try.prog W 0 (fun _ => true) true 23 (.slice A m c) y4.1 y4.2 from ⟨n, by simpa [Value.cells] using k4⟩)
    exact ⟨⟨z0, z1, z2, z3, zs.take m⟩, A, m, c, rfl, hz.ints⟩
theorem open_i64x4 {H : Type} {enc : TypeId × Value → H} {W : World} {r : Reach} {b0 : Nat} {t e : TypeId} {v : Value} {d : DataW H} {p : List MemPlace} (ht : Try.prog.underlying t = some (.array 4 e)) (he : Try.prog.underlying e = some (.int .i64)) (hc : Try.prog.cellsOf e = 1) (hct : Try.prog.cellsOf t = 4)
    (hv : Value.okWide Try.prog W r b0 t v) (h : DataW.Trod enc Try.prog W 0 (fun _ => true) true t v d p) : ∃ x y z u : Int, v = .agg #[.int .i64 x, .int .i64 y, .int .i64 z, .int .i64 u] := by
  obtain ⟨cs, rfl, _⟩ := okWide_array ht hv
  obtain ⟨fuel, hf⟩ := h
  obtain ⟨zs, hl, hcs, _⟩ := trod_int_array ht he hc hct hf
  match zs, hl with
  | [a, b, c, d], _ =>
    refine ⟨a, b, c, d, ?_⟩
    have : cs = ([Value.int .i64 a, .int .i64 b, .int .i64 c, .int .i64 d]).toArray := by
      rw [← Array.toList_inj]
      exact hcs
    rw [this]

/-- A row that is in none of three boxes. -/
structure Row3 (w : World) (g f h : Nat) (D : Option Addr) (n e : Nat) (l : List Int) : Prop where
  is_ : Is w D n e l
  ag : Away D n g
  af : Away D n f
  ah : Away D n h
section
variable {w w' W : World} {g f h q n n' e e' : Nat} {A D : Option Addr} {l m : List Int} {r R R1 R2 : Rounds.R}
theorem Row3.ext (t : Row3 w g f h D n e l) (hx : Ext w w') : Row3 w' g f h D n e l := ⟨t.is_.ext hx, t.ag, t.af, t.ah⟩
theorem Row3.five (t : Row3 w g f h D n e l) (hq : q = g ∨ q = f ∨ q = h) (a0 a1 a2 a3 a4 : Value) :
    Row3 (((((w.setCell ⟨q, 0, .none⟩ a0).setCell ⟨q, 1, .none⟩ a1).setCell ⟨q, 2, .none⟩ a2).setCell ⟨q, 3, .none⟩ a3).setCell ⟨q, 4, .none⟩ a4) g f h D n e l := by
  refine ⟨t.is_.five ?_ _ _ _ _ _, t.ag, t.af, t.ah⟩
  rcases hq with rfl | rfl | rfl
  · exact t.ag
  · exact t.af
  · exact t.ah
theorem Row3.step (t : Row3 w g f h A n e l) (hf : FreshOr w A n D n') (hi : Is W D n' e' m) (lg : g < w.heap.size) (lf : f < w.heap.size) (lh : h < w.heap.size) : Row3 W g f h D n' e' m :=
  ⟨hi, t.ag.step hf lg, t.af.step hf lf, t.ah.step hf lh⟩
/-- A round in box q, its row in none of three. -/
structure Hd (w : World) (q g f h : Nat) (r : Rounds.R) (D : Option Addr) (n e : Nat) : Prop where
  bx : Bx w q r.stripe r.version r.need r.phase (.slice D n e)
  row : Row3 w g f h D n e r.marks
theorem Hd.ext (t : Hd w q g f h r D n e) (hx : Ext w w') : Hd w' q g f h r D n e := ⟨t.bx.ext hx, t.row.ext hx⟩
theorem Hd.five {p : Nat} (t : Hd w p g f h r D n e) (hq : q = g ∨ q = f ∨ q = h) (hne : q ≠ p) (a0 a1 a2 a3 a4 : Value) :
    Hd (((((w.setCell ⟨q, 0, .none⟩ a0).setCell ⟨q, 1, .none⟩ a1).setCell ⟨q, 2, .none⟩ a2).setCell ⟨q, 3, .none⟩ a3).setCell ⟨q, 4, .none⟩ a4) p g f h r D n e :=
  ⟨t.bx.farFive hne _ _ _ _ _, t.row.five hq _ _ _ _ _⟩
/-- In a round of RoundTells: the round, the next one, the document's, and what the marks were. -/
structure Mid (w1 w : World) (g f h : Nat) (r R1 R2 : Rounds.R) (D : Option Addr) (n e : Nat) (D1 : Option Addr) (n1 e1 : Nat) (D2 : Option Addr) (n2 e2 : Nat) (A : Option Addr) (na ea : Nat) : Prop where
  a : Hd w g g f h r D n e
  x : Hd w h g f h R1 D1 n1 e1
  y : Hd w f g f h R2 D2 n2 e2
  u : Row3 w g f h A na ea r.marks
  ext : Ext w1 w
  gf : g ≠ f
  gh : g ≠ h
  fh : f ≠ h
  bg : w1.heap.size ≤ g
  bf : w1.heap.size ≤ f
  bh : w1.heap.size ≤ h
section
variable {w1 : World} {D1 D2 Aw : Option Addr} {n1 e1 n2 e2 na ea : Nat}
theorem Mid.on (t : Mid w1 w g f h r R1 R2 D n e D1 n1 e1 D2 n2 e2 Aw na ea) (hx : Ext w w') : Mid w1 w' g f h r R1 R2 D n e D1 n1 e1 D2 n2 e2 Aw na ea :=
  ⟨t.a.ext hx, t.x.ext hx, t.y.ext hx, t.u.ext hx, t.ext.trans hx, t.gf, t.gh, t.fh, t.bg, t.bf, t.bh⟩
theorem Mid.setX (t : Mid w1 w g f h r R1 R2 D n e D1 n1 e1 D2 n2 e2 Aw na ea) {B : Option Addr} (hf : FreshOr w D n B n') (hi : Is W B n' e' R.marks) (hx : Ext w W) :
    Mid w1 (((((W.setCell ⟨h, 0, .none⟩ (.int .i64 R.stripe)).setCell ⟨h, 1, .none⟩ (.int .i64 R.version)).setCell ⟨h, 2, .none⟩ (.int .i64 R.need)).setCell ⟨h, 3, .none⟩ (.int .i64 R.phase)).setCell ⟨h, 4, .none⟩ (.slice B n' e')) g f h r R R2 D n e B n' e' D2 n2 e2 Aw na ea := by
  have b1 := (t.x.bx.ext hx).whole R.stripe R.version R.need R.phase (.slice B n' e')
  have r1 := t.a.row.step hf hi t.a.bx.lt t.y.bx.lt t.x.bx.lt
  exact ⟨(t.a.ext hx).five (.inr (.inr rfl)) (Ne.symm t.gh) _ _ _ _ _, ⟨b1, r1.five (.inr (.inr rfl)) _ _ _ _ _⟩, (t.y.ext hx).five (.inr (.inr rfl)) (Ne.symm t.fh) _ _ _ _ _, (t.u.ext hx).five (.inr (.inr rfl)) _ _ _ _ _,
    (t.ext.trans hx).five t.bh _ _ _ _ _, t.gf, t.gh, t.fh, t.bg, t.bf, t.bh⟩
theorem Mid.setY (t : Mid w1 w g f h r R1 R2 D n e D1 n1 e1 D2 n2 e2 Aw na ea) {B : Option Addr} (hf : FreshOr w D2 n2 B n') (hi : Is W B n' e' R.marks) (hx : Ext w W) :
    Mid w1 (((((W.setCell ⟨f, 0, .none⟩ (.int .i64 R.stripe)).setCell ⟨f, 1, .none⟩ (.int .i64 R.version)).setCell ⟨f, 2, .none⟩ (.int .i64 R.need)).setCell ⟨f, 3, .none⟩ (.int .i64 R.phase)).setCell ⟨f, 4, .none⟩ (.slice B n' e')) g f h r R1 R D n e D1 n1 e1 B n' e' Aw na ea := by
  have b1 := (t.y.bx.ext hx).whole R.stripe R.version R.need R.phase (.slice B n' e')
  have r1 := t.y.row.step hf hi t.a.bx.lt t.y.bx.lt t.x.bx.lt
  exact ⟨(t.a.ext hx).five (.inr (.inl rfl)) (Ne.symm t.gf) _ _ _ _ _, (t.x.ext hx).five (.inr (.inl rfl)) t.fh _ _ _ _ _, ⟨b1, r1.five (.inr (.inl rfl)) _ _ _ _ _⟩, (t.u.ext hx).five (.inr (.inl rfl)) _ _ _ _ _,
    (t.ext.trans hx).five t.bf _ _ _ _ _, t.gf, t.gh, t.fh, t.bg, t.bf, t.bh⟩
/-- The end of a round: the next one becomes the round. -/
theorem Mid.close (t : Mid w1 w g f h r R R D n e D1 n1 e1 D2 n2 e2 Aw na ea) :
    Held (((((w.setCell ⟨g, 0, .none⟩ (.int .i64 R.stripe)).setCell ⟨g, 1, .none⟩ (.int .i64 R.version)).setCell ⟨g, 2, .none⟩ (.int .i64 R.need)).setCell ⟨g, 3, .none⟩ (.int .i64 R.phase)).setCell ⟨g, 4, .none⟩ (.slice D1 n1 e1)) g g f R D1 n1 e1 ∧
    Held (((((w.setCell ⟨g, 0, .none⟩ (.int .i64 R.stripe)).setCell ⟨g, 1, .none⟩ (.int .i64 R.version)).setCell ⟨g, 2, .none⟩ (.int .i64 R.need)).setCell ⟨g, 3, .none⟩ (.int .i64 R.phase)).setCell ⟨g, 4, .none⟩ (.slice D1 n1 e1)) f g f R D2 n2 e2 ∧
    Ext w1 (((((w.setCell ⟨g, 0, .none⟩ (.int .i64 R.stripe)).setCell ⟨g, 1, .none⟩ (.int .i64 R.version)).setCell ⟨g, 2, .none⟩ (.int .i64 R.need)).setCell ⟨g, 3, .none⟩ (.int .i64 R.phase)).setCell ⟨g, 4, .none⟩ (.slice D1 n1 e1)) := by
  refine ⟨⟨t.a.bx.whole _ _ _ _ _, t.x.row.is_.five t.x.row.ag _ _ _ _ _, t.x.row.ag, t.x.row.af⟩, ⟨t.y.bx.farFive t.gf _ _ _ _ _, t.y.row.is_.five t.y.row.ag _ _ _ _ _, t.y.row.ag, t.y.row.af⟩, t.ext.five t.bg _ _ _ _ _⟩
/-- The beginning of a round: behind the copy of the marks, and the next one's box. -/
theorem Mid.start {wr : World} (ha : Held wr g g f r D n e) (hy : Held wr f g f r D2 n2 e2) (hx1 : Ext w1 wr) (hgf : g ≠ f) (bg : w1.heap.size ≤ g) (bf : w1.heap.size ≤ f) (hx : Ext wr w) (hw : FreshOr wr .none 0 Aw na) (hi : Is w Aw na ea r.marks) :
    Mid w1 (w.alloc (.cells #[.int .i64 r.stripe, .int .i64 r.version, .int .i64 r.need, .int .i64 r.phase, .slice D n e] 25)) g f w.heap.size r r r D n e D n e D2 n2 e2 Aw na ea := by
  have la := ha.bx.lt
  have lf := hy.bx.lt
  have hs := hx.size
  have hs1 := hx1.size
  have x2 : Ext w (w.alloc (.cells #[.int .i64 r.stripe, .int .i64 r.version, .int .i64 r.need, .int .i64 r.phase, .slice D n e] 25)) := Ext.alloc _ _
  have da : Row3 wr g f w.heap.size D n e r.marks := ⟨ha.is_, ha.a, ha.b, Away.old ha.is_ hs⟩
  have dy : Row3 wr g f w.heap.size D2 n2 e2 r.marks := ⟨hy.is_, hy.a, hy.b, Away.old hy.is_ hs⟩
  exact ⟨⟨ha.bx.ext (hx.trans x2), da.ext (hx.trans x2)⟩, ⟨Bx.new w _ _ _ _ _ rfl, da.ext (hx.trans x2)⟩, ⟨hy.bx.ext (hx.trans x2), dy.ext (hx.trans x2)⟩,
    ⟨hi.ext x2, (Away.none g).step hw la, (Away.none f).step hw lf, Away.old hi (Nat.le_refl _)⟩, (hx1.trans hx).trans x2, hgf, by omega, by omega, bg, bf, by omega⟩
end
end
end Go.Proofs.Ytgfhpgomlocllaa
