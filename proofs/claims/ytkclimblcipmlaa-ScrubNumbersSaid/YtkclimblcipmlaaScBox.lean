/- A scrubbing in its box of four cells; the contracts of scrub.own and Right. -/
import Derived.Test.YtkclimblcipmlaaScFunc
import Derived.Test.YtkclimblcipmlaaMem
import Derived.Laws.ResultCell
namespace Go.Proofs.Ytkclimblcipmlaa
open Go.RowKit

theorem results_cell1 {fn : Func} {p : Tmp} {ty : TypeId} (h : fn.results = #[.cell p ty]) (tmps : Array Value) (P : Program) (w : World) :
    (results fn tmps).run P w = ((asAddr (tmps.getD p undef)).run P w).andThen fun a w1 => (loadVar ty a).run P w1 := by
  simp only [results, h]
  simp [Sem.run_bind, Result.andThen]
theorem results_cell_tmp2 {fn : Func} {p u v : Tmp} {ty : TypeId} (h : fn.results = #[.cell p ty, .tmp u, .tmp v]) (tmps : Array Value) (P : Program) (w : World) :
    (results fn tmps).run P w = ((asAddr (tmps.getD p undef)).run P w).andThen fun a w1 => ((loadVar ty a).run P w1).andThen fun x w2 => .ok (.tuple #[x, tmps.getD u undef, tmps.getD v undef]) w2 := by
  simp only [results, h]
  simp [Sem.run_bind, Result.andThen]
/-- A scrubbing as a value. -/
abbrev sval (c : Int) (q : Bool) (U B : Value) : Value := .agg #[.int .i64 c, .bool q, U, B]
/-- Block g holds a scrubbing. -/
structure Sb (w : World) (g : Nat) (c : Int) (q : Bool) (U B : Value) : Prop where
  blk : w.heap[g]? = some (.cells #[.int .i64 c, .bool q, U, B] 24 (0, 0))
section
variable {w : World} {g : Nat} {c : Int} {q : Bool} {U B : Value}
theorem Sb.lt (h : Sb w g c q U B) : g < w.heap.size := (Array.getElem?_eq_some_iff.1 h.blk).1
theorem Sb.c0 (h : Sb w g c q U B) : w.cell? ⟨g, 0, none⟩ = some (.int .i64 c) := by rw [cell_of_row w _ _ _ _ _ h.blk]; rfl
theorem Sb.c1 (h : Sb w g c q U B) : w.cell? ⟨g, 1, none⟩ = some (.bool q) := by rw [cell_of_row w _ _ _ _ _ h.blk]; rfl
theorem Sb.c2 (h : Sb w g c q U B) : w.cell? ⟨g, 2, none⟩ = some U := by rw [cell_of_row w _ _ _ _ _ h.blk]; rfl
theorem Sb.c3 (h : Sb w g c q U B) : w.cell? ⟨g, 3, none⟩ = some B := by rw [cell_of_row w _ _ _ _ _ h.blk]; rfl
theorem Sb.fz (h : Sb w g c q U B) (j : Nat) : w.frozen? ⟨g, j, none⟩ = false := frozen_of_row w _ _ _ _ h.blk
theorem Sb.ext {w' : World} (h : Sb w g c q U B) (hx : Ext w w') : Sb w' g c q U B := ⟨(hx.block g h.lt).trans h.blk⟩
theorem Sb.kept {w' : World} {row : Option Nat} (h : Sb w g c q U B) (hg : w.grownBy w' row) (hr : row ≠ some g) : Sb w' g c q U B := ⟨(hg.block g h.lt (fun e => hr e.symm)).trans h.blk⟩
theorem Sb.set0 (h : Sb w g c q U B) (x : Int) : Sb (w.setCell ⟨g, 0, none⟩ (.int .i64 x)) g x q U B := ⟨heap_setCell_same w g 0 _ _ (.int .i64 x) h.blk⟩
theorem Sb.set1 (h : Sb w g c q U B) (x : Bool) : Sb (w.setCell ⟨g, 1, none⟩ (.bool x)) g c x U B := ⟨heap_setCell_same w g 1 _ _ (.bool x) h.blk⟩
theorem Sb.set2 (h : Sb w g c q U B) (x : Value) : Sb (w.setCell ⟨g, 2, none⟩ x) g c q x B := ⟨heap_setCell_same w g 2 _ _ x h.blk⟩
theorem Sb.set3 (h : Sb w g c q U B) (x : Value) : Sb (w.setCell ⟨g, 3, none⟩ x) g c q U x := ⟨heap_setCell_same w g 3 _ _ x h.blk⟩
theorem Sb.far (h : Sb w g c q U B) {p : Addr} (hp : p.block ≠ g) (u : Value) : Sb (w.setCell p u) g c q U B := ⟨(heap_setCell_other w p g u (fun e => hp e.symm)).trans h.blk⟩
/-- The world, the whole scrubbing laid into box g. -/
abbrev four (w : World) (g : Nat) (c : Int) (q : Bool) (U B : Value) : World :=
  (((w.setCell ⟨g, 0, none⟩ (.int .i64 c)).setCell ⟨g, 1, none⟩ (.bool q)).setCell ⟨g, 2, none⟩ U).setCell ⟨g, 3, none⟩ B
theorem Sb.whole (h : Sb w g c q U B) (c' : Int) (q' : Bool) (U' B' : Value) : Sb (four w g c' q' U' B') g c' q' U' B' := (((h.set0 c').set1 q').set2 U').set3 B'
theorem Sb.res (h : Sb w g c q U B) : (loadVar 24 ⟨g, 0, none⟩).run Try.prog w = .ok (sval c q U B) w := by
  simp [go_sem, h.c0, h.c1, h.c2, h.c3]
end
theorem Sb.new (w : World) (c : Int) (q : Bool) (U B : Value) {g : Nat} (hg : w.heap.size = g) : Sb (w.alloc (.cells #[.int .i64 c, .bool q, U, B] 24)) g c q U B := ⟨by rw [← hg]; exact heap_alloc_new w _⟩
theorem Ext.four {w W : World} {g : Nat} (h : Ext w W) (hg : w.heap.size ≤ g) (c : Int) (q : Bool) (U B : Value) : Ext w (four W g c q U B) :=
  (((h.set_ (p := ⟨g, 0, none⟩) hg _).set_ (p := ⟨g, 1, none⟩) hg _).set_ (p := ⟨g, 2, none⟩) hg _).set_ (p := ⟨g, 3, none⟩) hg _
theorem own_four {base m g z : Nat} {t : TypeId} {w : World} {v : Value} {cs : List Value} (h : w.ownsRow base t z v m cs) (hg : g < base) (c : Int) (q : Bool) (U B : Value) : (four w g c q U B).ownsRow base t z v m cs :=
  ownsRow_far (ownsRow_far (ownsRow_far (ownsRow_far h (p := ⟨g, 0, .none⟩) hg _) (p := ⟨g, 1, .none⟩) hg _) (p := ⟨g, 2, .none⟩) hg _) (p := ⟨g, 3, .none⟩) hg _
/-- The lists of a scrubbing, both in memory of one's own. -/
structure Ow (w : World) (base : Nat) (U B : Value) (u b : List Int) : Prop where
  u : w.ownsRow base 3 1 U u.length (icells u)
  b : w.ownsRow base 3 1 B b.length (icells b)
  ne : ∀ k, U.ownBlock = some k → B.ownBlock ≠ some k
theorem Ow.ext {w w' : World} {base : Nat} {U B : Value} {u b : List Int} (h : Ow w base U B u b) (hx : Ext w w') : Ow w' base U B u b := ⟨ownsRow_ext h.u hx, ownsRow_ext h.b hx, h.ne⟩
theorem Ow.four {w : World} {base g : Nat} {U B U' B' : Value} {u b : List Int} (h : Ow w base U B u b) (hg : g < base) (c : Int) (q : Bool) : Ow (four w g c q U' B') base U B u b := ⟨own_four h.u hg _ _ _ _, own_four h.b hg _ _ _ _, h.ne⟩
theorem Ow.far {w : World} {base : Nat} {U B : Value} {u b : List Int} (h : Ow w base U B u b) {p : Addr} (hp : p.block < base) (x : Value) : Ow (w.setCell p x) base U B u b := ⟨ownsRow_far h.u hp x, ownsRow_far h.b hp x, h.ne⟩
theorem Ow.apart {w : World} {base : Nat} {U B : Value} {u b : List Int} (h : Ow w base U B u b) : B.ownBlock = none ∨ B.ownBlock ≠ U.ownBlock := by
  rcases hb : B.ownBlock with _ | k
  · exact .inl rfl
  · exact .inr (fun e => h.ne k e.symm hb)
theorem Ow.apart' {w : World} {base : Nat} {U B : Value} {u b : List Int} (h : Ow w base U B u b) : U.ownBlock = none ∨ U.ownBlock ≠ B.ownBlock := by
  rcases hb : U.ownBlock with _ | k
  · exact .inl rfl
  · exact .inr (fun e => h.ne k hb e.symm)
theorem own_is {w : World} {base : Nat} {v : Value} {l : List Int} (h : w.ownsRow base 3 1 v l.length (icells l)) : ∃ A c, v = .slice A l.length c ∧ Is w A l.length c l := by
  obtain ⟨A, c, rfl, _, _⟩ := ownsRow_slice h
  exact ⟨A, c, rfl, (Own.mk (base := base) (e := 3) h).ints⟩
theorem Ow.base {w : World} {base b' : Nat} {U B : Value} {u b : List Int} (h : Ow w base U B u b) (hb : b' ≤ base) : Ow w b' U B u b := ⟨ownsRow_base h.u hb, ownsRow_base h.b hb, h.ne⟩
/-- The list's block holds whole numbers, and is none of the first N. -/
def Fr (N : Nat) (w : World) (n : Nat) (A : Option Addr) : Prop := 0 < n → ∃ b o cs fr, A = some ⟨b, o, none⟩ ∧ w.heap[b]? = some (.cells cs 3 fr) ∧ N ≤ b
theorem Fr.ext {N : Nat} {w w' : World} {n : Nat} {A : Option Addr} (h : Fr N w n A) (hx : Ext w w') : Fr N w' n A := fun hn => by
  obtain ⟨b, o, cs, fr, e, hb, hN⟩ := h hn
  exact ⟨b, o, cs, fr, e, (hx.block b (Array.getElem?_eq_some_iff.1 hb).1).trans hb, hN⟩
theorem own_fr {W : World} {base N n c : Nat} {A : Option Addr} {xs : List Value} (h : W.ownsRow base 3 1 (.slice A n c) n xs) (hN : N ≤ base) : Fr N W n A := fun hn => by
  rcases h.2 with ⟨h1, h2⟩ | ⟨g, cap, cur, h1, hb, hg, _⟩
  · omega
  · injection h1 with h1 _ _
    exact ⟨g, 0, cur, (0, 0), h1, hg, by omega⟩
/-- A list that is handed through (where there is an error), or is new. -/
def Pass (N : Nat) (w : World) (er : Int) (A0 : Option Addr) (n0 : Nat) (A : Option Addr) (n : Nat) : Prop := (A = A0 ∧ n = n0 ∧ er ≠ 0) ∨ Fr N w n A
/-- What scrub.own hands back. -/
def GivesOwn (c : Int) (q : Bool) (u b : List Int) (w : World) (e : Ending) (w' : World) : Prop := ∃ U B, e = .returned (sval c q U B) ∧ Ow w' w.heap.size U B u b ∧ Ext w w'
set_option maxRecDepth 100000 in
set_option maxHeartbeats 2000000 in
theorem scOwn_any (w : World) (cu : Int) (qu : Bool) (A : Option Addr) (n c : Nat) (B : Option Addr) (m d : Nat) (u b : List Int) (hu : Is w A n c u) (hb : Is w B m d b) (hn : n ≤ 100000) (hm : m ≤ 100000) :
    Calls Try.prog 24 #[sval cu qu (.slice A n c) (.slice B m d)] w (GivesOwn cu qu u b w) := by
  have q1 := hu.max
  have q2 := hu.le
  have q3 := hb.max
  have q4 := hb.le
  obtain ⟨W, hW⟩ : ∃ W, (w.alloc (.cells #[.int .i64 cu, .bool qu, .slice A n c, .slice B m d] 24)).alloc (.cells #[.int .i64 0, .bool false, .slice none 0 0, .slice none 0 0] 24) = W := ⟨_, rfl⟩
  have xA : Ext w W := by rw [← hW]; exact (Ext.alloc _ _).thenAlloc _
  have s1 : Sb W w.heap.size cu qu (.slice A n c) (.slice B m d) := by rw [← hW]; exact (Sb.new w _ _ _ _ rfl).ext (Ext.alloc _ _)
  have s2 : Sb W (w.heap.size + 1) 0 false (.slice none 0 0) (.slice none 0 0) := by rw [← hW]; exact Sb.new _ _ _ _ _ (by simp)
  have sz : W.heap.size = w.heap.size + 2 := by rw [← hW]; simp
  have HC1 := Lib.hid (fun (V : World) (hV : Ext W V) => cloneInts_any V A n c u (hu.ext (xA.trans hV)) (by omega))
  have HC2 := Lib.hid (fun (V : World) (hV : Ext W V) => cloneInts_any V B m d b (hb.ext (xA.trans hV)) (by omega))
  have S1 := Lib.hid s1
  have S2 := Lib.hid s2
  have SZ := Lib.hid sz
  have k0 := s1.c0
  have k1 := s1.c1
  have k2 := s1.c2
  have k3 := s1.c3
  have HW := Lib.hid hW
  clear hu hb s1 s2 sz hW
  go_enter Try.func24, Try.ntmps24
  go_wp2_with (fail)
  rw [HW.out]
  go_region_with (first
    | (((with_reducible refine (HC1.out _ (Ext.drew _)).mono ?_); (rintro e w1 ⟨v1, rfl, hv1⟩; obtain ⟨A1, d1, rfl, _⟩ := ownsRow_slice hv1.own; have z1 : Ext W w1 := (Ext.drew _).trans hv1.ext; have j3 := z1.cell k3; have HV1 := Lib.hid hv1; clear hv1)))
    | (((with_reducible refine (HC2.out _ z1).mono ?_); (rintro e w2 ⟨v2, rfl, hv2⟩; obtain ⟨A2, d2, rfl, _⟩ := ownsRow_slice hv2.own; have z2 : Ext W w2 := z1.trans hv2.ext; have a0 := (S1.out.ext z2).c0; have a1 := (S1.out.ext z2).c1; have a2 := (S1.out.ext z2).c2; have a3 := (S1.out.ext z2).c3; have a4 := (S1.out.ext z2).fz 2; have a5 := (S1.out.ext z2).fz 3; have b0 := (S2.out.ext z2).c0; have b1 := (S2.out.ext z2).c1; have b2 := (S2.out.ext z2).c2; have b3 := (S2.out.ext z2).c3; have b4 := (S2.out.ext z2).fz 0; have b5 := (S2.out.ext z2).fz 1; have b6 := (S2.out.ext z2).fz 2; have b7 := (S2.out.ext z2).fz 3; have HV2 := Lib.hid hv2; clear hv2)))
    | fail)
  all_goals
    go_wp2_with (fail)
    have hs1 := z1.size
    have hs := SZ.out
    have O1 : w1.ownsRow (w.heap.size + 2) 3 1 (.slice A1 u.length d1) u.length (icells u) := ownsRow_base HV1.out.own (by show _ ≤ W.heap.size; omega)
    have O2 := HV2.out.own
    have ow : Ow w2 (w.heap.size + 2) (.slice A1 u.length d1) (.slice A2 b.length d2) u b := ⟨ownsRow_ext O1 HV2.out.ext, ownsRow_base O2 (by omega), fun k hk hk2 => by
      have h1 := (O1.lt k hk).2
      have h2 := (O2.lt k hk2).1
      omega⟩
    have ow2 := ((ow.far (p := ⟨w.heap.size, 2, none⟩) (by show w.heap.size < _; omega) (.slice A1 u.length d1)).far (p := ⟨w.heap.size, 3, none⟩) (by show w.heap.size < _; omega) (.slice A2 b.length d2)).four (g := w.heap.size + 1) (U' := .slice A1 u.length d1) (B' := .slice A2 b.length d2) (by omega) cu qu
    have hb := (((S2.out.ext z2).far (p := ⟨w.heap.size, 2, none⟩) (by show w.heap.size ≠ _; omega) (.slice A1 u.length d1)).far (p := ⟨w.heap.size, 3, none⟩) (by show w.heap.size ≠ _; omega) (.slice A2 b.length d2)).whole cu qu (.slice A1 u.length d1) (.slice A2 b.length d2)
    have hr := hb.res
    refine bodyPost_ret (v := sval cu qu (.slice A1 u.length d1) (.slice A2 b.length d2)) ?_ rfl ⟨_, _, rfl, ow2.base (by omega), ((((xA.trans z2).set_ (p := ⟨w.heap.size, 2, none⟩) (Nat.le_refl _) _).set_ (p := ⟨w.heap.size, 3, none⟩) (Nat.le_refl _) _).four (g := w.heap.size + 1) (by omega) _ _ _ _)⟩
    rw [results_cell1 rfl]
    simp [asAddr, Result.andThen, hr]
end Go.Proofs.Ytkclimblcipmlaa
