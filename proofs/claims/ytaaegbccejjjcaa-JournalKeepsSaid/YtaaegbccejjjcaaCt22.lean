/- Several texts in one: The contract of the closure of a journal's write: one sector is written, if nothing failed so far. The contract of slices.Clone at bytes. -/
import Derived.Test.YtaaegbccejjjcaaCt20
import Derived.Test.YtaaegbccejjjcaaCt21
import Derived.Test.YtaaegbccejjjcaaCt1
import Derived.Deep.RegionHeld3
namespace Go.Proofs.Ytaaegbccejjjcaa
open Go.RowKit Go.Maps Go.Sort Go.Shelf

theorem Jn.jv {w : World} {p g m b N : Nat} {o : Option Nat} {j : Jo.J} {over : Bool} {d : Disks.D} (h : Jn w p g m b N o j over d) :
    ∃ A c v, Jv w p g j.half j.from_ j.next j.life (.slice A j.base.length c) v over ∧ Bs w A j.base.length c j.base ∧ Cold (Hot p g m b o) w A j.base.length ∧ v.ownBlock = o ∧ Rw (Hot p g m b o) w v j.recs := by
  obtain ⟨A, c, v, hb, h1, h2, h3, h4⟩ := h.mem
  exact ⟨A, c, v, ⟨hb⟩, h1, h2, h3, h4⟩
theorem Jn.c0 {w : World} {p g m b N : Nat} {o : Option Nat} {j : Jo.J} {over : Bool} {d : Disks.D} (h : Jn w p g m b N o j over d) : w.cell? ⟨p, 0, none⟩ = some (dptr g) := by
  obtain ⟨A, c, v, h1, _⟩ := h.jv
  exact h1.c0
/-- A journal that is being written, since a world: box x holds the error so far, box y leads to the journal's box. -/
structure Pw (w0 w : World) (x y p g m b N : Nat) (st : Disks.D × Int) : Prop where
  kp : Kp g m b w0 w
  ds : Ds w g m b N st.1
  bad : w.heap[x]? = some (.cells #[.int .i64 st.2] 24 (0, 0))
  box : w.heap[y]? = some (.cells #[.pointer (some ⟨p, 0, none⟩)] 27 (0, 0))
  lo : p < w0.heap.size ∧ g < w0.heap.size ∧ m < w0.heap.size ∧ b < w0.heap.size ∧ w0.heap.size ≤ x ∧ w0.heap.size ≤ y ∧ x ≠ y
section
variable {w0 w w' : World} {x y p g m b N : Nat} {st : Disks.D × Int}
theorem Pw.x0 (h : Pw w0 w x y p g m b N st) : w.cell? ⟨x, 0, none⟩ = some (.int .i64 st.2) := by rw [cell_of_row w _ _ _ _ _ h.bad]; rfl
theorem Pw.y0 (h : Pw w0 w x y p g m b N st) : w.cell? ⟨y, 0, none⟩ = some (.pointer (some ⟨p, 0, none⟩)) := by rw [cell_of_row w _ _ _ _ _ h.box]; rfl
theorem Pw.fx (h : Pw w0 w x y p g m b N st) (k : Nat) : w.frozen? ⟨x, k, none⟩ = false := frozen_of_row w _ _ _ _ h.bad
theorem Pw.ext (h : Pw w0 w x y p g m b N st) (hx : Ext w w') : Pw w0 w' x y p g m b N st :=
  ⟨h.kp.trans (Kp.of hx ..), h.ds.ext hx, (hx.block x (Array.getElem?_eq_some_iff.1 h.bad).1).trans h.bad, (hx.block y (Array.getElem?_eq_some_iff.1 h.box).1).trans h.box, h.lo⟩
theorem Pw.more (h : Pw w0 w x y p g m b N st) {N' : Nat} (hN : N ≤ N') : Pw w0 w x y p g m b N' st := ⟨h.kp, h.ds.mono hN, h.bad, h.box, h.lo⟩
/-- The journal is as it was. -/
theorem Pw.jn (h : Pw w0 w x y p g m b N st) {N0 : Nat} {o : Option Nat} {j : Jo.J} {over : Bool} {d : Disks.D} (h0 : Jn w0 p g m b N0 o j over d) : Jn w p g m b N o j over st.1 := h0.disk h.kp h.ds
/-- The disk did something, and its answer is kept. -/
theorem Pw.turn {d' : Disks.D} {e : Int} {N' : Nat} (h : Pw w0 w x y p g m b N st) (k : Kp g m b w w') (hd : Ds w' g m b N' d') : Pw w0 (w'.setCell ⟨x, 0, none⟩ (.int .i64 e)) x y p g m b N' (d', e) := by
  obtain ⟨l1, l2, l3, l4, l5, l6, l7⟩ := h.lo
  have hx : w'.heap[x]? = some (.cells #[.int .i64 st.2] 24 (0, 0)) := (k.block x (Array.getElem?_eq_some_iff.1 h.bad).1 (by omega) (by omega) (by omega)).trans h.bad
  have hy : w'.heap[y]? = some (.cells #[.pointer (some ⟨p, 0, none⟩)] 27 (0, 0)) := (k.block y (Array.getElem?_eq_some_iff.1 h.box).1 (by omega) (by omega) (by omega)).trans h.box
  refine ⟨(h.kp.trans k).set (p := ⟨x, 0, none⟩) (.inr (.inr (.inr l5))) _, hd.farC (p := ⟨x, 0, none⟩) (by show x ≠ g; omega) (by show x ≠ m; omega) (by show x ≠ b; omega) _, heap_setCell_same w' x 0 _ _ (.int .i64 e) hx, ?_, h.lo⟩
  exact (heap_setCell_other w' ⟨x, 0, none⟩ y _ (by show y ≠ x; omega)).trans hy
end
def GivesP (w0 : World) (x y p g m b N : Nat) (st : Disks.D × Int) (e : Ending) (w' : World) : Prop := e = .returned (.tuple #[]) ∧ Pw w0 w' x y p g m b (N + 1) st
theorem Cold.awy {w : World} {p g m b : Nat} {o : Option Nat} {A : Option Addr} {n : Nat} (hc : Cold (Hot p g m b o) w A n) (hn : 0 < n) : Awy g m b A := fun q hq => by
  have h := (hc hn q.block (by rw [hq]; rfl)).2
  exact ⟨fun e => h (.inr (.inl e)), fun e => h (.inr (.inr (.inl e))), fun e => h (.inr (.inr (.inr (.inl e))))⟩

set_option maxRecDepth 100000 in
set_option maxHeartbeats 1000000 in
theorem jput_any (w0 w : World) (x y p g m b N : Nat) (st : Disks.D × Int) {N0 : Nat} {o : Option Nat} {j : Jo.J} {over : Bool} {d : Disks.D} (h0 : Jn w0 p g m b N0 o j over d) (h : Pw w0 w x y p g m b N st) (hN : N < maxLen) (i : Nat) (A : Option Addr) (c : Nat) (s : List UInt8) (hs : Bs w A 64 c s) (ha : Awy g m b A) :
    Calls Try.prog 45 #[.int .i64 (i : Int), .slice A 64 c, .pointer (some ⟨x, 0, none⟩), .pointer (some ⟨y, 0, none⟩)] w (GivesP w0 x y p g m b N (Jo.putS st i s)) := by
  obtain ⟨d1, e1⟩ := st
  have hx0 := h.x0
  have hy0 := h.y0
  have hj0 := (h.jn h0).c0
  have hw := h.ds.write hN (i : Int) A 64 c s hs ha rfl rfl
  have H := Lib.hid h
  clear h h0
  by_cases hz : e1 = 0
  · subst hz
    have HW := Lib.hid hw
    clear hw
    go_enter Try.func45, Try.ntmps45
    go_wp2_with (fail)
    with_reducible refine HW.out.mono ?_
    rintro e w1 ⟨rfl, hd, hk⟩
    have ht := H.out.turn (e := Disks.writeE d1 (i : Int) s) hk hd
    have hx1 : w1.cell? ⟨x, 0, none⟩ = some (.int .i64 0) := (World.cell?_of_block (a := ⟨x, 0, none⟩) (hk.block x (Array.getElem?_eq_some_iff.1 H.out.bad).1 (by have := H.out.lo; omega) (by have := H.out.lo; omega) (by have := H.out.lo; omega))).trans H.out.x0
    have hf1 : w1.frozen? ⟨x, 0, none⟩ = false := by
      have h1 := H.out.fx 0
      have h2 := hk.block x (Array.getElem?_eq_some_iff.1 H.out.bad).1 (by have := H.out.lo; omega) (by have := H.out.lo; omega) (by have := H.out.lo; omega)
      exact frozen_of_row w1 _ _ _ _ (h2.trans H.out.bad)
    have HT := Lib.hid ht
    clear ht hd hk hx0 hy0 hj0
    go_wp2_with (fail)
    refine bodyPost_end (results_none rfl _ _ _) rfl ?_
    refine ⟨rfl, ?_⟩
    show Pw w0 _ x y p g m b (N + 1) (Jo.putS (d1, 0) i s)
    exact HT.out
  · have hz' : (e1 == 0) = false := by simpa using hz
    clear hw
    go_enter Try.func45, Try.ntmps45
    go_wp2_with (fail)
    refine bodyPost_end (results_none rfl _ _ _) rfl ?_
    refine ⟨rfl, ?_⟩
    rw [show Jo.putS (d1, e1) i s = (d1, e1) from if_neg hz]
    exact H.out.more (Nat.le_succ N)
end Go.Proofs.Ytaaegbccejjjcaa
namespace Go.Proofs.Ytaaegbccejjjcaa
open Go.RowKit

theorem u8_info : (Try.prog.info? 5).map (fun i => (i.zero, i.size, i.bytes)) = some (some (.int .u8 0), 1, 1) := by kernel_rfl

/-- A list of bytes handed back in memory of the call's own. -/
structure NewBytes (w w' : World) (v : Value) (l : List UInt8) : Prop where
  own : w'.ownsRow w.heap.size 5 1 v l.length (bcells l)
  ext : Ext w w'
theorem NewBytes.bs {w w' : World} {v : Value} {l : List UInt8} (h : NewBytes w w' v l) : ∃ A c, v = .slice A l.length c ∧ Bs w' A l.length c l := by
  obtain ⟨A, c, rfl, _, _⟩ := ownsRow_slice h.own
  exact ⟨A, c, rfl, (Own.mk (base := w.heap.size) (e := 5) h.own).bs⟩

theorem clone_none (w : World) (n c : Nat) :
    Calls Try.prog 34 #[.slice none n c] w fun e w' => e = .returned (.slice none 0 0) ∧ w = w' := by
  have hnil := fun wx => Lib.run_eql_slice_nil (P := Try.prog) wx 32 5 none n c 0 0 Try.underlying32
  go_enter Try.func34, Try.ntmps34
  go_wp2
  go_ret
  exact ⟨rfl, rfl⟩
theorem clone_some (w : World) (ad : Addr) (n c : Nat) (l : List UInt8) (hl : Bs w (some ad) n c l) (hn : n ≤ 140737488355328) :
    Calls Try.prog 34 #[.slice (some ad) n c] w fun e w' => ∃ v, e = .returned v ∧ NewBytes w w' v l := by
  obtain ⟨i0, hi0, hz0, hz1, hz2⟩ := info_parts u8_info
  have hm := hl.max
  have hle := hl.le
  have hnil : ∀ wx, (binOp .eql 32 (.slice (some ad) n c) (.slice none 0 0)).run Try.prog wx = .ok (.bool false) wx := fun wx => Lib.run_eql_slice_nil (P := Try.prog) wx 32 5 (some ad) n c 0 0 Try.underlying32
  go_enter Try.func34, Try.ntmps34
  go_wp2_with (
    at_builtin
    refine wpList_append_rd _ rfl (.tmp 5) (.tmp 6) 32 rfl w.heap.size 5 i0 _ 1 1 Try.underlying32 hi0 hz0 hz1 hz2 rfl (by omega) (.slice (some ⟨w.heap.size, 0, none⟩) 0 0) 0 [] rfl
      (World.ownsRow_lit w #[] 0 (Nat.le_refl _) (by unfold maxLen; omega) rfl) (some ad) n c (bcells l) rfl (hl.rd.ext (Ext.alloc _ _)) (bcells_one l) (by omega) (by unfold maxLen; omega) (by simp) ?_
    intro v1 w1 hown hg hat)
  go_ret
  refine ⟨v1, rfl, ?_, ?_⟩
  · rw [hl.len]; simpa using hown
  · exact (Ext.alloc w _).ofGrown hg (by simp [Value.ownBlock])
theorem clone_any (w : World) (A : Option Addr) (n c : Nat) (l : List UInt8) (hl : Bs w A n c l) (hn : n ≤ 140737488355328) :
    Calls Try.prog 34 #[.slice A n c] w fun e w' => ∃ v, e = .returned v ∧ NewBytes w w' v l := by
  rcases A with _ | ad
  · refine (clone_none w n c).mono ?_
    rintro e w' ⟨rfl, rfl⟩
    have h0 : l = [] := by
      rcases Nat.eq_zero_or_pos n with h0 | h0
      · exact List.eq_nil_of_length_eq_zero (by rw [hl.len]; exact h0)
      · obtain ⟨b, off, h, _⟩ := hl.rd.2 h0
        cases h
    subst h0
    exact ⟨_, rfl, World.ownsRow_nil _ _ _ _, Ext.refl w⟩
  · exact clone_some w ad n c l hl hn
end Go.Proofs.Ytaaegbccejjjcaa
