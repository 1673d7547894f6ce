/- Several texts in one: A disk in its box: the tie of the cache's map to the plain cache, the whole state, what is kept. No statement of the seat is proved here. The contracts of a disk's none, there and operation. -/
import Derived.Test.YtaaegbccejjjcaaCt6
import Derived.Test.YtaaegbccejjjcaaCt5
namespace Go.Proofs.Ytaaegbccejjjcaa
open Go.RowKit Go.Maps

abbrev lk (i : Int) : Lit := .int .i64 i
theorem lk_key (i : Int) : WideAt.IsKeyLit (lk i) := trivial
theorem lk_ne {i j : Int} (h : i ≠ j) : lk i ≠ lk j := fun e => by injection e with _ e; exact h e
/-- What the cache's map tells. -/
structure Tie (D : DataW Nat) (cac : List (Option (List UInt8))) : Prop where
  has : ∀ x : Int, Maps.has D (lk x) = true ↔ 0 ≤ x ∧ (Disks.cget cac x.toNat).isSome = true
  at_ : ∀ (x : Int) (s : List UInt8) (z : DataW Nat), 0 ≤ x → Disks.cget cac x.toNat = some s → D.atKey (lk x) z = .lit (.string s)
theorem cget_none (n i : Nat) : Disks.cget (List.replicate n none) i = none := by
  by_cases h : i < n
  · rw [Disks.cget_lt (by simpa using h)]; simp
  · rw [Disks.cget_ge (by simpa using h)]
theorem Tie.nil (n : Nat) : Tie (.map []) (List.replicate n none) := ⟨fun x => by
  rw [cget_none]
  have h0 : Maps.has (H := Nat) (.map []) (lk x) = false := rfl
  rw [h0]
  simp, fun x s z _ h => by rw [cget_none] at h; cases h⟩
theorem Tie.put {D : DataW Nat} {cac : List (Option (List UInt8))} (h : Tie D cac) (hD : IsMap D) {i : Nat} (hi : i < cac.length) (s : List UInt8) : Tie (D.put (lk i) (.lit (.string s))) (cac.set i (some s)) := by
  refine ⟨fun x => ?_, fun x s' z hx hs => ?_⟩
  · by_cases e : x = (i : Int)
    · subst e
      rw [has_put_same hD (lk_key _), show (i : Int).toNat = i by omega, Disks.cget_set_eq hi]
      simp
    · rw [has_put_other (lk_ne e), h.has x]
      by_cases hx : 0 ≤ x
      · rw [Disks.cget_set_ne (by omega)]
      · simp [hx]
  · by_cases e : x = (i : Int)
    · subst e
      rw [show (i : Int).toNat = i by omega, Disks.cget_set_eq hi] at hs
      injection hs with hs
      rw [atKey_put_same hD (lk_key _), hs]
    · rw [atKey_put_other (lk_ne e)]
      rw [Disks.cget_set_ne (by omega)] at hs
      exact h.at_ x s' z hx hs

/-- The cells of a disk's box. -/
abbrev dcells (m b N : Nat) (arm : Int) (down : Bool) : Array Value := #[.slice (some ⟨m, 0, none⟩) N N, .map (some b), .int .i64 arm, .bool down]
/-- Box g holds the disk; its medium lies in block m, its cache in block b (of at most n entries). -/
structure Dk (w : World) (g m b n : Nat) (D : DataW Nat) (d : Disks.D) : Prop where
  box : w.heap[g]? = some (.cells (dcells m b d.med.length d.arm d.down) 65 (0, 0))
  md : Md w m d.med
  mp : w.ownsMap Try.prog 3 secR b n D
  tie : Tie D d.cac
  gm : g ≠ m
  gb : g ≠ b
  mb : m ≠ b
section
variable {w w' : World} {g m b n : Nat} {D : DataW Nat} {d : Disks.D}
theorem Dk.lt (h : Dk w g m b n D d) : g < w.heap.size := (Array.getElem?_eq_some_iff.1 h.box).1
theorem Dk.ltb (h : Dk w g m b n D d) : b < w.heap.size := by
  obtain ⟨es, clock, hb, _⟩ := h.mp
  exact (Array.getElem?_eq_some_iff.1 hb).1
theorem Dk.c0 (h : Dk w g m b n D d) : w.cell? ⟨g, 0, none⟩ = some (.slice (some ⟨m, 0, none⟩) d.med.length d.med.length) := by rw [cell_of_row w _ _ _ _ _ h.box]; rfl
theorem Dk.c1 (h : Dk w g m b n D d) : w.cell? ⟨g, 1, none⟩ = some (.map (some b)) := by rw [cell_of_row w _ _ _ _ _ h.box]; rfl
theorem Dk.c2 (h : Dk w g m b n D d) : w.cell? ⟨g, 2, none⟩ = some (.int .i64 d.arm) := by rw [cell_of_row w _ _ _ _ _ h.box]; rfl
theorem Dk.c3 (h : Dk w g m b n D d) : w.cell? ⟨g, 3, none⟩ = some (.bool d.down) := by rw [cell_of_row w _ _ _ _ _ h.box]; rfl
theorem Dk.fz (h : Dk w g m b n D d) (j : Nat) : w.frozen? ⟨g, j, none⟩ = false := frozen_of_row w _ _ _ _ h.box
theorem map_kept {N : Nat} (h : w.ownsMap Try.prog 3 secR b N D) (hb : w'.heap[b]? = w.heap[b]?) : w'.ownsMap Try.prog 3 secR b N D := by
  obtain ⟨es, clock, h1, h2⟩ := h
  exact ⟨es, clock, hb.trans h1, h2⟩
theorem Dk.same (h : Dk w g m b n D d) (hs : w.heap.size ≤ w'.heap.size) (h1 : w'.heap[g]? = w.heap[g]?) (h2 : w'.heap[m]? = w.heap[m]?) (h3 : w'.heap[b]? = w.heap[b]?) : Dk w' g m b n D d :=
  ⟨h1.trans h.box, h.md.same hs h2, map_kept h.mp h3, h.tie, h.gm, h.gb, h.mb⟩
theorem Dk.ext (h : Dk w g m b n D d) (hx : Ext w w') : Dk w' g m b n D d := h.same hx.size (hx.block g h.lt) (hx.block m h.md.lt) (hx.block b h.ltb)
theorem Dk.kept {row : Option Nat} (h : Dk w g m b n D d) (hg : w.grownBy w' row) (h1 : row ≠ some g) (h2 : row ≠ some m) (h3 : row ≠ some b) : Dk w' g m b n D d :=
  h.same hg.size (hg.block g h.lt (fun e => h1 e.symm)) (hg.block m h.md.lt (fun e => h2 e.symm)) (hg.block b h.ltb (fun e => h3 e.symm))
theorem Dk.far (h : Dk w g m b n D d) {p : Addr} (h1 : p.block ≠ g) (h2 : p.block ≠ m) (h3 : p.block ≠ b) (u : Value) : Dk (w.setCell p u) g m b n D d :=
  h.same (by simp) (heap_setCell_other w p g u (fun e => h1 e.symm)) (heap_setCell_other w p m u (fun e => h2 e.symm)) (heap_setCell_other w p b u (fun e => h3 e.symm))
theorem Dk.set2 (h : Dk w g m b n D d) (x : Int) : Dk (w.setCell ⟨g, 2, none⟩ (.int .i64 x)) g m b n D { d with arm := x } :=
  ⟨heap_setCell_same w g 2 _ _ (.int .i64 x) h.box, h.md.same (by simp) (heap_setCell_other w ⟨g, 2, none⟩ m _ (fun e => h.gm e.symm)), map_kept h.mp (heap_setCell_other w ⟨g, 2, none⟩ b _ (fun e => h.gb e.symm)), h.tie, h.gm, h.gb, h.mb⟩
theorem Dk.set3 (h : Dk w g m b n D d) (x : Bool) : Dk (w.setCell ⟨g, 3, none⟩ (.bool x)) g m b n D { d with down := x } :=
  ⟨heap_setCell_same w g 3 _ _ (.bool x) h.box, h.md.same (by simp) (heap_setCell_other w ⟨g, 3, none⟩ m _ (fun e => h.gm e.symm)), map_kept h.mp (heap_setCell_other w ⟨g, 3, none⟩ b _ (fun e => h.gb e.symm)), h.tie, h.gm, h.gb, h.mb⟩
end

/-- What a method of the disk leaves alone. -/
structure Kp (g m b : Nat) (w w' : World) : Prop where
  os : w'.os = w.os
  tape : w'.tape = w.tape
  output : w'.output = w.output
  size : w.heap.size ≤ w'.heap.size
  block : ∀ i, i < w.heap.size → i ≠ g → i ≠ m → i ≠ b → w'.heap[i]? = w.heap[i]?
section
variable {g m b : Nat} {w w' w'' : World}
theorem Kp.refl (g m b : Nat) (w : World) : Kp g m b w w := ⟨rfl, rfl, rfl, Nat.le_refl _, fun _ _ _ _ _ => rfl⟩
theorem Kp.of (h : Ext w w') (g m b : Nat) : Kp g m b w w' := ⟨h.os, h.tape, h.output, h.size, fun i hi _ _ _ => h.block i hi⟩
theorem Kp.trans (h : Kp g m b w w') (k : Kp g m b w' w'') : Kp g m b w w'' :=
  ⟨k.os.trans h.os, k.tape.trans h.tape, k.output.trans h.output, Nat.le_trans h.size k.size, fun i hi h1 h2 h3 => (k.block i (Nat.lt_of_lt_of_le hi h.size) h1 h2 h3).trans (h.block i hi h1 h2 h3)⟩
theorem Kp.set (h : Kp g m b w w') {p : Addr} (hp : p.block = g ∨ p.block = m ∨ p.block = b ∨ w.heap.size ≤ p.block) (u : Value) : Kp g m b w (w'.setCell p u) :=
  have q := Below.setCell (Below.refl 0 w') (Nat.zero_le p.block) u
  ⟨q.os.trans h.os, q.tape.trans h.tape, q.output.trans h.output, Nat.le_trans h.size q.size, fun i hi h1 h2 h3 => (heap_setCell_other w' p i u (fun e => by subst e; rcases hp with e | e | e | e <;> first | exact absurd e h1 | exact absurd e h2 | exact absurd e h3 | omega)).trans (h.block i hi h1 h2 h3)⟩
theorem Kp.grown {row : Option Nat} (h : Kp g m b w w') (hg : w'.grownBy w'' row) (hr : ∀ k, row = some k → k = g ∨ k = m ∨ k = b ∨ w.heap.size ≤ k) : Kp g m b w w'' :=
  ⟨hg.os.trans h.os, hg.tape.trans h.tape, hg.output.trans h.output, Nat.le_trans h.size hg.size, fun i hi h1 h2 h3 => (hg.block i (Nat.lt_of_lt_of_le hi h.size) (fun e => by rcases hr i e.symm with e | e | e | e <;> first | exact h1 e | exact h2 e | exact h3 e | omega)).trans (h.block i hi h1 h2 h3)⟩
/-- Where the disk is younger than a world. -/
theorem Ext.kp {w0 : World} (h : Ext w0 w) (k : Kp g m b w w') (h1 : w0.heap.size ≤ g) (h2 : w0.heap.size ≤ m) (h3 : w0.heap.size ≤ b) : Ext w0 w' :=
  ⟨k.os.trans h.os, k.tape.trans h.tape, k.output.trans h.output, Nat.le_trans h.size k.size, fun i hi => (k.block i (Nat.lt_of_lt_of_le hi h.size) (by omega) (by omega) (by omega)).trans (h.block i hi)⟩
end
end Go.Proofs.Ytaaegbccejjjcaa
namespace Go.Proofs.Ytaaegbccejjjcaa
open Go.RowKit Go.Maps

abbrev dptr (g : Nat) : Value := .pointer (some ⟨g, 0, none⟩)
set_option maxRecDepth 100000 in
theorem dkNone_any (w : World) (g m b n : Nat) (D : DataW Nat) (d : Disks.D) (h : Dk w g m b n D d) :
    Calls Try.prog 40 #[dptr g] w fun e w' => e = .returned (.bool false) ∧ Ext w w' := by
  have k0 := h.c1
  go_enter Try.func40, Try.ntmps40
  go_wp2_with (fail)
  rename_i hK
  refine hK _ _ ?_
  go_wp2_with (fail)
  refine bodyPost_ret (results_tmp rfl _ _ _) rfl ?_
  exact ⟨rfl, Ext.refl _⟩
set_option maxRecDepth 100000 in
theorem dkNone_nil (w : World) :
    Calls Try.prog 40 #[.pointer none] w fun e w' => e = .returned (.bool true) ∧ Ext w w' := by
  go_enter Try.func40, Try.ntmps40
  go_wp2_with (fail)
  refine bodyPost_ret (results_tmp rfl _ _ _) rfl ?_
  exact ⟨rfl, Ext.refl _⟩
set_option maxRecDepth 100000 in
theorem dkThere_any (w : World) (g m b n : Nat) (D : DataW Nat) (d : Disks.D) (h : Dk w g m b n D d) (hN : d.med.length ≤ 65536) (i : Int) :
    Calls Try.prog 53 #[dptr g, .int .i64 i] w fun e w' => e = .returned (.int .i64 (Disks.there d i)) ∧ Ext w w' := by
  have hN0 := dkNone_any w g m b n D d h
  have H := Lib.hid h
  clear h
  go_enter Try.func53, Try.ntmps53
  go_wp2_with (fail)
  with_reducible refine hN0.mono ?_
  rintro e w1 ⟨rfl, x1⟩
  have k0 := (H.out.ext x1).c0
  have k3 := (H.out.ext x1).c3
  by_cases hd : d.down = true
  · rw [hd] at k3
    go_wp2_with (fail)
    refine bodyPost_ret (results_tmp rfl _ _ _) rfl ?_
    unfold Disks.there
    rw [if_pos hd]
    exact ⟨rfl, x1⟩
  · rw [Bool.not_eq_true] at hd
    rw [hd] at k3
    by_cases hi : i < 0
    · go_wp2_with (fail)
      refine bodyPost_ret (results_tmp rfl _ _ _) rfl ?_
      unfold Disks.there
      rw [if_neg (by rw [hd]; decide), if_pos (.inl hi)]
      exact ⟨rfl, x1⟩
    · by_cases hj : (d.med.length : Int) ≤ i
      · go_wp2_with (fail)
        refine bodyPost_ret (results_tmp rfl _ _ _) rfl ?_
        unfold Disks.there
        rw [if_neg (by rw [hd]; decide), if_pos (.inr hj)]
        exact ⟨rfl, x1⟩
      · go_wp2_with (fail)
        refine bodyPost_ret (results_tmp rfl _ _ _) rfl ?_
        unfold Disks.there
        rw [if_neg (by rw [hd]; decide), if_neg (by omega)]
        exact ⟨rfl, x1⟩
set_option maxRecDepth 100000 in
theorem dkOp_any (w : World) (g m b n : Nat) (D : DataW Nat) (d : Disks.D) (h : Dk w g m b n D d) (h1 : -1 ≤ d.arm) (h2 : d.arm < 2 ^ 63) :
    Calls Try.prog 54 #[dptr g] w fun e w' => e = .returned (.int .i64 (Disks.opE d)) ∧ Dk w' g m b n D (Disks.op d) ∧ Kp g m b w w' := by
  have k2 := h.c2
  have k3 := h.c3
  have f2 := h.fz 2
  have f3 := h.fz 3
  have H := Lib.hid h
  clear h
  by_cases h0 : d.arm = 0
  · rw [h0] at k2
    go_enter Try.func54, Try.ntmps54
    go_wp2_with (fail)
    refine bodyPost_ret (results_tmp rfl _ _ _) rfl ?_
    have e1 : Disks.opE d = 15 := if_pos h0
    have e2 : Disks.op d = { { d with down := true } with arm := -1 } := if_pos h0
    rw [e1, e2]
    exact ⟨rfl, (H.out.set3 true).set2 (-1), ((Kp.refl g m b w).set (p := ⟨g, 3, none⟩) (.inl rfl) _).set (p := ⟨g, 2, none⟩) (.inl rfl) _⟩
  · have e1 : Disks.opE d = 0 := if_neg h0
    have e2 : Disks.op d = { d with arm := max (d.arm - 1) (-1) } := if_neg h0
    by_cases h3 : d.arm = -1
    · rw [h3] at k2
      go_enter Try.func54, Try.ntmps54
      go_wp2_with (fail)
      refine bodyPost_ret (results_tmp rfl _ _ _) rfl ?_
      rw [e1, e2, show max (d.arm - 1) (-1) = -1 by omega]
      exact ⟨rfl, H.out.set2 (-1), (Kp.refl g m b w).set (p := ⟨g, 2, none⟩) (.inl rfl) _⟩
    · have h4 : 0 < d.arm := by omega
      obtain ⟨A, hA⟩ : ∃ A, d.arm = A := ⟨_, rfl⟩
      have e3 : max (d.arm - 1) (-1) = A - 1 := by omega
      rw [e3] at e2
      rw [hA] at k2 h4 h2
      clear h1 h0 h3 e3 hA
      go_enter Try.func54, Try.ntmps54
      go_wp2_with (fail)
      refine bodyPost_ret (results_tmp rfl _ _ _) rfl ?_
      rw [e1, e2]
      exact ⟨rfl, H.out.set2 _, (Kp.refl g m b w).set (p := ⟨g, 2, none⟩) (.inl rfl) _⟩
end Go.Proofs.Ytaaegbccejjjcaa
