/- Several texts in one: The memory of a disk: its box of four cells, the medium's block, the cache's map. No statement of the seat is proved here. A disk in its box: the tie of the cache's map to the plain cache, the whole state, what is kept. No statement of the seat is proved here. -/
import Derived.Test.YtbfbiofndipaaaaCt4
import Derived.Test.YtbfbiofndipaaaaCt6
import Derived.Maps.OwnOps
import Derived.Maps.OwnSet
import Derived.Maps.RangeWalk
import Derived.Deep.MidRow
namespace Go.Proofs.Ytbfbiofndipaaaa
open Go.RowKit Go.Maps

/-! ### a sector as a value -/
def secV (s : List UInt8) : Value := .agg (bcells s).toArray
def byteOf : Value → Option UInt8
  | .int .u8 a => if 0 ≤ a ∧ a < 256 then some (UInt8.ofNat a.toNat) else none
  | _ => none
def bytesOf : List Value → Option (List UInt8)
  | [] => some []
  | v :: l => match byteOf v, bytesOf l with
    | some x, some r => some (x :: r)
    | _, _ => none
theorem bytesOf_bcells (s : List UInt8) : bytesOf (bcells s) = some s := by
  induction s with
  | nil => rfl
  | cons x s ih =>
    have hx := x.toNat_lt
    have h1 : byteOf (.int .u8 (x.toNat : Int)) = some x := by
      show (if 0 ≤ ((x.toNat : Nat) : Int) ∧ ((x.toNat : Nat) : Int) < 256 then some (UInt8.ofNat ((x.toNat : Nat) : Int).toNat) else none) = some x
      rw [if_pos (by omega)]
      simp
    have e : bcells (x :: s) = .int .u8 (x.toNat : Int) :: bcells s := by simp [bcells]
    rw [e]
    unfold bytesOf
    rw [h1, ih]
theorem byteOf_inv {v : Value} {x : UInt8} (h : byteOf v = some x) : v = .int .u8 (x.toNat : Int) := by
  unfold byteOf at h
  split at h
  · rename_i a
    split at h
    · rename_i hb
      injection h with h
      rw [← h, UInt8.toNat_ofNat']
      congr 1
      omega
    · cases h
  · cases h
theorem bytesOf_inv : ∀ {l : List Value} {s : List UInt8}, bytesOf l = some s → l = bcells s
  | [], s, h => by injection h with h; rw [← h]; rfl
  | v :: l, s, h => by
    unfold bytesOf at h
    split at h
    · rename_i x r hx hr
      injection h with h
      rw [← h, byteOf_inv hx, bytesOf_inv hr]
      rfl
    · cases h
/-- How a sector reads in the cache. -/
def secR (v : Value) : Option (DataW Nat × List MemPlace) :=
  match v with
  | .agg cs => match bytesOf cs.toList with
    | some s => if s.length = 64 then some (.lit (.string s), []) else none
    | none => none
  | _ => none
theorem secR_mk {s : List UInt8} (h : s.length = 64) : secR (secV s) = some (.lit (.string s), []) := by
  unfold secR secV
  simp only [bytesOf_bcells]
  rw [if_pos h]
theorem secR_inv {v : Value} {z : DataW Nat × List MemPlace} (h : secR v = some z) : ∃ s : List UInt8, s.length = 64 ∧ v = secV s ∧ z = (.lit (.string s), []) := by
  unfold secR at h
  split at h
  · rename_i cs
    split at h
    · rename_i s hs
      split at h
      · rename_i hl
        injection h with h
        refine ⟨s, hl, ?_, h.symm⟩
        unfold secV
        rw [← bytesOf_inv hs]
      · cases h
    · cases h
  · cases h
theorem secR_at {v : Value} {s : List UInt8} {ps : List MemPlace} (h : secR v = some (.lit (.string s), ps)) : v = secV s ∧ s.length = 64 := by
  obtain ⟨s', hl, hv, hz⟩ := secR_inv h
  injection hz with h1 _
  injection h1 with h1
  injection h1 with h1
  rw [h1]
  exact ⟨hv, hl⟩
def zeros64 : List UInt8 := List.replicate 64 0
theorem zeros64_len : zeros64.length = 64 := List.length_replicate ..
theorem sec_zero (w : World) : (zeroValue 77).run Try.prog w = .ok (secV zeros64) w := by kernel_rfl
theorem sec_info : (Try.prog.info? 77).map (·.size) = some 64 := by kernel_rfl

/-! ### the medium -/
structure Md (w : World) (m : Nat) (l : List (List UInt8)) : Prop where
  lt : m < w.heap.size
  wid : ∀ i, i < l.length → (Gm.row l i).length = 64
  rows : ∀ i, i < l.length → w.rangeAt m (i * 64) (bcells (Gm.row l i))
  ok : w.there m 0 (l.length * 64)
section
variable {w w' : World} {m : Nat} {l : List (List UInt8)}
theorem Md.same (h : Md w m l) (hs : w.heap.size ≤ w'.heap.size) (hb : w'.heap[m]? = w.heap[m]?) : Md w' m l := by
  have hc : ∀ p : Addr, p.block = m → w'.cell? p = w.cell? p ∧ w'.frozen? p = w.frozen? p := fun p hp => by
    subst hp
    exact ⟨by unfold World.cell?; rw [hb], by unfold World.frozen?; rw [hb]⟩
  refine ⟨Nat.lt_of_lt_of_le h.lt hs, h.wid, fun i hi j v hv => ?_, fun j hj => ?_⟩
  · rw [(hc _ rfl).1]
    exact h.rows i hi j v hv
  · rw [(hc _ rfl).1, (hc _ rfl).2]
    exact h.ok j hj
theorem Md.ext (h : Md w m l) (hx : Ext w w') : Md w' m l := h.same hx.size (hx.block m h.lt)
theorem Md.kept {row : Option Nat} (h : Md w m l) (hg : w.grownBy w' row) (hr : row ≠ some m) : Md w' m l := h.same hg.size (hg.block m h.lt (fun e => hr e.symm))
end
end Go.Proofs.Ytbfbiofndipaaaa
namespace Go.Proofs.Ytbfbiofndipaaaa
open Go.RowKit Go.Maps

abbrev lk (i : Int) : Lit := .int .i64 i
theorem lk_key (i : Int) : WideAt.IsKeyLit (lk i) := trivial
theorem lk_ne {i j : Int} (h : i ≠ j) : lk i ≠ lk j := fun e => by injection e with _ e; exact h e
/-- What the cache's map tells. -/
structure Tie (D : DataW Nat) (cac : List (Option (List UInt8))) : Prop where
  has : ∀ x : Int, Maps.has D (lk x) = true ↔ 0 ≤ x ∧ (Disks.cget cac x.toNat).isSome = true
  at_ : ∀ (x : Int) (s : List UInt8) (z : DataW Nat), 0 ≤ x → Disks.cget cac x.toNat = some s → D.atKey (lk x) z = .lit (.string s)
theorem cget_none (n i : Nat) : Disks.cget (List.replicate n none) i = none := by
  by_cases h : i < n
  · rw [Disks.cget_lt (by simpa using h)]; simp
  · rw [Disks.cget_ge (by simpa using h)]
theorem Tie.nil (n : Nat) : Tie (.map []) (List.replicate n none) := ⟨fun x => by
  rw [cget_none]
  have h0 : Maps.has (H := Nat) (.map []) (lk x) = false := rfl
  rw [h0]
  simp, fun x s z _ h => by rw [cget_none] at h; cases h⟩
theorem Tie.put {D : DataW Nat} {cac : List (Option (List UInt8))} (h : Tie D cac) (hD : IsMap D) {i : Nat} (hi : i < cac.length) (s : List UInt8) : Tie (D.put (lk i) (.lit (.string s))) (cac.set i (some s)) := by
  refine ⟨fun x => ?_, fun x s' z hx hs => ?_⟩
  · by_cases e : x = (i : Int)
    · subst e
      rw [has_put_same hD (lk_key _), show (i : Int).toNat = i by omega, Disks.cget_set_eq hi]
      simp
    · rw [has_put_other (lk_ne e), h.has x]
      by_cases hx : 0 ≤ x
      · rw [Disks.cget_set_ne (by omega)]
      · simp [hx]
  · by_cases e : x = (i : Int)
    · subst e
      rw [show (i : Int).toNat = i by omega, Disks.cget_set_eq hi] at hs
      injection hs with hs
      rw [atKey_put_same hD (lk_key _), hs]
    · rw [atKey_put_other (lk_ne e)]
      rw [Disks.cget_set_ne (by omega)] at hs
      exact h.at_ x s' z hx hs

/-- The cells of a disk's box. -/
abbrev dcells (m b N : Nat) (arm : Int) (down : Bool) : Array Value := #[.slice (some ⟨m, 0, none⟩) N N, .map (some b), .int .i64 arm, .bool down]
/-- Box g holds the disk; its medium lies in block m, its cache in block b (of at most n entries). -/
structure Dk (w : World) (g m b n : Nat) (D : DataW Nat) (d : Disks.D) : Prop where
  box : w.heap[g]? = some (.cells (dcells m b d.med.length d.arm d.down) 67 (0, 0))
  md : Md w m d.med
  mp : w.ownsMap Try.prog 3 secR b n D
  tie : Tie D d.cac
  gm : g ≠ m
  gb : g ≠ b
  mb : m ≠ b
section
variable {w w' : World} {g m b n : Nat} {D : DataW Nat} {d : Disks.D}
theorem Dk.lt (h : Dk w g m b n D d) : g < w.heap.size := (Array.getElem?_eq_some_iff.1 h.box).1
theorem Dk.ltb (h : Dk w g m b n D d) : b < w.heap.size := by
  obtain ⟨es, clock, hb, _⟩ := h.mp
  exact (Array.getElem?_eq_some_iff.1 hb).1
theorem Dk.c0 (h : Dk w g m b n D d) : w.cell? ⟨g, 0, none⟩ = some (.slice (some ⟨m, 0, none⟩) d.med.length d.med.length) := by rw [cell_of_row w _ _ _ _ _ h.box]; rfl
theorem Dk.c1 (h : Dk w g m b n D d) : w.cell? ⟨g, 1, none⟩ = some (.map (some b)) := by rw [cell_of_row w _ _ _ _ _ h.box]; rfl
theorem Dk.c2 (h : Dk w g m b n D d) : w.cell? ⟨g, 2, none⟩ = some (.int .i64 d.arm) := by rw [cell_of_row w _ _ _ _ _ h.box]; rfl
theorem Dk.c3 (h : Dk w g m b n D d) : w.cell? ⟨g, 3, none⟩ = some (.bool d.down) := by rw [cell_of_row w _ _ _ _ _ h.box]; rfl
theorem Dk.fz (h : Dk w g m b n D d) (j : Nat) : w.frozen? ⟨g, j, none⟩ = false := frozen_of_row w _ _ _ _ h.box
theorem map_kept {N : Nat} (h : w.ownsMap Try.prog 3 secR b N D) (hb : w'.heap[b]? = w.heap[b]?) : w'.ownsMap Try.prog 3 secR b N D := by
  obtain ⟨es, clock, h1, h2⟩ := h
  exact ⟨es, clock, hb.trans h1, h2⟩
theorem Dk.same (h : Dk w g m b n D d) (hs : w.heap.size ≤ w'.heap.size) (h1 : w'.heap[g]? = w.heap[g]?) (h2 : w'.heap[m]? = w.heap[m]?) (h3 : w'.heap[b]? = w.heap[b]?) : Dk w' g m b n D d :=
  ⟨h1.trans h.box, h.md.same hs h2, map_kept h.mp h3, h.tie, h.gm, h.gb, h.mb⟩
theorem Dk.ext (h : Dk w g m b n D d) (hx : Ext w w') : Dk w' g m b n D d := h.same hx.size (hx.block g h.lt) (hx.block m h.md.lt) (hx.block b h.ltb)
theorem Dk.kept {row : Option Nat} (h : Dk w g m b n D d) (hg : w.grownBy w' row) (h1 : row ≠ some g) (h2 : row ≠ some m) (h3 : row ≠ some b) : Dk w' g m b n D d :=
  h.same hg.size (hg.block g h.lt (fun e => h1 e.symm)) (hg.block m h.md.lt (fun e => h2 e.symm)) (hg.block b h.ltb (fun e => h3 e.symm))
theorem Dk.far (h : Dk w g m b n D d) {p : Addr} (h1 : p.block ≠ g) (h2 : p.block ≠ m) (h3 : p.block ≠ b) (u : Value) : Dk (w.setCell p u) g m b n D d :=
  h.same (by simp) (heap_setCell_other w p g u (fun e => h1 e.symm)) (heap_setCell_other w p m u (fun e => h2 e.symm)) (heap_setCell_other w p b u (fun e => h3 e.symm))
theorem Dk.set2 (h : Dk w g m b n D d) (x : Int) : Dk (w.setCell ⟨g, 2, none⟩ (.int .i64 x)) g m b n D { d with arm := x } :=
  ⟨heap_setCell_same w g 2 _ _ (.int .i64 x) h.box, h.md.same (by simp) (heap_setCell_other w ⟨g, 2, none⟩ m _ (fun e => h.gm e.symm)), map_kept h.mp (heap_setCell_other w ⟨g, 2, none⟩ b _ (fun e => h.gb e.symm)), h.tie, h.gm, h.gb, h.mb⟩
theorem Dk.set3 (h : Dk w g m b n D d) (x : Bool) : Dk (w.setCell ⟨g, 3, none⟩ (.bool x)) g m b n D { d with down := x } :=
  ⟨heap_setCell_same w g 3 _ _ (.bool x) h.box, h.md.same (by simp) (heap_setCell_other w ⟨g, 3, none⟩ m _ (fun e => h.gm e.symm)), map_kept h.mp (heap_setCell_other w ⟨g, 3, none⟩ b _ (fun e => h.gb e.symm)), h.tie, h.gm, h.gb, h.mb⟩
end

/-- What a method of the disk leaves alone. -/
structure Kp (g m b : Nat) (w w' : World) : Prop where
  os : w'.os = w.os
  tape : w'.tape = w.tape
  output : w'.output = w.output
  size : w.heap.size ≤ w'.heap.size
  block : ∀ i, i < w.heap.size → i ≠ g → i ≠ m → i ≠ b → w'.heap[i]? = w.heap[i]?
section
variable {g m b : Nat} {w w' w'' : World}
theorem Kp.refl (g m b : Nat) (w : World) : Kp g m b w w := ⟨rfl, rfl, rfl, Nat.le_refl _, fun _ _ _ _ _ => rfl⟩
theorem Kp.of (h : Ext w w') (g m b : Nat) : Kp g m b w w' := ⟨h.os, h.tape, h.output, h.size, fun i hi _ _ _ => h.block i hi⟩
theorem Kp.trans (h : Kp g m b w w') (k : Kp g m b w' w'') : Kp g m b w w'' :=
  ⟨k.os.trans h.os, k.tape.trans h.tape, k.output.trans h.output, Nat.le_trans h.size k.size, fun i hi h1 h2 h3 => (k.block i (Nat.lt_of_lt_of_le hi h.size) h1 h2 h3).trans (h.block i hi h1 h2 h3)⟩
theorem Kp.set (h : Kp g m b w w') {p : Addr} (hp : p.block = g ∨ p.block = m ∨ p.block = b ∨ w.heap.size ≤ p.block) (u : Value) : Kp g m b w (w'.setCell p u) :=
  have q := Below.setCell (Below.refl 0 w') (Nat.zero_le p.block) u
  ⟨q.os.trans h.os, q.tape.trans h.tape, q.output.trans h.output, Nat.le_trans h.size q.size, fun i hi h1 h2 h3 => (heap_setCell_other w' p i u (fun e => by subst e; rcases hp with e | e | e | e <;> first | exact absurd e h1 | exact absurd e h2 | exact absurd e h3 | omega)).trans (h.block i hi h1 h2 h3)⟩
theorem Kp.grown {row : Option Nat} (h : Kp g m b w w') (hg : w'.grownBy w'' row) (hr : ∀ k, row = some k → k = g ∨ k = m ∨ k = b ∨ w.heap.size ≤ k) : Kp g m b w w'' :=
  ⟨hg.os.trans h.os, hg.tape.trans h.tape, hg.output.trans h.output, Nat.le_trans h.size hg.size, fun i hi h1 h2 h3 => (hg.block i (Nat.lt_of_lt_of_le hi h.size) (fun e => by rcases hr i e.symm with e | e | e | e <;> first | exact h1 e | exact h2 e | exact h3 e | omega)).trans (h.block i hi h1 h2 h3)⟩
/-- Where the disk is younger than a world. -/
theorem Ext.kp {w0 : World} (h : Ext w0 w) (k : Kp g m b w w') (h1 : w0.heap.size ≤ g) (h2 : w0.heap.size ≤ m) (h3 : w0.heap.size ≤ b) : Ext w0 w' :=
  ⟨k.os.trans h.os, k.tape.trans h.tape, k.output.trans h.output, Nat.le_trans h.size k.size, fun i hi => (k.block i (Nat.lt_of_lt_of_le hi h.size) (by omega) (by omega) (by omega)).trans (h.block i hi)⟩
end
end Go.Proofs.Ytbfbiofndipaaaa
