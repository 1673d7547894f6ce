/- Several texts in one: What matrix.cleared does to both of its lists of rows. Columns in plain words: the first row with something in it. No program in sight. The contract of matrix.cleared. -/
import Derived.Test.YtfpglkacjecoeaaGreatCt18
import Derived.Shelf.Abstract
import Derived.Test.YtfpglkacjecoeaaGreatCt4
import Derived.Deep.CutBlock
import Derived.Deep.DrawnRows
import Derived.Deep.DeepCutAuto
namespace Go.Proofs.YtfpglkacjecoeaaGreat
open Go.RowKit

/-- Nothing has turned but in some blocks, and what is new. -/
structure Ch (w w' : World) (H : Nat → Prop) : Prop where
  os : w'.os = w.os
  tape : w'.tape = w.tape
  output : w'.output = w.output
  size : w.heap.size ≤ w'.heap.size
  block : ∀ k, k < w.heap.size → ¬ H k → w'.heap[k]? = w.heap[k]?
section
variable {w w1 w' : World} {H : Nat → Prop}
theorem Ch.refl (w : World) (H : Nat → Prop) : Ch w w H := ⟨rfl, rfl, rfl, Nat.le_refl _, fun _ _ _ => rfl⟩
theorem Ch.trans (h : Ch w w1 H) (k : Ch w1 w' H) : Ch w w' H := ⟨k.os.trans h.os, k.tape.trans h.tape, k.output.trans h.output, Nat.le_trans h.size k.size, fun i hi hn => (k.block i (Nat.lt_of_lt_of_le hi h.size) hn).trans (h.block i hi hn)⟩
theorem Ch.of_ext (hx : Ext w w') (H : Nat → Prop) : Ch w w' H := ⟨hx.os, hx.tape, hx.output, hx.size, fun k hk _ => hx.block k hk⟩
theorem Ch.of_gb {g : Nat} (h : w.grownBy w' (some g)) (hg : H g) : Ch w w' H := ⟨h.os, h.tape, h.output, h.size, fun k hk hn => h.block k hk (fun e => hn (by injection e with e; rw [e]; exact hg))⟩
theorem Ch.mono {H' : Nat → Prop} (h : Ch w w' H) (hh : ∀ b, b < w.heap.size → H b → H' b) : Ch w w' H' := ⟨h.os, h.tape, h.output, h.size, fun k hk hn => h.block k hk (fun e => hn (hh k hk e))⟩
theorem Ch.cell (h : Ch w w' H) {a : Addr} {v : Value} (hc : w.cell? a = some v) (hn : ¬ H a.block) : w'.cell? a = some v := by
  rw [World.cell?_of_block (h.block a.block (World.block_lt_of_cell? _ _ hc) hn)]; exact hc
theorem Ch.frozen (h : Ch w w' H) {a : Addr} {v : Value} (hc : w.cell? a = some v) (hn : ¬ H a.block) : w'.frozen? a = w.frozen? a :=
  World.frozen?_of_block (h.block a.block (World.block_lt_of_cell? _ _ hc) hn)
theorem Ch.field {fb : Nat} (h : Ch w w' H) (hf : FieldAt w fb) (hn : ¬ H fb) : FieldAt w' fb :=
  ⟨h.cell hf.made hn, fun i hi => h.cell (hf.exp i hi) hn, fun x => h.cell (hf.log x) hn⟩
theorem Ch.below {base : Nat} (h : Ch w w' H) (hb : base ≤ w.heap.size) (hh : ∀ b, H b → base ≤ b) : Below base w w' :=
  ⟨h.os, h.tape, h.output, h.size, fun k hk => h.block k (by omega) (fun e => by have := hh k e; omega)⟩
theorem Ch.set (h : Ch w w' H) {q : Addr} (hq : H q.block) (u : Value) : Ch w (w'.setCell q u) H :=
  ⟨h.os, h.tape, h.output, by simpa using h.size, fun k hk hn => (heap_setCell_other w' q k u (fun e => hn (by rw [e]; exact hq))).trans (h.block k hk hn)⟩
theorem Mq.ch {base n : Nat} {P : Nat → Prop} {v : Value} {cs : List Value} {m : Gm.L} (h : Mq w base P v n cs m) (hc : Ch w w' H) (hv : ∀ b, v.ownBlock = some b → ¬ H b) (hP : ∀ b, H b → P b) : Mq w' base P v n cs m := by
  have row : ∀ {size : Nat} {e : TypeId} {u : Value} {k : Nat} {xs : List Value}, w.ownsRow base e size u k xs → (∀ b, u.ownBlock = some b → ¬ H b) → w'.ownsRow base e size u k xs := fun {size e u k xs} ho hu => by
    refine ⟨ho.1, ?_⟩
    rcases ho.2 with h1 | ⟨g, cap, cur, h1, h2, h3, h4⟩
    · exact .inl h1
    · refine .inr ⟨g, cap, cur, h1, h2, ?_, h4⟩
      rw [hc.block g (Array.getElem?_eq_some_iff.1 h3).1 (hu g (by rw [h1]; rfl))]
      exact h3
  exact ⟨h.len, row h.own hv, fun i hi => by obtain ⟨A, c, e, ho⟩ := h.row i hi; exact ⟨A, c, e, row ho (fun b hb hH => h.cool i _ b e hb (hP b hH))⟩, h.cool, h.hot, h.apart⟩
end
/-- The two outer rows. -/
def Two12 (g1 g2 : Nat) : Nat → Prop := fun b => b = g1 ∨ b = g2

theorem both_any (w : World) (k : Nat) (lb : Array Value) (b4 b5 : Nat) (v1 v2 : Value) (R : World → Prop) (eg : ∀ args w, (callFunc k args).run Tryz.prog w = .ok (.enter k args) w)
    (c4 : w.cell? ⟨b4, 0, none⟩ = some v1)
    (h : Calls Tryz.prog k (#[v1] ++ lb) w fun e w' => e = .returned (.tuple #[]) ∧ w'.cell? ⟨b5, 0, none⟩ = some v2 ∧ Calls Tryz.prog k (#[v2] ++ lb) w' fun e' w'' => e' = .returned (.tuple #[]) ∧ R w'') :
    Calls Tryz.prog 103 #[.func (.func k) #[] lb, .pointer (some ⟨b4, 0, none⟩), .pointer (some ⟨b5, 0, none⟩)] w fun e w' => e = .returned (.tuple #[]) ∧ R w' := by
  have H := Lib.hid h
  clear h
  go_enter Tryz.func103, Tryz.ntmps103
  go_wp2_with (fail)
  refine H.out.mono ?_
  rintro e w1 ⟨rfl, c5, h2⟩
  have H2 := Lib.hid h2
  clear h2 H
  go_wp2_with (fail)
  refine H2.out.mono ?_
  rintro e w2 ⟨rfl, hR⟩
  have HR := Lib.hid hR
  clear hR
  go_wp2_with (fail)
  go_end0
  exact ⟨rfl, HR.out⟩

/-- What is known of the boxes while rows are cleared. -/
structure Bxs (W : World) (fb g1 g2 c1 c2 n b3 b4 b5 b8 l : Nat) : Prop where
  f : FieldAt W fb
  k3 : W.cell? ⟨b3, 0, none⟩ = some (.pointer (some ⟨fb, 0, none⟩))
  k4 : W.cell? ⟨b4, 0, none⟩ = some (.slice (some ⟨g1, 0, none⟩) n c1)
  k5 : W.cell? ⟨b5, 0, none⟩ = some (.slice (some ⟨g2, 0, none⟩) n c2)
  k8 : W.heap[b8]? = some (.cells #[.int .i64 (l : Int)] 3 (0, 0))
/-- The blocks are all different. -/
structure Dif (fb g1 g2 b3 b4 b5 b8 : Nat) : Prop where
  g : g1 ≠ g2
  f1 : fb ≠ g1
  f2 : fb ≠ g2
  f8 : fb ≠ b8
  b31 : b3 ≠ g1
  b32 : b3 ≠ g2
  b38 : b3 ≠ b8
  b41 : b4 ≠ g1
  b42 : b4 ≠ g2
  b48 : b4 ≠ b8
  b51 : b5 ≠ g1
  b52 : b5 ≠ g2
  b58 : b5 ≠ b8
  b81 : b8 ≠ g1
  b82 : b8 ≠ g2
theorem Bxs.c8 {W : World} {fb g1 g2 c1 c2 n b3 b4 b5 b8 l : Nat} (h : Bxs W fb g1 g2 c1 c2 n b3 b4 b5 b8 l) : W.cell? ⟨b8, 0, none⟩ = some (.int .i64 (l : Int)) := by rw [cell_of_row W _ _ _ _ _ h.k8]; rfl
theorem Bxs.ch {W W' : World} {H : Nat → Prop} {fb g1 g2 c1 c2 n b3 b4 b5 b8 l : Nat} (h : Bxs W fb g1 g2 c1 c2 n b3 b4 b5 b8 l) (hc : Ch W W' H) (hf : ¬ H fb) (h3 : ¬ H b3) (h4 : ¬ H b4) (h5 : ¬ H b5) (h8 : ¬ H b8) : Bxs W' fb g1 g2 c1 c2 n b3 b4 b5 b8 l :=
  ⟨hc.field h.f hf, hc.cell h.k3 h3, hc.cell h.k4 h4, hc.cell h.k5 h5, (hc.block b8 (Array.getElem?_eq_some_iff.1 h.k8).1 h8).trans h.k8⟩
theorem Bxs.ext {W W' : World} {fb g1 g2 c1 c2 n b3 b4 b5 b8 l : Nat} (h : Bxs W fb g1 g2 c1 c2 n b3 b4 b5 b8 l) (hx : Ext W W') : Bxs W' fb g1 g2 c1 c2 n b3 b4 b5 b8 l :=
  h.ch (H := fun _ => False) (Ch.of_ext hx _) (fun e => e) (fun e => e) (fun e => e) (fun e => e) (fun e => e)
theorem Dif.no {fb g1 g2 b3 b4 b5 b8 : Nat} (d : Dif fb g1 g2 b3 b4 b5 b8) : ¬ Two12 g1 g2 fb ∧ ¬ Two12 g1 g2 b3 ∧ ¬ Two12 g1 g2 b4 ∧ ¬ Two12 g1 g2 b5 ∧ ¬ Two12 g1 g2 b8 :=
  ⟨fun e => e.elim d.f1 d.f2, fun e => e.elim d.b31 d.b32, fun e => e.elim d.b41 d.b42, fun e => e.elim d.b51 d.b52, fun e => e.elim d.b81 d.b82⟩
theorem Bxs.two {W W' : World} {fb g1 g2 c1 c2 n b3 b4 b5 b8 l : Nat} (h : Bxs W fb g1 g2 c1 c2 n b3 b4 b5 b8 l) (d : Dif fb g1 g2 b3 b4 b5 b8) (hc : Ch W W' (Two12 g1 g2)) : Bxs W' fb g1 g2 c1 c2 n b3 b4 b5 b8 l :=
  h.ch hc d.no.1 d.no.2.1 d.no.2.2.1 d.no.2.2.2.1 d.no.2.2.2.2

set_option maxRecDepth 100000 in
theorem both2_any (fb : Nat) (w : World) (base : Nat) (P : Nat → Prop) (g1 g2 c1 c2 n : Nat) (cs1 cs2 : List Value) (a b : Gm.L) (b3 b4 b5 b8 ba bi l t : Nat) (x : UInt8)
    (h1 : Mq w base P (.slice (some ⟨g1, 0, none⟩) n c1) n cs1 a) (h2 : Mq w base P (.slice (some ⟨g2, 0, none⟩) n c2) n cs2 b) (hb : Bxs w fb g1 g2 c1 c2 n b3 b4 b5 b8 l) (hd : Dif fb g1 g2 b3 b4 b5 b8)
    (hP : ∀ b, P b → b < w.heap.size) (hbs : base ≤ w.heap.size) (hl : l < n) (ht : t < n) (hw1 : (Gm.row a t).length ≤ 1000) (hw2 : (Gm.row b t).length ≤ 1000)
    (ka : w.cell? ⟨ba, 0, none⟩ = some (.int .i64 (t : Int))) (ki : w.cell? ⟨bi, 0, none⟩ = some (.int .u8 (x.toNat : Int))) (n1 : ba ≠ g1) (n2 : ba ≠ g2) (n3 : bi ≠ g1) (n4 : bi ≠ g2) :
    Calls Tryz.prog 103 #[.func (.func 104) #[] #[.pointer (some ⟨b8, 0, none⟩), .pointer (some ⟨ba, 0, none⟩), .pointer (some ⟨b3, 0, none⟩), .pointer (some ⟨bi, 0, none⟩)], .pointer (some ⟨b4, 0, none⟩), .pointer (some ⟨b5, 0, none⟩)] w fun e w' =>
      e = .returned (.tuple #[]) ∧ (∃ cs1' cs2', Mq w' base P (.slice (some ⟨g1, 0, none⟩) n c1) n cs1' (Gm.scaleL (Gm.swapL a t l) l x) ∧ Mq w' base P (.slice (some ⟨g2, 0, none⟩) n c2) n cs2' (Gm.scaleL (Gm.swapL b t l) l x)) ∧ Ch w w' (Two12 g1 g2) := by
  refine both_any w 104 _ b4 b5 _ (.slice (some ⟨g2, 0, none⟩) n c2) _ (enters_of Tryz.func104 (by kernel_rfl) rfl) hb.k4 ?_
  refine (clear2_any fb w base P g1 c1 n cs1 a b8 ba b3 bi l t x h1 hP hbs hl ht hw1 hb.c8 ka hb.k3 ki hb.f hd.b81 n1 hd.b31 n3 hd.f1).mono ?_
  rintro e w1 ⟨rfl, ⟨cs1', q1⟩, hg⟩
  have hc1 : Ch w w1 (fun b => b = g1) := Ch.of_gb hg rfl
  have h2' := h2.ch hc1 (fun b hb e => by have hb' : some g2 = some b := hb; injection hb' with hb'; exact hd.g (by omega)) (fun b e => by rw [e]; exact h1.hot g1 rfl)
  have hb1 := hb.ch hc1 hd.f1 hd.b31 hd.b41 hd.b51 hd.b81
  refine ⟨rfl, hb1.k5, ?_⟩
  refine (clear2_any fb w1 base P g2 c2 n cs2 b b8 ba b3 bi l t x h2' (fun b h => Nat.lt_of_lt_of_le (hP b h) hc1.size) (Nat.le_trans hbs hc1.size) hl ht hw2 hb1.c8 (hc1.cell ka n1) hb1.k3 (hc1.cell ki n3) hb1.f hd.b82 n2 hd.b32 n4 hd.f2).mono ?_
  rintro e w2 ⟨rfl, ⟨cs2', q2⟩, hg2⟩
  have hc2 : Ch w1 w2 (fun b => b = g2) := Ch.of_gb hg2 rfl
  have q1' := q1.ch hc2 (fun b hb e => by have hb' : some g1 = some b := hb; injection hb' with hb'; exact hd.g (by omega)) (fun b e => by rw [e]; exact h2.hot g2 rfl)
  exact ⟨rfl, ⟨cs1', cs2', q1', q2⟩, (hc1.mono (fun _ _ e => .inl e)).trans (hc2.mono (fun _ _ e => .inr e))⟩
set_option maxRecDepth 100000 in
theorem both3_any (fb : Nat) (w : World) (base : Nat) (P : Nat → Prop) (g1 g2 c1 c2 n : Nat) (cs1 cs2 : List Value) (a b : Gm.L) (b3 b4 b5 b8 bk bc l k : Nat) (x : UInt8)
    (h1 : Mq w base P (.slice (some ⟨g1, 0, none⟩) n c1) n cs1 a) (h2 : Mq w base P (.slice (some ⟨g2, 0, none⟩) n c2) n cs2 b) (hb : Bxs w fb g1 g2 c1 c2 n b3 b4 b5 b8 l) (hd : Dif fb g1 g2 b3 b4 b5 b8)
    (hP : ∀ b, P b → b < w.heap.size) (hbs : base ≤ w.heap.size) (hl : l < n) (hk : k < n) (hlk : l ≠ k) (hw1 : (Gm.row a k).length ≤ 1000) (hw2 : (Gm.row b k).length ≤ 1000)
    (kk : w.cell? ⟨bk, 0, none⟩ = some (.int .i64 (k : Int))) (kc : w.cell? ⟨bc, 0, none⟩ = some (.int .u8 (x.toNat : Int))) (n1 : bk ≠ g1) (n2 : bk ≠ g2) (n3 : bc ≠ g1) (n4 : bc ≠ g2) :
    Calls Tryz.prog 103 #[.func (.func 105) #[] #[.pointer (some ⟨b3, 0, none⟩), .pointer (some ⟨bk, 0, none⟩), .pointer (some ⟨bc, 0, none⟩), .pointer (some ⟨b8, 0, none⟩)], .pointer (some ⟨b4, 0, none⟩), .pointer (some ⟨b5, 0, none⟩)] w fun e w' =>
      e = .returned (.tuple #[]) ∧ (∃ cs1' cs2', Mq w' base P (.slice (some ⟨g1, 0, none⟩) n c1) n cs1' (a.set k (Gf.lay (Gm.row a k) x (Gm.row a l))) ∧ Mq w' base P (.slice (some ⟨g2, 0, none⟩) n c2) n cs2' (b.set k (Gf.lay (Gm.row b k) x (Gm.row b l)))) ∧ Ch w w' (Two12 g1 g2) := by
  refine both_any w 105 _ b4 b5 _ (.slice (some ⟨g2, 0, none⟩) n c2) _ (enters_of Tryz.func105 (by kernel_rfl) rfl) hb.k4 ?_
  refine (clear3_any fb w base P g1 c1 n cs1 a b8 bk b3 bc l k x h1 hP hbs hl hk hlk hd.b31 n1 n3 hd.b81 hw1 hb.k3 kk kc hb.c8 hb.f).mono ?_
  rintro e w1 ⟨rfl, ⟨cs1', q1⟩, hg⟩
  have hc1 : Ch w w1 (fun b => b = g1) := Ch.of_gb hg rfl
  have h2' := h2.ch hc1 (fun b hb e => by have hb' : some g2 = some b := hb; injection hb' with hb'; exact hd.g (by omega)) (fun b e => by rw [e]; exact h1.hot g1 rfl)
  have hb1 := hb.ch hc1 hd.f1 hd.b31 hd.b41 hd.b51 hd.b81
  refine ⟨rfl, hb1.k5, ?_⟩
  refine (clear3_any fb w1 base P g2 c2 n cs2 b b8 bk b3 bc l k x h2' (fun b h => Nat.lt_of_lt_of_le (hP b h) hc1.size) (Nat.le_trans hbs hc1.size) hl hk hlk hd.b32 n2 n4 hd.b82 hw2 hb1.k3 (hc1.cell kk n1) (hc1.cell kc n3) hb1.c8 hb1.f).mono ?_
  rintro e w2 ⟨rfl, ⟨cs2', q2⟩, hg2⟩
  have hc2 : Ch w1 w2 (fun b => b = g2) := Ch.of_gb hg2 rfl
  have q1' := q1.ch hc2 (fun b hb e => by have hb' : some g1 = some b := hb; injection hb' with hb'; exact hd.g (by omega)) (fun b e => by rw [e]; exact h2.hot g2 rfl)
  exact ⟨rfl, ⟨cs1', cs2', q1', q2⟩, (hc1.mono (fun _ _ e => .inl e)).trans (hc2.mono (fun _ _ e => .inr e))⟩
end Go.Proofs.YtfpglkacjecoeaaGreat
namespace Go.Proofs.YtfpglkacjecoeaaGreat

theorem col_full {a b : Gm.L} {l j : Nat} (h : l = a.length) : Gm.col a b l j = (a, b, l) := by
  unfold Gm.col
  have h0 : a.length - l = 0 := by omega
  rw [h0]
  simp only [Gm.seek, h, ↓reduceIte]
theorem elimTo_stays {a b : Gm.L} {j : Nat} (hl : (Gm.elimTo a b j).2.2 = (Gm.elimTo a b j).1.length) : ∀ k, Gm.elimTo a b (j + k) = Gm.elimTo a b j
  | 0 => rfl
  | k + 1 => by
    have ih := elimTo_stays hl k
    show Gm.col (Gm.elimTo a b (j + k)).1 (Gm.elimTo a b (j + k)).2.1 (Gm.elimTo a b (j + k)).2.2 (j + k) = _
    rw [ih, col_full hl]
theorem seek_is {p : Nat → Bool} {n k t : Nat} (h1 : k ≤ t) (h2 : t ≤ k + n) (h3 : ∀ i, k ≤ i → i < t → p i = false) (h4 : t < k + n → p t = true) : Gm.seek p n k = t := by
  obtain ⟨s1, s2, s3, s4⟩ := Gm.seek_spec p n k
  generalize Gm.seek p n k = s at *
  by_cases e : s < t
  · have := h3 s s1 e; rw [s4 (by omega)] at this; cases this
  · by_cases e2 : t < s
    · have := s3 t h1 e2; rw [h4 (by omega)] at this; cases this
    · omega
theorem seek_col {a : Gm.L} {n l j t : Nat} (ha : a.length = n) (h1 : l ≤ t) (h2 : t ≤ n) (h3 : ∀ i, l ≤ i → i < t → Gm.at_ a i j = 0) (h4 : t < n → Gm.at_ a t j ≠ 0) : Gm.seek (fun k => Gm.at_ a k j != 0) (a.length - l) l = t := by
  refine seek_is h1 (by omega) (fun i q1 q2 => by simp [h3 i q1 q2]) (fun h => by have := h4 (by omega); simpa using this)
theorem col_none {a b : Gm.L} {n l j : Nat} (ha : a.length = n) (h1 : l ≤ n) (h3 : ∀ i, l ≤ i → i < n → Gm.at_ a i j = 0) : Gm.col a b l j = (a, b, l) := by
  unfold Gm.col
  rw [seek_col ha h1 (Nat.le_refl _) h3 (fun h => absurd h (Nat.lt_irrefl _)), if_pos ha.symm]
theorem col_found {a b : Gm.L} {n l j t : Nat} (ha : a.length = n) (h1 : l ≤ t) (h2 : t < n) (h3 : ∀ i, l ≤ i → i < t → Gm.at_ a i j = 0) (h4 : Gm.at_ a t j ≠ 0) :
    Gm.col a b l j = (Gm.clearL (Gm.scaleL (Gm.swapL a t l) l (Gf.inv (Gm.at_ a t j))) l (fun k => Gm.at_ (Gm.scaleL (Gm.swapL a t l) l (Gf.inv (Gm.at_ a t j))) k j),
      Gm.clearL (Gm.scaleL (Gm.swapL b t l) l (Gf.inv (Gm.at_ a t j))) l (fun k => Gm.at_ (Gm.scaleL (Gm.swapL a t l) l (Gf.inv (Gm.at_ a t j))) k j), l + 1) := by
  unfold Gm.col
  rw [seek_col ha h1 (by omega) h3 (fun _ => h4), if_neg (by omega)]
theorem set_row_self {m : Gm.L} {k : Nat} (hk : k < m.length) : m.set k (Gm.row m k) = m := by
  rw [Gm.row_of_lt hk, List.set_getElem_self]
theorem clearTo_same {m : Gm.L} {p k : Nat} (d : Nat → UInt8) (hk : k < m.length) (h : k = p ∨ d k = 0) : Gm.clearTo m p d (k + 1) = Gm.clearTo m p d k := by
  rw [Gm.clearTo_succ d hk]
  by_cases e : k = p
  · rw [if_pos e]
  · rw [if_neg e, h.resolve_left e, Gf.lay_zero, set_row_self (by rw [Gm.clearTo_length]; exact hk)]
theorem clearTo_next {m : Gm.L} {p k : Nat} (d : Nat → UInt8) (hk : k < m.length) (hp : p < m.length) (h : k ≠ p) : (Gm.clearTo m p d k).set k (Gf.lay (Gm.row (Gm.clearTo m p d k) k) (d k) (Gm.row (Gm.clearTo m p d k) p)) = Gm.clearTo m p d (k + 1) := by
  rw [Gm.clearTo_succ d hk, if_neg h, Gm.clearTo_lead d k hp]
end Go.Proofs.YtfpglkacjecoeaaGreat
namespace Gm
open Gf
def scTo (r : List UInt8) (x : UInt8) (k : Nat) : List UInt8 := (List.range r.length).map fun i => if i < k then mul x (get r i) else get r i
theorem scTo_length (r : List UInt8) (x : UInt8) (k : Nat) : (scTo r x k).length = r.length := by simp [scTo]
theorem get_scTo {r : List UInt8} {x : UInt8} {k i : Nat} (h : i < r.length) : get (scTo r x k) i = if i < k then mul x (get r i) else get r i := get_map_range _ h
theorem scTo_zero (r : List UInt8) (x : UInt8) : scTo r x 0 = r := ext_get (scTo_length _ _ _) fun i hi => by
  rw [scTo_length] at hi
  rw [get_scTo hi, if_neg (Nat.not_lt_zero _)]
theorem scTo_full {r : List UInt8} (x : UInt8) {k : Nat} (h : r.length ≤ k) : scTo r x k = scaleRow r x := ext_get (by rw [scTo_length, scaleRow_length]) fun i hi => by
  rw [scTo_length] at hi
  rw [get_scTo hi, if_pos (by omega), get_scaleRow _ hi]
theorem scTo_succ {r : List UInt8} (x : UInt8) {k : Nat} (h : k < r.length) : (scTo r x k).set k (mul x (get r k)) = scTo r x (k + 1) := ext_get (by rw [List.length_set, scTo_length, scTo_length]) fun i hi => by
  rw [List.length_set, scTo_length] at hi
  rw [get_set _ (by rw [scTo_length]; exact h), get_scTo hi, get_scTo hi]
  by_cases e : k = i
  · subst e; rw [if_pos rfl, if_pos (by omega)]
  · rw [if_neg e]
    by_cases e2 : i < k
    · rw [if_pos e2, if_pos (by omega)]
    · rw [if_neg e2, if_neg (by omega)]
end Gm
namespace Go.Proofs.YtfpglkacjecoeaaGreat
open Go.RowKit
attribute [local go_sem ↓] Go.wp_at_zero Go.wp_at_succ

theorem Bxs.lead {W : World} {fb g1 g2 c1 c2 n b3 b4 b5 b8 l : Nat} (h : Bxs W fb g1 g2 c1 c2 n b3 b4 b5 b8 l) (d : Dif fb g1 g2 b3 b4 b5 b8) : Bxs (W.setCell ⟨b8, 0, none⟩ (.int .i64 ((l + 1 : Nat) : Int))) fb g1 g2 c1 c2 n b3 b4 b5 b8 (l + 1) :=
  have hc : Ch W (W.setCell ⟨b8, 0, none⟩ (.int .i64 ((l + 1 : Nat) : Int))) (fun b => b = b8) := Ch.set (H := fun b => b = b8) (Ch.refl W _) rfl _
  ⟨hc.field h.f d.f8, hc.cell h.k3 d.b38, hc.cell h.k4 d.b48, hc.cell h.k5 d.b58, heap_setCell_same W b8 0 _ _ _ h.k8⟩
/-- The blocks that cleared writes. -/
def Hot8 (g1 g2 b8 : Nat) : Nat → Prop := fun b => b = g1 ∨ b = g2 ∨ b = b8

set_option maxRecDepth 100000 in
set_option maxHeartbeats 8000000 in
theorem cleared_any (fb : Nat) (w : World) (base g1 g2 c1 c2 n c cb : Nat) (cs1 cs2 : List Value) (a b : Gm.L)
    (h1 : Mq w base (Two12 g1 g2) (.slice (some ⟨g1, 0, none⟩) n c1) n cs1 a) (h2 : Mq w base (Two12 g1 g2) (.slice (some ⟨g2, 0, none⟩) n c2) n cs2 b)
    (hg : g1 ≠ g2) (hf : FieldAt w fb) (hfb : fb < base) (hbs : base ≤ w.heap.size) (hn : 1 ≤ n) (hn2 : n ≤ 255) (ra : Gm.Rect n c a) (rb : Gm.Rect n cb b) (hc : c ≤ 255) (hcb : cb ≤ 255) :
    Calls Tryz.prog 87 #[.pointer (some ⟨fb, 0, none⟩), .slice (some ⟨g1, 0, none⟩) n c1, .slice (some ⟨g2, 0, none⟩) n c2] w fun e w' =>
      e = .returned (.int .i64 ((Gm.elimTo a b c).2.2 : Int)) ∧ (∃ cs1' cs2', Mq w' base (Two12 g1 g2) (.slice (some ⟨g1, 0, none⟩) n c1) n cs1' (Gm.elimTo a b c).1 ∧ Mq w' base (Two12 g1 g2) (.slice (some ⟨g2, 0, none⟩) n c2) n cs2' (Gm.elimTo a b c).2.1) ∧ Below base w w' := by
  have hg1 : base ≤ g1 ∧ g1 < w.heap.size := h1.own.lt g1 rfl
  have hg2 : base ≤ g2 ∧ g2 < w.heap.size := h2.own.lt g2 rfl
  have hN1 : n ≤ c1 ∧ c1 ≤ 9223372036854775807 := by
    obtain ⟨_, _, e, q1, q2⟩ := ownsRow_slice h1.own
    injection e with _ _ e3
    omega
  obtain ⟨B, hB⟩ : ∃ B, w.heap.size = B := ⟨_, rfl⟩
  have hx1 : Ext w ((((w.alloc (.cells #[.pointer (some ⟨fb, 0, none⟩)] 37)).alloc (.cells #[.slice (some ⟨g1, 0, none⟩) n c1] 39)).alloc (.cells #[.slice (some ⟨g2, 0, none⟩) n c2] 39)).alloc (.cells #[.int .i64 0] 3)) := (((Ext.alloc _ _).thenAlloc _).thenAlloc _).thenAlloc _
  have hbx : Bxs ((((w.alloc (.cells #[.pointer (some ⟨fb, 0, none⟩)] 37)).alloc (.cells #[.slice (some ⟨g1, 0, none⟩) n c1] 39)).alloc (.cells #[.slice (some ⟨g2, 0, none⟩) n c2] 39)).alloc (.cells #[.int .i64 0] 3)) fb g1 g2 c1 c2 n B (B + 1) (B + 1 + 1) (B + 1 + 1 + 1) 0 := by
    subst hB
    refine ⟨hf.ext hx1, ?_, ?_, ?_, ?_⟩
    · refine Ext.cell (((Ext.alloc _ _).thenAlloc _).thenAlloc _) ?_
      rw [World.cell?_alloc_new]; rfl
    · refine Ext.cell ((Ext.alloc _ _).thenAlloc _) ?_
      exact cell_two w _ _ _ _
    · refine Ext.cell (Ext.alloc _ _) ?_
      rw [show w.heap.size + 1 + 1 = ((w.alloc (.cells #[.pointer (some ⟨fb, 0, none⟩)] 37)).alloc (.cells #[.slice (some ⟨g1, 0, none⟩) n c1] 39)).heap.size by simp, World.cell?_alloc_new]; rfl
    · have h := heap_alloc_new (((w.alloc (.cells #[.pointer (some ⟨fb, 0, none⟩)] 37)).alloc (.cells #[.slice (some ⟨g1, 0, none⟩) n c1] 39)).alloc (.cells #[.slice (some ⟨g2, 0, none⟩) n c2] 39)) (.cells #[.int .i64 0] 3)
      simpa using h
  have hdif : Dif fb g1 g2 B (B + 1) (B + 1 + 1) (B + 1 + 1 + 1) := ⟨hg, by omega, by omega, by omega, by omega, by omega, by omega, by omega, by omega, by omega, by omega, by omega, by omega, by omega, by omega⟩
  have m1 := (h1.kind (P' := Hot8 g1 g2 (B + 1 + 1 + 1)) (fun b hb _ hp => by rcases hp with hp | hp | hp; exact .inl hp; exact .inr hp; omega) (fun b hb => by have hb' : some g1 = some b := hb; injection hb' with hb'; exact .inl hb'.symm)).ext hx1
  have m2 := (h2.kind (P' := Hot8 g1 g2 (B + 1 + 1 + 1)) (fun b hb _ hp => by rcases hp with hp | hp | hp; exact .inl hp; exact .inr hp; omega) (fun b hb => by have hb' : some g2 = some b := hb; injection hb' with hb'; exact .inr (.inl hb'.symm))).ext hx1
  have hbel : Below base w ((((w.alloc (.cells #[.pointer (some ⟨fb, 0, none⟩)] 37)).alloc (.cells #[.slice (some ⟨g1, 0, none⟩) n c1] 39)).alloc (.cells #[.slice (some ⟨g2, 0, none⟩) n c2] 39)).alloc (.cells #[.int .i64 0] 3)) := Below.mono hx1 hbs
  obtain ⟨A0, d0, hcs0, hcell0, _, _⟩ := m1.cellAt (show 0 < n by omega)
  rw [ra.wid 0 (by omega)] at hcell0
  have hB1 : base ≤ B := by omega
  have HB := Lib.hid hB
  have RA := Lib.hid ra
  have RB := Lib.hid rb
  have HM1 := Lib.hid m1
  have HM2 := Lib.hid m2
  have HBX := Lib.hid hbx
  have HBEL := Lib.hid hbel
  have HDIF := Lib.hid hdif
  have k4 := hbx.k4
  have hg1B : g1 < B := by omega
  have hg2B : g2 < B := by omega
  clear h1 h2 hf m1 m2 hbx hbel hx1 hcs0 ra rb hdif
  go_enter Tryz.func87, Tryz.ntmps87
  try dsimp only [List.append]
  go_wp2_with (fail)
  go_step3
  go_wp2_with (fail)
  go_step3
  clear hB
  generalize ((((w.alloc (.cells #[.pointer (some ⟨fb, 0, none⟩)] 37)).alloc (.cells #[.slice (some ⟨g1, 0, none⟩) n c1] 39)).alloc (.cells #[.slice (some ⟨g2, 0, none⟩) n c2] 39)).alloc (.cells #[.int .i64 0] 3)) = W1 at *
  go_wp2_with (fail)
  clear hcell0 k4
  obtain ⟨b8, hb8⟩ : ∃ b8, B + 1 + 1 + 1 = b8 := ⟨_, rfl⟩
  obtain ⟨b5, hb5⟩ : ∃ b5, B + 1 + 1 = b5 := ⟨_, rfl⟩
  obtain ⟨b4, hb4⟩ : ∃ b4, B + 1 = b4 := ⟨_, rfl⟩
  have hBb8 : base ≤ b8 := by omega
  have hW8 : b8 < W1.heap.size := by have := HBX.out.k8; rw [hb8] at this; exact (Array.getElem?_eq_some_iff.1 this).1
  rw [hb8] at HM1 HM2
  rw [hb8, hb5, hb4] at HBX HDIF
  rw [hb8, hb5, hb4]
  clear hb8 hb5 hb4
  have hcn := (RA.out.wid 0 (by omega))
  go_loopw [9, 20] (fun _ s wr => ∃ (j : Nat) (cs1 cs2 : List Value), j ≤ c ∧ s = .int .i64 j ∧ (Gm.elimTo a b j).2.2 < n ∧ Mq wr base (Hot8 g1 g2 b8) (.slice (some ⟨g1, 0, none⟩) n c1) n cs1 (Gm.elimTo a b j).1 ∧ Mq wr base (Hot8 g1 g2 b8) (.slice (some ⟨g2, 0, none⟩) n c2) n cs2 (Gm.elimTo a b j).2.1 ∧ Bxs wr fb g1 g2 c1 c2 n B b4 b5 b8 (Gm.elimTo a b j).2.2 ∧ Below base w wr ∧ b8 < wr.heap.size) (fun _ s _ => c - (intOf s).toNat)
  case atStart => exact ⟨0, cs1, cs2, by omega, rfl, by show 0 < n; omega, HM1.out, HM2.out, HBX.out, HBEL.out, hW8⟩
  case round =>
    obtain ⟨j, ds1, ds2, hj, rfl, hl, hm1, hm2, hbx, hbel, hw8⟩ := hrel
    clear hW8
    by_cases hlt : j < c
    · have q1 : (j : Int) < c := by omega
      have hinv := Gm.inv_elimTo RA.out RB.out j hj
      obtain ⟨A, hA⟩ : ∃ A, (Gm.elimTo a b j).1 = A := ⟨_, rfl⟩
      obtain ⟨B', hB'⟩ : ∃ B', (Gm.elimTo a b j).2.1 = B' := ⟨_, rfl⟩
      obtain ⟨l, hl'⟩ : ∃ l, (Gm.elimTo a b j).2.2 = l := ⟨_, rfl⟩
      have hnext : Gm.elimTo a b (j + 1) = Gm.col A B' l j := by rw [← hA, ← hB', ← hl']; rfl
      rw [hA] at hm1 hinv
      rw [hB'] at hm2 hinv
      rw [hl'] at hl hbx hinv
      clear hA hB' hl'
      have rA := hinv.ra
      have rB := hinv.rb
      have k4 := hbx.k4
      have k8 := hbx.c8
      have HNX := Lib.hid hnext
      have HI := Lib.hid hinv
      clear hnext hinv
      go_upto_block 2 with (fail)
      obtain ⟨wo, rfl⟩ : ∃ wo : World, wo = wr := ⟨_, rfl⟩
      have kd : ∀ (g : Nat) (c' : Nat) (cs : List Value) (M : Gm.L), Mq wo base (Hot8 g1 g2 b8) (.slice (some ⟨g, 0, none⟩) n c') n cs M → Mq (wo.alloc (.cells #[.int .i64 (l : Int)] 3)) base (fun b => Hot8 g1 g2 b8 b ∨ b = wo.heap.size) (.slice (some ⟨g, 0, none⟩) n c') n cs M := fun g c' cs M hM =>
        (hM.kind (fun b hb _ hp => hp.elim (fun e => e) (fun e => by omega)) (fun b hb => .inl (hM.hot b hb))).ext (Ext.alloc _ _)
      have p1 := kd _ _ _ _ hm1
      have p2 := kd _ _ _ _ hm2
      have hbx1 := hbx.ext (Ext.alloc wo (.cells #[.int .i64 (l : Int)] 3))
      have hbel1 : Below base w (wo.alloc (.cells #[.int .i64 (l : Int)] 3)) := hbel.alloc (by have := hbel.size; omega) _
      have hq0 := heap_alloc_new wo (.cells #[.int .i64 (l : Int)] 3)
      have g1q : g1 ≠ wo.heap.size := by have := (hm1.own.lt g1 rfl).2; omega
      have g2q : g2 ≠ wo.heap.size := by have := (hm2.own.lt g2 rfl).2; omega
      have hBq : b4 ≠ wo.heap.size := by have h : b4 < wo.heap.size := World.block_lt_of_cell? _ _ hbx.k4; omega
      have hb3q : B ≠ wo.heap.size := by have h : B < wo.heap.size := World.block_lt_of_cell? _ _ hbx.k3; omega
      have hb5q : b5 ≠ wo.heap.size := by have h : b5 < wo.heap.size := World.block_lt_of_cell? _ _ hbx.k5; omega
      have hfq : fb ≠ wo.heap.size := by have h : fb < wo.heap.size := World.block_lt_of_cell? _ _ hbx.f.made; omega
      have hbq : base ≤ wo.heap.size := by omega
      have h8q : b8 ≠ wo.heap.size := by omega
      have P1 := Lib.hid p1
      have P2 := Lib.hid p2
      have HBX1 := Lib.hid hbx1
      have HBEL1 := Lib.hid hbel1
      have HQ0 := Lib.hid hq0
      have RA1 := Lib.hid rA
      have RB1 := Lib.hid rB
      clear kd p1 p2 hbx1 hbel1 hq0 rA rB hm1 hm2 hbx hbel k4 k8
      generalize hW6 : (wo.alloc (.cells #[.int .i64 (l : Int)] 3)) = W6 at *
      generalize hq : wo.heap.size = q at *
      clear hW6 hq
      go_cut [] (fun wx => ∃ wv : World, wv = wx ∧ ∃ t : Nat, l ≤ t ∧ t ≤ n ∧ RowKit.Hid (∀ i, l ≤ i → i < t → Gm.at_ A i j = 0) ∧ RowKit.Hid (t < n → Gm.at_ A t j ≠ 0) ∧ wx.heap[q]? = some (.cells #[.int .i64 (t : Int)] 3 (0, 0)) ∧ Ch W6 wx (fun b => b = q))
      case first =>
        as_aux_lemma =>
          go_wp2_with (fail)
          go_loopg [] (n - l) (fun k wx => ∃ t : Nat, k = n - t ∧ l ≤ t ∧ t ≤ n ∧ RowKit.Hid (∀ i, l ≤ i → i < t → Gm.at_ A i j = 0) ∧ wx.heap[q]? = some (.cells #[.int .i64 (t : Int)] 3 (0, 0)) ∧ Ch W6 wx (fun b => b = q))
          case atStart => exact ⟨l, rfl, by omega, by omega, Lib.hid (fun i h1 h2 => by omega), HQ0.out, Ch.refl _ _⟩
          case round =>
            obtain ⟨t, rfl, ht1, ht2, HZ, hbk, hch⟩ := hrel
            have kq : wr.cell? ⟨q, 0, none⟩ = some (.int .i64 (t : Int)) := by rw [cell_of_row wr _ _ _ _ _ hbk]; rfl
            have fq : wr.frozen? ⟨q, 0, none⟩ = false := frozen_of_row wr _ _ _ _ hbk
            have k4 := hch.cell HBX1.out.k4 hBq
            have HBK := Lib.hid hbk
            have HCH := Lib.hid hch
            clear hbk hch
            by_cases htn : t < n
            · have q2 : (t : Int) < n := by omega
              have hm := P1.out.ch HCH.out (fun b hb e => by have hb' : some g1 = some b := hb; injection hb' with hb'; omega) (fun b e => .inr e)
              obtain ⟨At, dt, _, hct, _, hot⟩ := hm.cellAt htn
              have hbt := (Own.mk (base := base) (e := 5) hot).bs
              have hrt := RA1.out.wid t htn
              rw [hrt] at hct hbt
              obtain ⟨bt, ot, rfl, hce⟩ := hbt.rd.byte hlt
              have hmx := hbt.max
              have hle := hbt.le
              have hax : Gf.get (Gm.row A t) j = Gm.at_ A t j := rfl
              rw [hax] at hce
              generalize hx : Gm.at_ A t j = x at *
              have HX := Lib.hid hx
              clear hx hax hm hot hbt hrt
              by_cases hx0 : x = 0
              · have e1 := u8_zero' x hx0
                have HX0 := Lib.hid hx0
                clear hx0
                go_wp2_with (fail)
                go_roundg (n - (t + 1))
                case measure => omega
                case rel => exact ⟨t + 1, rfl, by omega, by omega, Lib.hid (fun i h1 h2 => by
                    by_cases e : i = t
                    · rw [e, HX.out, HX0.out]
                    · exact HZ.out i h1 (by omega)), heap_setCell_same _ q 0 _ _ _ HBK.out, HCH.out.set rfl _⟩
              · have e1 := u8_nonzero' x hx0
                have HX0 := Lib.hid hx0
                clear hx0
                go_wp2_with (fail)
                go_meet
                exact ⟨_, rfl, t, ht1, ht2, HZ, Lib.hid (fun _ => by rw [HX.out]; exact HX0.out), HBK.out, HCH.out⟩
            · have q2 : ¬ (t : Int) < n := by omega
              go_wp2_with (fail)
              go_meet
              exact ⟨_, rfl, t, ht1, ht2, HZ, Lib.hid (fun h => absurd h htn), HBK.out, HCH.out⟩
      case rest =>
        obtain ⟨wv, rfl, t, ht1, ht2, HZ, HNZ, hbk, hch⟩ := hcut
        have kq : wv.cell? ⟨q, 0, none⟩ = some (.int .i64 (t : Int)) := by rw [cell_of_row wv _ _ _ _ _ hbk]; rfl
        have m1 := P1.out.ch hch (fun b hb e => by have hb' : some g1 = some b := hb; injection hb' with hb'; omega) (fun b e => .inr e)
        have m2 := P2.out.ch hch (fun b hb e => by have hb' : some g2 = some b := hb; injection hb' with hb'; omega) (fun b e => .inr e)
        have hbx := HBX1.out.ch hch hfq hb3q hBq hb5q h8q
        have hw6 : b8 < W6.heap.size := World.block_lt_of_cell? _ _ HBX1.out.c8
        have hbel : Below base w wv := HBEL1.out.trans (hch.below (by omega) (fun b e => by omega))
        have k3 := hbx.k3
        have k4 := hbx.k4
        have k8 := hbx.c8
        have HBK := Lib.hid hbk
        have HCH := Lib.hid hch
        have hsz : W6.heap.size ≤ wv.heap.size := hch.size
        clear hbk hch P1 P2 HBX1 HBEL1 HQ0
        by_cases htn : t < n
        · have e1 : ((t : Int) == (n : Int)) = false := by rw [beq_eq_false_iff_ne]; omega
          have q2 : (t : Int) < n := by omega
          obtain ⟨At, dt, _, hct, _, hot⟩ := m1.cellAt htn
          have hbt := (Own.mk (base := base) (e := 5) hot).bs
          have hrt := RA1.out.wid t htn
          rw [hrt] at hct hbt
          obtain ⟨bt, ot, rfl, hce⟩ := hbt.rd.byte hlt
          have hmx := hbt.max
          have hle := hbt.le
          have hax : Gf.get (Gm.row A t) j = Gm.at_ A t j := rfl
          rw [hax] at hce
          have hnz := HNZ.out htn
          have hcol := col_found (b := B') RA1.out.len ht1 htn HZ.out hnz
          have hinv := fun (W : World) (hW : Ext wv W) => inv_any fb W (Gm.at_ A t j) (hbx.f.ext hW)
          have hiq : Gf.divQ 1 (Gm.at_ A t j) = Gf.inv (Gm.at_ A t j) := by unfold Gf.divQ Gf.div; rw [if_neg hnz, Gf.one_mul]
          have hie : Gf.divE (Gm.at_ A t j) = 0 := by unfold Gf.divE; rw [if_neg hnz]
          rw [hiq, hie] at hinv
          have hrt2 : (Gm.row A t).length = c := hrt
          have htw : (Gm.row B' t).length = cb := RB1.out.wid t htn
          have hP0 : ∀ b, (Hot8 g1 g2 b8 b ∨ b = q) → b < wv.heap.size := fun b hb => by
            have hq : q < wv.heap.size := World.block_lt_of_cell? _ _ kq
            have h1 := (m1.own.lt g1 rfl).2
            have h2 := (m2.own.lt g2 rfl).2
            rcases hb with (rfl | rfl | rfl) | rfl <;> omega
          have hB2 : ∀ W : World, Ext wv W → W.cell? ⟨wv.heap.size, 0, none⟩ = some (.int .u8 ((Gf.inv (Gm.at_ A t j)).toNat : Int)) → Calls Tryz.prog 103 #[.func (.func 104) #[] #[.pointer (some ⟨b8, 0, none⟩), .pointer (some ⟨q, 0, none⟩), .pointer (some ⟨B, 0, none⟩), .pointer (some ⟨wv.heap.size, 0, none⟩)], .pointer (some ⟨b4, 0, none⟩), .pointer (some ⟨b5, 0, none⟩)] W fun e w' =>
              e = .returned (.tuple #[]) ∧ RowKit.Hid ((∃ cs1' cs2', Mq w' base (fun b => Hot8 g1 g2 b8 b ∨ b = q) (.slice (some ⟨g1, 0, none⟩) n c1) n cs1' (Gm.scaleL (Gm.swapL A t l) l (Gf.inv (Gm.at_ A t j))) ∧ Mq w' base (fun b => Hot8 g1 g2 b8 b ∨ b = q) (.slice (some ⟨g2, 0, none⟩) n c2) n cs2' (Gm.scaleL (Gm.swapL B' t l) l (Gf.inv (Gm.at_ A t j)))) ∧ Bxs w' fb g1 g2 c1 c2 n B b4 b5 b8 l ∧ Below base w w' ∧ wv.heap.size ≤ w'.heap.size) := fun W hW hc => by
            have z1 : wv.heap.size ≠ g1 := by have := (m1.own.lt g1 rfl).2; omega
            have z2 : wv.heap.size ≠ g2 := by have := (m2.own.lt g2 rfl).2; omega
            refine (both2_any fb W base (fun b => Hot8 g1 g2 b8 b ∨ b = q) g1 g2 c1 c2 n ds1 ds2 A B' B b4 b5 b8 q wv.heap.size l t (Gf.inv (Gm.at_ A t j)) (m1.ext hW) (m2.ext hW) (hbx.ext hW) HDIF.out (fun b hb => Nat.lt_of_lt_of_le (hP0 b hb) hW.size) (by have := hW.size; omega) hl htn (by omega) (by omega) (hW.cell kq) hc (fun e => g1q e.symm) (fun e => g2q e.symm) z1 z2).mono ?_
            rintro e w' ⟨rfl, hm, hch⟩
            exact ⟨rfl, Lib.hid ⟨hm, (hbx.ext hW).two HDIF.out hch, (hbel.trans (Below.mono hW (by omega))).trans (hch.below (by have := hW.size; omega) (fun b e => by rcases e with rfl | rfl <;> omega)), Nat.le_trans hW.size hch.size⟩⟩
          have HB2 := Lib.hid hB2
          have HP0 := Lib.hid hP0
          clear hB2 hP0 htw hrt2
          have HINV := Lib.hid hinv
          have HCOL := Lib.hid hcol
          have M1 := Lib.hid m1
          have M2 := Lib.hid m2
          have HBX := Lib.hid hbx
          have HBEL := Lib.hid hbel
          clear hinv hcol m1 m2 hbx hbel hot hbt hrt hax hnz hiq hie HNZ HZ
          generalize Gf.inv (Gm.at_ A t j) = x at *
          have hS : ∀ W : World, Ext wv W → (W.cell? ⟨B, 0, none⟩ = some (.pointer (some ⟨fb, 0, none⟩)) ∧ W.cell? ⟨b4, 0, none⟩ = some (.slice (some ⟨g1, 0, none⟩) n c1) ∧ W.cell? ⟨q, 0, none⟩ = some (.int .i64 (t : Int)) ∧ W.cell? ⟨g1, t, none⟩ = some (.slice (some ⟨bt, ot, none⟩) c dt) ∧ W.cell? ⟨bt, ot + j, none⟩ = some (.int .u8 ((Gm.at_ A t j).toNat : Int))) := fun W hW => ⟨hW.cell k3, hW.cell k4, hW.cell kq, hW.cell hct, hW.cell hce⟩
          have HS := Lib.hid hS
          clear hS
          go_wp2_with (fail)
          go_region_held3 (fun W => W.cell? ⟨B, 0, none⟩ = some (.pointer (some ⟨fb, 0, none⟩)) ∧ W.cell? ⟨b4, 0, none⟩ = some (.slice (some ⟨g1, 0, none⟩) n c1) ∧ W.cell? ⟨q, 0, none⟩ = some (.int .i64 (t : Int)) ∧ W.cell? ⟨g1, t, none⟩ = some (.slice (some ⟨bt, ot, none⟩) c dt) ∧ W.cell? ⟨bt, ot + j, none⟩ = some (.int .u8 ((Gm.at_ A t j).toNat : Int)))
            ((refine HS.out _ ?_; repeat (first | with_reducible exact Ext.refl _ | with_reducible refine Ext.thenDrew ?_ | with_reducible refine Ext.thenDrewN ?_ _ | with_reducible refine Ext.thenAlloc ?_ _ | exact Ext.set_ (by repeat (first | with_reducible exact Ext.refl _ | with_reducible refine Ext.thenDrew ?_ | with_reducible refine Ext.thenDrewN ?_ _ | with_reducible refine Ext.thenAlloc ?_ _)) (Nat.le_refl _) _)))
            (first
              | (((with_reducible refine (HINV.out wv.drew (Ext.drew wv)).mono ?_); (rintro e w4 ⟨rfl, nd, rfl⟩; have hnc : ((wv.drewN (1 + nd)).alloc (.cells #[.int .u8 0] 5)).cell? ⟨wv.heap.size, 0, none⟩ = some (.int .u8 0) := World.cell?_alloc_new (wv.drewN (1 + nd)) #[.int .u8 0] 5 0; have hnf : ((wv.drewN (1 + nd)).alloc (.cells #[.int .u8 0] 5)).frozen? ⟨wv.heap.size, 0, none⟩ = false := World.frozen?_alloc_new (wv.drewN (1 + nd)) #[.int .u8 0] 5 0)))
              | (((with_reducible refine (HINV.out (wv.alloc (.cells #[.int .u8 0] 5)).drew ((Ext.alloc wv _).thenDrew)).mono ?_); (rintro e w4 ⟨rfl, nd, rfl⟩; have hnc : ((wv.alloc (.cells #[.int .u8 0] 5)).drewN (1 + nd)).cell? ⟨wv.heap.size, 0, none⟩ = some (.int .u8 0) := World.cell?_alloc_new wv #[.int .u8 0] 5 0; have hnf : ((wv.alloc (.cells #[.int .u8 0] 5)).drewN (1 + nd)).frozen? ⟨wv.heap.size, 0, none⟩ = false := World.frozen?_alloc_new wv #[.int .u8 0] 5 0))))
          all_goals
            go_wp2_with (fail)
            refine (HB2.out _ (by repeat (first | with_reducible exact Ext.refl _ | with_reducible refine Ext.thenDrew ?_ | with_reducible refine Ext.thenDrewN ?_ _ | with_reducible refine Ext.thenAlloc ?_ _ | exact Ext.set_ (by repeat (first | with_reducible exact Ext.refl _ | with_reducible refine Ext.thenDrew ?_ | with_reducible refine Ext.thenDrewN ?_ _ | with_reducible refine Ext.thenAlloc ?_ _)) (Nat.le_refl _) _)) (World.cell?_setCell_same _ _ _ hnc)).mono ?_
            rintro e W7 ⟨rfl, HR7⟩
            clear hnc hnf
            obtain ⟨⟨es1, es2, y1, y2⟩, yb, yw, ys⟩ := HR7.out
            have Y1 := Lib.hid y1
            have Y2 := Lib.hid y2
            have YB := Lib.hid yb
            have YW := Lib.hid yw
            have k4 := yb.k4
            have rA1 := (RA1.out.swapL htn hl).scaleL x hl
            have rB1 := (RB1.out.swapL htn hl).scaleL x hl
            have HC2 := Lib.hid (HNX.out.trans HCOL.out)
            clear y1 y2 yb yw HR7 HB2 HINV HCOL HNX M1 M2 HBX HBEL HS HBK HCH k3 k8 kq hct hce hmx hle
            generalize Gm.scaleL (Gm.swapL A t l) l x = A1 at *
            generalize Gm.scaleL (Gm.swapL B' t l) l x = B1 at *
            obtain ⟨dd, hdd⟩ : ∃ dd : Nat → UInt8, (fun k => Gm.at_ A1 k j) = dd := ⟨_, rfl⟩
            have hdk : ∀ k, Gm.at_ A1 k j = dd k := fun k => by rw [← hdd]
            rw [hdd] at HC2
            have RA2 := Lib.hid rA1
            have RB2 := Lib.hid rB1
            clear rA1 rB1 hdd
            go_wp2_with (fail)
            go_loopw [59] (fun s wr => ∃ (k : Nat) (fs1 fs2 : List Value), k ≤ n ∧ s = .int .i64 k ∧ RowKit.Hid (Mq wr base (fun b => Hot8 g1 g2 b8 b ∨ b = q) (.slice (some ⟨g1, 0, none⟩) n c1) n fs1 (Gm.clearTo A1 l dd k)) ∧ RowKit.Hid (Mq wr base (fun b => Hot8 g1 g2 b8 b ∨ b = q) (.slice (some ⟨g2, 0, none⟩) n c2) n fs2 (Gm.clearTo B1 l dd k)) ∧ RowKit.Hid (Bxs wr fb g1 g2 c1 c2 n B b4 b5 b8 l) ∧ RowKit.Hid (Below base w wr) ∧ wv.heap.size ≤ wr.heap.size) (fun s _ => n - (intOf s).toNat)
            case atStart => exact ⟨0, es1, es2, by omega, rfl, by rw [Gm.clearTo_zero]; exact Y1, by rw [Gm.clearTo_zero]; exact Y2, YB, YW, ys⟩
            case round =>
              obtain ⟨k, fs1, fs2, hk, rfl, Z1, Z2, ZB, ZW, zs⟩ := hrel
              clear Y1 Y2 YB YW k4
              have k3 := ZB.out.k3
              have k4 := ZB.out.k4
              have k8 := ZB.out.c8
              by_cases hkn : k < n
              · have q3 : (k : Int) < n := by omega
                have hkA : k < A1.length := by rw [RA2.out.len]; exact hkn
                have hkB : k < B1.length := by rw [RB2.out.len]; exact hkn
                have hlA : l < A1.length := by rw [RA2.out.len]; exact hl
                have hlB : l < B1.length := by rw [RB2.out.len]; exact hl
                obtain ⟨Ak, ck, _, hck, _, hok⟩ := Z1.out.cellAt hkn
                have hbk := (Own.mk (base := base) (e := 5) hok).bs
                have hrk := (RA2.out.clearTo l dd k).wid k hkn
                have hrk2 := (RB2.out.clearTo l dd k).wid k hkn
                rw [hrk] at hck hbk
                obtain ⟨bx, ox, rfl, hce⟩ := hbk.rd.byte hlt
                have hmx := hbk.max
                have hle := hbk.le
                have hax : Gf.get (Gm.row (Gm.clearTo A1 l dd k) k) j = dd k := by rw [Gm.clearTo_later dd hkA (Nat.le_refl _)]; exact hdk k
                rw [hax] at hce
                have HRK := Lib.hid hrk
                have HRK2 := Lib.hid hrk2
                have HKS := Lib.hid (And.intro hkA (And.intro hkB (And.intro hlA hlB)))
                have HX2 := Lib.hid ((Ext.alloc wr (.cells #[.int .i64 (k : Int)] 3)).thenAlloc (.cells #[.int .u8 ((dd k).toNat : Int)] 5))
                have HSI := Lib.hid HX2.out.size
                have k4a := (Ext.alloc wr (.cells #[.int .i64 (k : Int)] 3)).cell k4
                have hcka := (Ext.alloc wr (.cells #[.int .i64 (k : Int)] 3)).cell hck
                have hcea := (Ext.alloc wr (.cells #[.int .i64 (k : Int)] 3)).cell hce
                have k8b := HX2.out.cell k8
                have kka : (wr.alloc (.cells #[.int .i64 (k : Int)] 3)).cell? ⟨wr.heap.size, 0, none⟩ = some (.int .i64 (k : Int)) := by rw [World.cell?_alloc_new]; rfl
                have kkb := (Ext.alloc (wr.alloc (.cells #[.int .i64 (k : Int)] 3)) (.cells #[.int .u8 ((dd k).toNat : Int)] 5)).cell kka
                have kcb : ((wr.alloc (.cells #[.int .i64 (k : Int)] 3)).alloc (.cells #[.int .u8 ((dd k).toNat : Int)] 5)).cell? ⟨wr.heap.size + 1, 0, none⟩ = some (.int .u8 ((dd k).toNat : Int)) := cell_two wr _ _ _ _
                clear hok hbk hrk hrk2 hax hkA hkB hlA hlB
                by_cases ekl : k = l
                · have e2 : ((k : Int) != (l : Int)) = false := by rw [bne_eq_false_iff_eq]; omega
                  have EKL := Lib.hid ekl
                  clear ekl
                  go_wp2_with (fail)
                  refine ⟨⟨k + 1, fs1, fs2, by omega, by go_num, Lib.hid ?_, Lib.hid ?_, Lib.hid (ZB.out.ext HX2.out), Lib.hid (ZW.out.trans (Below.mono HX2.out (by omega))), Nat.le_trans zs HSI.out⟩, by simp [intOf]; omega⟩
                  · rw [clearTo_same dd HKS.out.1 (.inl EKL.out)]; exact Z1.out.ext HX2.out
                  · rw [clearTo_same dd HKS.out.2.1 (.inl EKL.out)]; exact Z2.out.ext HX2.out
                · have e2 : ((k : Int) != (l : Int)) = true := by rw [bne_iff_ne]; omega
                  by_cases hx0 : dd k = 0
                  · have e3 := u8_zero' (dd k) hx0
                    have HX0 := Lib.hid hx0
                    clear hx0
                    go_wp2_with (fail)
                    refine ⟨⟨k + 1, fs1, fs2, by omega, by go_num, Lib.hid ?_, Lib.hid ?_, Lib.hid (ZB.out.ext HX2.out), Lib.hid (ZW.out.trans (Below.mono HX2.out (by omega))), Nat.le_trans zs HSI.out⟩, by simp [intOf]; omega⟩
                    · rw [clearTo_same dd HKS.out.1 (.inr HX0.out)]; exact Z1.out.ext HX2.out
                    · rw [clearTo_same dd HKS.out.2.1 (.inr HX0.out)]; exact Z2.out.ext HX2.out
                  · have e3 := u8_nonzero' (dd k) hx0
                    have z1 : g1 < wr.heap.size := (Z1.out.own.lt g1 rfl).2
                    have z2 : g2 < wr.heap.size := (Z2.out.own.lt g2 rfl).2
                    have hb3 := both3_any fb _ base (fun b => Hot8 g1 g2 b8 b ∨ b = q) g1 g2 c1 c2 n fs1 fs2 _ _ B b4 b5 b8 wr.heap.size (wr.heap.size + 1) l k (dd k) (Z1.out.ext HX2.out) (Z2.out.ext HX2.out) (ZB.out.ext HX2.out) HDIF.out
                      (fun b hb => Nat.lt_of_lt_of_le (HP0.out b hb) (Nat.le_trans zs HSI.out)) (by have := HSI.out; omega) hl hkn (fun e => ekl e.symm) (by have := HRK.out; omega) (by have := HRK2.out; omega)
                      (Ext.cell (Ext.alloc _ _) (by rw [World.cell?_alloc_new]; rfl)) (cell_two wr _ _ _ _) (by omega) (by omega) (by omega) (by omega)
                    rw [clearTo_next dd HKS.out.1 HKS.out.2.2.1 ekl, clearTo_next dd HKS.out.2.1 HKS.out.2.2.2 ekl] at hb3
                    have HB3 := Lib.hid hb3
                    clear hb3
                    go_wp2_with (fail)
                    refine HB3.out.mono ?_
                    rintro e W8 ⟨rfl, ⟨fs1', fs2', v1, v2⟩, hch8⟩
                    have V1 := Lib.hid v1
                    have V2 := Lib.hid v2
                    have VB := Lib.hid ((ZB.out.ext HX2.out).two HDIF.out hch8)
                    have VW := Lib.hid ((ZW.out.trans (Below.mono HX2.out (by omega))).trans (hch8.below (by have := HSI.out; omega) (fun b e => by rcases e with rfl | rfl <;> omega)))
                    have vs : wv.heap.size ≤ W8.heap.size := Nat.le_trans zs (Nat.le_trans HSI.out hch8.size)
                    clear v1 v2 hch8
                    go_wp2_with (fail)
                    exact ⟨⟨k + 1, fs1', fs2', by omega, by go_num, V1, V2, VB, VW, vs⟩, by simp [intOf]; omega⟩
              · have hkn' : k = n := by omega
                rw [hkn'] at Z1 Z2
                have q3 : ¬ (k : Int) < n := by omega
                have b48 := HDIF.out.b48
                have kf : wr.frozen? ⟨b8, 0, none⟩ = false := frozen_of_row wr _ _ _ _ ZB.out.k8
                have hA : Gm.clearL A1 l dd = Gm.clearTo A1 l dd n := by unfold Gm.clearL; rw [RA2.out.len]
                have hB : Gm.clearL B1 l dd = Gm.clearTo B1 l dd n := by unfold Gm.clearL; rw [RB2.out.len]
                rw [hA, hB] at HC2
                clear hA hB
                have F1 := Lib.hid (Z1.out.far (q := ⟨b8, 0, none⟩) (.inl (.inr (.inr rfl))) (fun e => by have e' : some g1 = some b8 := e; injection e' with e'; exact HDIF.out.b81 e'.symm) (.int .i64 ((l + 1 : Nat) : Int)))
                have F2 := Lib.hid (Z2.out.far (q := ⟨b8, 0, none⟩) (.inl (.inr (.inr rfl))) (fun e => by have e' : some g2 = some b8 := e; injection e' with e'; exact HDIF.out.b82 e'.symm) (.int .i64 ((l + 1 : Nat) : Int)))
                have FB := Lib.hid (ZB.out.lead HDIF.out)
                have FW := Lib.hid (ZW.out.setCell (p := ⟨b8, 0, none⟩) hBb8 (.int .i64 ((l + 1 : Nat) : Int)))
                have FS : b8 < (wr.setCell ⟨b8, 0, none⟩ (.int .i64 ((l + 1 : Nat) : Int))).heap.size := by simp; omega
                by_cases eln : l + 1 = n
                · have e3 : ((l : Int) + 1 == (n : Int)) = true := by rw [beq_iff_eq]; omega
                  have hst : Gm.elimTo a b c = (Gm.clearTo A1 l dd n, Gm.clearTo B1 l dd n, l + 1) := by
                    have h1 := elimTo_stays (a := a) (b := b) (j := j + 1) (by rw [HC2.out]; show l + 1 = (Gm.clearTo A1 l dd n).length; rw [Gm.clearTo_length, RA2.out.len]; exact eln) (c - (j + 1))
                    rw [show j + 1 + (c - (j + 1)) = c by omega, HC2.out] at h1
                    exact h1
                  have HST := Lib.hid hst
                  clear hst
                  go_wp2_with (fail)
                  go_ret
                  rw [HST.out]
                  refine ⟨rfl, ⟨fs1, fs2, F1.out.kind ?_ ?_, F2.out.kind ?_ ?_⟩, FW.out⟩
                  · exact fun b _ _ hp => .inl (hp.elim .inl (fun e => .inr (.inl e)))
                  · exact fun b hb => by have hb' : some g1 = some b := hb; injection hb' with hb'; exact .inl hb'.symm
                  · exact fun b _ _ hp => .inl (hp.elim .inl (fun e => .inr (.inl e)))
                  · exact fun b hb => by have hb' : some g2 = some b := hb; injection hb' with hb'; exact .inr hb'.symm
                · have e3 : ((l : Int) + 1 == (n : Int)) = false := by rw [beq_eq_false_iff_ne]; omega
                  go_wp2_with (fail)
                  refine ⟨⟨j + 1, fs1, fs2, by omega, by go_num, ?_⟩, by simp [intOf]; omega⟩
                  rw [HC2.out]
                  refine ⟨by show l + 1 < n; omega, F1.out.kind ?_ ?_, F2.out.kind ?_ ?_, FB.out, FW.out, FS⟩
                  · exact fun b _ _ hp => .inl hp
                  · exact fun b hb => by have hb' : some g1 = some b := hb; injection hb' with hb'; exact .inl hb'.symm
                  · exact fun b _ _ hp => .inl hp
                  · exact fun b hb => by have hb' : some g2 = some b := hb; injection hb' with hb'; exact .inr (.inl hb'.symm)
        · have e1 : ((t : Int) == (n : Int)) = true := by rw [beq_iff_eq]; omega
          obtain rfl : t = n := by omega
          have hcol := col_none (b := B') RA1.out.len ht1 HZ.out
          have hn2 := HNX.out
          rw [hcol] at hn2
          have HN2 := Lib.hid hn2
          clear hcol hn2
          go_wp2_with (fail)
          have kd : ∀ (g : Nat) (c' : Nat) (cs : List Value) (M : Gm.L), Hot8 g1 g2 b8 g → Mq wv base (fun b => Hot8 g1 g2 b8 b ∨ b = q) (.slice (some ⟨g, 0, none⟩) t c') t cs M → Mq wv base (Hot8 g1 g2 b8) (.slice (some ⟨g, 0, none⟩) t c') t cs M := fun g c' cs M hg hM =>
            hM.kind (fun b _ _ hp => .inl hp) (fun b hb => by have hb' : some g = some b := hb; injection hb' with hb'; rw [← hb']; exact hg)
          refine ⟨⟨j + 1, ds1, ds2, by omega, by go_num, ?_⟩, by simp [intOf]; omega⟩
          rw [HN2.out]
          exact ⟨hl, kd _ _ _ _ (.inl rfl) m1, kd _ _ _ _ (.inr (.inl rfl)) m2, hbx, hbel, by omega⟩
    · have q1 : ¬ (j : Int) < c := by omega
      obtain rfl : j = c := by omega
      have k8 := hbx.c8
      go_wp2_with (fail)
      go_ret
      refine ⟨rfl, ⟨ds1, ds2, hm1.kind ?_ ?_, hm2.kind ?_ ?_⟩, hbel⟩
      · exact fun b _ _ hp => hp.elim .inl (fun e => .inr (.inl e))
      · exact fun b hb => by have hb' : some g1 = some b := hb; injection hb' with hb'; exact .inl hb'.symm
      · exact fun b _ _ hp => hp.elim .inl (fun e => .inr (.inl e))
      · exact fun b hb => by have hb' : some g2 = some b := hb; injection hb' with hb'; exact .inr hb'.symm
end Go.Proofs.YtfpglkacjecoeaaGreat
