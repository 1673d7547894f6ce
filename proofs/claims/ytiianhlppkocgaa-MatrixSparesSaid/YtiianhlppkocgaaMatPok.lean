/- Matrices whose bytes may be turned: no store into their bytes reaches anything else. No statement of the seat is proved here. -/
import Derived.Test.YtiianhlppkocgaaMatPicks
namespace Go.Proofs.Ytiianhlppkocgaa
open Go.RowKit

/-- Bytes of a row that may be turned. -/
def RowB (H : Nat → Prop) (W : World) (g k : Nat) : Prop := H g ∧ ∀ j, j < k → ∃ x : UInt8, W.cell? ⟨g, j, none⟩ = some (.int .u8 (x.toNat : Int)) ∧ W.frozen? ⟨g, j, none⟩ = false
theorem RowB.ext {H : Nat → Prop} {W W' : World} {g k : Nat} (h : RowB H W g k) (hx : Ext W W') : RowB H W' g k :=
  ⟨h.1, fun j hj => by obtain ⟨x, h1, h2⟩ := h.2 j hj; exact ⟨x, hx.cell h1, by rw [hx.frozen h1]; exact h2⟩⟩
theorem RowB.set {H : Nat → Prop} {W : World} {g k : Nat} (h : RowB H W g k) (q j0 : Nat) (y : UInt8) : RowB H (W.setCell ⟨q, j0, none⟩ (.int .u8 (y.toNat : Int))) g k :=
  ⟨h.1, fun j hj => by
    obtain ⟨x, h1, h2⟩ := h.2 j hj
    by_cases e : (⟨q, j0, none⟩ : Addr) = ⟨g, j, none⟩
    · exact ⟨y, by rw [e]; exact World.cell?_setCell_same _ _ _ h1, by rw [World.frozen?_setCell]; exact h2⟩
    · exact ⟨x, by rw [World.cell?_setCell_other _ _ _ _ e]; exact h1, by rw [World.frozen?_setCell]; exact h2⟩⟩
/-- A matrix whose bytes may be turned; its outer row is not among what may be turned. -/
structure Pok (H : Nat → Prop) (W : World) (A : Option Addr) (n c : Nat) : Prop where
  le : n ≤ c
  max : c ≤ 9223372036854775807
  at_ : ∀ i, i < n → ∃ b o g k ci, A = some ⟨b, o, none⟩ ∧ ¬ H b ∧ W.cell? ⟨b, o + i, none⟩ = some (.slice (some ⟨g, 0, none⟩) k ci) ∧ k ≤ ci ∧ ci ≤ 9223372036854775807 ∧ RowB H W g k
theorem Pok.set {H : Nat → Prop} {W : World} {A : Option Addr} {n c : Nat} (h : Pok H W A n c) {q : Nat} (hq : H q) (j0 : Nat) (y : UInt8) : Pok H (W.setCell ⟨q, j0, none⟩ (.int .u8 (y.toNat : Int))) A n c :=
  ⟨h.le, h.max, fun i hi => by
    obtain ⟨b, o, g, k, ci, e, h1, h2, h3, h4, h5⟩ := h.at_ i hi
    exact ⟨b, o, g, k, ci, e, h1, by rw [World.cell?_setCell_other _ _ _ _ (fun e => h1 (by injection e with e1 e2 e3; rw [← e1]; exact hq))]; exact h2, h3, h4, h5.set q j0 y⟩⟩
theorem Pok.ext {H : Nat → Prop} {W W' : World} {A : Option Addr} {n c : Nat} (h : Pok H W A n c) (hx : Ext W W') : Pok H W' A n c :=
  ⟨h.le, h.max, fun i hi => by
    obtain ⟨b, o, g, k, ci, e, h1, h2, h3, h4, h5⟩ := h.at_ i hi
    exact ⟨b, o, g, k, ci, e, h1, hx.cell h2, h3, h4, h5.ext hx⟩⟩
/-- A row of one's own may be turned. -/
theorem rowB_of_own {H : Nat → Prop} {W : World} {base g c : Nat} {r : List UInt8} (h : W.ownsRow base 5 1 (.slice (some ⟨g, 0, none⟩) r.length c) r.length (bcells r)) (hg : H g) : RowB H W g r.length :=
  ⟨hg, fun j hj => ⟨Gf.get r j, by rw [h.cellAt j (by omega), bcells_get hj], h.frozenAt j⟩⟩
/-- The first rows of a matrix of one's own. -/
theorem Mq.pok {W : World} {base : Nat} {P : Nat → Prop} {A : Option Addr} {n c : Nat} {cs : List Value} {m : Gm.L} (h : Mq W base P (.slice A n c) n cs m) (H : Nat → Prop) {k : Nat} (hk : k ≤ n) (hw : ∀ i, i < k → 1 ≤ (Gm.row m i).length)
    (h1 : ∀ (i : Nat) (u : Value) (b : Nat), i < k → cs[i]? = some u → u.ownBlock = some b → H b) (h2 : ∀ b, (Value.slice A n c).ownBlock = some b → ¬ H b) : Pok H W A k c := by
  obtain ⟨A', c', e', hle, hmx⟩ := ownsRow_slice h.own
  injection e' with e1 e2 e3
  subst e1 e3
  refine ⟨by omega, hmx, fun i hi => ?_⟩
  obtain ⟨o, rfl, _, _⟩ := own_addr h.own (by omega)
  obtain ⟨Ai, ci, hc, ho⟩ := h.row i (by omega)
  obtain ⟨Ai', ci', e', hle', hmx'⟩ := ownsRow_slice ho
  injection e' with e1 e2 e3
  subst e1 e3
  obtain ⟨g, rfl, _, _⟩ := own_addr ho (hw i hi)
  exact ⟨o, 0, g, _, ci, rfl, h2 o rfl, by rw [Nat.zero_add, h.own.cellAt i (by omega)]; exact hc, hle', hmx', rowB_of_own ho (h1 i _ g hi hc rfl)⟩
/-- What holds while the bytes are turned. -/
structure Kp (wN : World) (H : Nat → Prop) (gl : Nat) (Ax : Option Addr) (cx : Nat) (Ay : Option Addr) (ny cy : Nat) (Az : Option Addr) (nz cz : Nat) (ox : Nat) (A1 : Option Addr) (n1 c1 : Nat) (r : List UInt8) (W : World) : Prop where
  ext : Ext wN W
  px : Pok H W Ax 1 cx
  py : Pok H W Ay ny cy
  pz : Pok H W Az nz cz
  l0 : W.cell? ⟨gl, 0, none⟩ = some (.slice Ax 1 cx)
  l1 : W.cell? ⟨gl, 1, none⟩ = some (.slice Ay ny cy)
  l2 : W.cell? ⟨gl, 2, none⟩ = some (.slice Az nz cz)
  hl : ¬ H gl
  o1 : W.cell? ⟨ox, 1, none⟩ = some (.slice A1 n1 c1)
  ho : ¬ H ox
  bs : Bs W A1 n1 c1 r
  hb : ∀ b, A1.map (·.block) = some b → ¬ H b
  low : ∀ b, H b → wN.heap.size ≤ b
section
variable {wN : World} {H : Nat → Prop} {gl : Nat} {Ax : Option Addr} {cx : Nat} {Ay : Option Addr} {ny cy : Nat} {Az : Option Addr} {nz cz : Nat} {ox : Nat} {A1 : Option Addr} {n1 c1 : Nat} {r : List UInt8} {W : World}
theorem Kp.set (h : Kp wN H gl Ax cx Ay ny cy Az nz cz ox A1 n1 c1 r W) {q : Nat} (hq : H q) (j : Nat) (y : UInt8) : Kp wN H gl Ax cx Ay ny cy Az nz cz ox A1 n1 c1 r (W.setCell ⟨q, j, none⟩ (.int .u8 (y.toNat : Int))) := by
  have far : ∀ {b k : Nat} {v : Value}, ¬ H b → W.cell? ⟨b, k, none⟩ = some v → (W.setCell ⟨q, j, none⟩ (.int .u8 (y.toNat : Int))).cell? ⟨b, k, none⟩ = some v := fun hb hc => by
    rw [World.cell?_setCell_other _ _ _ _ (fun e => hb (by injection e with e1 e2 e3; rw [← e1]; exact hq))]; exact hc
  exact ⟨h.ext.set_ (h.low q hq) _, h.px.set hq j y, h.py.set hq j y, h.pz.set hq j y, far h.hl h.l0, far h.hl h.l1, far h.hl h.l2, h.hl, far h.ho h.o1, h.ho,
    h.bs.far (q := ⟨q, j, none⟩) (fun _ b e e' => h.hb b e (by rw [← e']; exact hq)) _, h.hb, h.low⟩
theorem Kp.at_ (h : Kp wN H gl Ax cx Ay ny cy Az nz cz ox A1 n1 c1 r W) {s : Nat} (hs : s < 3) : ∃ A n c, W.cell? ⟨gl, s, none⟩ = some (.slice A n c) ∧ Pok H W A n c := by
  match s, hs with
  | 0, _ => exact ⟨_, _, _, h.l0, h.px⟩
  | 1, _ => exact ⟨_, _, _, h.l1, h.py⟩
  | 2, _ => exact ⟨_, _, _, h.l2, h.pz⟩
end
/-- Invert, as the spares' law uses it. -/
def GivesI (w : World) (e : Ending) (w' : World) : Prop := ∃ (v : Value) (cs : List Value) (M : Gm.L) (er : Int), e = .returned (.tuple #[v, .int .i64 er]) ∧ (er = 0 ∨ er = 31) ∧ Mq w' w.heap.size (Hot w.heap.size v) v M.length cs M ∧ (∀ i, i < M.length → 1 ≤ (Gm.row M i).length) ∧ Ext w w'
theorem invert_q (fb : Nat) (w : World) (A : Option Addr) (n ca : Nat) (a : Gm.L) (hf : FieldAt w fb) (ha : Mx w A n ca a) (ra : Gm.Rect n n a) (hn : 1 ≤ n ∧ n ≤ 255) :
    Calls Try.prog 15 #[.pointer (some ⟨fb, 0, none⟩), .slice A n ca] w (GivesI w) :=
  (invert_any3 fb w A n ca a hf ha).mono fun e w' ⟨v, cs, he, hq, hx⟩ => by
    refine ⟨v, cs, invM a, invE a, he, ?_, hq, ?_, hx⟩
    · unfold invE; rw [if_pos (square_of ra hn)]; split
      · exact .inr rfl
      · exact .inl rfl
    · intro i hi
      unfold invM at hi ⊢
      rw [if_pos (square_of ra hn)] at hi ⊢
      have hle := Gm.rank_le ra hn.1
      split at hi
      · exact absurd hi (Nat.not_lt_zero _)
      · rename_i hr
        rw [if_neg hr]
        have hrk : Gm.rank a = n := by have := ra.len; omega
        have hri := Gm.inv_rect ra hn.1 hrk
        rw [hri.wid i (by rw [← hri.len]; exact hi)]
        exact hn.1
/-- Rows picked, in memory of their own. -/
theorem pick_q (w : World) (A : Option Addr) (n ca c : Nat) (a : Gm.L) (ha : Mx w A n ca a) (ra : Gm.Rect n c a) (hn : 1 ≤ n ∧ n ≤ 255) (hc : 1 ≤ c ∧ c ≤ 255) (B : Option Addr) (k d : Nat) (l : List Int) (hl : Is w B k d l) (hk : k ≤ 255) (hp : Places n l) :
    Calls Try.prog 16 #[.slice A n ca, .slice B k d] w (GivesQE (picked a l) 0 w) := by
  have h1 : Gm.right a := ra.right hn.1 hn.2 hc.1 hc.2
  have h2 : rowsOf a.length l := by rw [ra.len]; exact hp.rows (by rw [hl.len]; exact hk)
  have h := pick_any3 w A n ca a ha B k d l hl
  unfold pickM pickE at h
  rw [if_pos ⟨h1, h2⟩, if_pos h1, if_pos h2] at h
  exact h
theorem mul_q (fb : Nat) (w : World) (A B : Option Addr) (n ca k cb c : Nat) (a b : Gm.L) (hf : FieldAt w fb) (ha : Mx w A n ca a) (hb : Mx w B k cb b) (ra : Gm.Rect n k a) (rb : Gm.Rect k c b) (hn : 1 ≤ n ∧ n ≤ 255) (hk : 1 ≤ k ∧ k ≤ 255) (hc : 1 ≤ c ∧ c ≤ 255) :
    Calls Try.prog 14 #[.pointer (some ⟨fb, 0, none⟩), .slice A n ca, .slice B k cb] w (GivesQE (Gm.mulL a b) 0 w) := by
  have hfit : fit a b := ⟨ra.right hn.1 hn.2 hk.1 hk.2, rb.right hk.1 hk.2 hc.1 hc.2, by rw [ra.cols hn.1, rb.len]⟩
  have h := mul_any3 fb w A B n ca k cb a b hf ha hb
  rw [if_pos hfit, if_pos hfit] at h
  exact h
end Go.Proofs.Ytiianhlppkocgaa
