/- A round in a box, its row away from two boxes. -/
import Derived.Test.YtgfhpgomlocllaaRoundOps
import Derived.Test.YtgfhpgomlocllaaRoundsTwice
namespace Go.Proofs.Ytgfhpgomlocllaa
open Go.RowKit

/-- A row is not in block g. -/
def Away (D : Option Addr) (q g : Nat) : Prop := 0 < q → ∀ b, D.map (·.block) = some b → g ≠ b
theorem Away.step {w : World} {A D : Option Addr} {n q g : Nat} (h : Away A n g) (hf : FreshOr w A n D q) (hg : g < w.heap.size) : Away D q g := by
  intro hq b hb e
  rcases hf with ⟨rfl, rfl⟩ | hf
  · exact h hq b hb e
  · obtain ⟨b', o, rfl, hb'⟩ := hf hq
    injection hb with hb
    have h4 : b' = b := hb
    omega
theorem Away.none (g : Nat) : Away .none 0 g := fun h => absurd h (Nat.lt_irrefl 0)
theorem Away.old {w : World} {A : Option Addr} {n c g : Nat} {l : List Int} (h : Is w A n c l) (hg : w.heap.size ≤ g) : Away A n g := by
  intro hn b hb e
  obtain ⟨b', o, rfl, hc⟩ := h.rd.intAt hn
  have h3 : b' < w.heap.size := World.block_lt_of_cell? _ _ hc
  injection hb with hb
  have h4 : b' = b := hb
  omega
/-- A round in box g, its row away from two boxes. -/
structure Held (w : World) (g ga gb : Nat) (r : Rounds.R) (D : Option Addr) (q e : Nat) : Prop where
  bx : Bx w g r.stripe r.version r.need r.phase (.slice D q e)
  is_ : Is w D q e r.marks
  a : Away D q ga
  b : Away D q gb
theorem Held.ext {w w' : World} {g ga gb : Nat} {r : Rounds.R} {D : Option Addr} {q e : Nat} (h : Held w g ga gb r D q e) (hx : Ext w w') : Held w' g ga gb r D q e := ⟨h.bx.ext hx, h.is_.ext hx, h.a, h.b⟩
theorem Bx.farFive {w : World} {g : Nat} {s v d p : Int} {S : Value} (h : Bx w g s v d p S) {q : Nat} (hq : q ≠ g) (a0 a1 a2 a3 a4 : Value) :
    Bx (((((w.setCell ⟨q, 0, .none⟩ a0).setCell ⟨q, 1, .none⟩ a1).setCell ⟨q, 2, .none⟩ a2).setCell ⟨q, 3, .none⟩ a3).setCell ⟨q, 4, .none⟩ a4) g s v d p S :=
  ((((h.far (q := ⟨q, 0, .none⟩) hq _).far (q := ⟨q, 1, .none⟩) hq _).far (q := ⟨q, 2, .none⟩) hq _).far (q := ⟨q, 3, .none⟩) hq _).far (q := ⟨q, 4, .none⟩) hq _
theorem Held.five {w : World} {g ga gb : Nat} {r : Rounds.R} {D : Option Addr} {n e : Nat} (h : Held w g ga gb r D n e) {q : Nat} (hq : q ≠ g) (hw : Away D n q) (a0 a1 a2 a3 a4 : Value) :
    Held (((((w.setCell ⟨q, 0, .none⟩ a0).setCell ⟨q, 1, .none⟩ a1).setCell ⟨q, 2, .none⟩ a2).setCell ⟨q, 3, .none⟩ a3).setCell ⟨q, 4, .none⟩ a4) g ga gb r D n e :=
  ⟨Bx.farFive h.bx hq _ _ _ _ _, h.is_.five hw _ _ _ _ _, h.a, h.b⟩
theorem Held.store {w w3 : World} {g ga gb : Nat} {r r' : Rounds.R} {A D : Option Addr} {q e n c : Nat} (h : Held w g ga gb r A q e) (hx : Ext w w3) (hf : FreshOr w A q D n) (hi : Is w3 D n c r'.marks) (hg : g = ga ∨ g = gb) (la : ga < w.heap.size) (lb : gb < w.heap.size) :
    Held (((((w3.setCell ⟨g, 0, .none⟩ (.int .i64 r'.stripe)).setCell ⟨g, 1, .none⟩ (.int .i64 r'.version)).setCell ⟨g, 2, .none⟩ (.int .i64 r'.need)).setCell ⟨g, 3, .none⟩ (.int .i64 r'.phase)).setCell ⟨g, 4, .none⟩ (.slice D n c)) g ga gb r' D n c := by
  have ha := h.a.step hf la
  have hb := h.b.step hf lb
  refine ⟨(h.bx.ext hx).whole _ _ _ _ _, hi.five ?_ _ _ _ _ _, ha, hb⟩
  rcases hg with rfl | rfl
  · exact ha
  · exact hb
theorem Held.away {w : World} {g ga gb : Nat} {r : Rounds.R} {D : Option Addr} {q e : Nat} (h : Held w g ga gb r D q e) {x : Nat} (hx : w.heap.size ≤ x) : Away D q x := Away.old h.is_ hx
/-- A round that is told of another one, stored into a box of its own. -/
theorem Held.into {wr W1 W : World} {g ga h : Nat} {r R : Rounds.R} {A D : Option Addr} {q e n c : Nat} {s v d p : Int} {S : Value} (hH : Held wr g ga ga r A q e) (h1 : wr.heap.size ≤ W1.heap.size) (hga : ga < wr.heap.size) (hf : FreshOr W1 A q D n) (hi : Is W D n c R.marks) (hb : Bx W h s v d p S) (hah : Away D n h) :
    Held (((((W.setCell ⟨h, 0, .none⟩ (.int .i64 R.stripe)).setCell ⟨h, 1, .none⟩ (.int .i64 R.version)).setCell ⟨h, 2, .none⟩ (.int .i64 R.need)).setCell ⟨h, 3, .none⟩ (.int .i64 R.phase)).setCell ⟨h, 4, .none⟩ (.slice D n c)) h ga h R D n c :=
  ⟨hb.whole _ _ _ _ _, hi.five hah _ _ _ _ _, hH.a.step hf (Nat.lt_of_lt_of_le hga h1), hah⟩
theorem doesR_act (r : Rounds.R) (o : OpR) : doesR r o = Rounds.act r o.kind (spot r o.index) o.op o.e := rfl
theorem doesE_act (r : Rounds.R) (o : OpR) : doesE r o = Rounds.actE r o.kind (spot r o.index) := rfl
theorem does_len (r : Rounds.R) (o : OpR) : (doesR r o).marks.length = r.marks.length := (Rounds.kept_act r _ _ _ _).len
theorem spot_len {r q : Rounds.R} (h : q.marks.length = r.marks.length) (x : Int) : spot q x = spot r x := by unfold spot; rw [h]
theorem does_twice (r : Rounds.R) (o : OpR) (h7 : o.kind ≠ 7) (h8 : o.kind ≠ 8) (hE : doesE r o = 0) : doesE (doesR r o) o = 0 ∧ doesR (doesR r o) o = doesR r o := by
  have h := Rounds.act_twice (r := r) (o := o.op) (e := o.e) h7 h8 hE
  have hs := spot_len (does_len r o) o.index
  rw [doesE_act (doesR r o), doesR_act (doesR r o), hs]
  exact h
end Go.Proofs.Ytgfhpgomlocllaa
