/- Lists of placements of the call's own. -/
import Derived.Test.YtkanlbkfbkkknaaPlaceOwn
namespace Go.Proofs.Ytkanlbkfbkkknaa
open Go.RowKit

theorem place_info : (Try.prog.info? 33).map (fun i => (i.zero, i.size, i.bytes)) = some (some (.agg #[.int .i64 0, .slice none 0 0]), 2, 32) := by kernel_rfl

/-- What a slice leads to is there, apart from a row of the call's own. -/
def Off (w : World) (v : Value) (A : Option Addr) (n : Nat) : Prop := 0 < n → ∀ b, (A.map (·.block)) = some b → b < w.heap.size ∧ v.ownBlock ≠ some b
theorem Off.nil (w : World) (v : Value) (A : Option Addr) : Off w v A 0 := fun h => absurd h (Nat.lt_irrefl 0)
theorem Off.none {w : World} {v : Value} {A : Option Addr} {n : Nat} (h : Off w v A n) : Off w (.slice .none 0 0) A n := fun hn b hb => ⟨(h hn b hb).1, by simp [Value.ownBlock]⟩
theorem Off.ext {w w' : World} {v : Value} {A : Option Addr} {n : Nat} (h : Off w v A n) (hx : Ext w w') : Off w' v A n := fun hn b hb => ⟨Nat.lt_of_lt_of_le (h hn b hb).1 hx.size, (h hn b hb).2⟩
/-- What a row's growth does to what lies apart from it. -/
theorem Off.grown {w w' : World} {v v' : Value} {row : Option Nat} {A : Option Addr} {n : Nat} (h : Off w v A n) (hg : w.grownBy w' row) (hat : v'.ownBlock = v.ownBlock ∨ v'.ownBlock = some w.heap.size) : Off w' v' A n := fun hn b hb => by
  refine ⟨Nat.lt_of_lt_of_le (h hn b hb).1 hg.size, ?_⟩
  rcases hat with h1 | h1 <;> rw [h1]
  · exact (h hn b hb).2
  · intro e
    injection e with e
    have := (h hn b hb).1
    omega
/-- A row that is the call's own, and may be written. -/
def Free (base : Nat) (w : World) (A : Option Addr) (n : Nat) : Prop := 0 < n → ∃ b, A = some ⟨b, 0, none⟩ ∧ base ≤ b ∧ b < w.heap.size ∧ ∀ j, w.frozen? ⟨b, j, none⟩ = false
theorem Free.ext {base : Nat} {w w' : World} {A : Option Addr} {n : Nat} (h : Free base w A n) (hx : Ext w w') : Free base w' A n := fun hn => by
  obtain ⟨b, e, h1, h2, h3⟩ := h hn
  exact ⟨b, e, h1, Nat.lt_of_lt_of_le h2 hx.size, fun j => (Below.frozen hx (p := ⟨b, j, none⟩) h2).trans (h3 j)⟩
theorem Free.lower {base base' : Nat} {w : World} {A : Option Addr} {n : Nat} (h : Free base w A n) (hb : base' ≤ base) : Free base' w A n := fun hn => by
  obtain ⟨b, e, h1, h2⟩ := h hn
  exact ⟨b, e, by omega, h2⟩
theorem Free.grown {base : Nat} {w w' : World} {A : Option Addr} {n : Nat} {row : Option Nat} (h : Free base w A n) (hg : w.grownBy w' row) (ho : 0 < n → ∀ b, (A.map (·.block)) = some b → row ≠ some b) : Free base w' A n := fun hn => by
  obtain ⟨b, e, h1, h2, h3⟩ := h hn
  exact ⟨b, e, h1, Nat.lt_of_lt_of_le h2 hg.size, fun j => (World.frozen?_of_block (a := ⟨b, j, none⟩) (hg.block b h2 (fun e' => ho hn b (by rw [e]; rfl) e'.symm))).trans (h3 j)⟩
theorem Free.of_own {base base' n c : Nat} {w : World} {e : TypeId} {A : Option Addr} {xs : List Value} (h : w.ownsRow base e 1 (.slice A n c) n xs) (hb : base' ≤ base) : Free base' w A n := fun hn => by
  obtain ⟨g, rfl, h1, h2⟩ := own_addr h hn
  exact ⟨g, rfl, by omega, h2, fun j => h.frozenAt j⟩
/-- A list of placements under construction: its row is the call's own; the nodes lie elsewhere, and apart from 'g', another row of the call's own; where 'fr' holds they may be written. -/
structure OwnPs (fr : Prop) (base : Nat) (w : World) (v g : Value) (l : List Pl.P) : Prop where
  cells : ∃ cs, w.ownsRow base 33 2 v l.length cs ∧ ∀ k, k < l.length → ∃ A n c, cs[k * 2]? = some (.int .i64 (Pl.pget l k).1) ∧ cs[k * 2 + 1]? = some (.slice A n c) ∧ Is w A n c (Pl.pget l k).2 ∧ Off w v A n ∧ Off w g A n ∧ (fr → Free base w A n)
theorem OwnPs.nil (fr : Prop) (base : Nat) (w : World) (g : Value) : OwnPs fr base w (.slice none 0 0) g [] := ⟨[], World.ownsRow_nil _ _ _ _, fun _ hk => absurd hk (Nat.not_lt_zero _)⟩
theorem OwnPs.ext {fr : Prop} {base : Nat} {w w' : World} {v g : Value} {l : List Pl.P} (h : OwnPs fr base w v g l) (hx : Ext w w') : OwnPs fr base w' v g l := by
  obtain ⟨cs, h1, h2⟩ := h.cells
  refine ⟨cs, ownsRow_ext h1 hx, fun k hk => ?_⟩
  obtain ⟨A, n, c, a1, a2, a3, a4, a5, a6⟩ := h2 k hk
  exact ⟨A, n, c, a1, a2, a3.ext hx, a4.ext hx, a5.ext hx, fun hf => (a6 hf).ext hx⟩
theorem OwnPs.lower {fr : Prop} {base base' : Nat} {w : World} {v g : Value} {l : List Pl.P} (h : OwnPs fr base w v g l) (hb : base' ≤ base) : OwnPs fr base' w v g l := by
  obtain ⟨cs, h1, h2⟩ := h.cells
  refine ⟨cs, ownsRow_base h1 hb, fun k hk => ?_⟩
  obtain ⟨A, n, c, a1, a2, a3, a4, a5, a6⟩ := h2 k hk
  exact ⟨A, n, c, a1, a2, a3, a4, a5, fun hf => (a6 hf).lower hb⟩
theorem OwnPs.alone {fr : Prop} {base : Nat} {w : World} {v g : Value} {l : List Pl.P} (h : OwnPs fr base w v g l) : OwnPs fr base w v (.slice none 0 0) l := by
  obtain ⟨cs, h1, h2⟩ := h.cells
  refine ⟨cs, h1, fun k hk => ?_⟩
  obtain ⟨A, n, c, a1, a2, a3, a4, a5, a6⟩ := h2 k hk
  exact ⟨A, n, c, a1, a2, a3, a4, a4.none, a6⟩
theorem OwnPs.other {fr : Prop} {base : Nat} {w w' : World} {v g g' : Value} {l : List Pl.P} (h : OwnPs fr base w v g l) (hv : v.ownBlock = none ∨ v.ownBlock ≠ g.ownBlock) (hg : w.grownBy w' g.ownBlock) (hat : g'.ownBlock = g.ownBlock ∨ g'.ownBlock = some w.heap.size) : OwnPs fr base w' v g' l := by
  obtain ⟨cs, h1, h2⟩ := h.cells
  refine ⟨cs, ownsRow_grown h1 hg hv, fun k hk => ?_⟩
  obtain ⟨A, n, c, a1, a2, a3, a4, a5, a6⟩ := h2 k hk
  exact ⟨A, n, c, a1, a2, a3.grown hg (fun hn b hb => (a5 hn b hb).2), fun hn b hb => ⟨Nat.lt_of_lt_of_le (a4 hn b hb).1 hg.size, (a4 hn b hb).2⟩, a5.grown hg hat, fun hf => (a6 hf).grown hg (fun hn b hb => (a5 hn b hb).2)⟩
theorem OwnPs.push {fr : Prop} {base : Nat} {w w' : World} {v v' g : Value} {l : List Pl.P} {cs : List Value} {e : Int} {A : Option Addr} {n c : Nat} {nodes : List Int}
    (h2 : ∀ k, k < l.length → ∃ A n c, cs[k * 2]? = some (.int .i64 (Pl.pget l k).1) ∧ cs[k * 2 + 1]? = some (.slice A n c) ∧ Is w A n c (Pl.pget l k).2 ∧ Off w v A n ∧ Off w g A n ∧ (fr → Free base w A n))
    (hlen : cs.length = l.length * 2) (hi : Is w A n c nodes) (hoff : Off w v A n) (hoffg : Off w g A n) (hfree : fr → Free base w A n)
    (ho : w'.ownsRow base 33 2 v' (l.length + 1) (cs ++ [.int .i64 e, .slice A n c])) (hg : w.grownBy w' v.ownBlock) (hat : v'.ownBlock = v.ownBlock ∨ v'.ownBlock = some w.heap.size) :
    OwnPs fr base w' v' g (l ++ [(e, nodes)]) := by
  have off' : ∀ A n, Off w g A n → Off w' g A n := fun A n h hn b hb => ⟨Nat.lt_of_lt_of_le (h hn b hb).1 hg.size, (h hn b hb).2⟩
  refine ⟨_, by rw [List.length_append]; exact ho, fun k hk => ?_⟩
  rw [List.length_append, List.length_singleton] at hk
  by_cases hlt : k < l.length
  · obtain ⟨A1, n1, c1, a1, a2, a3, a4, a5, a6⟩ := h2 k hlt
    have hp : Pl.pget (l ++ [(e, nodes)]) k = Pl.pget l k := by simp [Pl.pget, List.getElem?_append, hlt]
    rw [hp]
    refine ⟨A1, n1, c1, ?_, ?_, a3.grown hg (fun hn b hb => (a4 hn b hb).2), a4.grown hg hat, off' _ _ a5, fun hf => (a6 hf).grown hg (fun hn b hb => (a4 hn b hb).2)⟩
    · rw [List.getElem?_append_left (by omega)]; exact a1
    · rw [List.getElem?_append_left (by omega)]; exact a2
  · obtain rfl : k = l.length := by omega
    have hp : Pl.pget (l ++ [(e, nodes)]) l.length = (e, nodes) := by simp [Pl.pget]
    rw [hp]
    refine ⟨A, n, c, ?_, ?_, hi.grown hg (fun hn b hb => (hoff hn b hb).2), hoff.grown hg hat, off' _ _ hoffg, fun hf => (hfree hf).grown hg (fun hn b hb => (hoff hn b hb).2)⟩
    · rw [List.getElem?_append_right (by omega), hlen, Nat.sub_self]; rfl
    · rw [List.getElem?_append_right (by omega), hlen, show l.length * 2 + 1 - l.length * 2 = 1 by omega]; rfl
/-- As it is handed back. -/
structure NewPs (w w' : World) (v : Value) (l : List Pl.P) : Prop where
  own : OwnPs True w.heap.size w' v (.slice none 0 0) l
  ext : Ext w w'
theorem OwnPs.ps {fr : Prop} {base : Nat} {w : World} {v g : Value} {l : List Pl.P} (h : OwnPs fr base w v g l) : ∃ A c, v = .slice A l.length c ∧ Ps w A l.length c l := by
  obtain ⟨cs, h1, h2⟩ := h.cells
  obtain ⟨A, c, rfl, q1, q2⟩ := ownsRow_slice h1
  refine ⟨A, c, rfl, rfl, q1, q2, fun k hk => ?_⟩
  obtain ⟨A1, n1, c1, a1, a2, a3, _⟩ := h2 k hk
  obtain ⟨b, rfl, _, _⟩ := own_addr h1 (by omega)
  refine ⟨b, 0, A1, n1, c1, rfl, ?_, ?_, a3⟩
  · rw [Nat.zero_add, h1.cellAt _ (by omega)]; exact a1
  · rw [Nat.zero_add, h1.cellAt _ (by omega)]; exact a2
theorem NewPs.ps {w w' : World} {v : Value} {l : List Pl.P} (h : NewPs w w' v l) : ∃ A c, v = .slice A l.length c ∧ Ps w' A l.length c l := h.own.ps
end Go.Proofs.Ytkanlbkfbkkknaa
