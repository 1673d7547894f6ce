/- Two matrices of one's own, side by side, in blocks that are all different. No statement of the seat is proved here. -/
import Derived.Test.YtfpcldkfmcnjkaaCt8
namespace Go.Proofs.Ytfpcldkfmcnjkaa
open Go.RowKit

/-- A store that touches none of its blocks. -/
theorem Mq.away {w : World} {base n : Nat} {P : Nat → Prop} {v : Value} {cs : List Value} {m : Gm.L} (h : Mq w base P v n cs m) {q : Addr} (hq : ¬ Foot v cs q.block) (u : Value) : Mq (w.setCell q u) base P v n cs m :=
  ⟨h.len, ownsRow_setCell_other h.own (fun e => hq (.inl e)) u, fun i hi => by
    obtain ⟨A, c, e, ho⟩ := h.row i hi
    exact ⟨A, c, e, ownsRow_setCell_other ho (fun e' => hq (.inr ⟨i, _, e, e'⟩)) u⟩, h.cool, h.hot, h.apart⟩
structure Two (w : World) (N : Nat) (v1 v2 : Value) (n1 n2 : Nat) (cs1 cs2 : List Value) (X Y : Gm.L) : Prop where
  m1 : Mq w N (Hot N v1) v1 n1 cs1 X
  m2 : Mq w N (Hot N v2) v2 n2 cs2 Y
  ap : ∀ q, Foot v1 cs1 q → ¬ Foot v2 cs2 q
section
variable {w w' : World} {N n1 n2 : Nat} {v1 v2 : Value} {cs1 cs2 : List Value} {X Y : Gm.L}
theorem Two.symm (h : Two w N v1 v2 n1 n2 cs1 cs2 X Y) : Two w N v2 v1 n2 n1 cs2 cs1 Y X := ⟨h.m2, h.m1, fun q a b => h.ap q b a⟩
theorem Two.ext (h : Two w N v1 v2 n1 n2 cs1 cs2 X Y) (hx : Ext w w') : Two w' N v1 v2 n1 n2 cs1 cs2 X Y := ⟨h.m1.ext hx, h.m2.ext hx, h.ap⟩
theorem foot_set {v : Value} {cs : List Value} {i b : Nat} {u : Value} (h : Foot v (cs.set i u) b) : Foot v cs b ∨ u.ownBlock = some b := by
  rcases h with h | ⟨j, x, hx, hb⟩
  · exact .inl (.inl h)
  · rw [List.getElem?_set] at hx
    split at hx
    · split at hx
      · injection hx with hx
        subst hx
        exact .inr hb
      · cases hx
    · exact .inl (.inr ⟨j, x, hx, hb⟩)
theorem Two.swap1 {g1 c1 : Nat} (h : Two w N (.slice (some ⟨g1, 0, none⟩) n1 c1) v2 n1 n2 cs1 cs2 X Y) {p q : Nat} (hp : p < n1) (hq : q < n1) {up uq : Value} (hup : cs1[p]? = some up) (huq : cs1[q]? = some uq) :
    Two ((w.setCell ⟨g1, p, none⟩ uq).setCell ⟨g1, q, none⟩ up) N (.slice (some ⟨g1, 0, none⟩) n1 c1) v2 n1 n2 ((cs1.set p uq).set q up) cs2 (Gm.swapL X p q) Y := by
  have hno : ¬ Foot v2 cs2 g1 := h.ap g1 (.inl rfl)
  refine ⟨h.m1.swap hp hq hup huq, (h.m2.away (q := ⟨g1, p, none⟩) hno uq).away (q := ⟨g1, q, none⟩) hno up, fun b hb => ?_⟩
  rcases foot_set hb with hb | hb
  · rcases foot_set hb with hb | hb
    · exact h.ap b hb
    · exact h.ap b (.inr ⟨q, uq, huq, hb⟩)
  · exact h.ap b (.inr ⟨p, up, hup, hb⟩)
theorem Two.put1 {g1 c1 : Nat} (h : Two w N (.slice (some ⟨g1, 0, none⟩) n1 c1) v2 n1 n2 cs1 cs2 X Y) {w1 : World} (hx : Ext w w1) {i : Nat} (hi : i < n1) {A : Option Addr} {c b1 : Nat} {r : List UInt8} (hr : w1.ownsRow b1 5 1 (.slice A r.length c) r.length (bcells r)) (hb1 : w.heap.size ≤ b1) (hN : N ≤ w.heap.size) :
    Two (w1.setCell ⟨g1, i, none⟩ (.slice A r.length c)) N (.slice (some ⟨g1, 0, none⟩) n1 c1) v2 n1 n2 (cs1.set i (.slice A r.length c)) cs2 (X.set i r) Y := by
  have hno : ¬ Foot v2 cs2 g1 := h.ap g1 (.inl rfl)
  have hg : N ≤ g1 ∧ g1 < w.heap.size := h.m1.own.lt g1 rfl
  refine ⟨(h.m1.ext hx).put hi hr (by omega) (fun b hb => ?_), (h.m2.ext hx).away (q := ⟨g1, i, none⟩) hno _, fun b hb => ?_⟩
  · have hf := h.m1.fresh hr hb1 (hot_lt hg.2 hN) b hb
    exact ⟨hf.1, fun j u _ hu => hf.2 j u hu⟩
  · rcases foot_set hb with hb | hb
    · exact h.ap b hb
    · intro h2
      have h3 := (h.m2.foot h2).2
      have h4 := (hr.lt b hb).1
      omega
theorem Two.poke1 (h : Two w N v1 v2 n1 n2 cs1 cs2 X Y) {i : Nat} (hi : i < n1) {g c : Nat} (hc : cs1[i]? = some (.slice (some ⟨g, 0, none⟩) (Gm.row X i).length c)) (j : Nat) (x : UInt8) :
    Two (w.setCell ⟨g, j, none⟩ (.int .u8 (x.toNat : Int))) N v1 v2 n1 n2 cs1 cs2 (X.set i ((Gm.row X i).set j x)) Y := by
  have hout : v1.ownBlock ≠ some g := fun e => h.m1.cool i _ g hc rfl (.inl e)
  exact ⟨h.m1.poke hi hc j x hout, h.m2.away (q := ⟨g, j, none⟩) (h.ap g (.inr ⟨i, _, hc, rfl⟩)) _, h.ap⟩
/-- A row is appended to the first one. -/
theorem Two.grow1 (h : Two w N v1 v2 n1 n2 cs1 cs2 X Y) {w1 : World} (hx : Ext w w1) {A : Option Addr} {c b1 : Nat} {r : List UInt8} (hr : w1.ownsRow b1 5 1 (.slice A r.length c) r.length (bcells r)) (hb1 : w.heap.size ≤ b1) (hN : N ≤ w.heap.size)
    (hx' : Ext w1 w') {w2 : World} {v' : Value} (hown : w2.ownsRow N 22 1 v' (n1 + 1) (cs1 ++ [.slice A r.length c])) (hg : w'.grownBy w2 v1.ownBlock) (hat : v'.ownBlock = v1.ownBlock ∨ v'.ownBlock = some w'.heap.size) :
    Two w2 N v' v2 (n1 + 1) n2 (cs1 ++ [.slice A r.length c]) cs2 (X ++ [r]) Y := by
  have s1 := hx.size
  have s2 := hx'.size
  refine ⟨h.m1.snoc hx hr hb1 hN hx' hown hg hat, ((h.m2.ext hx).ext hx').grown hg (fun q hq => h.ap q (.inl hq)), fun q hq h2 => ?_⟩
  have h3 := (h.m2.foot h2).2
  rcases hq with hq | ⟨j, u, hu, hb⟩
  · rcases hat with e | e
    · exact h.ap q (.inl (by rw [← e]; exact hq)) h2
    · rw [e] at hq
      injection hq with hq
      omega
  · by_cases e : j < cs1.length
    · rw [List.getElem?_append_left e] at hu
      exact h.ap q (.inr ⟨j, u, hu, hb⟩) h2
    · rw [List.getElem?_append_right (by omega)] at hu
      have hj := (List.getElem?_eq_some_iff.1 hu).1
      have : j - cs1.length = 0 := by simpa using hj
      rw [this] at hu
      simp at hu
      subst hu
      have := (hr.lt q hb).1
      omega
end
theorem Two.nil (w : World) (N : Nat) : Two w N (.slice none 0 0) (.slice none 0 0) 0 0 [] [] [] [] :=
  ⟨Mq.nil _ _ _, Mq.nil _ _ _, fun q hq => by
    rcases hq with hq | ⟨j, u, hu, _⟩
    · simp [Value.ownBlock] at hq
    · simp at hu⟩
end Go.Proofs.Ytfpcldkfmcnjkaa
