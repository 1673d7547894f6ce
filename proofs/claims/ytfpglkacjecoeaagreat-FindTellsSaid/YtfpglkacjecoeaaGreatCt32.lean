/- Several texts in one: The contracts of the document's own Lay. The blocks of a matrix of one's own. No statement of the seat is proved here. Two matrices of one's own, side by side, in blocks that are all different. No statement of the seat is proved here. -/
import Derived.Test.YtfpglkacjecoeaaGreatCt25
import Derived.Test.YtfpglkacjecoeaaGreatCt8
import Derived.Test.YtfpglkacjecoeaaGreatCt11
namespace Go.Proofs.YtfpglkacjecoeaaGreat
open Go.RowKit

set_option maxRecDepth 100000 in
set_option maxHeartbeats 1000000 in
theorem refLay_any (w : World) (A A' : Option Addr) (n c m c' : Nat) (out x : List UInt8) (f : UInt8) (ho : Bs w A n c out) (hx : Bs w A' m c' x) (hn : n ≤ 140737488351232) :
    Calls Tryz.prog 107 #[.slice A n c, .int .u8 (f.toNat : Int), .slice A' m c'] w fun e w' => ∃ v, e = .returned v ∧ NewBytes w w' v (Gf.lay out f x) := by
  obtain ⟨i0, hi0, hz0, hz1, hz2⟩ := info_parts u8_info
  have hm1 := ho.max
  have hm2 := ho.le
  have hm3 := hx.max
  have hm4 := hx.le
  have L1 := Lib.hid ho.len
  have L2 := Lib.hid hx.len
  go_enter Tryz.func107, Tryz.ntmps107
  go_wp2
  go_loopw [7, 8] (fun v i wr => ∃ k : Nat, k ≤ n ∧ i = .int .i64 k ∧ wr.ownsRow w.heap.size 5 1 v k (bcells (Gf.layPre out f x k)) ∧ Ext w wr) (fun _ i _ => n - (intOf i).toNat)
  case atStart => exact ⟨0, by omega, rfl, World.ownsRow_nil _ _ _ _, Ext.refl w⟩
  case round =>
    obtain ⟨k, hk, rfl, hown, hd⟩ := hrel
    by_cases hlt : k < n
    · obtain ⟨b1, o1, rfl, hc1⟩ := (ho.ext hd).rd.byte hlt
      have i1 : (k : Int) < n := by omega
      by_cases hlt2 : k < m
      · obtain ⟨b2, o2, rfl, hc2⟩ := (hx.ext hd).rd.byte hlt2
        have i2 : (k : Int) < m := by omega
        have hat : bits .xor .u8 ((Gf.get out k).toNat : Int) ((Gf.mul f (Gf.get x k)).toNat : Int) = ((Gf.layAt out f x k).toNat : Int) := by
          rw [xor_u8, Gf.layAt, if_pos (by rw [L2.out]; exact hlt2)]
        go_wp2_with (first
          | (go_at_call 92; refine (refMul_any _ f (Gf.get x k)).mono ?_; rintro e w' ⟨rfl, rfl⟩)
          | (at_builtin
             refine wpList_append_rd _ rfl (.tmp 32) (.tmp 34) 46 rfl w.heap.size 5 i0 _ 1 1 Tryz.underlying46 hi0 hz0 hz1 hz2 rfl (by omega) _ k (bcells (Gf.layPre out f x k)) rfl (hown.alloc _)
               (some ⟨wr.heap.size, 0, none⟩) 1 1 [.int .u8 ((Gf.layAt out f x k).toNat : Int)] rfl (Rd.lit wr #[_] _) (by simp [Value.oneCell']) (by omega) (by unfold maxLen; omega) (by have := hd.size; simp; omega) ?_
             intro v1 w1 hown1 hg hat1))
        refine ⟨⟨k + 1, by omega, by go_num, ?_, ?_⟩, by simp [intOf]; omega⟩
        · rw [Gf.layPre_succ, bcells_append]; exact hown1
        · exact (hd.thenAlloc _).ofGrown hg (own_row hown)
      · have i2 : ¬ (k : Int) < m := by omega
        have hat : ((Gf.get out k).toNat : Int) = ((Gf.layAt out f x k).toNat : Int) := by
          rw [Gf.layAt, if_neg (by rw [L2.out]; exact hlt2)]
        rw [hat] at hc1
        clear hat
        go_wp2_with (
          at_builtin
          refine wpList_append_rd _ rfl (.tmp 32) (.tmp 34) 46 rfl w.heap.size 5 i0 _ 1 1 Tryz.underlying46 hi0 hz0 hz1 hz2 rfl (by omega) _ k (bcells (Gf.layPre out f x k)) rfl (hown.alloc _)
               (some ⟨wr.heap.size, 0, none⟩) 1 1 [.int .u8 ((Gf.layAt out f x k).toNat : Int)] rfl (Rd.lit wr #[_] _) (by simp [Value.oneCell']) (by omega) (by unfold maxLen; omega) (by have := hd.size; simp; omega) ?_
          intro v1 w1 hown1 hg hat1)
        refine ⟨⟨k + 1, by omega, by go_num, ?_, ?_⟩, by simp [intOf]; omega⟩
        · rw [Gf.layPre_succ, bcells_append]; exact hown1
        · exact (hd.thenAlloc _).ofGrown hg (own_row hown)
    · have i1 : ¬ (k : Int) < n := by omega
      go_wp2
      go_ret
      obtain rfl : k = n := by omega
      refine ⟨_, rfl, ?_, hd⟩
      rw [Gf.lay_length, L1.out]
      have : Gf.lay out f x = Gf.layPre out f x k := by rw [Gf.lay, Gf.layPre, L1.out]
      rw [this]
      exact hown
end Go.Proofs.YtfpglkacjecoeaaGreat
namespace Go.Proofs.YtfpglkacjecoeaaGreat
open Go.RowKit

/-- The blocks of a matrix of one's own. -/
def Foot (v : Value) (cs : List Value) (q : Nat) : Prop := v.ownBlock = some q ∨ ∃ (i : Nat) (u : Value), cs[i]? = some u ∧ u.ownBlock = some q
theorem Mq.foot {w : World} {base n : Nat} {P : Nat → Prop} {v : Value} {cs : List Value} {m : Gm.L} (h : Mq w base P v n cs m) {q : Nat} (hq : Foot v cs q) : base ≤ q ∧ q < w.heap.size := by
  rcases hq with hq | ⟨i, u, hu, hq⟩
  · exact h.own.lt q hq
  · exact h.block hu hq
/-- What grows another block leaves it as it is. -/
theorem Mq.grown {w w' : World} {base n : Nat} {P : Nat → Prop} {v : Value} {cs : List Value} {m : Gm.L} {row : Option Nat} (h : Mq w base P v n cs m) (hg : w.grownBy w' row) (hr : ∀ q, row = some q → ¬ Foot v cs q) : Mq w' base P v n cs m := by
  have one : ∀ {size : Nat} {e : TypeId} {u : Value} {k : Nat} {xs : List Value}, w.ownsRow base e size u k xs → (∀ q, u.ownBlock = some q → Foot v cs q) → w'.ownsRow base e size u k xs := fun {size e u k xs} ho hf => by
    refine ownsRow_grown ho hg ?_
    cases hq : u.ownBlock with
    | none => exact .inl rfl
    | some q => exact .inr (fun e2 => hr q e2.symm (hf q hq))
  exact ⟨h.len, one h.own (fun q hq => .inl hq), fun i hi => by
    obtain ⟨A, c, e, ho⟩ := h.row i hi
    exact ⟨A, c, e, one ho (fun q hq => .inr ⟨i, _, e, hq⟩)⟩, h.cool, h.hot, h.apart⟩
end Go.Proofs.YtfpglkacjecoeaaGreat
namespace Go.Proofs.YtfpglkacjecoeaaGreat
open Go.RowKit

/-- A store that touches none of its blocks. -/
theorem Mq.away {w : World} {base n : Nat} {P : Nat → Prop} {v : Value} {cs : List Value} {m : Gm.L} (h : Mq w base P v n cs m) {q : Addr} (hq : ¬ Foot v cs q.block) (u : Value) : Mq (w.setCell q u) base P v n cs m :=
  ⟨h.len, ownsRow_setCell_other h.own (fun e => hq (.inl e)) u, fun i hi => by
    obtain ⟨A, c, e, ho⟩ := h.row i hi
    exact ⟨A, c, e, ownsRow_setCell_other ho (fun e' => hq (.inr ⟨i, _, e, e'⟩)) u⟩, h.cool, h.hot, h.apart⟩
structure Two (w : World) (N : Nat) (v1 v2 : Value) (n1 n2 : Nat) (cs1 cs2 : List Value) (X Y : Gm.L) : Prop where
  m1 : Mq w N (Hot N v1) v1 n1 cs1 X
  m2 : Mq w N (Hot N v2) v2 n2 cs2 Y
  ap : ∀ q, Foot v1 cs1 q → ¬ Foot v2 cs2 q
section
variable {w w' : World} {N n1 n2 : Nat} {v1 v2 : Value} {cs1 cs2 : List Value} {X Y : Gm.L}
theorem Two.symm (h : Two w N v1 v2 n1 n2 cs1 cs2 X Y) : Two w N v2 v1 n2 n1 cs2 cs1 Y X := ⟨h.m2, h.m1, fun q a b => h.ap q b a⟩
theorem Two.ext (h : Two w N v1 v2 n1 n2 cs1 cs2 X Y) (hx : Ext w w') : Two w' N v1 v2 n1 n2 cs1 cs2 X Y := ⟨h.m1.ext hx, h.m2.ext hx, h.ap⟩
theorem foot_set {v : Value} {cs : List Value} {i b : Nat} {u : Value} (h : Foot v (cs.set i u) b) : Foot v cs b ∨ u.ownBlock = some b := by
  rcases h with h | ⟨j, x, hx, hb⟩
  · exact .inl (.inl h)
  · rw [List.getElem?_set] at hx
    split at hx
    · split at hx
      · injection hx with hx
        subst hx
        exact .inr hb
      · cases hx
    · exact .inl (.inr ⟨j, x, hx, hb⟩)
theorem Two.swap1 {g1 c1 : Nat} (h : Two w N (.slice (some ⟨g1, 0, none⟩) n1 c1) v2 n1 n2 cs1 cs2 X Y) {p q : Nat} (hp : p < n1) (hq : q < n1) {up uq : Value} (hup : cs1[p]? = some up) (huq : cs1[q]? = some uq) :
    Two ((w.setCell ⟨g1, p, none⟩ uq).setCell ⟨g1, q, none⟩ up) N (.slice (some ⟨g1, 0, none⟩) n1 c1) v2 n1 n2 ((cs1.set p uq).set q up) cs2 (Gm.swapL X p q) Y := by
  have hno : ¬ Foot v2 cs2 g1 := h.ap g1 (.inl rfl)
  refine ⟨h.m1.swap hp hq hup huq, (h.m2.away (q := ⟨g1, p, none⟩) hno uq).away (q := ⟨g1, q, none⟩) hno up, fun b hb => ?_⟩
  rcases foot_set hb with hb | hb
  · rcases foot_set hb with hb | hb
    · exact h.ap b hb
    · exact h.ap b (.inr ⟨q, uq, huq, hb⟩)
  · exact h.ap b (.inr ⟨p, up, hup, hb⟩)
theorem Two.put1 {g1 c1 : Nat} (h : Two w N (.slice (some ⟨g1, 0, none⟩) n1 c1) v2 n1 n2 cs1 cs2 X Y) {w1 : World} (hx : Ext w w1) {i : Nat} (hi : i < n1) {A : Option Addr} {c b1 : Nat} {r : List UInt8} (hr : w1.ownsRow b1 5 1 (.slice A r.length c) r.length (bcells r)) (hb1 : w.heap.size ≤ b1) (hN : N ≤ w.heap.size) :
    Two (w1.setCell ⟨g1, i, none⟩ (.slice A r.length c)) N (.slice (some ⟨g1, 0, none⟩) n1 c1) v2 n1 n2 (cs1.set i (.slice A r.length c)) cs2 (X.set i r) Y := by
  have hno : ¬ Foot v2 cs2 g1 := h.ap g1 (.inl rfl)
  have hg : N ≤ g1 ∧ g1 < w.heap.size := h.m1.own.lt g1 rfl
  refine ⟨(h.m1.ext hx).put hi hr (by omega) (fun b hb => ?_), (h.m2.ext hx).away (q := ⟨g1, i, none⟩) hno _, fun b hb => ?_⟩
  · have hf := h.m1.fresh hr hb1 (hot_lt hg.2 hN) b hb
    exact ⟨hf.1, fun j u _ hu => hf.2 j u hu⟩
  · rcases foot_set hb with hb | hb
    · exact h.ap b hb
    · intro h2
      have h3 := (h.m2.foot h2).2
      have h4 := (hr.lt b hb).1
      omega
theorem Two.poke1 (h : Two w N v1 v2 n1 n2 cs1 cs2 X Y) {i : Nat} (hi : i < n1) {g c : Nat} (hc : cs1[i]? = some (.slice (some ⟨g, 0, none⟩) (Gm.row X i).length c)) (j : Nat) (x : UInt8) :
    Two (w.setCell ⟨g, j, none⟩ (.int .u8 (x.toNat : Int))) N v1 v2 n1 n2 cs1 cs2 (X.set i ((Gm.row X i).set j x)) Y := by
  have hout : v1.ownBlock ≠ some g := fun e => h.m1.cool i _ g hc rfl (.inl e)
  exact ⟨h.m1.poke hi hc j x hout, h.m2.away (q := ⟨g, j, none⟩) (h.ap g (.inr ⟨i, _, hc, rfl⟩)) _, h.ap⟩
/-- A row is appended to the first one. -/
theorem Two.grow1 (h : Two w N v1 v2 n1 n2 cs1 cs2 X Y) {w1 : World} (hx : Ext w w1) {A : Option Addr} {c b1 : Nat} {r : List UInt8} (hr : w1.ownsRow b1 5 1 (.slice A r.length c) r.length (bcells r)) (hb1 : w.heap.size ≤ b1) (hN : N ≤ w.heap.size)
    (hx' : Ext w1 w') {w2 : World} {v' : Value} (hown : w2.ownsRow N 46 1 v' (n1 + 1) (cs1 ++ [.slice A r.length c])) (hg : w'.grownBy w2 v1.ownBlock) (hat : v'.ownBlock = v1.ownBlock ∨ v'.ownBlock = some w'.heap.size) :
    Two w2 N v' v2 (n1 + 1) n2 (cs1 ++ [.slice A r.length c]) cs2 (X ++ [r]) Y := by
  have s1 := hx.size
  have s2 := hx'.size
  refine ⟨h.m1.snoc hx hr hb1 hN hx' hown hg hat, ((h.m2.ext hx).ext hx').grown hg (fun q hq => h.ap q (.inl hq)), fun q hq h2 => ?_⟩
  have h3 := (h.m2.foot h2).2
  rcases hq with hq | ⟨j, u, hu, hb⟩
  · rcases hat with e | e
    · exact h.ap q (.inl (by rw [← e]; exact hq)) h2
    · rw [e] at hq
      injection hq with hq
      omega
  · by_cases e : j < cs1.length
    · rw [List.getElem?_append_left e] at hu
      exact h.ap q (.inr ⟨j, u, hu, hb⟩) h2
    · rw [List.getElem?_append_right (by omega)] at hu
      have hj := (List.getElem?_eq_some_iff.1 hu).1
      have : j - cs1.length = 0 := by simpa using hj
      rw [this] at hu
      simp at hu
      subst hu
      have := (hr.lt q hb).1
      omega
end
theorem Two.nil (w : World) (N : Nat) : Two w N (.slice none 0 0) (.slice none 0 0) 0 0 [] [] [] [] :=
  ⟨Mq.nil _ _ _, Mq.nil _ _ _, fun q hq => by
    rcases hq with hq | ⟨j, u, hu, _⟩
    · simp [Value.ownBlock] at hq
    · simp at hu⟩
end Go.Proofs.YtfpglkacjecoeaaGreat
