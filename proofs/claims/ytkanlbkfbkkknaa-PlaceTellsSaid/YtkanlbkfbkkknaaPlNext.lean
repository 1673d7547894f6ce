/- What place.Read reads next: the contract of its closure; memory that but two variables of the call's own have turned. -/
import Derived.Test.YtkanlbkfbkkknaaGetUint
import Derived.Test.YtkanlbkfbkkknaaPlaceList
namespace Go.Proofs.Ytkanlbkfbkkknaa
open Go.RowKit

/-- All but two blocks is as it was. -/
structure Kt (h k : Nat) (w w' : World) : Prop where
  size : w.heap.size ≤ w'.heap.size
  block : ∀ q, q < w.heap.size → q ≠ h → q ≠ k → w'.heap[q]? = w.heap[q]?
theorem Kt.refl (h k : Nat) (w : World) : Kt h k w w := ⟨Nat.le_refl _, fun _ _ _ _ => rfl⟩
theorem Kt.trans {h k : Nat} {a b c : World} (x : Kt h k a b) (y : Kt h k b c) : Kt h k a c :=
  ⟨Nat.le_trans x.size y.size, fun q h1 h2 h3 => (y.block q (Nat.lt_of_lt_of_le h1 x.size) h2 h3).trans (x.block q h1 h2 h3)⟩
theorem Kt.of {h k : Nat} {w w' : World} (x : Ext w w') : Kt h k w w' := ⟨x.size, fun q h1 _ _ => x.block q h1⟩
theorem Kt.thenExt {h k : Nat} {a w w' : World} (y : Kt h k a w) (x : Ext w w') : Kt h k a w' := y.trans (Kt.of x)
theorem Kt.set {h k : Nat} {a w : World} (y : Kt h k a w) {p : Addr} (hp : p.block = h ∨ p.block = k ∨ a.heap.size ≤ p.block) (v : Value) : Kt h k a (w.setCell p v) :=
  ⟨by rw [World.size_setCell]; exact y.size, fun q h1 h2 h3 => by
    rw [heap_setCell_other _ _ _ _ (by omega)]
    exact y.block q h1 h2 h3⟩
theorem Kt.grown {h k : Nat} {a w w' : World} {row : Option Nat} (y : Kt h k a w) (hg : w.grownBy w' row) (hr : ∀ q, row = some q → a.heap.size ≤ q) : Kt h k a w' :=
  ⟨Nat.le_trans y.size hg.size, fun q h1 h2 h3 => (hg.block q (Nat.lt_of_lt_of_le h1 y.size) (fun e => by have := hr q e.symm; omega)).trans (y.block q h1 h2 h3)⟩
theorem Kt.own {h k : Nat} {w w' : World} (y : Kt h k w w') {base size n : Nat} {e : TypeId} {v : Value} {xs : List Value} (ho : w.ownsRow base e size v n xs) (hh : h < base) (hk : k < base) : w'.ownsRow base e size v n xs := by
  refine ⟨ho.1, ?_⟩
  rcases ho.2 with h1 | ⟨b, cap, cur, h1, h2, h3, h4⟩
  · exact .inl h1
  · refine .inr ⟨b, cap, cur, h1, h2, ?_, h4⟩
    have hb : b < w.heap.size := (Array.getElem?_eq_some_iff.1 h3).1
    rw [y.block b hb (by omega) (by omega)]
    exact h3
theorem Kt.is {h k : Nat} {w w' : World} (y : Kt h k w w') {A : Option Addr} {n c : Nat} {l : List Int} (hi : Is w A n c l) (hb : 0 < n → ∀ b, (A.map (·.block)) = some b → b ≠ h ∧ b ≠ k) : Is w' A n c l := by
  refine ⟨hi.len, hi.le, hi.max, hi.rd.1, fun hn => ?_⟩
  obtain ⟨b, off, e, hc⟩ := hi.rd.2 hn
  refine ⟨b, off, e, fun j u hu => ?_⟩
  have hcj := hc j u hu
  have hlt := World.block_lt_of_cell? _ _ hcj
  obtain ⟨n1, n2⟩ := hb hn b (by rw [e]; rfl)
  rw [World.cell?_of_block (a := ⟨b, off + j, none⟩) (y.block b hlt n1 n2)]
  exact hcj
theorem Kt.free {h k : Nat} {w w' : World} (y : Kt h k w w') {base : Nat} {A : Option Addr} {n : Nat} (hf : Free base w A n) (hh : h < base) (hk : k < base) : Free base w' A n := fun hn => by
  obtain ⟨b, e, h1, h2, h3⟩ := hf hn
  exact ⟨b, e, h1, Nat.lt_of_lt_of_le h2 y.size, fun j => (World.frozen?_of_block (a := ⟨b, j, none⟩) (y.block b h2 (by omega) (by omega))).trans (h3 j)⟩
theorem Kt.off {h k : Nat} {w w' : World} (y : Kt h k w w') {v : Value} {A : Option Addr} {n : Nat} (ho : Off w v A n) : Off w' v A n := fun hn b hb => ⟨Nat.lt_of_lt_of_le (ho hn b hb).1 y.size, (ho hn b hb).2⟩
theorem Kt.ps {h k : Nat} {w w' : World} (y : Kt h k w w') {base : Nat} {v g : Value} {l : List Pl.P} (ho : OwnPs True base w v g l) (hh : h < base) (hk : k < base) : OwnPs True base w' v g l := by
  obtain ⟨cs, h1, h2⟩ := ho.cells
  refine ⟨cs, y.own h1 hh hk, fun j hj => ?_⟩
  obtain ⟨A, n, c, a1, a2, a3, a4, a5, a6⟩ := h2 j hj
  refine ⟨A, n, c, a1, a2, y.is a3 (fun hn b hb => ?_), y.off a4, y.off a5, fun hf => y.free (a6 hf) hh hk⟩
  obtain ⟨b', e, q1, _, _⟩ := a6 trivial hn
  rw [e] at hb
  injection hb with hb
  have hb : b' = b := hb
  omega

/-- The variables of place.Read: the bytes, how far it is read, is something wrong. -/
structure RdB (w W : World) (g h k : Nat) (A : Option Addr) (n c : Nat) (l : List UInt8) (s : Pl.St) : Prop where
  c0 : W.cell? ⟨g, 0, none⟩ = some (.slice A n c)
  c1 : W.cell? ⟨h, 0, none⟩ = some (.int .i64 (s.at_ : Int))
  c2 : W.cell? ⟨k, 0, none⟩ = some (.bool s.bad)
  f1 : W.frozen? ⟨h, 0, none⟩ = false
  f2 : W.frozen? ⟨k, 0, none⟩ = false
  bs : Bs w A n c l
  le : s.at_ ≤ n
  ne : g ≠ h ∧ g ≠ k ∧ h ≠ k
  new : w.heap.size ≤ h ∧ w.heap.size ≤ k
  ext : Ext w W
theorem RdB.kt {w W W' : World} {g h k h' k' : Nat} {A : Option Addr} {n c : Nat} {l : List UInt8} {s : Pl.St} (r : RdB w W g h k A n c l s) (x : Ext w W') (hs : ∀ q, (q = g ∨ q = h ∨ q = k) → W'.heap[q]? = W.heap[q]?) : RdB w W' g h k A n c l s :=
  ⟨(World.cell?_of_block (a := ⟨g, 0, none⟩) (hs g (.inl rfl))).trans r.c0, (World.cell?_of_block (a := ⟨h, 0, none⟩) (hs h (.inr (.inl rfl)))).trans r.c1, (World.cell?_of_block (a := ⟨k, 0, none⟩) (hs k (.inr (.inr rfl)))).trans r.c2,
    (World.frozen?_of_block (a := ⟨h, 0, none⟩) (hs h (.inr (.inl rfl)))).trans r.f1, (World.frozen?_of_block (a := ⟨k, 0, none⟩) (hs k (.inr (.inr rfl)))).trans r.f2, r.bs, r.le, r.ne, r.new, x⟩
theorem RdB.ex {w W W' : World} {g h k : Nat} {A : Option Addr} {n c : Nat} {l : List UInt8} {s : Pl.St} (r : RdB w W g h k A n c l s) (x : Ext W W') : RdB w W' g h k A n c l s :=
  r.kt (h' := h) (k' := k) (r.ext.trans x) (fun q hq => by
    rcases hq with rfl | rfl | rfl
    · exact x.block _ (World.block_lt_of_cell? _ _ r.c0)
    · exact x.block _ (World.block_lt_of_cell? _ _ r.c1)
    · exact x.block _ (World.block_lt_of_cell? _ _ r.c2))
/-- What the closure makes of it. -/
def nextW (W : World) (h k : Nat) (l : List UInt8) (s : Pl.St) (most : Nat) : World :=
  if Pl.off l s most then W.setCell ⟨k, 0, none⟩ (.bool true) else (W.setCell ⟨k, 0, none⟩ (.bool false)).setCell ⟨h, 0, none⟩ (.int .i64 (Pl.getTo l s.at_ : Int))
theorem getTo_le {l : List UInt8} {i : Nat} (hi : i ≤ l.length) : Pl.getTo l i ≤ l.length := by
  have hd : ∀ (m : List UInt8) (k acc : Nat), (Pl.dec m k acc).2.2 ≤ k + m.length := fun m => by
    induction m with
    | nil => intro k acc; rw [Pl.dec]; exact Nat.zero_le _
    | cons x t ih =>
      intro k acc
      rw [Pl.dec]
      split
      · exact Nat.zero_le _
      · split
        · show k + 1 ≤ k + (x :: t).length
          rw [List.length_cons]; omega
        · have := ih (k + 1) (acc + x.toNat % 128 * 2 ^ (7 * k))
          rw [List.length_cons]; omega
  have := hd (l.drop i) 0 0
  rw [List.length_drop] at this
  unfold Pl.getTo
  omega
theorem RdB.next {w W : World} {g h k : Nat} {A : Option Addr} {n c : Nat} {l : List UInt8} {s : Pl.St} (r : RdB w W g h k A n c l s) (most : Nat) : RdB w (nextW W h k l s most) g h k A n c l (Pl.nextS l s most) := by
  have hl := r.bs.len
  obtain ⟨n1, n2, n3⟩ := r.ne
  unfold nextW Pl.nextS
  split
  · refine ⟨?_, ?_, World.cell?_setCell_same _ _ _ r.c2, ?_, ?_, r.bs, r.le, r.ne, r.new, r.ext.set_ r.new.2 _⟩
    · rw [World.cell?_setCell_far _ _ _ _ (fun e => n2 e.symm)]; exact r.c0
    · rw [World.cell?_setCell_far _ _ _ _ (fun e => n3 e.symm)]; exact r.c1
    · simp only [World.frozen?_setCell]; exact r.f1
    · simp only [World.frozen?_setCell]; exact r.f2
  · have e1 : (W.setCell ⟨k, 0, none⟩ (.bool false)).cell? ⟨h, 0, none⟩ = some (.int .i64 (s.at_ : Int)) := by rw [World.cell?_setCell_far _ _ _ _ (fun e => n3 e.symm)]; exact r.c1
    refine ⟨?_, World.cell?_setCell_same _ _ _ e1, ?_, ?_, ?_, r.bs, by have := getTo_le (l := l) (i := s.at_) (by rw [hl]; exact r.le); rw [hl] at this; exact this, r.ne, r.new, (r.ext.set_ r.new.2 _).set_ r.new.1 _⟩
    · rw [World.cell?_setCell_far _ _ _ _ (fun e => n1 e.symm), World.cell?_setCell_far _ _ _ _ (fun e => n2 e.symm)]; exact r.c0
    · rw [World.cell?_setCell_far _ _ _ _ n3, World.cell?_setCell_same _ _ _ r.c2]
    · simp only [World.frozen?_setCell]; exact r.f1
    · simp only [World.frozen?_setCell]; exact r.f2
theorem nextW_kt (W : World) (h k : Nat) (l : List UInt8) (s : Pl.St) (most : Nat) : Kt h k W (nextW W h k l s most) := by
  unfold nextW
  split
  · exact (Kt.refl h k W).set (.inr (.inl rfl)) _
  · exact ((Kt.refl h k W).set (.inr (.inl rfl)) _).set (.inl rfl) _

theorem nextW_size (W : World) (h k : Nat) (l : List UInt8) (s : Pl.St) (most : Nat) : (nextW W h k l s most).heap.size = W.heap.size := by
  unfold nextW
  split
  · exact World.size_setCell ..
  · rw [World.size_setCell, World.size_setCell]

set_option maxRecDepth 100000 in
theorem next_any (w W : World) (g h k : Nat) (A : Option Addr) (n c : Nat) (l : List UInt8) (s : Pl.St) (r : RdB w W g h k A n c l s) (most : Nat) (hm : most < 2 ^ 62) :
    Calls Try.prog 42 #[.int .i64 (most : Int), .pointer (some ⟨g, 0, none⟩), .pointer (some ⟨h, 0, none⟩), .pointer (some ⟨k, 0, none⟩)] W fun e w' => e = .returned (.int .i64 (Pl.nextV l s most : Int)) ∧ nextW W h k l s most = w' := by
  have c0 := r.c0
  have c1 := r.c1
  have c2 := r.c2
  have f1 := r.f1
  have f2 := r.f2
  obtain ⟨E, N, u, hd⟩ : ∃ E N u, Pl.dec (l.drop s.at_) 0 0 = (E, N, u) := ⟨_, _, _, rfl⟩
  have hu := getUint_any W A n c l (r.bs.ext r.ext) s.at_ r.le E N u hd
  have hE : Pl.getE l s.at_ = E := by unfold Pl.getE; rw [hd]
  have hN : Pl.getN l s.at_ = N := by unfold Pl.getN; rw [hd]
  have hT : E = 0 → Pl.getTo l s.at_ = toB s.at_ E u := fun e => by unfold Pl.getTo toB; rw [hd, if_pos e]
  have hwm : IntKind.u64.wrap (most : Int) = (most : Int) := IntWalk.u64_in _ (by omega)
  have HK := Lib.hid r.ne
  obtain ⟨T, hT'⟩ : ∃ T, toB s.at_ E u = T := ⟨_, rfl⟩
  rw [hT'] at hu hT
  clear hT' hd r
  by_cases ho : Pl.off l s most
  · have e1 : Pl.nextV l s most = 0 := if_pos ho
    have e2 : nextW W h k l s most = W.setCell ⟨k, 0, none⟩ (.bool true) := if_pos ho
    rw [e1, e2]
    clear e1 e2 hT
    unfold Pl.off at ho
    rw [hE, hN] at ho
    clear hE hN
    cases hb : s.bad with
    | true =>
      rw [hb] at c2
      clear ho
      go_enter Try.func42, Try.ntmps42
      go_wp2_with (fail)
      with_reducible refine hu.mono ?_
      rintro e w1 ⟨rfl, rfl⟩
      clear hu
      go_wp2_with (fail)
      go_ret
      exact ⟨rfl, rfl⟩
    | false =>
      rw [hb] at c2 ho
      by_cases h0 : E = 0
      · have h1 : most < N := by
          rcases ho with q | q | q
          · cases q
          · exact absurd h0 q
          · exact q
        have h1' : (most : Int) < (N : Int) := by omega
        subst h0
        clear ho h1
        go_enter Try.func42, Try.ntmps42
        go_wp2_with (fail)
        with_reducible refine hu.mono ?_
        rintro e w1 ⟨rfl, rfl⟩
        clear hu
        go_wp2_with (fail)
        go_ret
        exact ⟨rfl, rfl⟩
      · have h0' : (E != 0) = true := by simpa using h0
        clear ho
        go_enter Try.func42, Try.ntmps42
        go_wp2_with (fail)
        with_reducible refine hu.mono ?_
        rintro e w1 ⟨rfl, rfl⟩
        clear hu
        go_wp2_with (fail)
        go_ret
        exact ⟨rfl, rfl⟩
  · have e1 : Pl.nextV l s most = N := by unfold Pl.nextV; rw [if_neg ho, hN]
    have ho' := ho
    unfold Pl.off at ho'
    rw [hE, hN] at ho'
    have hb : s.bad = false := by cases hq : s.bad with | false => rfl | true => exact absurd (.inl hq) ho'
    have h0 : E = 0 := Classical.byContradiction fun q => ho' (.inr (.inl q))
    have h1 : ¬ most < N := fun q => ho' (.inr (.inr q))
    have e2 : nextW W h k l s most = (W.setCell ⟨k, 0, none⟩ (.bool false)).setCell ⟨h, 0, none⟩ (.int .i64 (T : Int)) := by
      unfold nextW
      rw [if_neg ho, hT h0]
    rw [e1, e2]
    clear e1 e2 hT ho ho' hE hN
    subst h0
    rw [hb] at c2
    have h1' : ¬ (most : Int) < (N : Int) := by omega
    have hwn : IntKind.i64.wrap (N : Int) = (N : Int) := IntWalk.i64_in _ (by omega)
    have f1' : (W.setCell ⟨k, 0, none⟩ (.bool false)).frozen? ⟨h, 0, none⟩ = false := by simp only [World.frozen?_setCell]; exact f1
    have c1' : (W.setCell ⟨k, 0, none⟩ (.bool false)).cell? ⟨h, 0, none⟩ = some (.int .i64 (s.at_ : Int)) := by rw [World.cell?_setCell_far _ _ _ _ (fun e => HK.out.2.2 e.symm)]; exact c1
    go_enter Try.func42, Try.ntmps42
    go_wp2_with (fail)
    with_reducible refine hu.mono ?_
    rintro e w1 ⟨rfl, rfl⟩
    clear hu
    go_wp2_with (fail)
    go_ret
    exact ⟨rfl, rfl⟩
theorem next_at (w W : World) (g h k : Nat) (A : Option Addr) (n c : Nat) (l : List UInt8) (s : Pl.St) (r : RdB w W g h k A n c l s) (most : Nat) (hm : most < 2 ^ 62) (mi : Int) (he : (most : Int) = mi) :
    Calls Try.prog 42 #[.int .i64 mi, .pointer (some ⟨g, 0, none⟩), .pointer (some ⟨h, 0, none⟩), .pointer (some ⟨k, 0, none⟩)] W fun e w' => e = .returned (.int .i64 (Pl.nextV l s most : Int)) ∧ nextW W h k l s most = w' := by
  subst he
  exact next_any w W g h k A n c l s r most hm
end Go.Proofs.Ytkanlbkfbkkknaa
