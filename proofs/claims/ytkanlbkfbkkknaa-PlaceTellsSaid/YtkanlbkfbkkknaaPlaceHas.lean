/- Slices of slices of int; the contract of the laws' has. -/
import Derived.Test.YtkanlbkfbkkknaaPlaceLow
import Derived.Test.YtkanlbkfbkkknaaPlMore
namespace Go.Proofs.Ytkanlbkfbkkknaa
open Go.RowKit

def lget (l : List (List Int)) (k : Nat) : List Int := l.getD k []
/-- A slice of slices of int. -/
structure Iss (w : World) (A : Option Addr) (n c : Nat) (l : List (List Int)) : Prop where
  len : l.length = n
  le : n ≤ c
  max : c ≤ 9223372036854775807
  rd : ∀ k, k < n → ∃ b off A' n' c', A = some ⟨b, off, none⟩ ∧ w.cell? ⟨b, off + k, none⟩ = some (.slice A' n' c') ∧ Is w A' n' c' (lget l k)
theorem Iss.ext {w w' : World} {A : Option Addr} {n c : Nat} {l : List (List Int)} (h : Iss w A n c l) (hx : Ext w w') : Iss w' A n c l :=
  ⟨h.len, h.le, h.max, fun k hk => by
    obtain ⟨b, off, A', n', c', e, h1, h2⟩ := h.rd k hk
    exact ⟨b, off, A', n', c', e, hx.cell h1, h2.ext hx⟩⟩
/-- Cells that are slices of int. -/
def AllIs (w : World) : List Value → List (List Int) → Prop
  | [], [] => True
  | v :: vs, l :: ls => (∃ A n c, v = .slice A n c ∧ Is w A n c l) ∧ AllIs w vs ls
  | _, _ => False
theorem AllIs.get {w : World} {vs : List Value} {ls : List (List Int)} (h : AllIs w vs ls) : vs.length = ls.length ∧ ∀ k, k < ls.length → ∃ A n c, vs[k]? = some (.slice A n c) ∧ Is w A n c (lget ls k) := by
  induction vs generalizing ls with
  | nil =>
    cases ls with
    | nil => exact ⟨rfl, fun k hk => absurd hk (Nat.not_lt_zero _)⟩
    | cons l ls => exact h.elim
  | cons v vs ih =>
    cases ls with
    | nil => exact h.elim
    | cons l ls =>
      obtain ⟨⟨A, n, c, rfl, hi⟩, hr⟩ := h
      obtain ⟨h1, h2⟩ := ih hr
      refine ⟨by simp [h1], fun k hk => ?_⟩
      cases k with
      | zero => exact ⟨A, n, c, rfl, hi⟩
      | succ k =>
        obtain ⟨A, n, c, a1, a2⟩ := h2 k (by simpa using hk)
        exact ⟨A, n, c, by simpa using a1, by simpa [lget] using a2⟩
theorem Iss.lit (w : World) (g : Nat) (hg : w.heap.size = g) (ls : List (List Int)) (cs : Array Value) (t : TypeId) (n : Nat) (hn : ls.length = n) (h : AllIs w cs.toList ls) (hl : n ≤ 1000) : Iss (w.alloc (.cells cs t)) (some ⟨g, 0, .none⟩) n n ls := by
  subst hn
  subst hg
  obtain ⟨h1, h2⟩ := h.get
  refine ⟨rfl, Nat.le_refl _, by omega, fun k hk => ?_⟩
  obtain ⟨A, n, c, a1, a2⟩ := h2 k hk
  refine ⟨w.heap.size, 0, A, n, c, rfl, ?_, a2.ext (Ext.alloc _ _)⟩
  rw [Nat.zero_add, World.cell?_alloc_new]
  simpa using a1

/-- Are these the epochs, and the nodes? -/
def hasB (l : List Pl.P) (es : List Int) (ns : List (List Int)) : Bool := decide (l.map (·.1) = es) && decide (l.map (·.2) = ns)
theorem hasB_len {l : List Pl.P} {es : List Int} {ns : List (List Int)} (h : ¬ (l.length = ns.length ∧ l.length = es.length)) : hasB l es ns = false := by
  unfold hasB
  rw [Bool.and_eq_false_iff, decide_eq_false_iff_not, decide_eq_false_iff_not]
  refine Classical.byContradiction fun hc => h ?_
  have h1 : l.map (·.1) = es := Classical.byContradiction fun e => hc (.inl e)
  have h2 : l.map (·.2) = ns := Classical.byContradiction fun e => hc (.inr e)
  exact ⟨by rw [← h2, List.length_map], by rw [← h1, List.length_map]⟩
theorem hasB_true {l : List Pl.P} {es : List Int} {ns : List (List Int)} (h1 : l.length = ns.length) (h2 : l.length = es.length) (h : ∀ k, k < l.length → (Pl.pget l k).1 = Il.get es k ∧ (Pl.pget l k).2 = lget ns k) : hasB l es ns = true := by
  unfold hasB
  rw [Bool.and_eq_true, decide_eq_true_eq, decide_eq_true_eq]
  constructor
  · apply Il.ext_get (by rw [List.length_map]; exact h2)
    intro k hk
    rw [List.length_map] at hk
    rw [← (h k hk).1]
    simp [Il.get, Pl.pget, hk]
  · apply List.ext_getElem (by rw [List.length_map]; exact h1)
    intro k k1 k2
    rw [List.length_map] at k1
    have := (h k k1).2
    simpa [lget, Pl.pget, k1, k2] using this
theorem hasB_false {l : List Pl.P} {es : List Int} {ns : List (List Int)} {k : Nat} (hk : k < l.length) (h : ¬ ((Pl.pget l k).1 = Il.get es k ∧ (Pl.pget l k).2 = lget ns k)) : hasB l es ns = false := by
  unfold hasB
  rw [Bool.and_eq_false_iff, decide_eq_false_iff_not, decide_eq_false_iff_not]
  refine Classical.byContradiction fun hc => h ?_
  have h1 : l.map (·.1) = es := Classical.byContradiction fun e => hc (.inl e)
  have h2 : l.map (·.2) = ns := Classical.byContradiction fun e => hc (.inr e)
  constructor
  · rw [← h1]; simp [Il.get, Pl.pget, hk]
  · rw [← h2]; simp [lget, Pl.pget, hk]

set_option maxRecDepth 100000 in
set_option maxHeartbeats 2000000 in
theorem has_any (w : World) (A B C : Option Addr) (n c m d p e : Nat) (l : List Pl.P) (es : List Int) (ns : List (List Int)) (hl : Ps w A n c l) (he : Is w B m d es) (hn : Iss w C p e ns) :
    Calls Try.prog 22 #[.slice A n c, .slice B m d, .slice C p e] w fun r w' => r = .returned (.bool (hasB l es ns)) ∧ Dr w w' := by
  have hm1 := hl.max
  have hm2 := hl.le
  have hm3 := he.max
  have hm4 := he.le
  have hm5 := hn.max
  have hm6 := hn.le
  have L1 := Lib.hid hl.len
  have L2 := Lib.hid he.len
  have L3 := Lib.hid hn.len
  by_cases hnp : n = p
  · by_cases hnm : n = m
    · subst hnp
      subst hnm
      go_enter Try.func22, Try.ntmps22
      go_wp2
      go_loopw [22] (fun i wr => ∃ k : Nat, k ≤ n ∧ i = .int .i64 k ∧ RowKit.Hid (∀ j, j < k → (Pl.pget l j).1 = Il.get es j ∧ (Pl.pget l j).2 = lget ns j) ∧ Dr w wr) (fun i _ => n - (intOf i).toNat)
      case atStart => exact ⟨0, by omega, rfl, Lib.hid (fun j hj => absurd hj (Nat.not_lt_zero _)), Dr.refl w⟩
      case round =>
        obtain ⟨k, hk, rfl, H, hd⟩ := hrel
        by_cases hlt : k < n
        · obtain ⟨b1, o1, A1, n1, c1, rfl, r1, r2, i1⟩ := (hl.ext hd.ext).rd k hlt
          obtain ⟨b2, o2, rfl, r3⟩ := (he.ext hd.ext).rd.intAt hlt
          obtain ⟨b3, o3, A2, n2, c2, rfl, r4, i2⟩ := (hn.ext hd.ext).rd k hlt
          have q1 : (k : Int) < n := by omega
          have HB := Lib.hid (fun h : ¬ ((Pl.pget l k).1 = Il.get es k ∧ (Pl.pget l k).2 = lget ns k) => hasB_false (l := l) (by rw [L1.out]; exact hlt) h)
          have hs := fun W (h : Ext wr W) => sameInts_any W A1 A2 n1 c1 n2 c2 _ _ (i1.ext h) (i2.ext h)
          by_cases he1 : (Pl.pget l k).1 = Il.get es k
          · have e1 : ((Pl.pget l k).1 != Il.get es k) = false := by rw [he1]; simp
            have E := Lib.hid he1
            clear he1
            by_cases hn1 : (Pl.pget l k).2 = lget ns k
            · rw [decide_eq_true hn1] at hs
              have E2 := Lib.hid hn1
              have HS := Lib.hid hs
              clear hn1 hs
              go_wp2
              go_quiet ((go_at_call 19; exact Calls.quiet_of (HS.out _ (Ext.drewN _ _))))
              go_wp2
              refine ⟨⟨k + 1, by omega, by go_num, Lib.hid (fun j hj => ?_), hd.more _⟩, by simp [intOf]; omega⟩
              by_cases hj' : j = k
              · rw [hj']; exact ⟨E.out, E2.out⟩
              · exact H.out j (by omega)
            · rw [decide_eq_false hn1] at hs
              have E2 := Lib.hid hn1
              have HS := Lib.hid hs
              clear hn1 hs
              go_wp2
              go_quiet ((go_at_call 19; exact Calls.quiet_of (HS.out _ (Ext.drewN _ _))))
              go_wp2
              go_ret
              exact ⟨ret_bool (HB.out (fun e => E2.out e.2)).symm, hd.more _⟩
          · have e1 : ((Pl.pget l k).1 != Il.get es k) = true := by rw [bne_iff_ne]; exact he1
            have E := Lib.hid he1
            clear he1 hs
            go_wp2
            go_quiet (fail)
            go_wp2
            go_ret
            exact ⟨ret_bool (HB.out (fun e => E.out e.1)).symm, hd.more _⟩
        · have q1 : ¬ (k : Int) < n := by omega
          go_wp2
          go_ret
          exact ⟨ret_bool (hasB_true (by rw [L1.out, L3.out]) (by rw [L1.out, L2.out]) (fun j hj => H.out j (by rw [L1.out] at hj; omega))).symm, hd⟩
    · have e0 : ((n : Int) != (p : Int)) = false := by rw [hnp]; simp
      have e1 : ((n : Int) != (m : Int)) = true := by rw [bne_iff_ne]; omega
      have N := Lib.hid hnm
      clear hnm hnp
      go_enter Try.func22, Try.ntmps22
      go_wp2
      go_ret
      exact ⟨ret_bool (hasB_len (fun h => N.out (by rw [← L1.out, ← L2.out]; exact h.2))).symm, Dr.refl w⟩
  · have e1 : ((n : Int) != (p : Int)) = true := by rw [bne_iff_ne]; omega
    have N := Lib.hid hnp
    clear hnp
    go_enter Try.func22, Try.ntmps22
    go_wp2
    go_ret
    exact ⟨ret_bool (hasB_len (fun h => N.out (by rw [← L1.out, ← L3.out]; exact h.1))).symm, Dr.refl w⟩
end Go.Proofs.Ytkanlbkfbkkknaa
