/- The contracts of SamePlaces, SmallPlaces and of the laws' right. -/
import Derived.Test.YtkanlbkfbkkknaaPlaceList
import Derived.Test.YtkanlbkfbkkknaaIntsSame
import Derived.Deep.QuietTactic
import Derived.BigQuiet
namespace Go.Proofs.Ytkanlbkfbkkknaa
open Go.RowKit

set_option maxHeartbeats 2000000 in
theorem samePlaces_any (w : World) (A B : Option Addr) (n c m d : Nat) (x y : List Pl.P) (hx : Ps w A n c x) (hy : Ps w B m d y) :
    Calls Try.prog 18 #[.slice A n c, .slice B m d] w fun e w' => e = .returned (.bool (decide (x = y))) ∧ Dr w w' := by
  have hm1 := hx.max
  have hm2 := hx.le
  have hm3 := hy.max
  have hm4 := hy.le
  have L1 := Lib.hid hx.len
  have L2 := Lib.hid hy.len
  by_cases hnm : n = m
  · subst hnm
    go_enter Try.func18, Try.ntmps18
    go_wp2
    go_loopw [5] (fun i wr => ∃ k : Nat, k ≤ n ∧ i = .int .i64 k ∧ RowKit.Hid (∀ j, j < k → Pl.pget x j = Pl.pget y j) ∧ Dr w wr) (fun i _ => n - (intOf i).toNat)
    case atStart => exact ⟨0, by omega, rfl, Lib.hid (fun j hj => absurd hj (Nat.not_lt_zero _)), Dr.refl w⟩
    case round =>
      obtain ⟨k, hk, rfl, H, hd⟩ := hrel
      by_cases hlt : k < n
      · obtain ⟨b1, o1, A1, n1, c1, rfl, r1, r2, i1⟩ := (hx.ext hd.ext).rd k hlt
        obtain ⟨b2, o2, A2, n2, c2, rfl, s1, s2, i2⟩ := (hy.ext hd.ext).rd k hlt
        have q1 : (k : Int) < n := by omega
        have hbad : Pl.pget x k ≠ Pl.pget y k → false = decide (x = y) := fun h => by
          rw [eq_comm, decide_eq_false_iff_not]
          exact fun e => h (by rw [e])
        have HB := Lib.hid hbad
        clear hbad
        by_cases he : (Pl.pget x k).1 = (Pl.pget y k).1
        · have e1 : ((Pl.pget x k).1 != (Pl.pget y k).1) = false := by rw [he]; simp
          have E := Lib.hid he
          clear he
          by_cases hn : (Pl.pget x k).2 = (Pl.pget y k).2
          · have hs := fun W (h : Ext wr W) => sameInts_any W A1 A2 n1 c1 n2 c2 _ _ (i1.ext h) (i2.ext h)
            rw [decide_eq_true hn] at hs
            have E2 := Lib.hid hn
            have HS := Lib.hid hs
            clear hn hs
            go_wp2
            go_quiet ((go_at_call 19; exact Calls.quiet_of (HS.out _ (Ext.drewN _ _))))
            go_wp2
            refine ⟨⟨k + 1, by omega, by go_num, Lib.hid (fun j hj => ?_), hd.more _⟩, by simp [intOf]; omega⟩
            by_cases hj' : j = k
            · rw [hj']; exact Prod.ext E.out E2.out
            · exact H.out j (by omega)
          · have hs := fun W (h : Ext wr W) => sameInts_any W A1 A2 n1 c1 n2 c2 _ _ (i1.ext h) (i2.ext h)
            rw [decide_eq_false hn] at hs
            have E2 := Lib.hid hn
            have HS := Lib.hid hs
            clear hn hs
            go_wp2
            go_quiet ((go_at_call 19; exact Calls.quiet_of (HS.out _ (Ext.drewN _ _))))
            go_wp2
            go_ret
            exact ⟨ret_bool (HB.out (fun e => E2.out (by rw [e]))), hd.more _⟩
        · have e1 : ((Pl.pget x k).1 != (Pl.pget y k).1) = true := by rw [bne_iff_ne]; exact he
          have E := Lib.hid he
          clear he
          go_wp2
          go_quiet (fail)
          go_wp2
          go_ret
          exact ⟨ret_bool (HB.out (fun e => E.out (by rw [e]))), hd.more _⟩
      · have q1 : ¬ (k : Int) < n := by omega
        go_wp2
        go_ret
        refine ⟨ret_bool (show true = decide (x = y) from ?_), hd⟩
        rw [eq_comm, decide_eq_true_eq]
        exact Pl.ext_pget (by rw [L1.out, L2.out]) fun j hj => H.out j (by rw [L1.out] at hj; omega)
  · have e1 : ((n : Int) != (m : Int)) = true := by rw [bne_iff_ne]; omega
    have N := Lib.hid hnm
    clear hnm
    go_enter Try.func18, Try.ntmps18
    go_wp2
    go_ret
    refine ⟨ret_bool (show false = decide (x = y) from ?_), Dr.refl w⟩
    rw [eq_comm, decide_eq_false_iff_not]
    exact fun e => N.out (by rw [← L1.out, ← L2.out, e])

theorem right_law (w : World) (A : Option Addr) (n c : Nat) (l : List Pl.P) (hl : Ps w A n c l) (h : Pl.All l) :
    Calls Try.prog 11 #[.slice A n c] w fun r w' => r = .returned (.bool true) ∧ Ext w w' := by
  have hmax := hl.max
  have hle := hl.le
  obtain ⟨hl1, _, hr⟩ := h
  have hn : 0 < (n : Int) := by rw [hl.len] at hl1; omega
  have L := Lib.hid hl.len
  have HR := Lib.hid hr
  clear hr hl1
  go_enter Try.func11, Try.ntmps11
  go_wp2
  go_loopw [7] (fun i wr => ∃ k : Nat, k ≤ n ∧ i = .int .i64 k ∧ Ext w wr) (fun i _ => n - (intOf i).toNat)
  case atStart => exact ⟨0, by omega, rfl, Ext.refl w⟩
  case round =>
    obtain ⟨k, hk, rfl, hx⟩ := hrel
    by_cases hlt : k < n
    · obtain ⟨b1, o1, A1, n1, c1, rfl, r1, r2, i1⟩ := (hl.ext hx).rd k hlt
      have q1 : (k : Int) < n := by omega
      have hd := decide_eq_true (HR.out _ (Pl.pget_mem (l := l) (k := k) (by rw [L.out]; exact hlt)))
      have HD := Lib.hid hd
      clear hd
      go_wp2_with (fail)
      refine (right_any _ (Pl.pget l k).1 A1 n1 c1 (Pl.pget l k).2 256 (i1.ext (Ext.alloc _ _))).mono ?_
      rintro r w' ⟨rfl, hx'⟩
      rw [HD.out]
      go_wp2_with (fail)
      exact ⟨⟨k + 1, by omega, by go_num, (hx.thenAlloc _).trans hx'⟩, by simp [intOf]; omega⟩
    · have q1 : ¬ (k : Int) < n := by omega
      go_wp2
      go_ret
      exact ⟨ret_bool (show decide (0 < n) = true from decide_eq_true (by omega)), hx⟩

/-- What SmallPlaces tells. -/
def SmallSaid (l : List Pl.P) (p q : Int) (w : World) (r : Ending) (w' : World) : Prop := ∃ y : Bool, r = .returned (.bool y) ∧ (y = true → (l.length : Int) ≤ p ∧ ∀ k, k < l.length → ((Pl.pget l k).2.length : Int) ≤ q) ∧ w = w'
theorem smallPlaces_any (w : World) (A : Option Addr) (n c : Nat) (l : List Pl.P) (p q : Int) (hl : Ps w A n c l) :
    Calls Try.prog 23 #[.slice A n c, .int .i64 p, .int .i64 q] w (SmallSaid l p q w) := by
  have hmax := hl.max
  have hle := hl.le
  have L := Lib.hid hl.len
  by_cases hp : p < (n : Int)
  · go_enter Try.func23, Try.ntmps23
    go_wp2
    go_ret
    exact Exists.intro false ⟨rfl, fun h => by simp at h, rfl⟩
  · go_enter Try.func23, Try.ntmps23
    go_wp2
    go_loop [7] (fun i => ∃ k : Nat, k ≤ n ∧ i = .int .i64 k ∧ RowKit.Hid (∀ j, j < k → ((Pl.pget l j).2.length : Int) ≤ q)) (fun i => n - (intOf i).toNat)
    case atStart => exact ⟨0, by omega, rfl, Lib.hid (fun j hj => absurd hj (Nat.not_lt_zero _))⟩
    case round =>
      obtain ⟨k, hk, rfl, H⟩ := hrel
      by_cases hlt : k < n
      · obtain ⟨b1, o1, A1, n1, c1, rfl, r1, r2, i1⟩ := hl.rd k hlt
        have q1 : (k : Int) < n := by omega
        have hm1 := i1.max
        have hm2 := i1.le
        have L2 := Lib.hid i1.len
        by_cases hq : q < (n1 : Int)
        · go_wp2
          go_ret
          exact Exists.intro false ⟨rfl, fun h => by simp at h, rfl⟩
        · go_wp2
          refine ⟨⟨k + 1, by omega, by go_num, Lib.hid (fun j hj => ?_)⟩, by simp [intOf]; omega⟩
          by_cases hj' : j = k
          · rw [hj', L2.out]; omega
          · exact H.out j (by omega)
      · have q1 : ¬ (k : Int) < n := by omega
        go_wp2
        go_ret
        exact Exists.intro true ⟨rfl, fun _ => ⟨by rw [L.out]; omega, fun j hj => H.out j (by rw [L.out] at hj; omega)⟩, rfl⟩
end Go.Proofs.Ytkanlbkfbkkknaa
