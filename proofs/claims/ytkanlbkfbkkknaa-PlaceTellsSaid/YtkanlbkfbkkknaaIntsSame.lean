/- The contract of SameInts. -/
import Derived.Test.YtkanlbkfbkkknaaInts
namespace Go.Proofs.Ytkanlbkfbkkknaa
open Go.RowKit

set_option maxHeartbeats 1000000 in
theorem sameInts_any (w : World) (A B : Option Addr) (n c m d : Nat) (x y : List Int) (hx : Is w A n c x) (hy : Is w B m d y) :
    Calls Try.prog 19 #[.slice A n c, .slice B m d] w fun e w' => e = .returned (.bool (decide (x = y))) ∧ Dr w w' := by
  have hm1 := hx.max
  have hm2 := hx.le
  have hm3 := hy.max
  have hm4 := hy.le
  have L1 := Lib.hid hx.len
  have L2 := Lib.hid hy.len
  by_cases hnm : n = m
  · subst hnm
    go_enter Try.func19, Try.ntmps19
    go_wp2
    go_loopw [5] (fun i wr => ∃ k : Nat, k ≤ n ∧ i = .int .i64 k ∧ (∀ j, j < k → Il.get x j = Il.get y j) ∧ Dr w wr) (fun i _ => n - (intOf i).toNat)
    case atStart => exact ⟨0, by omega, rfl, (fun j hj => by omega), Dr.refl w⟩
    case round =>
      obtain ⟨k, hk, rfl, hno, hd⟩ := hrel
      have H := Lib.hid hno
      clear hno
      by_cases hlt : k < n
      · obtain ⟨b1, o1, rfl, hc1⟩ := (hx.ext hd.ext).rd.intAt hlt
        obtain ⟨b2, o2, rfl, hc2⟩ := (hy.ext hd.ext).rd.intAt hlt
        have i1 : (k : Int) < n := by omega
        by_cases he : Il.get x k = Il.get y k
        · have e1 : (Il.get x k != Il.get y k) = false := by rw [he]; simp
          have E := Lib.hid he
          clear he
          go_wp2
          go_quiet (fail)
          go_wp2
          refine ⟨⟨k + 1, by omega, by go_num, (fun j hj => ?_), hd.more _⟩, by simp [intOf]; omega⟩
          by_cases hj' : j = k
          · rw [hj']; exact E.out
          · exact H.out j (by omega)
        · have e1 : (Il.get x k != Il.get y k) = true := by rw [bne_iff_ne]; exact he
          have E := Lib.hid he
          clear he
          go_wp2
          go_quiet (fail)
          go_wp2
          go_ret
          refine ⟨ret_bool (show false = decide (x = y) from ?_), hd.more _⟩
          rw [eq_comm, decide_eq_false_iff_not]
          exact fun e => E.out (by rw [e])
      · have i1 : ¬ (k : Int) < n := by omega
        go_wp2
        go_ret
        refine ⟨ret_bool (show true = decide (x = y) from ?_), hd⟩
        rw [eq_comm, decide_eq_true_eq]
        exact Il.ext_get (by rw [L1.out, L2.out]) fun j hj => H.out j (by rw [L1.out] at hj; omega)
  · have e1 : ((n : Int) != (m : Int)) = true := by rw [bne_iff_ne]; omega
    have N := Lib.hid hnm
    clear hnm
    go_enter Try.func19, Try.ntmps19
    go_wp2
    go_ret
    refine ⟨ret_bool (show false = decide (x = y) from ?_), Dr.refl w⟩
    rw [eq_comm, decide_eq_false_iff_not]
    exact fun e => N.out (by rw [← L1.out, ← L2.out, e])
end Go.Proofs.Ytkanlbkfbkkknaa
