/- The contracts of SameRound, SameWants and Pick. -/
import Derived.Test.YtgfhpgomlocllaaRoundWants
import Derived.Test.YtgfhpgomlocllaaRoundBox
import Derived.Test.YtgfhpgomlocllaaIntsSame
import Derived.Laws.StructEq
namespace Go.Proofs.Ytgfhpgomlocllaa
open Go.RowKit

set_option maxRecDepth 100000 in
set_option maxHeartbeats 2000000 in
theorem sameRound_any (w : World) (q r : Rounds.R) (A B : Option Addr) (n c m e : Nat) (hq : Is w A n c q.marks) (hr : Is w B m e r.marks) :
    Calls Try.prog 21 #[rval q A n c, rval r B m e] w fun x w' => x = .returned (.bool (decide (q = r))) ∧ Ext w w' := by
  obtain ⟨s, v, d, p, l⟩ := q
  obtain ⟨s', v', d', p', l'⟩ := r
  show Calls Try.prog 21 #[.agg #[.int .i64 s, .int .i64 v, .int .i64 d, .int .i64 p, .slice A n c], .agg #[.int .i64 s', .int .i64 v', .int .i64 d', .int .i64 p', .slice B m e]] w _
  have hq' : Is w A n c l := hq
  have hr' : Is w B m e l' := hr
  have x0 : Ext w ((w.alloc (.cells #[.int .i64 s, .int .i64 v, .int .i64 d, .int .i64 p, .slice A n c] 25)).alloc (.cells #[.int .i64 s', .int .i64 v', .int .i64 d', .int .i64 p', .slice B m e] 25)) := (Ext.alloc _ _).thenAlloc _
  have hs := sameInts_any _ A B n c m e l l' (hq'.ext x0) (hr'.ext x0)
  have HS := Lib.hid hs
  have hd : decide ((⟨s, v, d, p, l⟩ : Rounds.R) = ⟨s', v', d', p', l'⟩) = (s == s' && (v == v' && (d == d' && (p == p' && decide (l = l'))))) := by
    rw [Bool.eq_iff_iff]
    simp
  rw [hd]
  have X0 := Lib.hid x0
  clear hd hs hq hr x0
  by_cases h1 : s = s'
  · subst h1
    by_cases h2 : v = v'
    · subst h2
      by_cases h3 : d = d'
      · subst h3
        by_cases h4 : p = p'
        · subst h4
          have e1 : (s == s) = true := by simp
          have e2 : (v == v) = true := by simp
          have e3 : (d == d) = true := by simp
          have e4 : (p == p) = true := by simp
          rw [e1, e2, e3, e4, Bool.true_and, Bool.true_and, Bool.true_and, Bool.true_and]
          go_enter Try.func21, Try.ntmps21
          go_wp2_with (fail)
          refine HS.out.mono ?_
          rintro x w1 ⟨rfl, hd⟩
          go_wp2_with (fail)
          go_ret
          exact ⟨rfl, X0.out.trans (Dr.ext hd)⟩
        · have e4 : (p == p') = false := by rw [beq_eq_false_iff_ne]; exact h4
          rw [e4, Bool.false_and, Bool.and_false, Bool.and_false, Bool.and_false]
          clear h4
          go_enter Try.func21, Try.ntmps21
          go_wp2_with (fail)
          go_ret
          exact ⟨rfl, X0.out⟩
      · have e3 : (d == d') = false := by rw [beq_eq_false_iff_ne]; exact h3
        rw [e3, Bool.false_and, Bool.and_false, Bool.and_false]
        clear h3
        go_enter Try.func21, Try.ntmps21
        go_wp2_with (fail)
        go_ret
        exact ⟨rfl, X0.out⟩
    · have e2 : (v == v') = false := by rw [beq_eq_false_iff_ne]; exact h2
      rw [e2, Bool.false_and, Bool.and_false]
      clear h2
      go_enter Try.func21, Try.ntmps21
      go_wp2_with (fail)
      go_ret
      exact ⟨rfl, X0.out⟩
  · have e1 : (s == s') = false := by rw [beq_eq_false_iff_ne]; exact h1
    rw [e1, Bool.false_and]
    clear h1
    go_enter Try.func21, Try.ntmps21
    go_wp2_with (fail)
    go_ret
    exact ⟨rfl, X0.out⟩

theorem neq_want (w : World) (a b c d : Int) : (binOp .neq 62 (.agg #[.int .i64 a, .int .u8 b]) (.agg #[.int .i64 c, .int .u8 d])).run Try.prog w = .ok (.bool (!(a == c && b == d))) w := by
  have u3 := Try.underlying3
  have u4 := Try.underlying32
  have hS : Try.prog.underlying 62 = some (.struct (Try.prog.fieldsOf 62)) := by kernel_rfl
  have hp : Try.prog.stoodInHeld 62 = false := by kernel_rfl
  rw [run_neq_struct, show (10000 : Nat) = 9999 + 1 from rfl, run_equalIn_agg w 9999 62 _ _ hS hp]
  simp only [Program.fieldsOf, Try.underlying62]
  go_simp
  by_cases h1 : a = c <;> by_cases h2 : b = d <;> simp [h1, h2]
theorem wget_ext {l m : List (Int × Int)} (hl : l.length = m.length) (h : ∀ k, k < l.length → wget l k = wget m k) : l = m := by
  apply List.ext_getElem hl
  intro i h1 h2
  have := h i h1
  simpa [wget, h1, h2] using this

set_option maxHeartbeats 2000000 in
theorem sameWants_any (w : World) (A B : Option Addr) (n c m d : Nat) (x y : List (Int × Int)) (hx : Ws w A n c x) (hy : Ws w B m d y) :
    Calls Try.prog 31 #[.slice A n c, .slice B m d] w fun e w' => e = .returned (.bool (decide (x = y))) ∧ Dr w w' := by
  have hm1 := hx.max
  have hm2 := hx.le
  have hm3 := hy.max
  have hm4 := hy.le
  have L1 := Lib.hid hx.len
  have L2 := Lib.hid hy.len
  by_cases hnm : n = m
  · subst hnm
    go_enter Try.func31, Try.ntmps31
    go_wp2
    go_loopw [5] (fun i wr => ∃ k : Nat, k ≤ n ∧ i = .int .i64 k ∧ RowKit.Hid (∀ j, j < k → wget x j = wget y j) ∧ Dr w wr) (fun i _ => n - (intOf i).toNat)
    case atStart => exact ⟨0, by omega, rfl, Lib.hid (fun j hj => absurd hj (Nat.not_lt_zero _)), Dr.refl w⟩
    case round =>
      obtain ⟨k, hk, rfl, H, hd⟩ := hrel
      by_cases hlt : k < n
      · obtain ⟨b1, o1, rfl, r1, r2⟩ := (hx.ext hd.ext).at_ hlt
        obtain ⟨b2, o2, rfl, s1, s2⟩ := (hy.ext hd.ext).at_ hlt
        have q1 : (k : Int) < n := by omega
        have hbad : wget x k ≠ wget y k → false = decide (x = y) := fun h => by
          rw [eq_comm, decide_eq_false_iff_not]
          exact fun e => h (by rw [e])
        have HB := Lib.hid hbad
        clear hbad
        generalize hex : wget x k = ex at *
        generalize hey : wget y k = ey at *
        obtain ⟨i1, p1⟩ := ex
        obtain ⟨i2, p2⟩ := ey
        have EX := Lib.hid hex
        have EY := Lib.hid hey
        clear hex hey
        simp only at r1 r2 s1 s2
        have hg : Try.prog.eqGuardType Try.prog.depth 62 = false := by kernel_rfl
        by_cases hee : (i1, p1) = (i2, p2)
        · have hq := fun wx => neq_want wx i1 p1 i2 p2
          have e1 : (!(i1 == i2 && p1 == p2)) = false := by injection hee with h1 h2; rw [h1, h2]; simp
          rw [e1] at hq
          have E := Lib.hid hee
          clear hee e1
          go_wp2
          go_quiet (fail)
          go_wp2
          refine ⟨⟨k + 1, by omega, by go_num, Lib.hid (fun j hj => ?_), hd.more _⟩, by simp [intOf]; omega⟩
          by_cases hj' : j = k
          · rw [hj', EX.out, EY.out]; exact E.out
          · exact H.out j (by omega)
        · have hq := fun wx => neq_want wx i1 p1 i2 p2
          have e1 : (!(i1 == i2 && p1 == p2)) = true := by
            rw [Bool.not_eq_true', Bool.and_eq_false_iff, beq_eq_false_iff_ne, beq_eq_false_iff_ne]
            by_cases h1 : i1 = i2
            · exact .inr fun h2 => hee (by rw [h1, h2])
            · exact .inl h1
          rw [e1] at hq
          have E := Lib.hid hee
          clear hee e1
          go_wp2
          go_quiet (fail)
          go_wp2
          go_ret
          exact ⟨ret_bool (HB.out E.out), hd.more _⟩
      · have q1 : ¬ (k : Int) < n := by omega
        go_wp2
        go_ret
        refine ⟨ret_bool (show true = decide (x = y) from ?_), hd⟩
        rw [eq_comm, decide_eq_true_eq]
        exact wget_ext (by rw [L1.out, L2.out]) fun j hj => H.out j (by rw [L1.out] at hj; omega)
  · have e1 : ((n : Int) != (m : Int)) = true := by rw [bne_iff_ne]; omega
    have N := Lib.hid hnm
    clear hnm
    go_enter Try.func31, Try.ntmps31
    go_wp2
    go_ret
    refine ⟨ret_bool (show false = decide (x = y) from ?_), Dr.refl w⟩
    rw [eq_comm, decide_eq_false_iff_not]
    exact fun e => N.out (by rw [← L1.out, ← L2.out, e])
end Go.Proofs.Ytgfhpgomlocllaa
