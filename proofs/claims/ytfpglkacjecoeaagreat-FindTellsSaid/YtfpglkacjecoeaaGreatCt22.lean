/- Several texts in one: The contract of SameWants. The contract of SameLists. The contract of SameInts. -/
import Derived.Test.YtfpglkacjecoeaaGreatCt10
import Derived.Laws.StructEq
import Derived.Test.YtfpglkacjecoeaaGreatCt15
import Derived.Deep.DrawnRows
import Derived.Test.YtfpglkacjecoeaaGreatCt3
namespace Go.Proofs.YtfpglkacjecoeaaGreat
open Go.RowKit

theorem neq_want (w : World) (a b c d : Int) : (binOp .neq 63 (.agg #[.int .i64 a, .int .u8 b]) (.agg #[.int .i64 c, .int .u8 d])).run Tryz.prog w = .ok (.bool (!(a == c && b == d))) w := by
  have u3 := Tryz.underlying3
  have u4 := Tryz.underlying61
  have hS : Tryz.prog.underlying 63 = some (.struct (Tryz.prog.fieldsOf 63)) := by kernel_rfl
  have hp : Tryz.prog.stoodInHeld 63 = false := by kernel_rfl
  rw [run_neq_struct, show (10000 : Nat) = 9999 + 1 from rfl, run_equalIn_agg w 9999 63 _ _ hS hp]
  simp only [Program.fieldsOf, Tryz.underlying63]
  go_simp
  by_cases h1 : a = c <;> by_cases h2 : b = d <;> simp [h1, h2]
theorem wget_ext {l m : List (Int × Int)} (hl : l.length = m.length) (h : ∀ k, k < l.length → wget l k = wget m k) : l = m := by
  apply List.ext_getElem hl
  intro i h1 h2
  have := h i h1
  simpa [wget, h1, h2] using this

set_option maxRecDepth 100000 in
set_option maxHeartbeats 2000000 in
theorem sameWants_any (w : World) (A B : Option Addr) (n c m d : Nat) (x y : List (Int × Int)) (hx : Ws w A n c x) (hy : Ws w B m d y) :
    Calls Tryz.prog 20 #[.slice A n c, .slice B m d] w fun e w' => e = .returned (.bool (decide (x = y))) ∧ Dr w w' := by
  have hm1 := hx.max
  have hm2 := hx.le
  have hm3 := hy.max
  have hm4 := hy.le
  have L1 := Lib.hid hx.len
  have L2 := Lib.hid hy.len
  by_cases hnm : n = m
  · subst hnm
    go_enter Tryz.func20, Tryz.ntmps20
    go_wp2
    go_loopw [5] (fun i wr => ∃ k : Nat, k ≤ n ∧ i = .int .i64 k ∧ RowKit.Hid (∀ j, j < k → wget x j = wget y j) ∧ Dr w wr) (fun i _ => n - (intOf i).toNat)
    case atStart => exact ⟨0, by omega, rfl, Lib.hid (fun j hj => absurd hj (Nat.not_lt_zero _)), Dr.refl w⟩
    case round =>
      obtain ⟨k, hk, rfl, H, hd⟩ := hrel
      by_cases hlt : k < n
      · obtain ⟨b1, o1, rfl, r1, r2⟩ := (hx.ext hd.ext).at_ hlt
        obtain ⟨b2, o2, rfl, s1, s2⟩ := (hy.ext hd.ext).at_ hlt
        have q1 : (k : Int) < n := by omega
        have hbad : wget x k ≠ wget y k → false = decide (x = y) := fun h => by
          rw [eq_comm, decide_eq_false_iff_not]
          exact fun e => h (by rw [e])
        have HB := Lib.hid hbad
        clear hbad
        generalize hex : wget x k = ex at *
        generalize hey : wget y k = ey at *
        obtain ⟨i1, p1⟩ := ex
        obtain ⟨i2, p2⟩ := ey
        have EX := Lib.hid hex
        have EY := Lib.hid hey
        clear hex hey
        simp only at r1 r2 s1 s2
        have hg : Tryz.prog.eqGuardType Tryz.prog.depth 63 = false := by kernel_rfl
        by_cases hee : (i1, p1) = (i2, p2)
        · have hq := fun wx => neq_want wx i1 p1 i2 p2
          have e1 : (!(i1 == i2 && p1 == p2)) = false := by injection hee with h1 h2; rw [h1, h2]; simp
          rw [e1] at hq
          have E := Lib.hid hee
          clear hee e1
          go_wp2
          go_quiet (fail)
          go_wp2
          refine ⟨⟨k + 1, by omega, by go_num, Lib.hid (fun j hj => ?_), hd.more _⟩, by simp [intOf]; omega⟩
          by_cases hj' : j = k
          · rw [hj', EX.out, EY.out]; exact E.out
          · exact H.out j (by omega)
        · have hq := fun wx => neq_want wx i1 p1 i2 p2
          have e1 : (!(i1 == i2 && p1 == p2)) = true := by
            rw [Bool.not_eq_true', Bool.and_eq_false_iff, beq_eq_false_iff_ne, beq_eq_false_iff_ne]
            by_cases h1 : i1 = i2
            · exact .inr fun h2 => hee (by rw [h1, h2])
            · exact .inl h1
          rw [e1] at hq
          have E := Lib.hid hee
          clear hee e1
          go_wp2
          go_quiet (fail)
          go_wp2
          go_ret
          exact ⟨ret_bool (HB.out E.out), hd.more _⟩
      · have q1 : ¬ (k : Int) < n := by omega
        go_wp2
        go_ret
        refine ⟨ret_bool (show true = decide (x = y) from ?_), hd⟩
        rw [eq_comm, decide_eq_true_eq]
        exact wget_ext (by rw [L1.out, L2.out]) fun j hj => H.out j (by rw [L1.out] at hj; omega)
  · have e1 : ((n : Int) != (m : Int)) = true := by rw [bne_iff_ne]; omega
    have N := Lib.hid hnm
    clear hnm
    go_enter Tryz.func20, Tryz.ntmps20
    go_wp2
    go_ret
    refine ⟨ret_bool (show false = decide (x = y) from ?_), Dr.refl w⟩
    rw [eq_comm, decide_eq_false_iff_not]
    exact fun e => N.out (by rw [← L1.out, ← L2.out, e])
end Go.Proofs.YtfpglkacjecoeaaGreat
namespace Go.Proofs.YtfpglkacjecoeaaGreat
open Go.RowKit
attribute [local go_sem ↓] Go.wp_at_zero Go.wp_at_succ

set_option maxRecDepth 100000 in
set_option maxHeartbeats 2000000 in
theorem sameLists_any (w : World) (A A' : Option Addr) (n c m c' : Nat) (a b : Gm.L) (ha : Mx w A n c a) (hb : Mx w A' m c' b) :
    Calls Tryz.prog 28 #[.slice A n c, .slice A' m c'] w fun e w' => e = .returned (.bool (decide (a = b))) ∧ Ext w w' := by
  have hm1 := ha.max
  have hm2 := ha.le
  have hm3 := hb.max
  have hm4 := hb.le
  have LA := Lib.hid ha.len
  have LB := Lib.hid hb.len
  by_cases hnm : n = m
  · subst hnm
    have e0 : ((n : Int) != (n : Int)) = false := by rw [bne_eq_false_iff_eq]
    go_enter Tryz.func28, Tryz.ntmps28
    go_wp2_with (fail)
    go_loopw [5] (fun s wr => ∃ k : Nat, k ≤ n ∧ s = .int .i64 k ∧ Ext w wr ∧ RowKit.Hid (∀ i, i < k → Gm.row a i = Gm.row b i)) (fun s _ => n - (intOf s).toNat)
    case atStart => exact ⟨0, Nat.zero_le _, rfl, Ext.refl w, Lib.hid fun j hj => absurd hj (Nat.not_lt_zero _)⟩
    case round =>
      obtain ⟨k, hk, rfl, hx, H⟩ := hrel
      by_cases hlt : k < n
      · have i1 : (k : Int) < n := by omega
        obtain ⟨b1, o1, A1, n1, c1, rfl, hc1, hr1⟩ := (ha.ext hx).at_ hlt
        obtain ⟨b2, o2, A2, n2, c2, rfl, hc2, hr2⟩ := (hb.ext hx).at_ hlt
        have hcall := sameBytes_any wr.drew A1 A2 n1 c1 n2 c2 (Gm.row a k) (Gm.row b k) (hr1.ext (Ext.drew _)) (hr2.ext (Ext.drew _))
        have HC := Lib.hid hcall
        have hS : wr.drew.cell? ⟨b1, o1 + k, none⟩ = some (.slice A1 n1 c1) ∧ wr.drew.cell? ⟨b2, o2 + k, none⟩ = some (.slice A2 n2 c2) := ⟨(Ext.drew wr).cell hc1, (Ext.drew wr).cell hc2⟩
        have HX := Lib.hid (hx.thenDrew)
        clear hcall hr1 hr2 ha hb hx
        by_cases e : Gm.row a k = Gm.row b k
        · have hv : (Gm.row a k == Gm.row b k) = true := by rw [beq_iff_eq]; exact e
          rw [hv] at HC
          have HE := Lib.hid e
          clear e hv
          go_wp2_with (fail)
          go_region_held3 (fun W => W.cell? ⟨b1, o1 + k, none⟩ = some (.slice A1 n1 c1) ∧ W.cell? ⟨b2, o2 + k, none⟩ = some (.slice A2 n2 c2)) (exact hS) (((with_reducible refine HC.out.mono ?_); (rintro e w4 ⟨rfl, rfl⟩)))
          all_goals
            go_wp2_with (fail)
            refine ⟨⟨k + 1, by omega, by go_num, HX.out, Lib.hid fun i hi => ?_⟩, by simp [intOf]; omega⟩
            by_cases e2 : i = k
            · rw [e2]; exact HE.out
            · exact H.out i (by omega)
        · have hv : (Gm.row a k == Gm.row b k) = false := by rw [beq_eq_false_iff_ne]; exact e
          rw [hv] at HC
          have HE := Lib.hid e
          clear e hv
          go_wp2_with (fail)
          go_region_held3 (fun W => W.cell? ⟨b1, o1 + k, none⟩ = some (.slice A1 n1 c1) ∧ W.cell? ⟨b2, o2 + k, none⟩ = some (.slice A2 n2 c2)) (exact hS) (((with_reducible refine HC.out.mono ?_); (rintro e w4 ⟨rfl, rfl⟩)))
          all_goals
            go_wp2_with (fail)
            go_ret
            exact ⟨ret_bool (decide_eq_false (fun h => HE.out (by rw [h]))).symm, HX.out⟩
      · have i1 : ¬ (k : Int) < n := by omega
        have hkn : k = n := by omega
        rw [hkn] at H
        go_wp2_with (fail)
        go_ret
        exact ⟨ret_bool (decide_eq_true (Gm.rows_ext (by rw [LA.out, LB.out]) (fun i hi => H.out i (by have := LA.out; omega)))).symm, hx⟩
  · have e0 : ((n : Int) != (m : Int)) = true := by rw [bne_iff_ne]; omega
    go_enter Tryz.func28, Tryz.ntmps28
    go_wp2_with (fail)
    go_ret
    exact ⟨ret_bool (decide_eq_false (fun h => hnm (by have := LA.out; have := LB.out; rw [h] at *; omega))).symm, Ext.refl w⟩
end Go.Proofs.YtfpglkacjecoeaaGreat
namespace Go.Proofs.YtfpglkacjecoeaaGreat
open Go.RowKit

set_option maxHeartbeats 1000000 in
theorem sameInts_any (w : World) (A B : Option Addr) (n c m d : Nat) (x y : List Int) (hx : Is w A n c x) (hy : Is w B m d y) :
    Calls Tryz.prog 23 #[.slice A n c, .slice B m d] w fun e w' => e = .returned (.bool (decide (x = y))) ∧ Dr w w' := by
  have hm1 := hx.max
  have hm2 := hx.le
  have hm3 := hy.max
  have hm4 := hy.le
  have L1 := Lib.hid hx.len
  have L2 := Lib.hid hy.len
  by_cases hnm : n = m
  · subst hnm
    go_enter Tryz.func23, Tryz.ntmps23
    go_wp2
    go_loopw [5] (fun i wr => ∃ k : Nat, k ≤ n ∧ i = .int .i64 k ∧ (∀ j, j < k → Il.get x j = Il.get y j) ∧ Dr w wr) (fun i _ => n - (intOf i).toNat)
    case atStart => exact ⟨0, by omega, rfl, (fun j hj => by omega), Dr.refl w⟩
    case round =>
      obtain ⟨k, hk, rfl, hno, hd⟩ := hrel
      have H := Lib.hid hno
      clear hno
      by_cases hlt : k < n
      · obtain ⟨b1, o1, rfl, hc1⟩ := (hx.ext hd.ext).rd.intAt hlt
        obtain ⟨b2, o2, rfl, hc2⟩ := (hy.ext hd.ext).rd.intAt hlt
        have i1 : (k : Int) < n := by omega
        by_cases he : Il.get x k = Il.get y k
        · have e1 : (Il.get x k != Il.get y k) = false := by rw [he]; simp
          have E := Lib.hid he
          clear he
          go_wp2
          go_quiet (fail)
          go_wp2
          refine ⟨⟨k + 1, by omega, by go_num, (fun j hj => ?_), hd.more _⟩, by simp [intOf]; omega⟩
          by_cases hj' : j = k
          · rw [hj']; exact E.out
          · exact H.out j (by omega)
        · have e1 : (Il.get x k != Il.get y k) = true := by rw [bne_iff_ne]; exact he
          have E := Lib.hid he
          clear he
          go_wp2
          go_quiet (fail)
          go_wp2
          go_ret
          refine ⟨ret_bool (show false = decide (x = y) from ?_), hd.more _⟩
          rw [eq_comm, decide_eq_false_iff_not]
          exact fun e => E.out (by rw [e])
      · have i1 : ¬ (k : Int) < n := by omega
        go_wp2
        go_ret
        refine ⟨ret_bool (show true = decide (x = y) from ?_), hd⟩
        rw [eq_comm, decide_eq_true_eq]
        exact Il.ext_get (by rw [L1.out, L2.out]) fun j hj => H.out j (by rw [L1.out] at hj; omega)
  · have e1 : ((n : Int) != (m : Int)) = true := by rw [bne_iff_ne]; omega
    have N := Lib.hid hnm
    clear hnm
    go_enter Tryz.func23, Tryz.ntmps23
    go_wp2
    go_ret
    refine ⟨ret_bool (show false = decide (x = y) from ?_), Dr.refl w⟩
    rw [eq_comm, decide_eq_false_iff_not]
    exact fun e => N.out (by rw [← L1.out, ← L2.out, e])
end Go.Proofs.YtfpglkacjecoeaaGreat
