/- The contract of matrix.Rank. -/
import Derived.Test.YtiianhlppkocgaaMatFresh
namespace Go.Proofs.Ytiianhlppkocgaa
open Go.RowKit

set_option maxRecDepth 100000 in
set_option maxHeartbeats 2000000 in
theorem rank_any3 (fb : Nat) (w : World) (A : Option Addr) (n ca : Nat) (a : Gm.L) (hf : FieldAt w fb) (ha : Mx w A n ca a) :
    Calls Try.prog 17 #[.pointer (some ⟨fb, 0, none⟩), .slice A n ca] w fun e w' => e = .returned (.int .i64 ((if Gm.right a then Gm.rank a else 0 : Nat) : Int)) ∧ Ext w w' := by
  have hRa := matRight_any w A n ca a ha
  have HN := Lib.hid (none_any fb w hf)
  have hl1 := ha.max
  have hl2 := ha.le
  by_cases ra : Gm.right a
  · rw [if_pos ra]
    rw [decide_eq_true ra] at hRa
    have HRA := Lib.hid hRa
    have hna := ha.len
    have hn1 : 1 ≤ n ∧ n ≤ 255 := by have := ra.1; have := ra.2.1; omega
    have RC := Lib.hid (right_rect ra hna)
    have hcc : 1 ≤ Gm.cols a ∧ Gm.cols a ≤ 255 := ⟨ra.2.2.1, ra.2.2.2.1⟩
    have hfb : fb < w.heap.size := World.block_lt_of_cell? _ _ hf.made
    have hrk : (Gm.elimTo a (List.replicate n (zeros 1)) (Gm.cols a)).2.2 = Gm.rank a := Gm.rank_of _
    generalize Gm.cols a = c at *
    have HRK := Lib.hid hrk
    have HNA := Lib.hid hna
    clear ra hRa hrk hna
    go_enter Try.func17, Try.ntmps17
    try dsimp only [List.append]
    go_wp2_with (fail)
    refine HN.out.mono ?_
    rintro e w' ⟨rfl, rfl⟩
    go_wp2_with (fail)
    refine HRA.out.mono ?_
    rintro e w1 ⟨rfl, x1⟩
    go_wp2_with (fail)
    refine (own_any w1 A n ca a (ha.ext x1) (by omega) (fun i hi => by rw [RC.out.wid i hi]; omega)).mono ?_
    rintro e w2 ⟨v, cs, rfl, hQ, x2⟩
    rw [HNA.out] at hQ
    obtain ⟨G, cg, rfl, hc1, hc2⟩ := ownsRow_slice hQ.own
    obtain ⟨g, rfl, hg1, hg2⟩ := own_addr hQ.own (by omega)
    have HQ := Lib.hid hQ
    clear hQ
    go_wp2_with (fail)
    refine (blank_any w2 n 1 (by omega) (by omega)).mono ?_
    rintro e w3 ⟨v3, cs3, rfl, hQ3, x3⟩
    rw [List.length_replicate] at hQ3
    obtain ⟨G3, cg3, rfl, hd1, hd2⟩ := ownsRow_slice hQ3.own
    obtain ⟨g3, rfl, hh1, hh2⟩ := own_addr hQ3.own (by omega)
    obtain ⟨o1, o2, o3, o4⟩ := both_fresh (P := Two12 g g3) HQ.out x3 x2.size hQ3 (fun b => Iff.rfl)
    have hcl := cleared_any fb w3 w1.heap.size g g3 cg cg3 n c 1 cs cs3 a _ o3 o4 (by omega) (hf.ext ((x1.trans x2).trans x3)) (by have := x1.size; omega) (by have := x2.size; have := x3.size; omega) (by omega) (by omega) RC.out (zeros_rect n 1) (by omega) (by omega)
    rw [HRK.out] at hcl
    have HCL := Lib.hid hcl
    clear hcl o3 o4 hQ3 HQ
    go_wp2_with (fail)
    refine HCL.out.mono ?_
    rintro e w4 ⟨rfl, _, hb4⟩
    go_wp2_with (fail)
    go_ret
    refine ⟨rfl, ?_⟩
    have h5 : Ext w1 w4 := Below.trans (x2.trans x3) hb4
    exact x1.trans h5
  · rw [if_neg ra]
    rw [decide_eq_false ra] at hRa
    have HRA := Lib.hid hRa
    clear ra hRa
    go_enter Try.func17, Try.ntmps17
    try dsimp only [List.append]
    go_wp2_with (fail)
    refine HN.out.mono ?_
    rintro e w' ⟨rfl, rfl⟩
    go_wp2_with (fail)
    refine HRA.out.mono ?_
    rintro e w1 ⟨rfl, x1⟩
    go_wp2_with (fail)
    go_ret
    exact ⟨rfl, x1⟩
end Go.Proofs.Ytiianhlppkocgaa
