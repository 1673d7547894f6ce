/- Several texts in one: The contract of find.of: the indexes of a mark, rising. The contract of slices.Equal at []int. The contract of slices.Clone at []int. -/
import Derived.Test.YtfpglkacjecoeaaGreatCt4
import Derived.Deep.CutBlock
import Derived.Deep.DeepCutAuto
import Derived.Test.YtfpglkacjecoeaaGreatCt3
namespace Go.Proofs.YtfpglkacjecoeaaGreat
open Go.RowKit

set_option maxRecDepth 100000 in
set_option maxHeartbeats 2000000 in
theorem of_any13 (w : World) (st ve ne ph : Int) (A : Option Addr) (n c : Nat) (V S : Value) (mark : Int) (l : List Int) (hu : Is w A n c l) (hn : n ≤ 1000) :
    Calls Tryz.prog 40 #[fval st ve ne ph (.slice A n c) V S, .int .i64 mark] w fun e w' => ∃ v, e = .returned v ∧ NewInts w w' v (Finds.ofL l mark) := by
  have q1 := hu.max
  have q2 := hu.le
  have L := Lib.hid hu.len
  have HU := Lib.hid hu
  go_enter Tryz.func40, Tryz.ntmps40
  try dsimp only [List.append]
  go_upto_block 0 with (fail)
  obtain ⟨W1, hW1⟩ : ∃ W1, w.alloc (.cells #[.int .i64 st, .int .i64 ve, .int .i64 ne, .int .i64 ph, .slice A n c, V, S] 25) = W1 := ⟨_, rfl⟩
  obtain ⟨W2, hW2⟩ : ∃ W2, W1.alloc (.cells #[.int .i64 mark] 3) = W2 := ⟨_, rfl⟩
  obtain ⟨W3, hW3⟩ : ∃ W3, W2.alloc (.cells #[.slice none 0 0] 22) = W3 := ⟨_, rfl⟩
  rw [hW1, hW2, hW3]
  obtain ⟨g, hg⟩ : ∃ g, w.heap.size = g := ⟨_, rfl⟩
  rw [hg]
  have x1 : Ext w W1 := by rw [← hW1]; exact Ext.alloc _ _
  have x2 : Ext w W2 := by rw [← hW2]; exact x1.thenAlloc _
  have x23 : Ext W2 W3 := by rw [← hW3]; exact Ext.alloc _ _
  have z1 : W1.heap.size = g + 1 := by rw [← hW1, ← hg]; simp
  have z2 : W2.heap.size = g + 1 + 1 := by rw [← hW2]; simp [z1]
  have z3 : W3.heap.size = g + 1 + 1 + 1 := by rw [← hW3]; simp [z2]
  have km : W2.cell? ⟨g + 1, 0, none⟩ = some (.int .i64 mark) := by rw [← hW2, ← z1, World.cell?_alloc_new]; rfl
  have hv : Lv W3 (g + 1 + 1) (g + 1 + 1 + 1) [] (.slice none 0 0) := ⟨by rw [← hW3, ← z2]; exact heap_alloc_new _ _, World.ownsRow_nil _ _ _ _, by omega⟩
  have HG := Lib.hid hg
  have X2 := Lib.hid x2
  have X23 := Lib.hid x23
  have Z2 := Lib.hid z2
  have KM := Lib.hid km
  have HV := Lib.hid hv
  have Z3 := Lib.hid z3
  clear hW1 hW2 hW3 hg x1 x2 x23 z1 z2 z3 km hv
  go_wp2_with (fail)
  go_loopw [7, 8, 13] (fun _ _ s wr => ∃ (k : Nat) (v : Value), k ≤ n ∧ s = .int .i64 (k : Int) ∧ RowKit.Hid (Lv wr (g + 1 + 1) (g + 1 + 1 + 1) (Finds.upto l mark k) v) ∧ RowKit.Hid (Ext W2 wr)) (fun _ _ s _ => n - (intOf s).toNat)
  case atStart => exact ⟨0, _, by omega, rfl, HV, X23⟩
  case round =>
    obtain ⟨k, v, hk, rfl, HL, HX⟩ := hrel
    by_cases hlt : k < n
    · have r1 : (k : Int) < n := by omega
      obtain ⟨b, o, rfl, hc⟩ := (HU.out.ext (X2.out.trans HX.out)).rd.intAt hlt
      have hsz : g + 1 + 1 + 1 ≤ wr.heap.size := by have := HL.out.size; omega
      have hpu := each_any13 wr (k : Int) (Il.get l k) mark (g + 1) (g + 1 + 1) (g + 1 + 1 + 1) (Finds.upto l mark k) v (HX.out.cell KM.out) HL.out hsz (by have := Finds.upto_length_le l mark k; omega)
      rw [← Finds.upto_succ] at hpu
      have HP := Lib.hid hpu
      clear hpu
      obtain ⟨y, hy⟩ : ∃ y, Il.get l k = y := ⟨_, rfl⟩
      rw [hy] at hc HP
      clear hy
      go_wp2_with (fail)
      refine HP.out.mono ?_
      rintro e w1 ⟨rfl, v1, hv1, hx1⟩
      have HL1 := Lib.hid hv1
      have HX1 := Lib.hid (hx1 W2 HX.out (by rw [Z2.out]; exact Nat.le_refl _))
      clear hv1 hx1
      go_wp2_with (fail)
      exact ⟨⟨k + 1, v1, by omega, by go_num, HL1, HX1⟩, by simp [intOf]; omega⟩
    · have r1 : ¬ (k : Int) < n := by omega
      obtain rfl : k = n := by omega
      have hc := HL.out.c
      go_wp2_with (fail)
      go_ret
      refine ⟨v, rfl, ?_, X2.out.trans HX.out⟩
      have h := HL.out.own
      unfold Finds.ofL
      rw [L.out]
      exact ownsRow_base h (by have := HG.out; omega)
end Go.Proofs.YtfpglkacjecoeaaGreat
namespace Go.Proofs.YtfpglkacjecoeaaGreat
open Go.RowKit

set_option maxHeartbeats 1000000 in
theorem equalInts_any (w : World) (A B : Option Addr) (n c m d : Nat) (x y : List Int) (hx : Is w A n c x) (hy : Is w B m d y) :
    Calls Tryz.prog 44 #[.slice A n c, .slice B m d] w fun e w' => e = .returned (.bool (decide (x = y))) ∧ Dr w w' := by
  have hm1 := hx.max
  have hm2 := hx.le
  have hm3 := hy.max
  have hm4 := hy.le
  have L1 := Lib.hid hx.len
  have L2 := Lib.hid hy.len
  by_cases hnm : n = m
  · subst hnm
    go_enter Tryz.func44, Tryz.ntmps44
    go_wp2
    go_loopw [5, 13] (fun _ i wr => ∃ k : Nat, k ≤ n ∧ i = .int .i64 k ∧ (∀ j, j < k → Il.get x j = Il.get y j) ∧ Dr w wr) (fun _ i _ => n - (intOf i).toNat)
    case atStart => exact ⟨0, by omega, rfl, (fun j hj => by omega), Dr.refl w⟩
    case round =>
      obtain ⟨k, hk, rfl, hno, hd⟩ := hrel
      have H := Lib.hid hno
      clear hno
      by_cases hlt : k < n
      · obtain ⟨b1, o1, rfl, hc1⟩ := (hx.ext hd.ext).rd.intAt hlt
        obtain ⟨b2, o2, rfl, hc2⟩ := (hy.ext hd.ext).rd.intAt hlt
        have i1 : (k : Int) < n := by omega
        by_cases he : Il.get x k = Il.get y k
        · have e1 : (Il.get x k != Il.get y k) = false := by rw [he]; simp
          have E := Lib.hid he
          clear he
          go_wp2
          go_quiet (fail)
          go_wp2
          refine ⟨⟨k + 1, by omega, by go_num, (fun j hj => ?_), hd.more _⟩, by simp [intOf]; omega⟩
          by_cases hj' : j = k
          · rw [hj']; exact E.out
          · exact H.out j (by omega)
        · have e1 : (Il.get x k != Il.get y k) = true := by rw [bne_iff_ne]; exact he
          have E := Lib.hid he
          clear he
          go_wp2
          go_quiet (fail)
          go_wp2
          go_ret
          refine ⟨ret_bool (show false = decide (x = y) from ?_), hd.more _⟩
          rw [eq_comm, decide_eq_false_iff_not]
          exact fun e => E.out (by rw [e])
      · have i1 : ¬ (k : Int) < n := by omega
        go_wp2
        go_ret
        refine ⟨ret_bool (show true = decide (x = y) from ?_), hd⟩
        rw [eq_comm, decide_eq_true_eq]
        exact Il.ext_get (by rw [L1.out, L2.out]) fun j hj => H.out j (by rw [L1.out] at hj; omega)
  · have e1 : ((n : Int) != (m : Int)) = true := by rw [bne_iff_ne]; omega
    have N := Lib.hid hnm
    clear hnm
    go_enter Tryz.func44, Tryz.ntmps44
    go_wp2
    go_ret
    refine ⟨ret_bool (show false = decide (x = y) from ?_), Dr.refl w⟩
    rw [eq_comm, decide_eq_false_iff_not]
    exact fun e => N.out (by rw [← L1.out, ← L2.out, e])
end Go.Proofs.YtfpglkacjecoeaaGreat
namespace Go.Proofs.YtfpglkacjecoeaaGreat
open Go.RowKit

theorem cloneInts_none (w : World) (n c : Nat) :
    Calls Tryz.prog 37 #[.slice none n c] w fun e w' => e = .returned (.slice none 0 0) ∧ w = w' := by
  have hnil := fun wx => Lib.run_eql_slice_nil (P := Tryz.prog) wx 22 3 none n c 0 0 Tryz.underlying22
  go_enter Tryz.func37, Tryz.ntmps37
  go_wp2
  go_ret
  exact ⟨rfl, rfl⟩
theorem cloneInts_some (w : World) (ad : Addr) (n c : Nat) (l : List Int) (hl : Is w (some ad) n c l) (hn : n ≤ 17592186044416) :
    Calls Tryz.prog 37 #[.slice (some ad) n c] w fun e w' => ∃ v, e = .returned v ∧ NewInts w w' v l := by
  obtain ⟨i0, hi0, hz0, hz1, hz2⟩ := info_parts int_info
  have hm := hl.max
  have hle := hl.le
  have hnil : ∀ wx, (binOp .eql 22 (.slice (some ad) n c) (.slice none 0 0)).run Tryz.prog wx = .ok (.bool false) wx := fun wx => Lib.run_eql_slice_nil (P := Tryz.prog) wx 22 3 (some ad) n c 0 0 Tryz.underlying22
  go_enter Tryz.func37, Tryz.ntmps37
  go_wp2_with (
    at_builtin
    refine wpList_append_rd _ rfl (.tmp 5) (.tmp 6) 22 rfl w.heap.size 3 i0 _ 1 8 Tryz.underlying22 hi0 hz0 hz1 hz2 rfl (by omega) (.slice (some ⟨w.heap.size, 0, none⟩) 0 0) 0 [] rfl
      (World.ownsRow_lit w #[] 0 (Nat.le_refl _) (by unfold maxLen; omega) rfl) (some ad) n c (icells l) rfl (hl.rd.ext (Ext.alloc _ _)) (icells_one l) (by omega) (by unfold maxLen; omega) (by simp) ?_
    intro v1 w1 hown hg hat)
  go_ret
  refine ⟨v1, rfl, ?_, ?_⟩
  · rw [hl.len]; simpa using hown
  · exact (Ext.alloc w _).ofGrown hg (by simp [Value.ownBlock])
theorem cloneInts_any (w : World) (A : Option Addr) (n c : Nat) (l : List Int) (hl : Is w A n c l) (hn : n ≤ 17592186044416) :
    Calls Tryz.prog 37 #[.slice A n c] w fun e w' => ∃ v, e = .returned v ∧ NewInts w w' v l := by
  rcases A with _ | ad
  · refine (cloneInts_none w n c).mono ?_
    rintro e w' ⟨rfl, rfl⟩
    have h0 := hl.nil_of_none
    subst h0
    exact ⟨_, rfl, World.ownsRow_nil _ _ _ _, Ext.refl w⟩
  · exact cloneInts_some w ad n c l hl hn
end Go.Proofs.YtfpglkacjecoeaaGreat
