/- The contracts of the document's own Dot and Lay. -/
import Derived.Test.YtegjkcolilkfpaaRef2
import Derived.Test.YtegjkcolilkfpaaFieldLists
namespace Go.Proofs.Ytegjkcolilkfpaa
open Go.RowKit

set_option maxRecDepth 100000 in
set_option maxHeartbeats 1000000 in
theorem refDot_any (w : World) (A A' : Option Addr) (n c m c' : Nat) (x y : List UInt8) (hx : Bs w A n c x) (hy : Bs w A' m c' y) :
    Calls Try.prog 25 #[.slice A n c, .slice A' m c'] w fun e w' => e = .returned (.int .u8 ((Gf.dot x y).toNat : Int)) ∧ Dr w w' := by
  have hm1 := hx.max
  have hm2 := hx.le
  have hm3 := hy.max
  have hm4 := hy.le
  have L1 := Lib.hid hx.len
  have L2 := Lib.hid hy.len
  go_enter Try.func25, Try.ntmps25
  go_wp2
  go_loopw [5, 6] (fun s i wr => ∃ k : Nat, k ≤ n ∧ k ≤ m ∧ i = .int .i64 k ∧ s = .int .u8 ((Gf.dotTo x y k).toNat : Int) ∧ Dr w wr) (fun _ i _ => n - (intOf i).toNat)
  case atStart => exact ⟨0, by omega, by omega, rfl, rfl, Dr.refl w⟩
  case round =>
    obtain ⟨k, hk1, hk2, rfl, rfl, hd⟩ := hrel
    by_cases hlt1 : k < n
    · by_cases hlt2 : k < m
      · obtain ⟨b1, o1, rfl, hc1⟩ := (hx.ext hd.ext).rd.byte hlt1
        obtain ⟨b2, o2, rfl, hc2⟩ := (hy.ext hd.ext).rd.byte hlt2
        have i1 : (k : Int) < n := by omega
        have i2 : (k : Int) < m := by omega
        go_wp2
        go_quiet ((go_at_call 12; exact Calls.quiet_of_same ((refMul_any _ (Gf.get x k) (Gf.get y k)).mono fun _ _ h => ⟨h.1, h.2.symm⟩)))
        go_wp2
        refine ⟨⟨k + 1, by omega, by omega, by go_num, ?_, hd.more _⟩, by simp [intOf]; omega⟩
        rw [Gf.dotTo, xor_u8]
      · have i1 : (k : Int) < n := by omega
        have i2 : ¬ (k : Int) < m := by omega
        go_wp2
        go_ret
        exact ⟨ret_int (show ((Gf.dotTo x y k).toNat : Int) = ((Gf.dot x y).toNat : Int) by rw [Gf.dot, show min x.length y.length = k by rw [L1.out, L2.out]; omega]), hd⟩
    · have i1 : ¬ (k : Int) < n := by omega
      go_wp2
      go_ret
      exact ⟨ret_int (show ((Gf.dotTo x y k).toNat : Int) = ((Gf.dot x y).toNat : Int) by rw [Gf.dot, show min x.length y.length = k by rw [L1.out, L2.out]; omega]), hd⟩

set_option maxRecDepth 100000 in
set_option maxHeartbeats 1000000 in
theorem refLay_any (w : World) (A A' : Option Addr) (n c m c' : Nat) (out x : List UInt8) (f : UInt8) (ho : Bs w A n c out) (hx : Bs w A' m c' x) (hn : n ≤ 140737488351232) :
    Calls Try.prog 27 #[.slice A n c, .int .u8 (f.toNat : Int), .slice A' m c'] w fun e w' => ∃ v, e = .returned v ∧ NewBytes w w' v (Gf.lay out f x) := by
  obtain ⟨i0, hi0, hz0, hz1, hz2⟩ := info_parts u8_info
  have hm1 := ho.max
  have hm2 := ho.le
  have hm3 := hx.max
  have hm4 := hx.le
  have L1 := Lib.hid ho.len
  have L2 := Lib.hid hx.len
  go_enter Try.func27, Try.ntmps27
  go_wp2
  go_loopw [7, 8] (fun v i wr => ∃ k : Nat, k ≤ n ∧ i = .int .i64 k ∧ wr.ownsRow w.heap.size 5 1 v k (bcells (Gf.layPre out f x k)) ∧ Ext w wr) (fun _ i _ => n - (intOf i).toNat)
  case atStart => exact ⟨0, by omega, rfl, World.ownsRow_nil _ _ _ _, Ext.refl w⟩
  case round =>
    obtain ⟨k, hk, rfl, hown, hd⟩ := hrel
    by_cases hlt : k < n
    · obtain ⟨b1, o1, rfl, hc1⟩ := (ho.ext hd).rd.byte hlt
      have i1 : (k : Int) < n := by omega
      by_cases hlt2 : k < m
      · obtain ⟨b2, o2, rfl, hc2⟩ := (hx.ext hd).rd.byte hlt2
        have i2 : (k : Int) < m := by omega
        have hat : bits .xor .u8 ((Gf.get out k).toNat : Int) ((Gf.mul f (Gf.get x k)).toNat : Int) = ((Gf.layAt out f x k).toNat : Int) := by
          rw [xor_u8, Gf.layAt, if_pos (by rw [L2.out]; exact hlt2)]
        go_wp2_with (first
          | (go_at_call 12; refine (refMul_any _ f (Gf.get x k)).mono ?_; rintro e w' ⟨rfl, rfl⟩)
          | (at_builtin
             refine wpList_append_rd _ rfl (.tmp 32) (.tmp 34) 33 rfl w.heap.size 5 i0 _ 1 1 Try.underlying33 hi0 hz0 hz1 hz2 rfl (by omega) _ k (bcells (Gf.layPre out f x k)) rfl (hown.alloc _)
               (some ⟨wr.heap.size, 0, none⟩) 1 1 [.int .u8 ((Gf.layAt out f x k).toNat : Int)] rfl (Rd.lit wr #[_] _) (by simp [Value.oneCell']) (by omega) (by unfold maxLen; omega) (by have := hd.size; simp; omega) ?_
             intro v1 w1 hown1 hg hat1))
        refine ⟨⟨k + 1, by omega, by go_num, ?_, ?_⟩, by simp [intOf]; omega⟩
        · rw [Gf.layPre_succ, bcells_append]; exact hown1
        · exact (hd.thenAlloc _).ofGrown hg (own_row hown)
      · have i2 : ¬ (k : Int) < m := by omega
        have hat : ((Gf.get out k).toNat : Int) = ((Gf.layAt out f x k).toNat : Int) := by
          rw [Gf.layAt, if_neg (by rw [L2.out]; exact hlt2)]
        rw [hat] at hc1
        clear hat
        go_wp2_with (
          at_builtin
          refine wpList_append_rd _ rfl (.tmp 32) (.tmp 34) 33 rfl w.heap.size 5 i0 _ 1 1 Try.underlying33 hi0 hz0 hz1 hz2 rfl (by omega) _ k (bcells (Gf.layPre out f x k)) rfl (hown.alloc _)
               (some ⟨wr.heap.size, 0, none⟩) 1 1 [.int .u8 ((Gf.layAt out f x k).toNat : Int)] rfl (Rd.lit wr #[_] _) (by simp [Value.oneCell']) (by omega) (by unfold maxLen; omega) (by have := hd.size; simp; omega) ?_
          intro v1 w1 hown1 hg hat1)
        refine ⟨⟨k + 1, by omega, by go_num, ?_, ?_⟩, by simp [intOf]; omega⟩
        · rw [Gf.layPre_succ, bcells_append]; exact hown1
        · exact (hd.thenAlloc _).ofGrown hg (own_row hown)
    · have i1 : ¬ (k : Int) < n := by omega
      go_wp2
      go_ret
      obtain rfl : k = n := by omega
      refine ⟨_, rfl, ?_, hd⟩
      rw [Gf.lay_length, L1.out]
      have : Gf.lay out f x = Gf.layPre out f x k := by rw [Gf.lay, Gf.layPre, L1.out]
      rw [this]
      exact hown
end Go.Proofs.Ytegjkcolilkfpaa
