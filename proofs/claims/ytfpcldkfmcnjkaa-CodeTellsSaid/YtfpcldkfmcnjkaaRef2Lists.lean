/- The contracts of the document's own Lay. -/
import Derived.Test.YtfpcldkfmcnjkaaCt5
import Derived.Test.YtfpcldkfmcnjkaaCt3
namespace Go.Proofs.Ytfpcldkfmcnjkaa
open Go.RowKit

set_option maxRecDepth 100000 in
set_option maxHeartbeats 1000000 in
theorem refLay_any (w : World) (A A' : Option Addr) (n c m c' : Nat) (out x : List UInt8) (f : UInt8) (ho : Bs w A n c out) (hx : Bs w A' m c' x) (hn : n ≤ 140737488351232) :
    Calls Try.prog 88 #[.slice A n c, .int .u8 (f.toNat : Int), .slice A' m c'] w fun e w' => ∃ v, e = .returned v ∧ NewBytes w w' v (Gf.lay out f x) := by
  obtain ⟨i0, hi0, hz0, hz1, hz2⟩ := info_parts u8_info
  have hm1 := ho.max
  have hm2 := ho.le
  have hm3 := hx.max
  have hm4 := hx.le
  have L1 := Lib.hid ho.len
  have L2 := Lib.hid hx.len
  go_enter Try.func88, Try.ntmps88
  go_wp2
  go_loopw [7, 8] (fun v i wr => ∃ k : Nat, k ≤ n ∧ i = .int .i64 k ∧ wr.ownsRow w.heap.size 5 1 v k (bcells (Gf.layPre out f x k)) ∧ Ext w wr) (fun _ i _ => n - (intOf i).toNat)
  case atStart => exact ⟨0, by omega, rfl, World.ownsRow_nil _ _ _ _, Ext.refl w⟩
  case round =>
    obtain ⟨k, hk, rfl, hown, hd⟩ := hrel
    by_cases hlt : k < n
    · obtain ⟨b1, o1, rfl, hc1⟩ := (ho.ext hd).rd.byte hlt
      have i1 : (k : Int) < n := by omega
      by_cases hlt2 : k < m
      · obtain ⟨b2, o2, rfl, hc2⟩ := (hx.ext hd).rd.byte hlt2
        have i2 : (k : Int) < m := by omega
        have hat : bits .xor .u8 ((Gf.get out k).toNat : Int) ((Gf.mul f (Gf.get x k)).toNat : Int) = ((Gf.layAt out f x k).toNat : Int) := by
          rw [xor_u8, Gf.layAt, if_pos (by rw [L2.out]; exact hlt2)]
        go_wp2_with (first
          | (go_at_call 76; refine (refMul_any _ f (Gf.get x k)).mono ?_; rintro e w' ⟨rfl, rfl⟩)
          | (at_builtin
             refine wpList_append_rd _ rfl (.tmp 32) (.tmp 34) 22 rfl w.heap.size 5 i0 _ 1 1 Try.underlying22 hi0 hz0 hz1 hz2 rfl (by omega) _ k (bcells (Gf.layPre out f x k)) rfl (hown.alloc _)
               (some ⟨wr.heap.size, 0, none⟩) 1 1 [.int .u8 ((Gf.layAt out f x k).toNat : Int)] rfl (Rd.lit wr #[_] _) (by simp [Value.oneCell']) (by omega) (by unfold maxLen; omega) (by have := hd.size; simp; omega) ?_
             intro v1 w1 hown1 hg hat1))
        refine ⟨⟨k + 1, by omega, by go_num, ?_, ?_⟩, by simp [intOf]; omega⟩
        · rw [Gf.layPre_succ, bcells_append]; exact hown1
        · exact (hd.thenAlloc _).ofGrown hg (own_row hown)
      · have i2 : ¬ (k : Int) < m := by omega
        have hat : ((Gf.get out k).toNat : Int) = ((Gf.layAt out f x k).toNat : Int) := by
          rw [Gf.layAt, if_neg (by rw [L2.out]; exact hlt2)]
        rw [hat] at hc1
        clear hat
        go_wp2_with (
          at_builtin
          refine wpList_append_rd _ rfl (.tmp 32) (.tmp 34) 22 rfl w.heap.size 5 i0 _ 1 1 Try.underlying22 hi0 hz0 hz1 hz2 rfl (by omega) _ k (bcells (Gf.layPre out f x k)) rfl (hown.alloc _)
               (some ⟨wr.heap.size, 0, none⟩) 1 1 [.int .u8 ((Gf.layAt out f x k).toNat : Int)] rfl (Rd.lit wr #[_] _) (by simp [Value.oneCell']) (by omega) (by unfold maxLen; omega) (by have := hd.size; simp; omega) ?_
          intro v1 w1 hown1 hg hat1)
        refine ⟨⟨k + 1, by omega, by go_num, ?_, ?_⟩, by simp [intOf]; omega⟩
        · rw [Gf.layPre_succ, bcells_append]; exact hown1
        · exact (hd.thenAlloc _).ofGrown hg (own_row hown)
    · have i1 : ¬ (k : Int) < n := by omega
      go_wp2
      go_ret
      obtain rfl : k = n := by omega
      refine ⟨_, rfl, ?_, hd⟩
      rw [Gf.lay_length, L1.out]
      have : Gf.lay out f x = Gf.layPre out f x k := by rw [Gf.lay, Gf.layPre, L1.out]
      rw [this]
      exact hown
end Go.Proofs.Ytfpcldkfmcnjkaa
