/- The contract of bytes.Uint: the bytes of a number, behind a row of one's own. -/
import Derived.Test.YtkanlbkfbkkknaaPlEnc
import Derived.Test.YtkanlbkfbkkknaaStep
import Derived.Test.YtkanlbkfbkkknaaBytesLow
import Derived.Test.YtkanlbkfbkkknaaMem
namespace Go.Proofs.Ytkanlbkfbkkknaa
open Go.RowKit

/-- A row of one's own has grown, from the value v to the value v': all else is as it was. -/
structure Grows (w w' : World) (v v' : Value) : Prop where
  size : w.heap.size ≤ w'.heap.size
  block : ∀ q, q < w.heap.size → v.ownBlock ≠ some q → w'.heap[q]? = w.heap[q]?
  own : v'.ownBlock = v.ownBlock ∨ ∀ q, v'.ownBlock = some q → w.heap.size ≤ q
theorem Grows.refl (w : World) (v : Value) : Grows w w v v := ⟨Nat.le_refl _, fun _ _ _ => rfl, .inl rfl⟩
theorem Grows.row {w w' : World} {v v' : Value} (h : Grows w w' v v') {q : Nat} (hq : q < w.heap.size) (hv : v.ownBlock ≠ some q) : v'.ownBlock ≠ some q := fun e => by
  rcases h.own with h1 | h1
  · exact hv (h1.symm.trans e)
  · have := h1 q e; omega
theorem Grows.ext {w w' w1 : World} {v v' : Value} (h : Grows w w' v v') (hx : Ext w' w1) : Grows w w1 v v' :=
  ⟨Nat.le_trans h.size hx.size, fun q h1 h2 => (hx.block q (Nat.lt_of_lt_of_le h1 h.size)).trans (h.block q h1 h2), h.own⟩
theorem Grows.step {w w' w1 : World} {v v' v1 : Value} (h : Grows w w' v v') (hg : w'.grownBy w1 v'.ownBlock) (hat : v1.ownBlock = v'.ownBlock ∨ v1.ownBlock = some w'.heap.size) : Grows w w1 v v1 := by
  refine ⟨Nat.le_trans h.size hg.size, fun q h1 h2 => ?_, ?_⟩
  · rw [hg.block q (Nat.lt_of_lt_of_le h1 h.size) (fun e => h.row h1 h2 e.symm)]
    exact h.block q h1 h2
  · rcases hat with e | e
    · rw [e]; exact h.own
    · exact .inr fun q hq => by rw [e] at hq; injection hq with hq; have := h.size; omega
theorem Grows.trans {a b c : World} {v v' v1 : Value} (h : Grows a b v v') (k : Grows b c v' v1) : Grows a c v v1 := by
  refine ⟨Nat.le_trans h.size k.size, fun q h1 h2 => ?_, ?_⟩
  · rw [k.block q (Nat.lt_of_lt_of_le h1 h.size) (h.row h1 h2)]
    exact h.block q h1 h2
  · rcases k.own with e | e
    · rw [e]; exact h.own
    · exact .inr fun q hq => Nat.le_trans h.size (e q hq)
theorem Grows.cell {w w' : World} {v v' : Value} (h : Grows w w' v v') {p : Addr} {u : Value} (hc : w.cell? p = some u) (hv : v.ownBlock ≠ some p.block) : w'.cell? p = some u := by
  rw [World.cell?_of_block (h.block p.block (World.block_lt_of_cell? _ _ hc) hv)]
  exact hc

set_option maxRecDepth 100000 in
set_option maxHeartbeats 1000000 in
theorem uint_any (w0 w : World) (hx : Ext w0 w) (v : Value) (l : List UInt8) (ho : w.ownsRow w0.heap.size 5 1 v l.length (bcells l)) (m : Nat) (hm : m < 2 ^ 63) (hl : l.length + 10 ≤ 140737488355328) :
    Calls Try.prog 41 #[v, .int .u64 (m : Int)] w fun e w' => ∃ v', e = .returned v' ∧ w'.ownsRow w0.heap.size 5 1 v' (l ++ Pl.enc m).length (bcells (l ++ Pl.enc m)) ∧ Ext w0 w' ∧ Grows w w' v v' := by
  obtain ⟨i0, hi0, hz0, hz1, hz2⟩ := info_parts u8_infoB
  go_enter Try.func41, Try.ntmps41
  go_wp2_with (fail)
  go_loopw [0, 1] (fun s0 s1 wr => ∃ (k : Nat) (p : List UInt8), s1 = .int .u64 (k : Int) ∧ k ≤ m ∧ RowKit.Hid (Pl.enc m = p ++ Pl.enc k) ∧ wr.ownsRow w0.heap.size 5 1 s0 (l ++ p).length (bcells (l ++ p)) ∧ Ext w0 wr ∧ RowKit.Hid (Grows w wr v s0)) (fun _ s1 _ => (intOf s1).toNat)
  case atStart => exact ⟨m, [], rfl, Nat.le_refl _, Lib.hid rfl, by rw [List.append_nil]; exact ho, hx, Lib.hid (Grows.refl w v)⟩
  case round =>
    obtain ⟨k, p, rfl, hk, HE, own, x1, HG⟩ := hrel
    clear ho hx
    have hlen : p.length + (Pl.enc k).length ≤ 10 := by
      have h1 := Pl.enc_le 9 m (by omega)
      rw [HE.out, List.length_append] at h1
      exact h1
    have hp := Pl.enc_pos k
    have q1 : ((l ++ p).length + 1) * 1 ≤ 140737488355328 := by rw [List.length_append]; omega
    have q2 : (l ++ p).length + 1 ≤ maxLen := by rw [List.length_append]; unfold maxLen; omega
    have q3 : ∀ wy : World, w0.heap.size ≤ (wr.alloc wy.heap[0]!).heap.size := fun wy => by have := x1.size; simp; omega
    have q4 := x1.size
    obtain ⟨wo, hwo⟩ : ∃ wo : World, wr = wo := ⟨_, rfl⟩
    subst hwo
    by_cases hs : (127 : Int) < k
    · have e1 : Pl.enc m = (p ++ [UInt8.ofNat (k % 128 + 128)]) ++ Pl.enc (k / 128) := by
        rw [HE.out, Pl.enc_great (n := k) (by omega)]
        simp
      have e2 : [Value.int .u8 ((k : Int) % 128 + 128)] = bcells [UInt8.ofNat (k % 128 + 128)] := by
        show _ = [Value.int .u8 ((UInt8.ofNat (k % 128 + 128)).toNat : Int)]
        rw [Pl.toNat_of (by omega)]
        simp
      have E1 := Lib.hid e1
      have E2 := Lib.hid e2
      clear e1 e2 q3 hlen hp
      go_wp2_with (
        at_builtin
        refine wpList_append_rd _ rfl (.tmp 7) (.tmp 12) 50 rfl w0.heap.size 5 i0 _ 1 1 Try.underlying50 hi0 hz0 hz1 hz2 rfl (by omega) u0 (l ++ p).length (bcells (l ++ p)) rfl (ownsRow_ext own (Ext.alloc _ _)) (some ⟨wr.heap.size, 0, none⟩) 1 1 [.int .u8 ((k : Int) % 128 + 128)] rfl (Rd.lit _ _ _) (by simp [Value.oneCell']) q1 q2 (by simp; omega) ?_
        intro v1 w1 hown hg hat)
      refine ⟨⟨k / 128, p ++ [UInt8.ofNat (k % 128 + 128)], by go_num, by omega, Lib.hid E1.out, ?_, ?_, Lib.hid ((HG.out.ext (Ext.alloc _ _)).step hg hat)⟩, by simp [intOf]; omega⟩
      · rw [E2.out, ← bcells_append] at hown
        rw [← List.append_assoc, List.length_append]
        exact hown
      · exact Ext.ofGrown (x1.thenAlloc _) hg (fun q hq => own_row own q hq)
    · have e1 : l ++ Pl.enc m = (l ++ p) ++ [UInt8.ofNat k] := by
        rw [HE.out, Pl.enc_small (n := k) (by omega)]
        simp
      have e2 : [Value.int .u8 (k : Int)] = bcells [UInt8.ofNat k] := by
        show _ = [Value.int .u8 ((UInt8.ofNat k).toNat : Int)]
        rw [Pl.toNat_of (by omega)]
      have E1 := Lib.hid e1
      have E2 := Lib.hid e2
      clear e1 e2 q3 hlen hp
      go_wp2_with (
        at_builtin
        refine wpList_append_rd _ rfl (.tmp 16) (.tmp 19) 50 rfl w0.heap.size 5 i0 _ 1 1 Try.underlying50 hi0 hz0 hz1 hz2 rfl (by omega) u0 (l ++ p).length (bcells (l ++ p)) rfl (ownsRow_ext own (Ext.alloc _ _)) (some ⟨wr.heap.size, 0, none⟩) 1 1 [.int .u8 (k : Int)] rfl (Rd.lit _ _ _) (by simp [Value.oneCell']) q1 q2 (by simp; omega) ?_
        intro v1 w1 hown hg hat)
      go_ret
      refine ⟨v1, rfl, ?_, ?_, (HG.out.ext (Ext.alloc _ _)).step hg hat⟩
      · rw [E2.out, ← bcells_append] at hown
        have e3 : l.length + (Pl.enc m).length = (l ++ p).length + 1 := by
          rw [← List.length_append, E1.out, List.length_append]
          rfl
        rw [e3, E1.out]
        exact hown
      · exact Ext.ofGrown (x1.thenAlloc _) hg (fun q hq => own_row own q hq)
end Go.Proofs.Ytkanlbkfbkkknaa
