/- The memory of a disk: its box of four cells, the medium's block, the cache's map. No statement of the seat is proved here. -/
import Derived.Test.YtbfbiofndipaaaaDisks
import Derived.Test.YtbfbiofndipaaaaMx
import Derived.Maps.OwnOps
import Derived.Maps.OwnSet
import Derived.Maps.RangeWalk
import Derived.Deep.MidRow
namespace Go.Proofs.Ytbfbiofndipaaaa
open Go.RowKit Go.Maps

/-! ### a sector as a value -/
def secV (s : List UInt8) : Value := .agg (bcells s).toArray
def byteOf : Value → Option UInt8
  | .int .u8 a => if 0 ≤ a ∧ a < 256 then some (UInt8.ofNat a.toNat) else none
  | _ => none
def bytesOf : List Value → Option (List UInt8)
  | [] => some []
  | v :: l => match byteOf v, bytesOf l with
    | some x, some r => some (x :: r)
    | _, _ => none
theorem bytesOf_bcells (s : List UInt8) : bytesOf (bcells s) = some s := by
  induction s with
  | nil => rfl
  | cons x s ih =>
    have hx := x.toNat_lt
    have h1 : byteOf (.int .u8 (x.toNat : Int)) = some x := by
      show (if 0 ≤ ((x.toNat : Nat) : Int) ∧ ((x.toNat : Nat) : Int) < 256 then some (UInt8.ofNat ((x.toNat : Nat) : Int).toNat) else none) = some x
      rw [if_pos (by omega)]
      simp
    have e : bcells (x :: s) = .int .u8 (x.toNat : Int) :: bcells s := by simp [bcells]
    rw [e]
    unfold bytesOf
    rw [h1, ih]
theorem byteOf_inv {v : Value} {x : UInt8} (h : byteOf v = some x) : v = .int .u8 (x.toNat : Int) := by
  unfold byteOf at h
  split at h
  · rename_i a
    split at h
    · rename_i hb
      injection h with h
      rw [← h, UInt8.toNat_ofNat']
      congr 1
      omega
    · cases h
  · cases h
theorem bytesOf_inv : ∀ {l : List Value} {s : List UInt8}, bytesOf l = some s → l = bcells s
  | [], s, h => by injection h with h; rw [← h]; rfl
  | v :: l, s, h => by
    unfold bytesOf at h
    split at h
    · rename_i x r hx hr
      injection h with h
      rw [← h, byteOf_inv hx, bytesOf_inv hr]
      rfl
    · cases h
/-- How a sector reads in the cache. -/
def secR (v : Value) : Option (DataW Nat × List MemPlace) :=
  match v with
  | .agg cs => match bytesOf cs.toList with
    | some s => if s.length = 64 then some (.lit (.string s), []) else none
    | none => none
  | _ => none
theorem secR_mk {s : List UInt8} (h : s.length = 64) : secR (secV s) = some (.lit (.string s), []) := by
  unfold secR secV
  simp only [bytesOf_bcells]
  rw [if_pos h]
theorem secR_inv {v : Value} {z : DataW Nat × List MemPlace} (h : secR v = some z) : ∃ s : List UInt8, s.length = 64 ∧ v = secV s ∧ z = (.lit (.string s), []) := by
  unfold secR at h
  split at h
  · rename_i cs
    split at h
    · rename_i s hs
      split at h
      · rename_i hl
        injection h with h
        refine ⟨s, hl, ?_, h.symm⟩
        unfold secV
        rw [← bytesOf_inv hs]
      · cases h
    · cases h
  · cases h
theorem secR_at {v : Value} {s : List UInt8} {ps : List MemPlace} (h : secR v = some (.lit (.string s), ps)) : v = secV s ∧ s.length = 64 := by
  obtain ⟨s', hl, hv, hz⟩ := secR_inv h
  injection hz with h1 _
  injection h1 with h1
  injection h1 with h1
  rw [h1]
  exact ⟨hv, hl⟩
def zeros64 : List UInt8 := List.replicate 64 0
theorem zeros64_len : zeros64.length = 64 := List.length_replicate ..
theorem sec_zero (w : World) : (zeroValue 77).run Try.prog w = .ok (secV zeros64) w := by kernel_rfl
theorem sec_info : (Try.prog.info? 77).map (·.size) = some 64 := by kernel_rfl

/-! ### the medium -/
structure Md (w : World) (m : Nat) (l : List (List UInt8)) : Prop where
  lt : m < w.heap.size
  wid : ∀ i, i < l.length → (Gm.row l i).length = 64
  rows : ∀ i, i < l.length → w.rangeAt m (i * 64) (bcells (Gm.row l i))
  ok : w.there m 0 (l.length * 64)
section
variable {w w' : World} {m : Nat} {l : List (List UInt8)}
theorem Md.same (h : Md w m l) (hs : w.heap.size ≤ w'.heap.size) (hb : w'.heap[m]? = w.heap[m]?) : Md w' m l := by
  have hc : ∀ p : Addr, p.block = m → w'.cell? p = w.cell? p ∧ w'.frozen? p = w.frozen? p := fun p hp => by
    subst hp
    exact ⟨by unfold World.cell?; rw [hb], by unfold World.frozen?; rw [hb]⟩
  refine ⟨Nat.lt_of_lt_of_le h.lt hs, h.wid, fun i hi j v hv => ?_, fun j hj => ?_⟩
  · rw [(hc _ rfl).1]
    exact h.rows i hi j v hv
  · rw [(hc _ rfl).1, (hc _ rfl).2]
    exact h.ok j hj
theorem Md.ext (h : Md w m l) (hx : Ext w w') : Md w' m l := h.same hx.size (hx.block m h.lt)
theorem Md.kept {row : Option Nat} (h : Md w m l) (hg : w.grownBy w' row) (hr : row ≠ some m) : Md w' m l := h.same hg.size (hg.block m h.lt (fun e => hr e.symm))
end
end Go.Proofs.Ytbfbiofndipaaaa
