/- Several texts in one: The contract of the laws' marks: how many are of a kind. A drawn region whose calls make memory, walked once: the class of the worlds that have grown. No statement of the seat is proved here. -/
import Derived.Test.YtfpglkacjecoeaaCt15
import Derived.Test.YtfpglkacjecoeaaCt4
namespace Go.Proofs.Ytfpglkacjecoeaa
open Go.RowKit

theorem upto_len (l : List Int) (m : Int) (k : Nat) : (Finds.upto l m (k + 1)).length = (Finds.upto l m k).length + (if Il.get l k = m then 1 else 0) := by
  rw [Finds.upto_succ]
  by_cases h : Il.get l k = m
  · rw [if_pos h, if_pos h, List.length_append]; rfl
  · rw [if_neg h, if_neg h]; rfl
set_option maxRecDepth 100000 in
set_option maxHeartbeats 1000000 in
theorem marks13_any (w : World) (st ve ne ph : Int) (A : Option Addr) (n c : Nat) (V S : Value) (kind : Int) (l : List Int) (hu : Is w A n c l) (hn : n ≤ 1000) :
    Calls Try.prog 23 #[fval st ve ne ph (.slice A n c) V S, .int .i64 kind] w fun e w' => e = .returned (.int .i64 (Finds.cnt l kind : Int)) ∧ Ext w w' := by
  have q1 := hu.max
  have q2 := hu.le
  have L := Lib.hid hu.len
  have HU := Lib.hid hu
  have xA := Ext.alloc w (.cells #[.int .i64 st, .int .i64 ve, .int .i64 ne, .int .i64 ph, .slice A n c, V, S] 27)
  have XA := Lib.hid xA
  clear hu xA
  go_enter Try.func23, Try.ntmps23
  try dsimp only [List.append]
  go_wp2_with (fail)
  obtain ⟨W, hW⟩ : ∃ W, w.alloc (.cells #[.int .i64 st, .int .i64 ve, .int .i64 ne, .int .i64 ph, .slice A n c, V, S] 27) = W := ⟨_, rfl⟩
  rw [hW]
  have X := Lib.hid (show Ext w W by rw [← hW]; exact XA.out)
  clear hW XA
  go_loopw [5, 7, 11] (fun s _ t wr => ∃ k : Nat, k ≤ n ∧ t = .int .i64 (k : Int) ∧ s = .int .i64 ((Finds.upto l kind k).length : Int) ∧ W = wr) (fun _ _ t _ => n - (intOf t).toNat)
  case atStart => exact ⟨0, by omega, rfl, rfl, rfl⟩
  case round =>
    obtain ⟨k, hk, rfl, rfl, rfl⟩ := hrel
    have hlen := Finds.upto_length_le l kind k
    have hs := upto_len l kind k
    by_cases hlt : k < n
    · have r1 : (k : Int) < n := by omega
      obtain ⟨b, o, rfl, hc⟩ := (HU.out.ext X.out).rd.intAt hlt
      obtain ⟨y, hy⟩ : ∃ y, Il.get l k = y := ⟨_, rfl⟩
      rw [hy] at hc hs
      have HS := Lib.hid hs
      obtain ⟨z, hz⟩ : ∃ z, (Finds.upto l kind k).length = z := ⟨_, rfl⟩
      rw [hz] at hlen HS ⊢
      clear hy hs hz
      by_cases hyk : y = kind
      · have e1 : (y == kind) = true := by rw [beq_iff_eq]; exact hyk
        have HY := Lib.hid hyk
        clear hyk
        go_wp2_with (fail)
        exact ⟨⟨k + 1, by omega, by go_num, by rw [HS.out, if_pos HY.out]; go_num, by trivial⟩, by simp [intOf]; omega⟩
      · have e1 : (y == kind) = false := by rw [beq_eq_false_iff_ne]; exact hyk
        have HY := Lib.hid hyk
        clear hyk
        go_wp2_with (fail)
        exact ⟨⟨k + 1, by omega, by go_num, by rw [HS.out, if_neg HY.out]; rfl, by trivial⟩, by simp [intOf]; omega⟩
    · have r1 : ¬ (k : Int) < n := by omega
      obtain rfl : k = n := by omega
      clear hs
      go_wp2_with (fail)
      go_ret
      exact ⟨ret_int (by unfold Finds.cnt Finds.ofL; rw [L.out]), X.out⟩
end Go.Proofs.Ytfpglkacjecoeaa
namespace Go.Proofs.Ytfpglkacjecoeaa
open Go.RowKit

/-- A world that has grown out of another one. -/
structure Ex (w0 : World) where
  w : World
  ext : Ext w0 w
def Ex.one (w0 : World) : Ex w0 := ⟨w0.drew, Ext.drew w0⟩
instance (w0 : World) : Nonempty (Ex w0) := ⟨Ex.one w0⟩
/-- The class. -/
abbrev Gr (w0 w' : World) : Prop := ∃ u : Ex w0, w' = u.w
theorem Ex.call {P : Program} {f : FuncId} {args : Array Value} {w0 : World} {v : Value} (u : Ex w0) (h : Calls P f args u.w fun e w' => e = .returned v ∧ Ext u.w w') :
    Calls P f args u.w fun e w'' => e = .returned v ∧ ∃ u' : Ex w0, w'' = u'.w :=
  h.mono fun _ w' ⟨he, hx⟩ => ⟨he, ⟨⟨w', u.ext.trans hx⟩, rfl⟩⟩
theorem Ex.callSame {P : Program} {f : FuncId} {args : Array Value} {w0 : World} {v : Value} (u : Ex w0) (h : Calls P f args u.w fun e w' => e = .returned v ∧ u.w = w') :
    Calls P f args u.w fun e w'' => e = .returned v ∧ ∃ u' : Ex w0, w'' = u'.w :=
  h.mono fun _ w' ⟨he, hx⟩ => ⟨he, u, hx.symm⟩
theorem Ex.callDr {P : Program} {f : FuncId} {args : Array Value} {w0 : World} {v : Value} (u : Ex w0) (h : Calls P f args u.w fun e w' => e = .returned v ∧ Dr u.w w') :
    Calls P f args u.w fun e w'' => e = .returned v ∧ ∃ u' : Ex w0, w'' = u'.w :=
  h.mono fun _ w' ⟨he, hx⟩ => ⟨he, ⟨⟨w', u.ext.trans hx.ext⟩, rfl⟩⟩
/-- A region whose operations are written out, at the class of the worlds that have grown. -/
theorem wp_region_grow {P : Program} {id : Nat} {Q : Exit → Act → World → Prop} {a : Act} {w : World} {l : List Oper} (hm : P.follows .mixedOrders = true) (hB : Region.lexB .any l.toArray = true)
    (h : wpQuiet P l.toArray (fun w' => ∃ u : Ex w, w' = u.w) (fun a' => ∀ w', (∃ u : Ex w, w' = u.w) → Q .normal a' w') l a) : (Code.region id l.toArray true).wp P Q a w :=
  wp_region_quiet (C := fun w' => ∃ u : Ex w, w' = u.w) hm hB ⟨Ex.one w, rfl⟩ (by simpa using h)
end Go.Proofs.Ytfpglkacjecoeaa
