/- The contract of the law's some: the places below n that a flag says. No statement of the seat is proved here. -/
import Derived.Test.YtiianhlppkocgaaBools
import Derived.Test.YtiianhlppkocgaaMatPicks
import Derived.Deep.CutBlock
import Derived.Deep.DeepCutAuto
namespace Go.Proofs.Ytiianhlppkocgaa
open Go.RowKit

/-- The flagged places, below t. -/
def flagged (l : List Bool) : Nat → List Int
  | 0 => []
  | t + 1 => if bget l t = true then flagged l t ++ [(t : Int)] else flagged l t
theorem flagged_length (l : List Bool) : ∀ t, (flagged l t).length ≤ t
  | 0 => Nat.le_refl _
  | t + 1 => by
    have := flagged_length l t
    unfold flagged
    split
    · rw [List.length_append]; simp; omega
    · omega
theorem flagged_below (l : List Bool) : ∀ t k, k < (flagged l t).length → 0 ≤ Il.get (flagged l t) k ∧ Il.get (flagged l t) k < t
  | 0, k, h => absurd h (Nat.not_lt_zero _)
  | t + 1, k, h => by
    unfold flagged at h ⊢
    split
    · rename_i e
      rw [if_pos e] at h
      by_cases hk : k < (flagged l t).length
      · rw [get_append_left hk]
        have := flagged_below l t k hk
        omega
      · rw [get_append_right (by omega)]
        rw [List.length_append] at h
        have : k - (flagged l t).length = 0 := by simp at h; omega
        rw [this]
        have e : Il.get [(t : Int)] 0 = t := rfl
        rw [e]; omega
    · rename_i e
      rw [if_neg e] at h
      have := flagged_below l t k h
      omega
theorem flagged_rise (l : List Bool) : ∀ t j k, j < k → k < (flagged l t).length → Il.get (flagged l t) j < Il.get (flagged l t) k
  | 0, j, k, _, h => absurd h (Nat.not_lt_zero _)
  | t + 1, j, k, hjk, h => by
    unfold flagged at h ⊢
    split
    · rename_i e
      rw [if_pos e] at h
      by_cases hk : k < (flagged l t).length
      · rw [get_append_left hk, get_append_left (by omega)]
        exact flagged_rise l t j k hjk hk
      · rw [List.length_append] at h
        have hk' : k = (flagged l t).length := by simp at h; omega
        rw [get_append_left (by omega), get_append_right (by omega), hk', Nat.sub_self]
        exact (flagged_below l t j (by omega)).2
    · rename_i e
      rw [if_neg e] at h
      exact flagged_rise l t j k hjk h
/-- What some tells: places, rising. -/
structure Rise (n : Nat) (l : List Int) : Prop where
  pl : Places n l
  le : l.length ≤ n
  rise : ∀ j k, j < k → k < l.length → Il.get l j < Il.get l k
theorem rise_zero {n : Nat} (hn : 1 ≤ n) : Rise n [0] := ⟨zero_places hn, hn, fun j k h1 h2 => by simp at h2; omega⟩
theorem rise_flagged {n : Nat} {l : List Bool} (h : 1 ≤ (flagged l n).length) : Rise n (flagged l n) := ⟨⟨h, flagged_below l n⟩, flagged_length l n, flagged_rise l n⟩
def GivesP (n : Nat) (w : World) (e : Ending) (w' : World) : Prop := ∃ A m c L, e = .returned (.slice A m c) ∧ Is w' A m c L ∧ Rise n L ∧ Ext w w'
set_option maxRecDepth 100000 in
set_option maxHeartbeats 2000000 in
theorem some_any (w : World) (n : Nat) (B : Option Addr) (k cB : Nat) (b : List Bool) (hB : Bls w B k cB b) (hn : 1 ≤ n) (hn2 : n ≤ 255) :
    Calls Try.prog 30 #[.int .i64 (n : Int), .slice B k cB] w (GivesP n w) := by
  obtain ⟨i0, hi0, hz0, hz1, hz2⟩ := info_parts int_info
  have hm := hB.max
  have hl := hB.le
  have LB := Lib.hid hB.len
  go_enter Try.func30, Try.ntmps30
  go_wp2_with (fail)
  go_loopw [5, 6] (fun v s wr => ∃ t : Nat, t ≤ n ∧ s = .int .i64 t ∧ wr.ownsRow w.heap.size 3 1 v (flagged b t).length (icells (flagged b t)) ∧ Ext w wr) (fun _ s _ => n - (intOf s).toNat)
  case atStart => exact ⟨0, by omega, rfl, World.ownsRow_nil _ _ _ _, Ext.refl w⟩
  case round =>
    obtain ⟨t, ht, rfl, hown, hx⟩ := hrel
    by_cases hlt : t < n
    · have q1 : (t : Int) < n := by omega
      have hfl := flagged_length b t
      by_cases hk : t < k
      · have q2 : (t : Int) < k := by omega
        obtain ⟨bb, ob, rfl, hce⟩ := (hB.ext hx).rd t hk
        by_cases hb : bget b t = true
        · have hf : flagged b (t + 1) = flagged b t ++ [(t : Int)] := by rw [flagged, if_pos hb]
          rw [hb] at hce
          have hor := ownsRow_ext hown (Ext.alloc wr (.cells #[.int .i64 (t : Int)] 3))
          have hs := hx.size
          obtain ⟨q, hq⟩ : ∃ q, (flagged b t).length = q := ⟨_, rfl⟩
          rw [hq] at hor hfl
          have HO := Lib.hid hor
          have HW := Lib.hid hown
          have HF := Lib.hid hf
          have HQ := Lib.hid hq
          clear hor hown hf hb hq
          go_wp2_with (at_builtin; refine wpList_append_rd _ rfl (.tmp 22) (.tmp 24) 29 rfl w.heap.size 3 i0 _ 1 8 Try.underlying29 hi0 hz0 hz1 hz2 rfl (by omega) u5 q (icells (flagged b t)) rfl HO.out (some ⟨wr.heap.size, 0, none⟩) 1 1 [.int .i64 (t : Int)] rfl (Rd.lit _ #[.int .i64 (t : Int)] _) (by simp [Value.oneCell']) (by omega) (by unfold maxLen; omega) (by simp; omega) ?_; intro v5 w5 hown hgr hat)
          have hown' : w5.ownsRow w.heap.size 3 1 v5 (flagged b (t + 1)).length (icells (flagged b (t + 1))) := by rw [HF.out, icells_append, List.length_append, HQ.out]; exact hown
          exact ⟨⟨t + 1, by omega, by go_num, hown', (hx.thenAlloc _).ofGrown hgr (own_row HW.out)⟩, by simp [intOf]; omega⟩
        · have hf : flagged b (t + 1) = flagged b t := by rw [flagged, if_neg hb]
          have hb' : bget b t = false := by simpa using hb
          rw [hb'] at hce
          have HW := Lib.hid hown
          have HF := Lib.hid hf
          clear hown hf hb hb' hfl
          go_wp2_with (fail)
          exact ⟨⟨t + 1, by omega, by go_num, by rw [HF.out]; exact HW.out, hx⟩, by simp [intOf]; omega⟩
      · have q2 : ¬ (t : Int) < k := by omega
        have hb : bget b t = false := by unfold bget; rw [List.getD_eq_getElem?_getD, List.getElem?_eq_none (by rw [LB.out]; omega)]; rfl
        have hf : flagged b (t + 1) = flagged b t := by rw [flagged, if_neg (by rw [hb]; decide)]
        have HW := Lib.hid hown
        have HF := Lib.hid hf
        clear hown hf hb hfl
        go_wp2_with (fail)
        exact ⟨⟨t + 1, by omega, by go_num, by rw [HF.out]; exact HW.out, hx⟩, by simp [intOf]; omega⟩
    · obtain rfl : t = n := by omega
      have q1 : ¬ (t : Int) < t := by omega
      have hfl := flagged_length b t
      obtain ⟨A, c, rfl, _, _⟩ := ownsRow_slice hown
      have his := (Own.mk (base := w.heap.size) (e := 3) hown).ints
      rcases Nat.eq_zero_or_pos (flagged b t).length with h0 | h0
      · rw [h0]
        go_wp2_with (fail)
        go_ret
        exact ⟨_, _, _, _, rfl, is_one wr _ 0 rfl, rise_zero hn, hx.thenAlloc _⟩
      · have hr := rise_flagged h0
        have HR := Lib.hid hr
        have HI := Lib.hid his
        obtain ⟨q, hq⟩ : ∃ q, (flagged b t).length = q := ⟨_, rfl⟩
        have q2 : ((q : Int) == 0) = false := by rw [beq_eq_false_iff_ne]; omega
        have HQ := Lib.hid hq
        clear hown his hr h0
        rw [hq]
        clear hq
        go_wp2_with (fail)
        go_ret
        exact ⟨_, _, _, _, rfl, by rw [← HQ.out]; exact HI.out, HR.out, hx⟩
end Go.Proofs.Ytiianhlppkocgaa
