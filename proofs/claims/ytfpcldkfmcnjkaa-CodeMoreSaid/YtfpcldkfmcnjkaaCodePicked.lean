/- The contract of the laws' picked: so many places, all different. -/
import Derived.Test.YtfpcldkfmcnjkaaInts
import Derived.Test.YtfpcldkfmcnjkaaMem
import Derived.Test.YtfpcldkfmcnjkaaMq
namespace Go.Proofs.Ytfpcldkfmcnjkaa
open Go.RowKit

def bg (S : List Bool) (j : Nat) : Bool := S.getD j false
theorem bg_set {S : List Bool} {i : Nat} (b : Bool) (h : i < S.length) (j : Nat) : bg (S.set i b) j = if i = j then b else bg S j := by
  unfold bg
  rw [List.getD_eq_getElem?_getD, List.getD_eq_getElem?_getD, List.getElem?_set]
  by_cases e : i = j
  · rw [if_pos e, if_pos e, if_pos h]; rfl
  · rw [if_neg e, if_neg e]
/-- Block g holds these bools. -/
structure Bo (w : World) (g : Nat) (S : List Bool) : Prop where
  blk : w.heap[g]? = some (.cells (S.map Value.bool).toArray 4 (0, 0))
section
variable {w : World} {g : Nat} {S : List Bool}
theorem Bo.lt (h : Bo w g S) : g < w.heap.size := (Array.getElem?_eq_some_iff.1 h.blk).1
theorem Bo.cell (h : Bo w g S) {j : Nat} (hj : j < S.length) : w.cell? ⟨g, j, none⟩ = some (.bool (bg S j)) := by
  rw [cell_of_row w _ _ _ _ _ h.blk]
  unfold bg
  simp [List.getD_eq_getElem?_getD, hj]
theorem Bo.fz (h : Bo w g S) (j : Nat) : w.frozen? ⟨g, j, none⟩ = false := frozen_of_row w _ _ _ _ h.blk
theorem Bo.ext {w' : World} (h : Bo w g S) (hx : Ext w w') : Bo w' g S := ⟨(hx.block g h.lt).trans h.blk⟩
theorem Bo.grown {w' : World} {row : Option Nat} (h : Bo w g S) (hg : w.grownBy w' row) (hr : row ≠ some g) : Bo w' g S := ⟨(hg.block g h.lt (fun e => hr e.symm)).trans h.blk⟩
theorem Bo.set (h : Bo w g S) (j : Nat) (b : Bool) : Bo (w.setCell ⟨g, j, none⟩ (.bool b)) g (S.set j b) := by
  refine ⟨?_⟩
  have e : ((S.set j b).map Value.bool).toArray = (S.map Value.bool).toArray.setIfInBounds j (.bool b) := by
    rw [List.map_set]; simp
  rw [e]
  exact heap_setCell_same w g j _ _ (.bool b) h.blk
end
theorem bool_info : (Try.prog.info? 4).map (fun i => (i.zero, i.size, i.bytes)) = some (some (.bool false), 1, 1) := by kernel_rfl
theorem run_make_bools (W : World) (c : Nat) (hc : c ≤ 1000) : (Instr.makeSlice 84 (.int .i64 (c : Int)) (.int .i64 (c : Int))).run Try.prog W = .ok (.slice (some ⟨W.heap.size, 0, none⟩) c c) (W.alloc (.cells (made c (.bool false)) 4)) := by
  obtain ⟨i, hi, hz, h1, h2⟩ := info_parts bool_info
  have h := run_make (P := Try.prog) W 84 4 i _ Try.underlying84 hi hz .i64 .i64 (c : Int) (c : Int) (by omega) (Int.le_refl _) (by rw [h2]; omega) (by omega)
  rw [h1] at h
  simpa [made, Value.cells] using h
theorem Bo.made (w : World) (c : Nat) {g : Nat} (hg : w.heap.size = g) : Bo (w.alloc (.cells (made c (.bool false)) 4)) g (List.replicate c false) := by
  refine ⟨?_⟩
  rw [← hg]
  have e : ((List.replicate c false).map Value.bool).toArray = Go.Proofs.Ytfpcldkfmcnjkaa.made c (.bool false) := by
    apply Array.ext'
    unfold Go.Proofs.Ytfpcldkfmcnjkaa.made madeCells
    rw [Array.toList_map, Array.toList_range, List.map_replicate]
    apply List.ext_getElem (by simp)
    intro i h1 h2
    simp [Nat.mod_one]
  rw [e]
  exact heap_alloc_new w _
/-- How far it is to a free place. -/
def dist (f a n : Nat) : Nat := if a ≤ f then f - a else f + n - a
theorem free_at {S : List Bool} {n i : Nat} (hl : S.length = n) (hc : S.count true = i) (hi : i < n) : ∃ f, f < n ∧ bg S f = false := by
  rcases Classical.em (∃ f, f < n ∧ bg S f = false) with h | h
  · exact h
  · exfalso
    have : S.count true = S.length := by
      rw [List.count_eq_length]
      intro b hb
      obtain ⟨t, ht, rfl⟩ := List.getElem_of_mem hb
      cases hv : S[t] with
      | true => rfl
      | false => exact absurd ⟨t, by omega, by simp [bg, ht, hv]⟩ h
    omega
/-- What picked has told so far. -/
structure Pk (n i : Nat) (S : List Bool) (l : List Int) : Prop where
  len : S.length = n
  many : S.count true = i
  ln : l.length = i
  rng : ∀ t, t < i → 0 ≤ Il.get l t ∧ Il.get l t < n
  marked : ∀ t, t < i → bg S (Il.get l t).toNat = true
  apart : ∀ s t, s < i → t < i → s ≠ t → Il.get l s ≠ Il.get l t
theorem Pk.start (n : Nat) : Pk n 0 (List.replicate n false) [] :=
  ⟨by simp, by simp [List.count_replicate], rfl, fun _ h => absurd h (Nat.not_lt_zero _), fun _ h => absurd h (Nat.not_lt_zero _), fun _ _ h => absurd h (Nat.not_lt_zero _)⟩
theorem Pk.step {n i a : Nat} {S : List Bool} {l : List Int} (h : Pk n i S l) (ha : a < n) (hf : bg S a = false) : Pk n (i + 1) (S.set a true) (l ++ [(a : Int)]) := by
  have hal : a < S.length := by rw [h.len]; exact ha
  have hg : ∀ t, t < i + 1 → Il.get (l ++ [(a : Int)]) t = if t = i then (a : Int) else Il.get l t := fun t ht => by
    unfold Il.get
    rw [List.getD_eq_getElem?_getD, List.getD_eq_getElem?_getD]
    by_cases e : t = i
    · rw [if_pos e, List.getElem?_append_right (by rw [h.ln]; omega), h.ln, e, Nat.sub_self]; rfl
    · rw [if_neg e, List.getElem?_append_left (by rw [h.ln]; omega)]
  have hne : ∀ t, t < i → (Il.get l t) ≠ (a : Int) := fun t ht e => by
    have := h.marked t ht
    rw [e, Int.toNat_natCast, hf] at this
    cases this
  refine ⟨by rw [List.length_set]; exact h.len, ?_, by rw [List.length_append, h.ln]; rfl, fun t ht => ?_, fun t ht => ?_, fun s t hs ht hst => ?_⟩
  · have h9 : S[a] = false := by have := hf; unfold bg at this; simpa [hal] using this
    rw [List.count_set hal, h.many, h9]
    simp
  · rw [hg t ht]
    by_cases e : t = i
    · rw [if_pos e]; omega
    · rw [if_neg e]; exact h.rng t (by omega)
  · rw [hg t ht, bg_set _ hal]
    by_cases e : t = i
    · rw [if_pos e, Int.toNat_natCast, if_pos rfl]
    · rw [if_neg e]
      split
      · rfl
      · exact h.marked t (by omega)
  · rw [hg s hs, hg t ht]
    by_cases e1 : s = i
    · rw [if_pos e1, if_neg (by omega)]
      exact (hne t (by omega)).symm
    · rw [if_neg e1]
      by_cases e2 : t = i
      · rw [if_pos e2]; exact hne s (by omega)
      · rw [if_neg e2]; exact h.apart s t (by omega) (by omega) hst
set_option maxRecDepth 100000 in
set_option maxHeartbeats 2000000 in
theorem picked_law (w : World) (A : Option Addr) (q c : Nat) (z : List UInt8) (hz : Bs w A q c z) (k n : Nat) (hk : k ≤ n) (hn : n ≤ 255) :
    Calls Try.prog 17 #[.slice A q c, .int .i64 (k : Int), .int .i64 (n : Int)] w fun e w' => ∃ (l : List Int) (B : Option Addr) (d : Nat), e = .returned (.slice B k d) ∧ Is w' B k d l ∧ (∀ t, t < k → 0 ≤ Il.get l t ∧ Il.get l t < n) ∧ (∀ s t, s < k → t < k → s ≠ t → Il.get l s ≠ Il.get l t) ∧ Ext w w' := by
  obtain ⟨i0, hi0, hz0, hz1, hz2⟩ := info_parts int_info
  have hmk := run_make_bools w n (by omega)
  have q1 := hz.max
  have q2 := hz.le
  have HZ := Lib.hid hz
  have hbo := Bo.made w n rfl
  have HBO := Lib.hid hbo
  have hx0 : Ext w (w.alloc (.cells (made n (.bool false)) 4)) := Ext.alloc _ _
  have HX0 := Lib.hid hx0
  have hs0 : w.heap.size + 1 ≤ (w.alloc (.cells (made n (.bool false)) 4)).heap.size := by simp
  have hgf : w.heap.size ≤ w.heap.size := Nat.le_refl _
  clear hz hbo hx0
  go_enter Try.func17, Try.ntmps17
  go_wp2_with (fail)
  generalize hW1 : w.alloc (.cells (made n (.bool false)) 4) = W1 at *
  clear hW1 hmk
  obtain ⟨g, hg⟩ : ∃ g, w.heap.size = g := ⟨_, rfl⟩
  have HG := Lib.hid hg
  rw [hg] at HBO hs0
  rw [hg]
  clear hg hgf
  go_wp2_with (fail)
  go_loopw [8, 9, 10] (fun v t _ wr => ∃ (i : Nat) (S : List Bool) (l : List Int), i ≤ k ∧ t = .int .i64 (i : Int) ∧ RowKit.Hid (Pk n i S l) ∧ Bo wr g S ∧ wr.ownsRow (g + 1) 3 1 v i (icells l) ∧ Ext w wr ∧ g + 1 ≤ wr.heap.size) (fun _ t _ _ => k - (intOf t).toNat)
  case atStart => exact ⟨0, List.replicate n false, [], by omega, rfl, Lib.hid (Pk.start n), HBO.out, World.ownsRow_nil _ _ _ _, HX0.out, hs0⟩
  case round =>
    obtain ⟨i, S, l, hi, rfl, HP, hb, hown, hx, hsz⟩ := hrel
    clear hs0
    by_cases hik : i < k
    · have r1 : (i : Int) < k := by omega
      obtain ⟨f, hf1, hf2⟩ := free_at HP.out.len HP.out.many (by omega)
      have HF2 := Lib.hid hf2
      have HB := Lib.hid hb
      have HOW := Lib.hid hown
      clear hf2 hb hown
      by_cases hiq : i < q
      · have r2 : (i : Int) < q := by omega
        obtain ⟨bz, oz, rfl, hcz⟩ := (HZ.out.ext hx).rd.byte hiq
        obtain ⟨a0, ha0⟩ : ∃ a0, (Gf.get z i).toNat % n = a0 := ⟨_, rfl⟩
        have ha1 : a0 < n := by rw [← ha0]; exact Nat.mod_lt _ (by omega)
        have ea : ((Gf.get z i).toNat : Int) % (n : Int) = (a0 : Int) := by rw [← ha0]; simp
        have lb := (Gf.get z i).toNat_lt
        generalize Gf.get z i = x at *
        clear ha0
        go_wp2_with (fail)
        obtain ⟨wq, rfl⟩ : ∃ wq : World, wq = wr := ⟨_, rfl⟩
        go_loopw [10] (fun t wr => ∃ a : Nat, a < n ∧ t = .int .i64 (a : Int) ∧ wr = wq) (fun t _ => dist f (intOf t).toNat n)
        case atStart => exact ⟨a0, ha1, by rw [ea], rfl⟩
        case round =>
          obtain ⟨a, ha, rfl, rfl⟩ := hrel
          have hlen := HP.out.len
          have hcb := HB.out.cell (j := a) (by rw [hlen]; exact ha)
          have hfb := HB.out.fz a
          have r3 : (a : Int) < n := by omega
          clear hlen
          by_cases hT : bg S a = true
          · rw [hT] at hcb
            have hne : a ≠ f := fun e => by rw [e, HF2.out] at hT; cases hT
            obtain ⟨a', ha'⟩ : ∃ a', (a + 1) % n = a' := ⟨_, rfl⟩
            have em : ((a : Int) + 1) % (n : Int) = (a' : Int) := by rw [← ha']; simp
            have hd : a' < n ∧ dist f a' n < dist f a n := by
              by_cases e : a + 1 = n
              · rw [e, Nat.mod_self] at ha'
                unfold dist
                rw [if_pos (by omega)]
                by_cases e2 : a ≤ f
                · omega
                · rw [if_neg e2]; omega
              · rw [Nat.mod_eq_of_lt (by omega)] at ha'
                unfold dist
                by_cases e2 : a ≤ f
                · rw [if_pos (by omega), if_pos e2]; omega
                · rw [if_neg (by omega), if_neg e2]; omega
            clear ha' hT hne
            go_wp2_with (fail)
            exact ⟨⟨a', hd.1, by rw [em], trivial⟩, by rw [em]; simpa [intOf] using hd.2⟩
          · have hT' : bg S a = false := by simpa using hT
            rw [hT'] at hcb
            have hnext := HP.out.step ha hT'
            have HNX := Lib.hid hnext
            have hset := HB.out.set a true
            have howf := ownsRow_far HOW.out (p := ⟨g, a, .none⟩) (by show g < g + 1; omega) (.bool true)
            have HB9 := Lib.hid (own_row HOW.out)
            have HST := Lib.hid (hset.ext (Ext.alloc _ (.cells #[.int .i64 (a : Int)] 3)))
            have HOF := Lib.hid (ownsRow_ext howf (Ext.alloc _ (.cells #[.int .i64 (a : Int)] 3)))
            have hxs : Ext w (wr.setCell ⟨g, a, none⟩ (.bool true)) := hx.set_ (by have := HG.out; show w.heap.size ≤ g; omega) _
            have HXS := Lib.hid hxs
            have hss : (wr.setCell ⟨g, a, none⟩ (.bool true)).heap.size = wr.heap.size := by simp
            clear hT hT' hnext hset howf hxs
            go_wp2_with (at_builtin; refine wpList_append_rd _ rfl (.tmp 40) (.tmp 42) 39 rfl (g + 1) 3 i0 _ 1 8 Try.underlying39 hi0 hz0 hz1 hz2 rfl (by omega) u8 i (icells l) rfl HOF.out (some ⟨wr.heap.size, 0, none⟩) 1 1 [.int .i64 (a : Int)] rfl (by rw [← hss]; exact Rd.lit _ #[.int .i64 (a : Int)] _) (by simp [Value.oneCell']) (by omega) (by unfold maxLen; omega) (by simp; omega) ?_; intro v5 w5 hown hgr hat)
            refine ⟨⟨i + 1, S.set a true, l ++ [(a : Int)], by omega, by go_num, HNX, ?_, ?_, ?_, ?_⟩, by simp [intOf]; omega⟩
            · exact HST.out.grown hgr (fun e => by have := HB9.out g e; omega)
            · rw [icells_append]; exact hown
            · exact (HXS.out.thenAlloc _).ofGrown hgr (fun q hq => by have := HB9.out q hq; have := HG.out; omega)
            · have h8 := hgr.size; simp at h8; omega
      · have r2 : ¬ (i : Int) < q := by omega
        have ha1 : 0 < n := by omega
        go_wp2_with (fail)
        obtain ⟨wq, rfl⟩ : ∃ wq : World, wq = wr := ⟨_, rfl⟩
        go_loopw [10] (fun t wr => ∃ a : Nat, a < n ∧ t = .int .i64 (a : Int) ∧ wr = wq) (fun t _ => dist f (intOf t).toNat n)
        case atStart => exact ⟨0, ha1, rfl, rfl⟩
        case round =>
          obtain ⟨a, ha, rfl, rfl⟩ := hrel
          have hlen := HP.out.len
          have hcb := HB.out.cell (j := a) (by rw [hlen]; exact ha)
          have hfb := HB.out.fz a
          have r3 : (a : Int) < n := by omega
          clear hlen
          by_cases hT : bg S a = true
          · rw [hT] at hcb
            have hne : a ≠ f := fun e => by rw [e, HF2.out] at hT; cases hT
            obtain ⟨a', ha'⟩ : ∃ a', (a + 1) % n = a' := ⟨_, rfl⟩
            have em : ((a : Int) + 1) % (n : Int) = (a' : Int) := by rw [← ha']; simp
            have hd : a' < n ∧ dist f a' n < dist f a n := by
              by_cases e : a + 1 = n
              · rw [e, Nat.mod_self] at ha'
                unfold dist
                rw [if_pos (by omega)]
                by_cases e2 : a ≤ f
                · omega
                · rw [if_neg e2]; omega
              · rw [Nat.mod_eq_of_lt (by omega)] at ha'
                unfold dist
                by_cases e2 : a ≤ f
                · rw [if_pos (by omega), if_pos e2]; omega
                · rw [if_neg (by omega), if_neg e2]; omega
            clear ha' hT hne
            go_wp2_with (fail)
            exact ⟨⟨a', hd.1, by rw [em], trivial⟩, by rw [em]; simpa [intOf] using hd.2⟩
          · have hT' : bg S a = false := by simpa using hT
            rw [hT'] at hcb
            have hnext := HP.out.step ha hT'
            have HNX := Lib.hid hnext
            have hset := HB.out.set a true
            have howf := ownsRow_far HOW.out (p := ⟨g, a, .none⟩) (by show g < g + 1; omega) (.bool true)
            have HB9 := Lib.hid (own_row HOW.out)
            have HST := Lib.hid (hset.ext (Ext.alloc _ (.cells #[.int .i64 (a : Int)] 3)))
            have HOF := Lib.hid (ownsRow_ext howf (Ext.alloc _ (.cells #[.int .i64 (a : Int)] 3)))
            have hxs : Ext w (wr.setCell ⟨g, a, none⟩ (.bool true)) := hx.set_ (by have := HG.out; show w.heap.size ≤ g; omega) _
            have HXS := Lib.hid hxs
            have hss : (wr.setCell ⟨g, a, none⟩ (.bool true)).heap.size = wr.heap.size := by simp
            clear hT hT' hnext hset howf hxs
            go_wp2_with (at_builtin; refine wpList_append_rd _ rfl (.tmp 40) (.tmp 42) 39 rfl (g + 1) 3 i0 _ 1 8 Try.underlying39 hi0 hz0 hz1 hz2 rfl (by omega) u8 i (icells l) rfl HOF.out (some ⟨wr.heap.size, 0, none⟩) 1 1 [.int .i64 (a : Int)] rfl (by rw [← hss]; exact Rd.lit _ #[.int .i64 (a : Int)] _) (by simp [Value.oneCell']) (by omega) (by unfold maxLen; omega) (by simp; omega) ?_; intro v5 w5 hown hgr hat)
            refine ⟨⟨i + 1, S.set a true, l ++ [(a : Int)], by omega, by go_num, HNX, ?_, ?_, ?_, ?_⟩, by simp [intOf]; omega⟩
            · exact HST.out.grown hgr (fun e => by have := HB9.out g e; omega)
            · rw [icells_append]; exact hown
            · exact (HXS.out.thenAlloc _).ofGrown hgr (fun q hq => by have := HB9.out q hq; have := HG.out; omega)
            · have h8 := hgr.size; simp at h8; omega
    · have r1 : ¬ (i : Int) < k := by omega
      obtain rfl : k = i := by omega
      have hres : ∃ A c, u8 = .slice A k c ∧ Is wr A k c l := by
        obtain ⟨A, c, e, h1, h2⟩ := ownsRow_slice hown
        subst e
        exact ⟨A, c, rfl, (Own.mk (base := g + 1) (e := 3) hown).ints⟩
      obtain ⟨A5, c5, rfl, his⟩ := hres
      have HIS := Lib.hid his
      have HPP := HP
      clear hown his
      go_wp2_with (fail)
      go_ret
      exact ⟨l, A5, c5, rfl, HIS.out, HPP.out.rng, HPP.out.apart, hx⟩
end Go.Proofs.Ytfpcldkfmcnjkaa
