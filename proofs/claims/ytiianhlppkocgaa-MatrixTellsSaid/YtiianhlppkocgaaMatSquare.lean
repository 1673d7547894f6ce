/- The contracts of the laws' own helpers: is, square. -/
import Derived.Test.YtiianhlppkocgaaMatSame
namespace Go.Proofs.Ytiianhlppkocgaa
open Go.RowKit

theorem is_any3 (w : World) (A A' : Option Addr) (n c m c' : Nat) (a b : Gm.L) (er : Int) (ha : Mx w A n c a) (hb : Mx w A' m c' b) :
    Calls Try.prog 43 #[.slice A n c, .int .i64 er, .slice A' m c'] w fun e w' => e = .returned (.bool (decide (er = 0 ∧ a = b))) ∧ Ext w w' := by
  by_cases h : er = 0
  · subst h
    have HS := Lib.hid (sameMatrix_any w A A' n c m c' a b ha hb)
    go_enter Try.func43, Try.ntmps43
    go_wp2_with (fail)
    refine HS.out.mono ?_
    rintro e w1 ⟨rfl, x1⟩
    go_wp2_with (fail)
    go_ret
    exact ⟨ret_bool (by simp), x1⟩
  · have e0 : (er == (0 : Int)) = false := by rw [beq_eq_false_iff_ne]; exact h
    have H := Lib.hid h
    clear h
    go_enter Try.func43, Try.ntmps43
    go_wp2_with (fail)
    go_ret
    exact ⟨ret_bool (decide_eq_false (fun h => H.out h.1)).symm, Ext.refl w⟩

/-- A row of a square of bytes; noughts where there are no more. -/
def sqRow (n : Nat) (b : List UInt8) (i k : Nat) : List UInt8 := (List.range n).map fun j => if j < k then Gf.get b (i * n + j) else 0
def squareL (n : Nat) (b : List UInt8) : Gm.L := (List.range n).map fun i => sqRow n b i n
theorem sqRow_length (n : Nat) (b : List UInt8) (i k : Nat) : (sqRow n b i k).length = n := by simp [sqRow]
theorem sqRow_zero (n : Nat) (b : List UInt8) (i : Nat) : sqRow n b i 0 = zeros n := by
  refine List.ext_getElem (by simp [sqRow, zeros]) fun k h1 h2 => ?_
  simp [sqRow, zeros]
theorem sqRow_set {n : Nat} {b : List UInt8} {i j : Nat} : (sqRow n b i j).set j (Gf.get b (i * n + j)) = sqRow n b i (j + 1) := by
  refine List.ext_getElem (by rw [List.length_set, sqRow_length, sqRow_length]) fun k h1 h2 => ?_
  rw [List.getElem_set]
  by_cases e : j = k
  · subst e; simp [sqRow]
  · rw [if_neg e]
    simp only [sqRow, List.getElem_map, List.getElem_range]
    by_cases e2 : k < j
    · rw [if_pos e2, if_pos (by omega)]
    · rw [if_neg e2, if_neg (by omega)]
theorem sqRow_none {n : Nat} {b : List UInt8} {i j : Nat} (h : b.length ≤ i * n + j) : sqRow n b i (j + 1) = sqRow n b i j := by
  refine List.ext_getElem (by rw [sqRow_length, sqRow_length]) fun k h1 h2 => ?_
  simp only [sqRow, List.getElem_map, List.getElem_range]
  by_cases e2 : k < j
  · rw [if_pos e2, if_pos (by omega)]
  · rw [if_neg e2]
    by_cases e : k = j
    · subst e
      rw [if_pos (by omega)]
      simp [Gf.get, List.getD_eq_getElem?_getD, List.getElem?_eq_none h]
    · rw [if_neg (by omega)]
theorem square_rect (n : Nat) (b : List UInt8) : Gm.Rect n n (squareL n b) := ⟨by simp [squareL], fun i hi => by unfold squareL; rw [Gm.row_range _ hi, sqRow_length]⟩
theorem squareL_take (n : Nat) (b : List UInt8) {k : Nat} (hk : k < n) : (squareL n b).take (k + 1) = (squareL n b).take k ++ [sqRow n b k n] := by
  rw [List.take_add_one, List.getElem?_eq_getElem (by simp [squareL]; exact hk)]
  simp [squareL]
set_option maxRecDepth 100000 in
set_option maxHeartbeats 2000000 in
theorem square_any (w : World) (n : Nat) (B : Option Addr) (k cB : Nat) (b : List UInt8) (hB : Bs w B k cB b) (hn : n ≤ 255) :
    Calls Try.prog 31 #[.int .i64 (n : Int), .slice B k cB] w (GivesQ (squareL n b) w) := by
  obtain ⟨i0, hi0, hz0, hz1, hz2⟩ := info_parts bytes_info
  have hm2 := fun W => run_make_bytes W n (by omega)
  have hkm := hB.max
  have hkl := hB.le
  have LB := Lib.hid hB.len
  obtain ⟨N2, hN2⟩ : ∃ N2, w.heap.size = N2 := ⟨_, rfl⟩
  have HN2 := Lib.hid hN2
  have hsz0 : N2 ≤ w.heap.size := by omega
  clear hN2
  go_enter Try.func31, Try.ntmps31
  go_wp2_with (fail)
  go_loopw [5, 6] (fun v s wr => ∃ (t : Nat) (cs : List Value), t ≤ n ∧ s = .int .i64 t ∧ Mq wr N2 (Hot N2 v) v t cs ((squareL n b).take t) ∧ Ext w wr ∧ N2 ≤ wr.heap.size) (fun _ s _ => n - (intOf s).toNat)
  case atStart => exact ⟨0, [], by omega, rfl, Mq.nil _ _ _, Ext.refl w, hsz0⟩
  case round =>
    obtain ⟨t, cs, ht, rfl, hQ, hx, hsz⟩ := hrel
    clear hsz0
    by_cases hlt : t < n
    · have i1 : (t : Int) < n := by omega
      obtain ⟨wo, rfl⟩ : ∃ wo : World, wo = wr := ⟨_, rfl⟩
      have hro : (wo.alloc (.cells (made n (.int .u8 0)) 5)).ownsRow wo.heap.size 5 1 (.slice (some ⟨wo.heap.size, 0, none⟩) n n) n (bcells (sqRow n b t 0)) := by
        rw [sqRow_zero]; unfold zeros
        rw [bcells_zeros]
        exact ownsRow_made wo _ _ n rfl (by omega) (Nat.le_refl _)
      have hx0 : Ext wo (wo.alloc (.cells (made n (.int .u8 0)) 5)) := Ext.alloc _ _
      have hsn := squareL_take n b hlt
      obtain ⟨p, hp⟩ : ∃ p, t * n = p := ⟨_, rfl⟩
      have hp2 : p ≤ 65025 := by rw [← hp]; exact Nat.mul_le_mul (show t ≤ 255 by omega) hn
      have em : IntKind.i64.wrap ((t : Int) * (n : Int)) = (p : Int) := by
        rw [← Int.natCast_mul, hp]; simp [IntKind.wrap, IntKind.bits, IntKind.signed]; omega
      have HQ := Lib.hid hQ
      have HSN := Lib.hid hsn
      have HP := Lib.hid hp
      have HRO := Lib.hid hro
      have HX0 := Lib.hid hx0
      clear hQ hsn hp hro hx0
      go_wp2_with (fail)
      go_loopw [8] (fun s wr => ∃ j : Nat, j ≤ n ∧ s = .int .i64 j ∧ wr.ownsRow wo.heap.size 5 1 (.slice (some ⟨wo.heap.size, 0, none⟩) n n) n (bcells (sqRow n b t j)) ∧ Ext wo wr) (fun s _ => n - (intOf s).toNat)
      case atStart => exact ⟨0, by omega, rfl, HRO.out, HX0.out⟩
      case round =>
        obtain ⟨j, hj, rfl, ho, hy⟩ := hrel
        by_cases hjn : j < n
        · have i2 : (j : Int) < n := by omega
          have es : IntKind.i64.wrap ((p : Int) + (j : Int)) = ((p + j : Nat) : Int) := by simp [IntKind.wrap, IntKind.bits, IntKind.signed]; omega
          by_cases hjk : p + j < k
          · have i3 : ((p + j : Nat) : Int) < k := by omega
            obtain ⟨bb, ob, rfl, hce⟩ := ((hB.ext hx).ext hy).rd.byte hjk
            have hcb : wr.cell? ⟨wo.heap.size, j, none⟩ = some (.int .u8 ((Gf.get (sqRow n b t j) j).toNat : Int)) := by rw [ho.cellAt j (by omega), bcells_get (by rw [sqRow_length]; exact hjn)]
            have hfb : wr.frozen? ⟨wo.heap.size, j, none⟩ = false := ho.frozenAt j
            have hst := (ho.stored j (.int .u8 ((Gf.get b (p + j)).toNat : Int))).1
            rw [← bcells_set, ← HP.out, sqRow_set, HP.out] at hst
            have hys := hy.set_ (p := ⟨wo.heap.size, j, none⟩) (Nat.le_refl _) (.int .u8 ((Gf.get b (p + j)).toNat : Int))
            have HS := Lib.hid hst
            have HY := Lib.hid hys
            clear hst hys ho hy
            go_wp2_with (fail)
            exact ⟨⟨j + 1, by omega, by go_num, HS.out, HY.out⟩, by simp [intOf]; omega⟩
          · have i3 : ¬ ((p + j : Nat) : Int) < k := by omega
            have hst := ho
            rw [← sqRow_none (by rw [HP.out, LB.out]; omega)] at hst
            have HS := Lib.hid hst
            clear hst ho
            go_wp2_with (fail)
            exact ⟨⟨j + 1, by omega, by go_num, HS.out, hy⟩, by simp [intOf]; omega⟩
        · have i2 : ¬ (j : Int) < n := by omega
          have hjn' : j = n := by omega
          rw [hjn'] at ho
          have hsr : (sqRow n b t n).length = n := sqRow_length _ _ _ _
          have ho' : wr.ownsRow wo.heap.size 5 1 (.slice (some ⟨wo.heap.size, 0, none⟩) (sqRow n b t n).length n) (sqRow n b t n).length (bcells (sqRow n b t n)) := by rw [hsr]; exact ho
          have ow4 := ownsRow_ext (ownsRow_ext HQ.out.own hy) (Ext.alloc wr (.cells #[.slice (some ⟨wo.heap.size, 0, none⟩) n n] 26))
          have HO4 := Lib.hid ow4
          have HO := Lib.hid ho'
          have HSR := Lib.hid hsr
          have hys := hy.size
          clear ow4 ho ho' hsr
          go_wp2_with (at_builtin; refine wpList_append_rd _ rfl (.tmp 40) (.tmp 42) 25 rfl N2 26 i0 _ 1 24 Try.underlying25 hi0 hz0 hz1 hz2 rfl (by omega) u5 t cs rfl HO4.out (some ⟨wr.heap.size, 0, none⟩) 1 1 [.slice (some ⟨wo.heap.size, 0, none⟩) n n] rfl (Rd.lit _ #[.slice (some ⟨wo.heap.size, 0, none⟩) n n] _) (by simp [Value.oneCell']) (by omega) (by unfold maxLen; omega) (by simp; omega) ?_; intro v5 w5 hown hgr hat)
          have hown' : w5.ownsRow N2 26 1 v5 (t + 1) (cs ++ [.slice (some ⟨wo.heap.size, 0, none⟩) (sqRow n b t n).length n]) := by rw [HSR.out]; exact hown
          have hsn2 := HQ.out.snoc hy HO.out (Nat.le_refl _) hsz (Ext.alloc wr (.cells #[.slice (some ⟨wo.heap.size, 0, none⟩) n n] 26)) hown' hgr hat
          have hne : ∀ q, u5.ownBlock = some q → N2 ≤ q := own_row HQ.out.own
          rw [HSR.out] at hsn2
          refine ⟨⟨t + 1, cs ++ [.slice (some ⟨wo.heap.size, 0, none⟩) n n], by omega, by go_num, ?_, ?_, ?_⟩, by simp [intOf]; omega⟩
          · rw [HSN.out]; exact hsn2
          · exact ((hx.trans hy).thenAlloc _).ofGrown hgr (fun q hq => by have := hne q hq; have := HN2.out; omega)
          · have := hgr.size; simp at this; omega
    · have i1 : ¬ (t : Int) < n := by omega
      obtain rfl : t = n := by omega
      rw [List.take_of_length_le (by simp [squareL])] at hQ
      go_wp2_with (fail)
      go_ret
      refine ⟨_, cs, rfl, ?_, hx⟩
      rw [(square_rect t b).len, HN2.out]
      exact hQ
end Go.Proofs.Ytiianhlppkocgaa
