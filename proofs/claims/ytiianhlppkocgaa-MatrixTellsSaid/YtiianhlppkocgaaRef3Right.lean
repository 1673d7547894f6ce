/- The contracts of the document's Right, Unit, inverse. -/
import Derived.Test.YtiianhlppkocgaaMatUnit
import Derived.Test.YtiianhlppkocgaaRef2Pow
import Derived.Deep.DrawnRows
namespace Go.Proofs.Ytiianhlppkocgaa
open Go.RowKit
attribute [local go_sem ↓] Go.wp_at_zero Go.wp_at_succ

set_option maxRecDepth 100000 in
set_option maxHeartbeats 1000000 in
theorem ref3Right_any (w : World) (A : Option Addr) (n c : Nat) (m : Gm.L) (hm : Mx w A n c m) :
    Calls Try.prog 26 #[.slice A n c] w fun e w' => e = .returned (.bool (decide (Gm.right m))) ∧ Ext w w' := by
  have hmax := hm.max
  have hle := hm.le
  have L := Lib.hid hm.len
  by_cases h1 : 1 ≤ n
  · have g1 : ¬ (n : Int) < 1 := by omega
    by_cases h2 : n ≤ 255
    · have g2 : ¬ (255 : Int) < (n : Int) := by omega
      obtain ⟨b, off, A0, n0, c0, rfl, hc0, hb0⟩ := hm.at_ (show 0 < n by omega)
      rw [Nat.add_zero] at hc0
      have hri := right_iff L.out h1 h2
      rw [hb0.len] at hri
      have HRI := Lib.hid hri
      have HM := Lib.hid hm
      have hm0 := hb0.max
      have hl0 := hb0.le
      clear hri hb0 hm
      have q0 : (0 : Int) < (n : Int) := by omega
      by_cases h3 : 1 ≤ n0
      · have g3 : ¬ (n0 : Int) < 1 := by omega
        by_cases h4 : n0 ≤ 255
        · have g4 : ¬ 255 < (n0 : Int) := by omega
          go_enter Try.func26, Try.ntmps26
          go_wp2_with (fail)
          go_loopw [3] (fun s wr => ∃ t : Nat, 1 ≤ t ∧ t ≤ n ∧ s = .int .i64 t ∧ Ext w wr ∧ RowKit.Hid (∀ i, i < t → (Gm.row m i).length = n0)) (fun s _ => n - (intOf s).toNat)
          case atStart => exact ⟨1, by omega, h1, rfl, Ext.refl w, Lib.hid fun i hi => by
            obtain rfl : i = 0 := by omega
            obtain ⟨b', off', A', n', c', e1, e2, e3⟩ := HM.out.at_ (show 0 < n by omega)
            injection e1 with e1
            injection e1 with e1 e4
            subst e1 e4
            rw [Nat.add_zero, hc0] at e2
            injection e2 with e2
            injection e2 with _ e2 _
            rw [e2]
            exact e3.len⟩
          case round =>
            obtain ⟨t, ht1, ht, rfl, hx, H⟩ := hrel
            by_cases hlt : t < n
            · have i1 : (t : Int) < n := by omega
              obtain ⟨bm, om, Ai, ni, ci, e1, hce, hbi⟩ := (HM.out.ext hx).at_ hlt
              injection e1 with e1
              injection e1 with e1 e4
              subst e1 e4
              have hni := Lib.hid hbi.len
              have hmi := hbi.max
              have hli := hbi.le
              have hc1 := hx.cell hc0
              clear hbi
              by_cases hs : ni = n0
              · have i2 : ((ni : Int) != n0) = false := by simp [hs]
                go_wp2_with (fail)
                go_region
                all_goals
                  go_wp2_with (fail)
                  refine ⟨⟨t + 1, by omega, by omega, by go_num, hx.thenDrew, Lib.hid fun i hi => ?_⟩, by simp [intOf]; omega⟩
                  by_cases e : i = t
                  · rw [e, hni.out]; exact hs
                  · exact H.out i (by omega)
              · have i2 : ((ni : Int) != n0) = true := by simp; omega
                go_wp2_with (fail)
                go_region
                all_goals
                  go_wp2_with (fail)
                  go_ret
                  exact ⟨ret_bool (decide_eq_false (fun q => hs (by rw [← hni.out]; exact (q.2.2.2.2 t (by rw [L.out]; exact hlt)).trans (by rw [← H.out 0 (by omega)]; rfl)))).symm, hx.thenDrew⟩
            · have i1 : ¬ (t : Int) < n := by omega
              have htn : t = n := by omega
              rw [htn] at H
              go_wp2_with (fail)
              go_ret
              refine ⟨ret_bool (decide_eq_true ?_).symm, hx⟩
              rw [HRI.out]
              refine ⟨⟨h3, h4⟩, ?_⟩
              rintro ⟨k, hk, e⟩
              rw [H.out k hk] at e
              simp at e
        · have g4 : 255 < (n0 : Int) := by omega
          go_enter Try.func26, Try.ntmps26
          go_wp2_with (fail)
          go_ret
          refine ⟨ret_bool ?_, Ext.refl _⟩
          rw [eq_comm, decide_eq_false_iff_not, HRI.out]
          exact fun h => h4 h.1.2
      · have g3 : (n0 : Int) < 1 := by omega
        go_enter Try.func26, Try.ntmps26
        go_wp2_with (fail)
        go_ret
        refine ⟨ret_bool ?_, Ext.refl _⟩
        rw [eq_comm, decide_eq_false_iff_not, HRI.out]
        exact fun h => h3 h.1.1
    · have g2 : (255 : Int) < (n : Int) := by omega
      clear hm
      go_enter Try.func26, Try.ntmps26
      go_wp2_with (fail)
      go_ret
      refine ⟨ret_bool ?_, Ext.refl _⟩
      rw [eq_comm, decide_eq_false_iff_not]
      exact fun h => h2 (by have := h.2.1; rwa [L.out] at this)
  · have g1 : (n : Int) < 1 := by omega
    clear hm
    go_enter Try.func26, Try.ntmps26
    go_wp2_with (fail)
    go_ret
    refine ⟨ret_bool ?_, Ext.refl _⟩
    rw [eq_comm, decide_eq_false_iff_not]
    exact fun h => h1 (by have := h.1; rwa [L.out] at this)

theorem inverse_any (w : World) (x : UInt8) :
    Calls Try.prog 50 #[.int .u8 (x.toNat : Int)] w fun e w' => e = .returned (.int .u8 ((Gf.pow x 254).toNat : Int)) ∧ w = w' := by
  have h := refPow_any w x 254 (by decide)
  have H := Lib.hid h
  clear h
  go_enter Try.func50, Try.ntmps50
  go_wp2_with (fail)
  refine H.out.mono ?_
  rintro e w' ⟨rfl, rfl⟩
  go_wp2_with (fail)
  go_ret
  exact ⟨rfl, rfl⟩

theorem ownsRow_lit (w : World) (cs : Array Value) (t : TypeId) (r : List UInt8) (h : cs.toList = bcells r) (hl : r.length ≤ 1000) : (w.alloc (.cells cs t)).ownsRow w.heap.size t 1 (.slice (some ⟨w.heap.size, 0, none⟩) r.length r.length) r.length (bcells r) := by
  have hs : cs.size = r.length := by rw [← Array.length_toList, h, bcells_length]
  exact ⟨by simp [bcells], .inr ⟨w.heap.size, r.length, cs, rfl, Nat.le_refl _, heap_alloc_new w _, Nat.le_refl _, by unfold maxLen; omega, by simp [hs], by rw [h]; exact List.take_of_length_le (by rw [bcells_length]; omega)⟩⟩
theorem Rd.lit_at (w : World) {g : Nat} (hg : w.heap.size = g) (cs : Array Value) (t : TypeId) : Rd (w.alloc (.cells cs t)) 1 (some ⟨g, 0, none⟩) cs.size cs.toList := by
  subst hg
  exact Rd.lit w cs t
theorem ref3Unit_no (w : World) (n : Int) (h : n < 1 ∨ 255 < n) :
    Calls Try.prog 28 #[.int .i64 n] w (GivesQE [] 2 w) := by
  rcases h with h | h
  · go_enter Try.func28, Try.ntmps28
    go_wp2_with (fail)
    go_ret2
    exact GivesQE.none 2 (Ext.refl w)
  · have h0 : ¬ n < 1 := by omega
    go_enter Try.func28, Try.ntmps28
    go_wp2_with (fail)
    go_ret2
    exact GivesQE.none 2 (Ext.refl w)

set_option maxRecDepth 100000 in
set_option maxHeartbeats 1000000 in
theorem ref3Unit_ok (w : World) (n : Nat) (h1 : 1 ≤ n) (h2 : n ≤ 255) :
    Calls Try.prog 28 #[.int .i64 (n : Int)] w (GivesQE (Gm.unit n) 0 w) := by
  obtain ⟨i0, hi0, hz0, hz1, hz2⟩ := info_parts bytes_info
  have g1 : ¬ (n : Int) < 1 := by omega
  have g2 : ¬ (255 : Int) < n := by omega
  have hm2 := fun W => run_make_bytes W n (by omega)
  have hul : (Gm.unit n).length = n := (Gm.unit_rect n).len
  have HU := Lib.hid hul
  obtain ⟨N2, hN2⟩ : ∃ N2, w.heap.size = N2 := ⟨_, rfl⟩
  have HN2 := Lib.hid hN2
  have hsz0 : N2 ≤ w.heap.size := by omega
  clear hN2 hul
  go_enter Try.func28, Try.ntmps28
  go_wp2_with (fail)
  go_loopw [4, 5, 6] (fun v s _ wr => ∃ (t : Nat) (cs : List Value), t ≤ n ∧ s = .int .i64 t ∧ Mq wr N2 (Hot N2 v) v t cs ((Gm.unit n).take t) ∧ Ext w wr ∧ N2 ≤ wr.heap.size) (fun _ s _ _ => n - (intOf s).toNat)
  case atStart => exact ⟨0, [], by omega, rfl, by rw [List.take_zero]; exact Mq.nil _ _ _, Ext.refl w, hsz0⟩
  case round =>
    obtain ⟨t, cs, ht, rfl, hQ, hx, hsz⟩ := hrel
    clear hsz0
    by_cases hlt : t < n
    · have i1 : (t : Int) < n := by omega
      have hsn : (Gm.unit n).take (t + 1) = (Gm.unit n).take t ++ [(zeros n).set t 1] := by
        rw [unit_row n t hlt, List.take_add_one, List.getElem?_eq_getElem (by rw [HU.out]; exact hlt), Gm.row_of_lt (by rw [HU.out]; exact hlt)]; rfl
      have hzl : ((zeros n).set t 1).length = n := by simp [zeros]
      have hro : (wr.alloc (.cells (made n (.int .u8 0)) 5)).ownsRow wr.heap.size 5 1 (.slice (some ⟨wr.heap.size, 0, none⟩) n n) n (bcells (zeros n)) := by
        unfold zeros
        rw [bcells_zeros]
        exact ownsRow_made wr _ _ n rfl (by omega) (Nat.le_refl _)
      have htl : ((made n (.int .u8 0)).setIfInBounds t (.int .u8 1)).toList = bcells ((zeros n).set t 1) := by
        rw [Array.toList_setIfInBounds, made_toList, ← bcells_zeros]
        exact (bcells_set (zeros n) t 1).symm
      have hmg : (made n (.int .u8 0))[t]? = some (.int .u8 0) := by rw [← Array.getElem?_toList, made_toList]; simp [hlt]
      have hst := ownsRow_lit wr _ 5 _ htl (by rw [hzl]; omega)
      have hxa := Ext.alloc wr (.cells ((made n (.int .u8 0)).setIfInBounds t (.int .u8 1)) 5)
      have ow4 := ownsRow_ext (ownsRow_ext hQ.own hxa) (Ext.alloc _ (.cells #[.slice (some ⟨wr.heap.size, 0, none⟩) n n] 26))
      have HSN := Lib.hid hsn
      have HQ := Lib.hid hQ
      have HS := Lib.hid hst
      have HXA := Lib.hid hxa
      have HZL := Lib.hid hzl
      have HO4 := Lib.hid ow4
      clear hsn hQ hst hxa hzl hro htl ow4
      go_wp2_with (at_builtin; refine wpList_append_rd _ rfl (.tmp 23) (.tmp 25) 25 rfl N2 26 i0 _ 1 24 Try.underlying25 hi0 hz0 hz1 hz2 rfl (by omega) u4 t cs rfl HO4.out (some ⟨wr.heap.size + 1, 0, none⟩) 1 1 [.slice (some ⟨wr.heap.size, 0, none⟩) n n] rfl (Rd.lit_at _ (by simp) #[.slice (some ⟨wr.heap.size, 0, none⟩) n n] _) (by simp [Value.oneCell']) (by omega) (by unfold maxLen; omega) (by simp; omega) ?_; intro v5 w5 hown hgr hat)
      have hne : ∀ q, u4.ownBlock = some q → N2 ≤ q := own_row HQ.out.own
      have hsl : (.slice (some ⟨wr.heap.size, 0, none⟩) n n : Value) = .slice (some ⟨wr.heap.size, 0, none⟩) ((zeros n).set t 1).length n := by rw [HZL.out]
      have hsn2 := HQ.out.snoc HXA.out (r := (zeros n).set t 1) (A := some ⟨wr.heap.size, 0, none⟩) (c := n) (by have h := HS.out; rw [HZL.out] at h ⊢; exact h) (Nat.le_refl _) hsz (Ext.alloc _ _) (by rw [HZL.out]; exact hown) hgr hat
      rw [HZL.out] at hsn2
      refine ⟨⟨t + 1, cs ++ [.slice (some ⟨wr.heap.size, 0, none⟩) n n], by omega, by go_num, ?_, ?_, ?_⟩, by simp [intOf]; omega⟩
      · rw [HSN.out]; exact hsn2
      · exact ((hx.trans HXA.out).thenAlloc _).ofGrown hgr (fun q hq => by have := hne q hq; have := HN2.out; omega)
      · have := hgr.size; simp at this; omega
    · have i1 : ¬ (t : Int) < n := by omega
      obtain rfl : t = n := by omega
      rw [List.take_of_length_le (by rw [HU.out]; exact Nat.le_refl _)] at hQ
      go_wp2_with (fail)
      go_ret2
      refine ⟨_, cs, rfl, ?_, hx⟩
      rw [HU.out, HN2.out]
      exact hQ
end Go.Proofs.Ytiianhlppkocgaa
