/- Several texts in one: The contracts of the document's Right, Unit, inverse. The contract of the document's Cauchy. The contract of the document's New (chapter 04). -/
import Derived.Test.YtfpglkacjecoeaaGreatCt15
import Derived.Test.YtfpglkacjecoeaaGreatCt25
import Derived.Deep.DrawnRows
import Derived.Test.YtfpglkacjecoeaaGreatCt16
namespace Go.Proofs.YtfpglkacjecoeaaGreat
open Go.RowKit
attribute [local go_sem ↓] Go.wp_at_zero Go.wp_at_succ

set_option maxRecDepth 100000 in
set_option maxHeartbeats 1000000 in
theorem ref3Right_any (w : World) (A : Option Addr) (n c : Nat) (m : Gm.L) (hm : Mx w A n c m) :
    Calls Tryz.prog 90 #[.slice A n c] w fun e w' => e = .returned (.bool (decide (Gm.right m))) ∧ Ext w w' := by
  have hmax := hm.max
  have hle := hm.le
  have L := Lib.hid hm.len
  by_cases h1 : 1 ≤ n
  · have g1 : ¬ (n : Int) < 1 := by omega
    by_cases h2 : n ≤ 255
    · have g2 : ¬ (255 : Int) < (n : Int) := by omega
      obtain ⟨b, off, A0, n0, c0, rfl, hc0, hb0⟩ := hm.at_ (show 0 < n by omega)
      rw [Nat.add_zero] at hc0
      have hri := right_iff L.out h1 h2
      rw [hb0.len] at hri
      have HRI := Lib.hid hri
      have HM := Lib.hid hm
      have hm0 := hb0.max
      have hl0 := hb0.le
      clear hri hb0 hm
      have q0 : (0 : Int) < (n : Int) := by omega
      by_cases h3 : 1 ≤ n0
      · have g3 : ¬ (n0 : Int) < 1 := by omega
        by_cases h4 : n0 ≤ 255
        · have g4 : ¬ 255 < (n0 : Int) := by omega
          go_enter Tryz.func90, Tryz.ntmps90
          go_wp2_with (fail)
          go_loopw [3] (fun s wr => ∃ t : Nat, 1 ≤ t ∧ t ≤ n ∧ s = .int .i64 t ∧ Ext w wr ∧ RowKit.Hid (∀ i, i < t → (Gm.row m i).length = n0)) (fun s _ => n - (intOf s).toNat)
          case atStart => exact ⟨1, by omega, h1, rfl, Ext.refl w, Lib.hid fun i hi => by
            obtain rfl : i = 0 := by omega
            obtain ⟨b', off', A', n', c', e1, e2, e3⟩ := HM.out.at_ (show 0 < n by omega)
            injection e1 with e1
            injection e1 with e1 e4
            subst e1 e4
            rw [Nat.add_zero, hc0] at e2
            injection e2 with e2
            injection e2 with _ e2 _
            rw [e2]
            exact e3.len⟩
          case round =>
            obtain ⟨t, ht1, ht, rfl, hx, H⟩ := hrel
            by_cases hlt : t < n
            · have i1 : (t : Int) < n := by omega
              obtain ⟨bm, om, Ai, ni, ci, e1, hce, hbi⟩ := (HM.out.ext hx).at_ hlt
              injection e1 with e1
              injection e1 with e1 e4
              subst e1 e4
              have hni := Lib.hid hbi.len
              have hmi := hbi.max
              have hli := hbi.le
              have hc1 := hx.cell hc0
              clear hbi
              by_cases hs : ni = n0
              · have i2 : ((ni : Int) != n0) = false := by simp [hs]
                go_wp2_with (fail)
                go_region
                all_goals
                  go_wp2_with (fail)
                  refine ⟨⟨t + 1, by omega, by omega, by go_num, hx.thenDrew, Lib.hid fun i hi => ?_⟩, by simp [intOf]; omega⟩
                  by_cases e : i = t
                  · rw [e, hni.out]; exact hs
                  · exact H.out i (by omega)
              · have i2 : ((ni : Int) != n0) = true := by simp; omega
                go_wp2_with (fail)
                go_region
                all_goals
                  go_wp2_with (fail)
                  go_ret
                  exact ⟨ret_bool (decide_eq_false (fun q => hs (by rw [← hni.out]; exact (q.2.2.2.2 t (by rw [L.out]; exact hlt)).trans (by rw [← H.out 0 (by omega)]; rfl)))).symm, hx.thenDrew⟩
            · have i1 : ¬ (t : Int) < n := by omega
              have htn : t = n := by omega
              rw [htn] at H
              go_wp2_with (fail)
              go_ret
              refine ⟨ret_bool (decide_eq_true ?_).symm, hx⟩
              rw [HRI.out]
              refine ⟨⟨h3, h4⟩, ?_⟩
              rintro ⟨k, hk, e⟩
              rw [H.out k hk] at e
              simp at e
        · have g4 : 255 < (n0 : Int) := by omega
          go_enter Tryz.func90, Tryz.ntmps90
          go_wp2_with (fail)
          go_ret
          refine ⟨ret_bool ?_, Ext.refl _⟩
          rw [eq_comm, decide_eq_false_iff_not, HRI.out]
          exact fun h => h4 h.1.2
      · have g3 : (n0 : Int) < 1 := by omega
        go_enter Tryz.func90, Tryz.ntmps90
        go_wp2_with (fail)
        go_ret
        refine ⟨ret_bool ?_, Ext.refl _⟩
        rw [eq_comm, decide_eq_false_iff_not, HRI.out]
        exact fun h => h3 h.1.1
    · have g2 : (255 : Int) < (n : Int) := by omega
      clear hm
      go_enter Tryz.func90, Tryz.ntmps90
      go_wp2_with (fail)
      go_ret
      refine ⟨ret_bool ?_, Ext.refl _⟩
      rw [eq_comm, decide_eq_false_iff_not]
      exact fun h => h2 (by have := h.2.1; rwa [L.out] at this)
  · have g1 : (n : Int) < 1 := by omega
    clear hm
    go_enter Tryz.func90, Tryz.ntmps90
    go_wp2_with (fail)
    go_ret
    refine ⟨ret_bool ?_, Ext.refl _⟩
    rw [eq_comm, decide_eq_false_iff_not]
    exact fun h => h1 (by have := h.1; rwa [L.out] at this)

theorem inverse_any (w : World) (x : UInt8) :
    Calls Tryz.prog 55 #[.int .u8 (x.toNat : Int)] w fun e w' => e = .returned (.int .u8 ((Gf.pow x 254).toNat : Int)) ∧ w = w' := by
  have h := refPow_any w x 254 (by decide)
  have H := Lib.hid h
  clear h
  go_enter Tryz.func55, Tryz.ntmps55
  go_wp2_with (fail)
  refine H.out.mono ?_
  rintro e w' ⟨rfl, rfl⟩
  go_wp2_with (fail)
  go_ret
  exact ⟨rfl, rfl⟩

theorem ownsRow_lit (w : World) (cs : Array Value) (t : TypeId) (r : List UInt8) (h : cs.toList = bcells r) (hl : r.length ≤ 1000) : (w.alloc (.cells cs t)).ownsRow w.heap.size t 1 (.slice (some ⟨w.heap.size, 0, none⟩) r.length r.length) r.length (bcells r) := by
  have hs : cs.size = r.length := by rw [← Array.length_toList, h, bcells_length]
  exact ⟨by simp [bcells], .inr ⟨w.heap.size, r.length, cs, rfl, Nat.le_refl _, heap_alloc_new w _, Nat.le_refl _, by unfold maxLen; omega, by simp [hs], by rw [h]; exact List.take_of_length_le (by rw [bcells_length]; omega)⟩⟩
theorem Rd.lit_at (w : World) {g : Nat} (hg : w.heap.size = g) (cs : Array Value) (t : TypeId) : Rd (w.alloc (.cells cs t)) 1 (some ⟨g, 0, none⟩) cs.size cs.toList := by
  subst hg
  exact Rd.lit w cs t
theorem ref3Unit_no (w : World) (n : Int) (h : n < 1 ∨ 255 < n) :
    Calls Tryz.prog 34 #[.int .i64 n] w (GivesQE [] 2 w) := by
  rcases h with h | h
  · go_enter Tryz.func34, Tryz.ntmps34
    go_wp2_with (fail)
    go_ret2
    exact GivesQE.none 2 (Ext.refl w)
  · have h0 : ¬ n < 1 := by omega
    go_enter Tryz.func34, Tryz.ntmps34
    go_wp2_with (fail)
    go_ret2
    exact GivesQE.none 2 (Ext.refl w)

set_option maxRecDepth 100000 in
set_option maxHeartbeats 1000000 in
theorem ref3Unit_ok (w : World) (n : Nat) (h1 : 1 ≤ n) (h2 : n ≤ 255) :
    Calls Tryz.prog 34 #[.int .i64 (n : Int)] w (GivesQE (Gm.unit n) 0 w) := by
  obtain ⟨i0, hi0, hz0, hz1, hz2⟩ := info_parts bytes_info
  have g1 : ¬ (n : Int) < 1 := by omega
  have g2 : ¬ (255 : Int) < n := by omega
  have hm2 := fun W => run_make_bytes W n (by omega)
  have hul : (Gm.unit n).length = n := (Gm.unit_rect n).len
  have HU := Lib.hid hul
  obtain ⟨N2, hN2⟩ : ∃ N2, w.heap.size = N2 := ⟨_, rfl⟩
  have HN2 := Lib.hid hN2
  have hsz0 : N2 ≤ w.heap.size := by omega
  clear hN2 hul
  go_enter Tryz.func34, Tryz.ntmps34
  go_wp2_with (fail)
  go_loopw [4, 5, 6] (fun v s _ wr => ∃ (t : Nat) (cs : List Value), t ≤ n ∧ s = .int .i64 t ∧ Mq wr N2 (Hot N2 v) v t cs ((Gm.unit n).take t) ∧ Ext w wr ∧ N2 ≤ wr.heap.size) (fun _ s _ _ => n - (intOf s).toNat)
  case atStart => exact ⟨0, [], by omega, rfl, by rw [List.take_zero]; exact Mq.nil _ _ _, Ext.refl w, hsz0⟩
  case round =>
    obtain ⟨t, cs, ht, rfl, hQ, hx, hsz⟩ := hrel
    clear hsz0
    by_cases hlt : t < n
    · have i1 : (t : Int) < n := by omega
      have hsn : (Gm.unit n).take (t + 1) = (Gm.unit n).take t ++ [(zeros n).set t 1] := by
        rw [unit_row n t hlt, List.take_add_one, List.getElem?_eq_getElem (by rw [HU.out]; exact hlt), Gm.row_of_lt (by rw [HU.out]; exact hlt)]; rfl
      have hzl : ((zeros n).set t 1).length = n := by simp [zeros]
      have hro : (wr.alloc (.cells (made n (.int .u8 0)) 5)).ownsRow wr.heap.size 5 1 (.slice (some ⟨wr.heap.size, 0, none⟩) n n) n (bcells (zeros n)) := by
        unfold zeros
        rw [bcells_zeros]
        exact ownsRow_made wr _ _ n rfl (by omega) (Nat.le_refl _)
      have htl : ((made n (.int .u8 0)).setIfInBounds t (.int .u8 1)).toList = bcells ((zeros n).set t 1) := by
        rw [Array.toList_setIfInBounds, made_toList, ← bcells_zeros]
        exact (bcells_set (zeros n) t 1).symm
      have hmg : (made n (.int .u8 0))[t]? = some (.int .u8 0) := by rw [← Array.getElem?_toList, made_toList]; simp [hlt]
      have hst := ownsRow_lit wr _ 5 _ htl (by rw [hzl]; omega)
      have hxa := Ext.alloc wr (.cells ((made n (.int .u8 0)).setIfInBounds t (.int .u8 1)) 5)
      have ow4 := ownsRow_ext (ownsRow_ext hQ.own hxa) (Ext.alloc _ (.cells #[.slice (some ⟨wr.heap.size, 0, none⟩) n n] 46))
      have HSN := Lib.hid hsn
      have HQ := Lib.hid hQ
      have HS := Lib.hid hst
      have HXA := Lib.hid hxa
      have HZL := Lib.hid hzl
      have HO4 := Lib.hid ow4
      clear hsn hQ hst hxa hzl hro htl ow4
      go_wp2_with (at_builtin; refine wpList_append_rd _ rfl (.tmp 23) (.tmp 25) 39 rfl N2 46 i0 _ 1 24 Tryz.underlying39 hi0 hz0 hz1 hz2 rfl (by omega) u4 t cs rfl HO4.out (some ⟨wr.heap.size + 1, 0, none⟩) 1 1 [.slice (some ⟨wr.heap.size, 0, none⟩) n n] rfl (Rd.lit_at _ (by simp) #[.slice (some ⟨wr.heap.size, 0, none⟩) n n] _) (by simp [Value.oneCell']) (by omega) (by unfold maxLen; omega) (by simp; omega) ?_; intro v5 w5 hown hgr hat)
      have hne : ∀ q, u4.ownBlock = some q → N2 ≤ q := own_row HQ.out.own
      have hsl : (.slice (some ⟨wr.heap.size, 0, none⟩) n n : Value) = .slice (some ⟨wr.heap.size, 0, none⟩) ((zeros n).set t 1).length n := by rw [HZL.out]
      have hsn2 := HQ.out.snoc HXA.out (r := (zeros n).set t 1) (A := some ⟨wr.heap.size, 0, none⟩) (c := n) (by have h := HS.out; rw [HZL.out] at h ⊢; exact h) (Nat.le_refl _) hsz (Ext.alloc _ _) (by rw [HZL.out]; exact hown) hgr hat
      rw [HZL.out] at hsn2
      refine ⟨⟨t + 1, cs ++ [.slice (some ⟨wr.heap.size, 0, none⟩) n n], by omega, by go_num, ?_, ?_, ?_⟩, by simp [intOf]; omega⟩
      · rw [HSN.out]; exact hsn2
      · exact ((hx.trans HXA.out).thenAlloc _).ofGrown hgr (fun q hq => by have := hne q hq; have := HN2.out; omega)
      · have := hgr.size; simp at this; omega
    · have i1 : ¬ (t : Int) < n := by omega
      obtain rfl : t = n := by omega
      rw [List.take_of_length_le (by rw [HU.out]; exact Nat.le_refl _)] at hQ
      go_wp2_with (fail)
      go_ret2
      refine ⟨_, cs, rfl, ?_, hx⟩
      rw [HU.out, HN2.out]
      exact hQ
end Go.Proofs.YtfpglkacjecoeaaGreat
namespace Go.Proofs.YtfpglkacjecoeaaGreat
open Go.RowKit

theorem pow_254 (x : UInt8) : Gf.pow x 254 = Gf.inv x := by
  by_cases h : x = 0
  · rw [h, Gf.pow_zero_base _ (by omega)]; rfl
  · have h1 : Gf.mul (Gf.pow x 254) x = 1 := by rw [← Gf.pow_255 h]; rfl
    calc Gf.pow x 254 = Gf.mul (Gf.pow x 254) 1 := (Gf.mul_one _).symm
      _ = Gf.mul (Gf.pow x 254) (Gf.mul x (Gf.inv x)) := by rw [Gf.mul_inv h]
      _ = Gf.mul (Gf.mul (Gf.pow x 254) x) (Gf.inv x) := by rw [Gf.mul_assoc]
      _ = Gf.inv x := by rw [h1, Gf.one_mul]
theorem take_getC {l : List UInt8} {j : Nat} (h : j < l.length) : l.take (j + 1) = l.take j ++ [Gf.get l j] := by
  rw [List.take_succ_eq_append_getElem h]
  simp [Gf.get, h]
theorem take_rowC {m : Gm.L} {j : Nat} (h : j < m.length) : m.take (j + 1) = m.take j ++ [Gm.row m j] := by
  rw [List.take_succ_eq_append_getElem h, Gm.row_of_lt h]
set_option maxRecDepth 100000 in
set_option maxHeartbeats 1000000 in
theorem ref3Cauchy_no (w : World) (r c : Int) (h : r < 1 ∨ c < 1 ∨ 256 < r ∨ 256 - r < c) :
    Calls Tryz.prog 35 #[.int .i64 r, .int .i64 c] w (GivesQE [] 2 w) := by
  by_cases h1 : r < 1
  · go_enter Tryz.func35, Tryz.ntmps35
    go_wp2_with (fail)
    go_ret2
    exact GivesQE.none 2 (Ext.refl w)
  · by_cases h2 : c < 1
    · go_enter Tryz.func35, Tryz.ntmps35
      go_wp2_with (fail)
      go_ret2
      exact GivesQE.none 2 (Ext.refl w)
    · by_cases h3 : 256 < r
      · go_enter Tryz.func35, Tryz.ntmps35
        go_wp2_with (fail)
        go_ret2
        exact GivesQE.none 2 (Ext.refl w)
      · by_cases h4 : 256 < c
        · go_enter Tryz.func35, Tryz.ntmps35
          go_wp2_with (fail)
          go_ret2
          exact GivesQE.none 2 (Ext.refl w)
        · have h5 : 256 < r + c := by omega
          clear h
          go_enter Tryz.func35, Tryz.ntmps35
          go_wp2_with (fail)
          go_ret2
          exact GivesQE.none 2 (Ext.refl w)
set_option maxRecDepth 100000 in
set_option maxHeartbeats 4000000 in
theorem ref3Cauchy_ok (w : World) (r c : Nat) (h1 : 1 ≤ r) (h2 : 1 ≤ c) (h3 : r + c ≤ 256) :
    Calls Tryz.prog 35 #[.int .i64 (r : Int), .int .i64 (c : Int)] w (GivesQE (Gm.cauchy r c) 0 w) := by
  obtain ⟨i0, hi0, hz0, hz1, hz2⟩ := info_parts bytes_info
  obtain ⟨j1, hj1, hy0, hy1, hy2⟩ := info_parts u8_info
  have g1 : ¬ (r : Int) < 1 := by omega
  have g2 : ¬ (c : Int) < 1 := by omega
  have g3 : ¬ (256 : Int) < r := by omega
  have g4 : ¬ (256 : Int) < c := by omega
  have g5 : ¬ (256 : Int) < (r : Int) + c := by omega
  have hul : (Gm.cauchy r c).length = r := (Gm.cauchy_rect r c).len
  have hat : ∀ i, i < r → ∀ j, j < c → Gf.get (Gm.row (Gm.cauchy r c) i) j = Gf.inv (UInt8.ofNat (c + i) ^^^ UInt8.ofNat j) := fun i hi j hj => Gm.at_cauchy hi hj
  have hwid : ∀ i, i < r → (Gm.row (Gm.cauchy r c) i).length = c := fun i hi => (Gm.cauchy_rect r c).wid i hi
  have HU := Lib.hid hul
  have HAT := Lib.hid hat
  have HWID := Lib.hid hwid
  obtain ⟨N2, hN2⟩ : ∃ N2, w.heap.size = N2 := ⟨_, rfl⟩
  have HN2 := Lib.hid hN2
  have hsz0 : N2 ≤ w.heap.size := by omega
  clear hN2 hul hat hwid
  generalize Gm.cauchy r c = M at *
  go_enter Tryz.func35, Tryz.ntmps35
  go_wp2_with (fail)
  go_loopw [6, 7, 8, 9] (fun v s _ _ wr => ∃ (t : Nat) (cs : List Value), t ≤ r ∧ s = .int .i64 t ∧ Mq wr N2 (Hot N2 v) v t cs (M.take t) ∧ Ext w wr ∧ N2 ≤ wr.heap.size) (fun _ s _ _ _ => r - (intOf s).toNat)
  case atStart => exact ⟨0, [], by omega, rfl, by rw [List.take_zero]; exact Mq.nil _ _ _, Ext.refl w, hsz0⟩
  case round =>
    obtain ⟨i, cs, hi, rfl, hQ, hx, hsz⟩ := hrel
    clear hsz0
    by_cases hlt : i < r
    · have q1 : (i : Int) < r := by omega
      obtain ⟨wo, rfl⟩ : ∃ wo : World, wo = wr := ⟨_, rfl⟩
      have hF := HAT.out i hlt
      have hl := HWID.out i hlt
      have hsn := take_rowC (m := M) (j := i) (by rw [HU.out]; exact hlt)
      generalize Gm.row M i = F at *
      have HSN := Lib.hid hsn
      have HF := Lib.hid hF
      have HL := Lib.hid hl
      have HQ := Lib.hid hQ
      clear hF hl hsn hQ
      go_wp2_with (fail)
      go_loopw [8, 9] (fun v s wr => ∃ j : Nat, j ≤ c ∧ s = .int .i64 j ∧ wr.ownsRow wo.heap.size 5 1 v j (bcells (F.take j)) ∧ Ext wo wr) (fun _ s _ => c - (intOf s).toNat)
      case atStart => exact ⟨0, by omega, rfl, World.ownsRow_nil _ _ _ _, Ext.refl wo⟩
      case round =>
        obtain ⟨j, hj, rfl, hown, hxj⟩ := hrel
        by_cases hjc : j < c
        · have q2 : (j : Int) < c := by omega
          have e1 : ((c : Int) + (i : Int)) = ((UInt8.ofNat (c + i)).toNat : Int) := by rw [u8_cast (by omega)]; omega
          have e2 : (j : Int) = ((UInt8.ofNat j).toNat : Int) := by rw [u8_cast (by omega)]
          have hi := inverse_any wr (UInt8.ofNat (c + i) ^^^ UInt8.ofNat j)
          rw [pow_254, ← HF.out j hjc, ← xor_u8, ← e1, ← e2] at hi
          have hsn := take_getC (l := F) (j := j) (by rw [HL.out]; exact hjc)
          generalize Gf.get F j = y at *
          have HI := Lib.hid hi
          have HS := Lib.hid hsn
          have HO := Lib.hid (hown.alloc (.cells #[.int .u8 (y.toNat : Int)] 5))
          have HB := Lib.hid (own_row hown)
          have hsj := hxj.size
          clear e1 e2 hi hsn hown
          go_wp2_with (fail)
          refine HI.out.mono ?_
          rintro e w4 ⟨rfl, rfl⟩
          go_wp2_with (at_builtin; refine wpList_append_rd _ rfl (.tmp 40) (.tmp 49) 46 rfl wo.heap.size 5 j1 _ 1 1 Tryz.underlying46 hj1 hy0 hy1 hy2 rfl (by omega) u8 j (bcells (F.take j)) rfl HO.out (some ⟨wr.heap.size, 0, none⟩) 1 1 [.int .u8 (y.toNat : Int)] rfl (Rd.lit wr #[_] _) (by simp [Value.oneCell']) (by omega) (by unfold maxLen; omega) (by simp; omega) ?_; intro v5 w5 hown hgr hat)
          refine ⟨⟨j + 1, by omega, by go_num, ?_, (hxj.thenAlloc _).ofGrown hgr HB.out⟩, by simp [intOf]; omega⟩
          rw [HS.out, bcells_append]
          exact hown
        · have q2 : ¬ (j : Int) < c := by omega
          obtain rfl : c = j := by omega
          rw [List.take_of_length_le (by rw [HL.out]; exact Nat.le_refl _)] at hown
          obtain ⟨A4, c4, rfl, hz4, hz5⟩ := ownsRow_slice hown
          have ow4 := Lib.hid (ownsRow_ext (ownsRow_ext HQ.out.own hxj) (Ext.alloc wr (.cells #[.slice A4 c c4] 46)))
          have OW := Lib.hid hown
          have X4 := Lib.hid hxj
          have hs4 := hxj.size
          clear hown hxj
          go_wp2_with (at_builtin; refine wpList_append_rd _ rfl (.tmp 51) (.tmp 53) 39 rfl N2 46 i0 _ 1 24 Tryz.underlying39 hi0 hz0 hz1 hz2 rfl (by omega) u6 i cs rfl ow4.out (some ⟨wr.heap.size, 0, none⟩) 1 1 [.slice A4 c c4] rfl (Rd.lit _ #[.slice A4 c c4] _) (by simp [Value.oneCell']) (by omega) (by unfold maxLen; omega) (by simp; omega) ?_; intro v5 w5 hown hgr hat)
          have hsn2 := HQ.out.snoc X4.out (r := F) (A := A4) (c := c4) (by rw [HL.out]; exact OW.out) (Nat.le_refl _) hsz (Ext.alloc wr (.cells #[.slice A4 c c4] 46)) (by rw [HL.out]; exact hown) hgr hat
          rw [HL.out] at hsn2
          have hne : ∀ q, u6.ownBlock = some q → N2 ≤ q := own_row HQ.out.own
          refine ⟨⟨i + 1, cs ++ [.slice A4 c c4], by omega, by go_num, ?_, ?_, ?_⟩, by simp [intOf]; omega⟩
          · rw [HSN.out]; exact hsn2
          · exact ((hx.trans X4.out).thenAlloc _).ofGrown hgr (fun q hq => by have := hne q hq; have := HN2.out; omega)
          · have := hgr.size; simp at this; omega
    · have q1 : ¬ (i : Int) < r := by omega
      obtain rfl : i = r := by omega
      rw [List.take_of_length_le (by rw [HU.out]; exact Nat.le_refl _)] at hQ
      go_wp2_with (fail)
      go_ret2
      refine ⟨_, cs, rfl, ?_, hx⟩
      rw [HU.out, HN2.out]
      exact hQ
end Go.Proofs.YtfpglkacjecoeaaGreat
namespace Go.Proofs.YtfpglkacjecoeaaGreat
open Go.RowKit

/-- The value of a code of the document. -/
abbrev cval (k n : Int) (A : Option Addr) (m c : Nat) : Value := .agg #[.int .i64 k, .int .i64 n, .slice A m c]
theorem ref4New_res (w : World) (b : Nat) (k n : Int) (A : Option Addr) (m c : Nat) (h0 : w.cell? ⟨b, 0, none⟩ = some (.int .i64 k)) (h1 : w.cell? ⟨b, 1, none⟩ = some (.int .i64 n)) (h2 : w.cell? ⟨b, 2, none⟩ = some (.slice A m c)) :
    (loadVar 41 ⟨b, 0, none⟩).run Tryz.prog w = .ok (cval k n A m c) w := by
  simp [go_sem, h0, h1, h2]
/-- The box of a document's code: three cells. -/
structure Bd (w : World) (g : Nat) (k n : Int) (S : Value) : Prop where
  blk : w.heap[g]? = some (.cells #[.int .i64 k, .int .i64 n, S] 41 (0, 0))
section
variable {w : World} {g : Nat} {k n : Int} {S : Value}
theorem Bd.lt (h : Bd w g k n S) : g < w.heap.size := (Array.getElem?_eq_some_iff.1 h.blk).1
theorem Bd.c0 (h : Bd w g k n S) : w.cell? ⟨g, 0, none⟩ = some (.int .i64 k) := by rw [cell_of_row w _ _ _ _ _ h.blk]; rfl
theorem Bd.c1 (h : Bd w g k n S) : w.cell? ⟨g, 1, none⟩ = some (.int .i64 n) := by rw [cell_of_row w _ _ _ _ _ h.blk]; rfl
theorem Bd.c2 (h : Bd w g k n S) : w.cell? ⟨g, 2, none⟩ = some S := by rw [cell_of_row w _ _ _ _ _ h.blk]; rfl
theorem Bd.fz (h : Bd w g k n S) (j : Nat) : w.frozen? ⟨g, j, none⟩ = false := frozen_of_row w _ _ _ _ h.blk
theorem Bd.ext {w' : World} (h : Bd w g k n S) (hx : Ext w w') : Bd w' g k n S := ⟨(hx.block g h.lt).trans h.blk⟩
theorem Bd.all (h : Bd w g k n S) (k' n' : Int) (S' : Value) :
    Bd (((w.setCell ⟨g, 0, none⟩ (.int .i64 k')).setCell ⟨g, 1, none⟩ (.int .i64 n')).setCell ⟨g, 2, none⟩ S') g k' n' S' :=
  ⟨heap_setCell_same _ g 2 _ _ S' (heap_setCell_same _ g 1 _ _ (.int .i64 n') (heap_setCell_same w g 0 _ _ (.int .i64 k') h.blk))⟩
theorem Ext.three {W : World} {q : Nat} (h : Ext w W) (hq : w.heap.size ≤ q) (a0 a1 a2 : Value) :
    Ext w (((W.setCell ⟨q, 0, none⟩ a0).setCell ⟨q, 1, none⟩ a1).setCell ⟨q, 2, none⟩ a2) :=
  ((h.set_ (p := ⟨q, 0, none⟩) hq _).set_ (p := ⟨q, 1, none⟩) hq _).set_ (p := ⟨q, 2, none⟩) hq _
theorem own_three {base m : Nat} {t : TypeId} {z : Nat} {v : Value} {cs : List Value} (h : w.ownsRow base t z v m cs) {q : Nat} (hq : q < base) (a0 a1 a2 : Value) :
    (((w.setCell ⟨q, 0, none⟩ a0).setCell ⟨q, 1, none⟩ a1).setCell ⟨q, 2, none⟩ a2).ownsRow base t z v m cs :=
  ownsRow_far (ownsRow_far (ownsRow_far h (p := ⟨q, 0, .none⟩) hq _) (p := ⟨q, 1, .none⟩) hq _) (p := ⟨q, 2, .none⟩) hq _
theorem Mq.rows_grown3 {w' : World} {base m : Nat} {P : Nat → Prop} {v : Value} {cs : List Value} {M : Gm.L} {row : Option Nat} (h : Mq w base P v m cs M) (hg : w.grownBy w' row) (hr : ∀ (i : Nat) (u : Value) (b : Nat), cs[i]? = some u → u.ownBlock = some b → row ≠ some b) {q : Nat} (hq : q < base) (a0 a1 a2 : Value) :
    Rows (((w'.setCell ⟨q, 0, none⟩ a0).setCell ⟨q, 1, none⟩ a1).setCell ⟨q, 2, none⟩ a2) cs M :=
  ⟨by rw [h.clen, h.len], fun i hi => by
    obtain ⟨A, c, e, ho⟩ := h.row i (by rw [← h.len]; exact hi)
    refine ⟨A, _, c, e, (Own.mk (base := base) (e := 5) (own_three (ownsRow_grown ho hg ?_) hq a0 a1 a2)).bs⟩
    cases hb : (Value.slice A (Gm.row M i).length c).ownBlock with
    | none => exact .inl rfl
    | some b => exact .inr (fun e2 => hr i _ b e hb e2.symm)⟩
end
/-- A new code of the document is handed back. -/
def GivesD (k n : Nat) (w : World) (e : Ending) (w' : World) : Prop := ∃ A c, e = .returned (.tuple #[cval k n A n c, .int .i64 0]) ∧ Mx w' A n c (Gm.gen k n) ∧ Ext w w'
theorem ref4New_arg (w : World) (k n : Int) (h : k < 1 ∨ n < k ∨ 255 < n) :
    Calls Tryz.prog 11 #[.int .i64 k, .int .i64 n] w fun e w' => e = .returned (.tuple #[cval 0 0 none 0 0, .int .i64 2]) ∧ Ext w w' := by
  have hr := ref4New_res (w.alloc (.cells #[.int .i64 0, .int .i64 0, .slice none 0 0] 41)) w.heap.size 0 0 none 0 0 ((World.cell?_alloc_new _ _ _ _).trans rfl) ((World.cell?_alloc_new _ _ _ _).trans rfl) ((World.cell?_alloc_new _ _ _ _).trans rfl)
  have HR := Lib.hid hr
  clear hr
  go_enter Tryz.func11, Tryz.ntmps11
  by_cases h1 : k < 1
  · go_wp2_with (fail)
    refine bodyPost_ret (v := .tuple #[cval 0 0 none 0 0, .int .i64 2]) ?_ rfl ⟨rfl, Ext.alloc _ _⟩
    rw [results_cell_tmp rfl]
    simp [asAddr, Result.andThen, HR.out]
  · by_cases h2 : n < k
    · go_wp2_with (fail)
      refine bodyPost_ret (v := .tuple #[cval 0 0 none 0 0, .int .i64 2]) ?_ rfl ⟨rfl, Ext.alloc _ _⟩
      rw [results_cell_tmp rfl]
      simp [asAddr, Result.andThen, HR.out]
    · have h3 : 255 < n := by omega
      go_wp2_with (fail)
      refine bodyPost_ret (v := .tuple #[cval 0 0 none 0 0, .int .i64 2]) ?_ rfl ⟨rfl, Ext.alloc _ _⟩
      rw [results_cell_tmp rfl]
      simp [asAddr, Result.andThen, HR.out]
set_option maxRecDepth 100000 in
set_option maxHeartbeats 2000000 in
theorem ref4New_ok (w : World) (k n : Nat) (h1 : 1 ≤ k) (h2 : k ≤ n) (h3 : n ≤ 255) :
    Calls Tryz.prog 11 #[.int .i64 (k : Int), .int .i64 (n : Int)] w (GivesD k n w) := by
  obtain ⟨i0, hi0, hz0, hz1, hz2⟩ := info_parts bytes_info
  have hB0 : Bd (w.alloc (.cells #[.int .i64 0, .int .i64 0, .slice none 0 0] 41)) w.heap.size 0 0 (.slice none 0 0) := ⟨heap_alloc_new _ _⟩
  have xA : Ext w (w.alloc (.cells #[.int .i64 0, .int .i64 0, .slice none 0 0] 41)) := Ext.alloc _ _
  have hU := ref3Unit_ok (w.alloc (.cells #[.int .i64 0, .int .i64 0, .slice none 0 0] 41)) k h1 (by omega)
  have hsA : (w.alloc (.cells #[.int .i64 0, .int .i64 0, .slice none 0 0] 41)).heap.size = w.heap.size + 1 := by simp
  have g1 : ¬ (k : Int) < 1 := by omega
  have g2 : ¬ (n : Int) < k := by omega
  have g3 : ¬ (255 : Int) < n := by omega
  have HB0 := Lib.hid hB0
  have HU := Lib.hid hU
  have HSA := Lib.hid hsA
  clear hB0 hU hsA
  by_cases e : k < n
  · have g4 : (k : Int) < n := by omega
    have HC := Lib.hid (fun W => ref3Cauchy_ok W (n - k) k (by omega) h1 (by omega))
    have e1 : ((n - k : Nat) : Int) = (n : Int) - k := by omega
    rw [e1] at HC
    clear e1
    go_enter Tryz.func11, Tryz.ntmps11
    go_wp2_with (fail)
    refine HU.out.mono ?_
    rintro e w1 ⟨v1, cs1, rfl, m1, x1⟩
    rw [(Gm.unit_rect k).len] at m1
    rw [HSA.out] at m1
    go_wp2_with (fail)
    refine (HC.out w1).mono ?_
    rintro e w2 ⟨v2, cs2, rfl, m2, x2⟩
    rw [(Gm.cauchy_rect _ k).len] at m2
    obtain ⟨A2, c2, rfl, q1, q2⟩ := ownsRow_slice m2.own
    have HO := Lib.hid (ownsRow_ext m1.own x2)
    have HR2 := Lib.hid (Rd.of_own m2.own)
    have HB := Lib.hid (own_row m1.own)
    have H1 := Lib.hid m2.rows.one
    have M1 := Lib.hid m1
    have M2 := Lib.hid m2
    have x12 := x1.trans x2
    have hsz := x12.size
    have hs0 : w.heap.size + 1 ≤ w2.heap.size := by rw [← HSA.out]; exact hsz
    clear m1 m2
    go_wp2_with (at_builtin; refine wpList_append_rd _ rfl (.tmp 38) (.tmp 39) 39 rfl (w.heap.size + 1) 46 i0 _ 1 24 Tryz.underlying39 hi0 hz0 hz1 hz2 rfl (by omega) v1 k cs1 rfl HO.out A2 (n - k) c2 cs2 rfl HR2.out H1.out (by omega) (by unfold maxLen; omega) (by omega) ?_; intro v5 w5 hown hgr hat; rw [show k + (n - k) = n by omega] at hown; obtain ⟨A5, c5, rfl, q5, q6⟩ := ownsRow_slice hown; have x5 := x12.ofGrown hgr (by rw [HSA.out]; exact HB.out); have b5 := HB0.out.ext x5; have f0 := b5.c0; have f1 := b5.c1; have f2 := b5.c2; have f3 := b5.fz; have B5 := Lib.hid b5; have OW := Lib.hid hown; clear b5 hown)
    have r1 := M1.out.ext x2
    have r2 := Mq.rows_grown3 r1 hgr (fun i u q hu hq e => (M1.out.cool i u q hu hq) (.inl e)) (Nat.lt_succ_self w.heap.size) (.int .i64 k) (.int .i64 n) (.slice A5 n c5)
    have r3 := Mq.rows_grown3 M2.out hgr (fun i u q hu hq e => by
      have h1 := (M1.out.own.lt q e).2
      have h2 := (M2.out.block hu hq).1
      omega) (q := w.heap.size) (by have := HSA.out; have := x1.size; omega) (.int .i64 k) (.int .i64 n) (.slice A5 n c5)
    have hmx : Mx _ A5 n c5 (Gm.gen k n) := ⟨Gm.gen_length h2, q5, q6, cs1 ++ cs2, Rd.of_own (own_three OW.out (Nat.lt_succ_self w.heap.size) (.int .i64 k) (.int .i64 n) (.slice A5 n c5)), r2.append r3⟩
    have hb := B5.out.all k n (.slice A5 n c5)
    have hr := ref4New_res _ _ _ _ _ _ _ hb.c0 hb.c1 hb.c2
    refine bodyPost_ret (v := .tuple #[cval k n A5 n c5, .int .i64 0]) ?_ rfl ⟨A5, c5, rfl, hmx, (xA.trans x5).three (Nat.le_refl _) _ _ _⟩
    rw [results_cell_tmp rfl]
    simp [asAddr, Result.andThen, hr]
  · obtain rfl : n = k := by omega
    go_enter Tryz.func11, Tryz.ntmps11
    go_wp2_with (fail)
    refine HU.out.mono ?_
    rintro e w1 ⟨v1, cs1, rfl, m1, x1⟩
    rw [(Gm.unit_rect n).len] at m1
    rw [HSA.out] at m1
    obtain ⟨A1, c1, rfl, q1, q2⟩ := ownsRow_slice m1.own
    have b1 := HB0.out.ext x1
    have f0 := b1.c0
    have f1 := b1.c1
    have f2 := b1.c2
    have f3 := b1.fz
    have B1 := Lib.hid b1
    have M1 := Lib.hid m1
    clear b1 m1
    go_wp2_with (fail)
    have hm := ((M1.out.below (q := ⟨w.heap.size, 0, none⟩) (Nat.lt_succ_self _) (.int .i64 n)).below (q := ⟨w.heap.size, 1, none⟩) (Nat.lt_succ_self _) (.int .i64 n)).below (q := ⟨w.heap.size, 2, none⟩) (Nat.lt_succ_self _) (.slice A1 n c1)
    have hb := B1.out.all n n (.slice A1 n c1)
    have hr := ref4New_res _ _ _ _ _ _ _ hb.c0 hb.c1 hb.c2
    obtain ⟨A9, c9, e9, hmx⟩ := hm.mx
    injection e9 with e9 _ e8
    subst e9 e8
    refine bodyPost_ret (v := .tuple #[cval n n A1 n c1, .int .i64 0]) ?_ rfl ⟨A1, c1, rfl, by rw [gen_all]; exact hmx, (xA.trans x1).three (Nat.le_refl _) _ _ _⟩
    rw [results_cell_tmp rfl]
    simp [asAddr, Result.andThen, hr]
end Go.Proofs.YtfpglkacjecoeaaGreat
