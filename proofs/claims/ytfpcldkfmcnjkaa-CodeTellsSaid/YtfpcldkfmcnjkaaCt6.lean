/- Several texts in one: The contracts of the document's Right, Unit, inverse. The contract of the document's Cauchy. -/
import Derived.Test.YtfpcldkfmcnjkaaCt4
import Derived.Test.YtfpcldkfmcnjkaaCt5
import Derived.Deep.DrawnRows
import Derived.Test.YtfpcldkfmcnjkaaMatCauchy
namespace Go.Proofs.Ytfpcldkfmcnjkaa
open Go.RowKit
attribute [local go_sem ↓] Go.wp_at_zero Go.wp_at_succ

set_option maxRecDepth 100000 in
set_option maxHeartbeats 1000000 in
theorem ref3Right_any (w : World) (A : Option Addr) (n c : Nat) (m : Gm.L) (hm : Mx w A n c m) :
    Calls Try.prog 77 #[.slice A n c] w fun e w' => e = .returned (.bool (decide (Gm.right m))) ∧ Ext w w' := by
  have hmax := hm.max
  have hle := hm.le
  have L := Lib.hid hm.len
  by_cases h1 : 1 ≤ n
  · have g1 : ¬ (n : Int) < 1 := by omega
    by_cases h2 : n ≤ 255
    · have g2 : ¬ (255 : Int) < (n : Int) := by omega
      obtain ⟨b, off, A0, n0, c0, rfl, hc0, hb0⟩ := hm.at_ (show 0 < n by omega)
      rw [Nat.add_zero] at hc0
      have hri := right_iff L.out h1 h2
      rw [hb0.len] at hri
      have HRI := Lib.hid hri
      have HM := Lib.hid hm
      have hm0 := hb0.max
      have hl0 := hb0.le
      clear hri hb0 hm
      have q0 : (0 : Int) < (n : Int) := by omega
      by_cases h3 : 1 ≤ n0
      · have g3 : ¬ (n0 : Int) < 1 := by omega
        by_cases h4 : n0 ≤ 255
        · have g4 : ¬ 255 < (n0 : Int) := by omega
          go_enter Try.func77, Try.ntmps77
          go_wp2_with (fail)
          go_loopw [3] (fun s wr => ∃ t : Nat, 1 ≤ t ∧ t ≤ n ∧ s = .int .i64 t ∧ Ext w wr ∧ RowKit.Hid (∀ i, i < t → (Gm.row m i).length = n0)) (fun s _ => n - (intOf s).toNat)
          case atStart => exact ⟨1, by omega, h1, rfl, Ext.refl w, Lib.hid fun i hi => by
            obtain rfl : i = 0 := by omega
            obtain ⟨b', off', A', n', c', e1, e2, e3⟩ := HM.out.at_ (show 0 < n by omega)
            injection e1 with e1
            injection e1 with e1 e4
            subst e1 e4
            rw [Nat.add_zero, hc0] at e2
            injection e2 with e2
            injection e2 with _ e2 _
            rw [e2]
            exact e3.len⟩
          case round =>
            obtain ⟨t, ht1, ht, rfl, hx, H⟩ := hrel
            by_cases hlt : t < n
            · have i1 : (t : Int) < n := by omega
              obtain ⟨bm, om, Ai, ni, ci, e1, hce, hbi⟩ := (HM.out.ext hx).at_ hlt
              injection e1 with e1
              injection e1 with e1 e4
              subst e1 e4
              have hni := Lib.hid hbi.len
              have hmi := hbi.max
              have hli := hbi.le
              have hc1 := hx.cell hc0
              clear hbi
              by_cases hs : ni = n0
              · have i2 : ((ni : Int) != n0) = false := by simp [hs]
                go_wp2_with (fail)
                go_region
                all_goals
                  go_wp2_with (fail)
                  refine ⟨⟨t + 1, by omega, by omega, by go_num, hx.thenDrew, Lib.hid fun i hi => ?_⟩, by simp [intOf]; omega⟩
                  by_cases e : i = t
                  · rw [e, hni.out]; exact hs
                  · exact H.out i (by omega)
              · have i2 : ((ni : Int) != n0) = true := by simp; omega
                go_wp2_with (fail)
                go_region
                all_goals
                  go_wp2_with (fail)
                  go_ret
                  exact ⟨ret_bool (decide_eq_false (fun q => hs (by rw [← hni.out]; exact (q.2.2.2.2 t (by rw [L.out]; exact hlt)).trans (by rw [← H.out 0 (by omega)]; rfl)))).symm, hx.thenDrew⟩
            · have i1 : ¬ (t : Int) < n := by omega
              have htn : t = n := by omega
              rw [htn] at H
              go_wp2_with (fail)
              go_ret
              refine ⟨ret_bool (decide_eq_true ?_).symm, hx⟩
              rw [HRI.out]
              refine ⟨⟨h3, h4⟩, ?_⟩
              rintro ⟨k, hk, e⟩
              rw [H.out k hk] at e
              simp at e
        · have g4 : 255 < (n0 : Int) := by omega
          go_enter Try.func77, Try.ntmps77
          go_wp2_with (fail)
          go_ret
          refine ⟨ret_bool ?_, Ext.refl _⟩
          rw [eq_comm, decide_eq_false_iff_not, HRI.out]
          exact fun h => h4 h.1.2
      · have g3 : (n0 : Int) < 1 := by omega
        go_enter Try.func77, Try.ntmps77
        go_wp2_with (fail)
        go_ret
        refine ⟨ret_bool ?_, Ext.refl _⟩
        rw [eq_comm, decide_eq_false_iff_not, HRI.out]
        exact fun h => h3 h.1.1
    · have g2 : (255 : Int) < (n : Int) := by omega
      clear hm
      go_enter Try.func77, Try.ntmps77
      go_wp2_with (fail)
      go_ret
      refine ⟨ret_bool ?_, Ext.refl _⟩
      rw [eq_comm, decide_eq_false_iff_not]
      exact fun h => h2 (by have := h.2.1; rwa [L.out] at this)
  · have g1 : (n : Int) < 1 := by omega
    clear hm
    go_enter Try.func77, Try.ntmps77
    go_wp2_with (fail)
    go_ret
    refine ⟨ret_bool ?_, Ext.refl _⟩
    rw [eq_comm, decide_eq_false_iff_not]
    exact fun h => h1 (by have := h.1; rwa [L.out] at this)

theorem inverse_any (w : World) (x : UInt8) :
    Calls Try.prog 75 #[.int .u8 (x.toNat : Int)] w fun e w' => e = .returned (.int .u8 ((Gf.pow x 254).toNat : Int)) ∧ w = w' := by
  have h := refPow_any w x 254 (by decide)
  have H := Lib.hid h
  clear h
  go_enter Try.func75, Try.ntmps75
  go_wp2_with (fail)
  refine H.out.mono ?_
  rintro e w' ⟨rfl, rfl⟩
  go_wp2_with (fail)
  go_ret
  exact ⟨rfl, rfl⟩

theorem ownsRow_lit (w : World) (cs : Array Value) (t : TypeId) (r : List UInt8) (h : cs.toList = bcells r) (hl : r.length ≤ 1000) : (w.alloc (.cells cs t)).ownsRow w.heap.size t 1 (.slice (some ⟨w.heap.size, 0, none⟩) r.length r.length) r.length (bcells r) := by
  have hs : cs.size = r.length := by rw [← Array.length_toList, h, bcells_length]
  exact ⟨by simp [bcells], .inr ⟨w.heap.size, r.length, cs, rfl, Nat.le_refl _, heap_alloc_new w _, Nat.le_refl _, by unfold maxLen; omega, by simp [hs], by rw [h]; exact List.take_of_length_le (by rw [bcells_length]; omega)⟩⟩
theorem Rd.lit_at (w : World) {g : Nat} (hg : w.heap.size = g) (cs : Array Value) (t : TypeId) : Rd (w.alloc (.cells cs t)) 1 (some ⟨g, 0, none⟩) cs.size cs.toList := by
  subst hg
  exact Rd.lit w cs t
theorem ref3Unit_no (w : World) (n : Int) (h : n < 1 ∨ 255 < n) :
    Calls Try.prog 58 #[.int .i64 n] w (GivesQE [] 2 w) := by
  rcases h with h | h
  · go_enter Try.func58, Try.ntmps58
    go_wp2_with (fail)
    go_ret2
    exact GivesQE.none 2 (Ext.refl w)
  · have h0 : ¬ n < 1 := by omega
    go_enter Try.func58, Try.ntmps58
    go_wp2_with (fail)
    go_ret2
    exact GivesQE.none 2 (Ext.refl w)

set_option maxRecDepth 100000 in
set_option maxHeartbeats 1000000 in
theorem ref3Unit_ok (w : World) (n : Nat) (h1 : 1 ≤ n) (h2 : n ≤ 255) :
    Calls Try.prog 58 #[.int .i64 (n : Int)] w (GivesQE (Gm.unit n) 0 w) := by
  obtain ⟨i0, hi0, hz0, hz1, hz2⟩ := info_parts bytes_info
  have g1 : ¬ (n : Int) < 1 := by omega
  have g2 : ¬ (255 : Int) < n := by omega
  have hm2 := fun W => run_make_bytes W n (by omega)
  have hul : (Gm.unit n).length = n := (Gm.unit_rect n).len
  have HU := Lib.hid hul
  obtain ⟨N2, hN2⟩ : ∃ N2, w.heap.size = N2 := ⟨_, rfl⟩
  have HN2 := Lib.hid hN2
  have hsz0 : N2 ≤ w.heap.size := by omega
  clear hN2 hul
  go_enter Try.func58, Try.ntmps58
  go_wp2_with (fail)
  go_loopw [4, 5, 6] (fun v s _ wr => ∃ (t : Nat) (cs : List Value), t ≤ n ∧ s = .int .i64 t ∧ Mq wr N2 (Hot N2 v) v t cs ((Gm.unit n).take t) ∧ Ext w wr ∧ N2 ≤ wr.heap.size) (fun _ s _ _ => n - (intOf s).toNat)
  case atStart => exact ⟨0, [], by omega, rfl, by rw [List.take_zero]; exact Mq.nil _ _ _, Ext.refl w, hsz0⟩
  case round =>
    obtain ⟨t, cs, ht, rfl, hQ, hx, hsz⟩ := hrel
    clear hsz0
    by_cases hlt : t < n
    · have i1 : (t : Int) < n := by omega
      have hsn : (Gm.unit n).take (t + 1) = (Gm.unit n).take t ++ [(zeros n).set t 1] := by
        rw [unit_row n t hlt, List.take_add_one, List.getElem?_eq_getElem (by rw [HU.out]; exact hlt), Gm.row_of_lt (by rw [HU.out]; exact hlt)]; rfl
      have hzl : ((zeros n).set t 1).length = n := by simp [zeros]
      have hro : (wr.alloc (.cells (made n (.int .u8 0)) 5)).ownsRow wr.heap.size 5 1 (.slice (some ⟨wr.heap.size, 0, none⟩) n n) n (bcells (zeros n)) := by
        unfold zeros
        rw [bcells_zeros]
        exact ownsRow_made wr _ _ n rfl (by omega) (Nat.le_refl _)
      have htl : ((made n (.int .u8 0)).setIfInBounds t (.int .u8 1)).toList = bcells ((zeros n).set t 1) := by
        rw [Array.toList_setIfInBounds, made_toList, ← bcells_zeros]
        exact (bcells_set (zeros n) t 1).symm
      have hmg : (made n (.int .u8 0))[t]? = some (.int .u8 0) := by rw [← Array.getElem?_toList, made_toList]; simp [hlt]
      have hst := ownsRow_lit wr _ 5 _ htl (by rw [hzl]; omega)
      have hxa := Ext.alloc wr (.cells ((made n (.int .u8 0)).setIfInBounds t (.int .u8 1)) 5)
      have ow4 := ownsRow_ext (ownsRow_ext hQ.own hxa) (Ext.alloc _ (.cells #[.slice (some ⟨wr.heap.size, 0, none⟩) n n] 22))
      have HSN := Lib.hid hsn
      have HQ := Lib.hid hQ
      have HS := Lib.hid hst
      have HXA := Lib.hid hxa
      have HZL := Lib.hid hzl
      have HO4 := Lib.hid ow4
      clear hsn hQ hst hxa hzl hro htl ow4
      go_wp2_with (at_builtin; refine wpList_append_rd _ rfl (.tmp 23) (.tmp 25) 60 rfl N2 22 i0 _ 1 24 Try.underlying60 hi0 hz0 hz1 hz2 rfl (by omega) u4 t cs rfl HO4.out (some ⟨wr.heap.size + 1, 0, none⟩) 1 1 [.slice (some ⟨wr.heap.size, 0, none⟩) n n] rfl (Rd.lit_at _ (by simp) #[.slice (some ⟨wr.heap.size, 0, none⟩) n n] _) (by simp [Value.oneCell']) (by omega) (by unfold maxLen; omega) (by simp; omega) ?_; intro v5 w5 hown hgr hat)
      have hne : ∀ q, u4.ownBlock = some q → N2 ≤ q := own_row HQ.out.own
      have hsl : (.slice (some ⟨wr.heap.size, 0, none⟩) n n : Value) = .slice (some ⟨wr.heap.size, 0, none⟩) ((zeros n).set t 1).length n := by rw [HZL.out]
      have hsn2 := HQ.out.snoc HXA.out (r := (zeros n).set t 1) (A := some ⟨wr.heap.size, 0, none⟩) (c := n) (by have h := HS.out; rw [HZL.out] at h ⊢; exact h) (Nat.le_refl _) hsz (Ext.alloc _ _) (by rw [HZL.out]; exact hown) hgr hat
      rw [HZL.out] at hsn2
      refine ⟨⟨t + 1, cs ++ [.slice (some ⟨wr.heap.size, 0, none⟩) n n], by omega, by go_num, ?_, ?_, ?_⟩, by simp [intOf]; omega⟩
      · rw [HSN.out]; exact hsn2
      · exact ((hx.trans HXA.out).thenAlloc _).ofGrown hgr (fun q hq => by have := hne q hq; have := HN2.out; omega)
      · have := hgr.size; simp at this; omega
    · have i1 : ¬ (t : Int) < n := by omega
      obtain rfl : t = n := by omega
      rw [List.take_of_length_le (by rw [HU.out]; exact Nat.le_refl _)] at hQ
      go_wp2_with (fail)
      go_ret2
      refine ⟨_, cs, rfl, ?_, hx⟩
      rw [HU.out, HN2.out]
      exact hQ
end Go.Proofs.Ytfpcldkfmcnjkaa
namespace Go.Proofs.Ytfpcldkfmcnjkaa
open Go.RowKit

theorem pow_254 (x : UInt8) : Gf.pow x 254 = Gf.inv x := by
  by_cases h : x = 0
  · rw [h, Gf.pow_zero_base _ (by omega)]; rfl
  · have h1 : Gf.mul (Gf.pow x 254) x = 1 := by rw [← Gf.pow_255 h]; rfl
    calc Gf.pow x 254 = Gf.mul (Gf.pow x 254) 1 := (Gf.mul_one _).symm
      _ = Gf.mul (Gf.pow x 254) (Gf.mul x (Gf.inv x)) := by rw [Gf.mul_inv h]
      _ = Gf.mul (Gf.mul (Gf.pow x 254) x) (Gf.inv x) := by rw [Gf.mul_assoc]
      _ = Gf.inv x := by rw [h1, Gf.one_mul]
theorem take_get {l : List UInt8} {j : Nat} (h : j < l.length) : l.take (j + 1) = l.take j ++ [Gf.get l j] := by
  rw [List.take_succ_eq_append_getElem h]
  simp [Gf.get, h]
theorem take_row {m : Gm.L} {j : Nat} (h : j < m.length) : m.take (j + 1) = m.take j ++ [Gm.row m j] := by
  rw [List.take_succ_eq_append_getElem h, Gm.row_of_lt h]
set_option maxRecDepth 100000 in
set_option maxHeartbeats 1000000 in
theorem ref3Cauchy_no (w : World) (r c : Int) (h : r < 1 ∨ c < 1 ∨ 256 < r ∨ 256 - r < c) :
    Calls Try.prog 59 #[.int .i64 r, .int .i64 c] w (GivesQE [] 2 w) := by
  by_cases h1 : r < 1
  · go_enter Try.func59, Try.ntmps59
    go_wp2_with (fail)
    go_ret2
    exact GivesQE.none 2 (Ext.refl w)
  · by_cases h2 : c < 1
    · go_enter Try.func59, Try.ntmps59
      go_wp2_with (fail)
      go_ret2
      exact GivesQE.none 2 (Ext.refl w)
    · by_cases h3 : 256 < r
      · go_enter Try.func59, Try.ntmps59
        go_wp2_with (fail)
        go_ret2
        exact GivesQE.none 2 (Ext.refl w)
      · by_cases h4 : 256 < c
        · go_enter Try.func59, Try.ntmps59
          go_wp2_with (fail)
          go_ret2
          exact GivesQE.none 2 (Ext.refl w)
        · have h5 : 256 < r + c := by omega
          clear h
          go_enter Try.func59, Try.ntmps59
          go_wp2_with (fail)
          go_ret2
          exact GivesQE.none 2 (Ext.refl w)
set_option maxRecDepth 100000 in
set_option maxHeartbeats 4000000 in
theorem ref3Cauchy_ok (w : World) (r c : Nat) (h1 : 1 ≤ r) (h2 : 1 ≤ c) (h3 : r + c ≤ 256) :
    Calls Try.prog 59 #[.int .i64 (r : Int), .int .i64 (c : Int)] w (GivesQE (Gm.cauchy r c) 0 w) := by
  obtain ⟨i0, hi0, hz0, hz1, hz2⟩ := info_parts bytes_info
  obtain ⟨j1, hj1, hy0, hy1, hy2⟩ := info_parts u8_info
  have g1 : ¬ (r : Int) < 1 := by omega
  have g2 : ¬ (c : Int) < 1 := by omega
  have g3 : ¬ (256 : Int) < r := by omega
  have g4 : ¬ (256 : Int) < c := by omega
  have g5 : ¬ (256 : Int) < (r : Int) + c := by omega
  have hul : (Gm.cauchy r c).length = r := (Gm.cauchy_rect r c).len
  have hat : ∀ i, i < r → ∀ j, j < c → Gf.get (Gm.row (Gm.cauchy r c) i) j = Gf.inv (UInt8.ofNat (c + i) ^^^ UInt8.ofNat j) := fun i hi j hj => Gm.at_cauchy hi hj
  have hwid : ∀ i, i < r → (Gm.row (Gm.cauchy r c) i).length = c := fun i hi => (Gm.cauchy_rect r c).wid i hi
  have HU := Lib.hid hul
  have HAT := Lib.hid hat
  have HWID := Lib.hid hwid
  obtain ⟨N2, hN2⟩ : ∃ N2, w.heap.size = N2 := ⟨_, rfl⟩
  have HN2 := Lib.hid hN2
  have hsz0 : N2 ≤ w.heap.size := by omega
  clear hN2 hul hat hwid
  generalize Gm.cauchy r c = M at *
  go_enter Try.func59, Try.ntmps59
  go_wp2_with (fail)
  go_loopw [6, 7, 8, 9] (fun v s _ _ wr => ∃ (t : Nat) (cs : List Value), t ≤ r ∧ s = .int .i64 t ∧ Mq wr N2 (Hot N2 v) v t cs (M.take t) ∧ Ext w wr ∧ N2 ≤ wr.heap.size) (fun _ s _ _ _ => r - (intOf s).toNat)
  case atStart => exact ⟨0, [], by omega, rfl, by rw [List.take_zero]; exact Mq.nil _ _ _, Ext.refl w, hsz0⟩
  case round =>
    obtain ⟨i, cs, hi, rfl, hQ, hx, hsz⟩ := hrel
    clear hsz0
    by_cases hlt : i < r
    · have q1 : (i : Int) < r := by omega
      obtain ⟨wo, rfl⟩ : ∃ wo : World, wo = wr := ⟨_, rfl⟩
      have hF := HAT.out i hlt
      have hl := HWID.out i hlt
      have hsn := take_row (m := M) (j := i) (by rw [HU.out]; exact hlt)
      generalize Gm.row M i = F at *
      have HSN := Lib.hid hsn
      have HF := Lib.hid hF
      have HL := Lib.hid hl
      have HQ := Lib.hid hQ
      clear hF hl hsn hQ
      go_wp2_with (fail)
      go_loopw [8, 9] (fun v s wr => ∃ j : Nat, j ≤ c ∧ s = .int .i64 j ∧ wr.ownsRow wo.heap.size 5 1 v j (bcells (F.take j)) ∧ Ext wo wr) (fun _ s _ => c - (intOf s).toNat)
      case atStart => exact ⟨0, by omega, rfl, World.ownsRow_nil _ _ _ _, Ext.refl wo⟩
      case round =>
        obtain ⟨j, hj, rfl, hown, hxj⟩ := hrel
        by_cases hjc : j < c
        · have q2 : (j : Int) < c := by omega
          have e1 : ((c : Int) + (i : Int)) = ((UInt8.ofNat (c + i)).toNat : Int) := by rw [u8_cast (by omega)]; omega
          have e2 : (j : Int) = ((UInt8.ofNat j).toNat : Int) := by rw [u8_cast (by omega)]
          have hi := inverse_any wr (UInt8.ofNat (c + i) ^^^ UInt8.ofNat j)
          rw [pow_254, ← HF.out j hjc, ← xor_u8, ← e1, ← e2] at hi
          have hsn := take_get (l := F) (j := j) (by rw [HL.out]; exact hjc)
          generalize Gf.get F j = y at *
          have HI := Lib.hid hi
          have HS := Lib.hid hsn
          have HO := Lib.hid (hown.alloc (.cells #[.int .u8 (y.toNat : Int)] 5))
          have HB := Lib.hid (own_row hown)
          have hsj := hxj.size
          clear e1 e2 hi hsn hown
          go_wp2_with (fail)
          refine HI.out.mono ?_
          rintro e w4 ⟨rfl, rfl⟩
          go_wp2_with (at_builtin; refine wpList_append_rd _ rfl (.tmp 40) (.tmp 49) 22 rfl wo.heap.size 5 j1 _ 1 1 Try.underlying22 hj1 hy0 hy1 hy2 rfl (by omega) u8 j (bcells (F.take j)) rfl HO.out (some ⟨wr.heap.size, 0, none⟩) 1 1 [.int .u8 (y.toNat : Int)] rfl (Rd.lit wr #[_] _) (by simp [Value.oneCell']) (by omega) (by unfold maxLen; omega) (by simp; omega) ?_; intro v5 w5 hown hgr hat)
          refine ⟨⟨j + 1, by omega, by go_num, ?_, (hxj.thenAlloc _).ofGrown hgr HB.out⟩, by simp [intOf]; omega⟩
          rw [HS.out, bcells_append]
          exact hown
        · have q2 : ¬ (j : Int) < c := by omega
          obtain rfl : c = j := by omega
          rw [List.take_of_length_le (by rw [HL.out]; exact Nat.le_refl _)] at hown
          obtain ⟨A4, c4, rfl, hz4, hz5⟩ := ownsRow_slice hown
          have ow4 := Lib.hid (ownsRow_ext (ownsRow_ext HQ.out.own hxj) (Ext.alloc wr (.cells #[.slice A4 c c4] 22)))
          have OW := Lib.hid hown
          have X4 := Lib.hid hxj
          have hs4 := hxj.size
          clear hown hxj
          go_wp2_with (at_builtin; refine wpList_append_rd _ rfl (.tmp 51) (.tmp 53) 60 rfl N2 22 i0 _ 1 24 Try.underlying60 hi0 hz0 hz1 hz2 rfl (by omega) u6 i cs rfl ow4.out (some ⟨wr.heap.size, 0, none⟩) 1 1 [.slice A4 c c4] rfl (Rd.lit _ #[.slice A4 c c4] _) (by simp [Value.oneCell']) (by omega) (by unfold maxLen; omega) (by simp; omega) ?_; intro v5 w5 hown hgr hat)
          have hsn2 := HQ.out.snoc X4.out (r := F) (A := A4) (c := c4) (by rw [HL.out]; exact OW.out) (Nat.le_refl _) hsz (Ext.alloc wr (.cells #[.slice A4 c c4] 22)) (by rw [HL.out]; exact hown) hgr hat
          rw [HL.out] at hsn2
          have hne : ∀ q, u6.ownBlock = some q → N2 ≤ q := own_row HQ.out.own
          refine ⟨⟨i + 1, cs ++ [.slice A4 c c4], by omega, by go_num, ?_, ?_, ?_⟩, by simp [intOf]; omega⟩
          · rw [HSN.out]; exact hsn2
          · exact ((hx.trans X4.out).thenAlloc _).ofGrown hgr (fun q hq => by have := hne q hq; have := HN2.out; omega)
          · have := hgr.size; simp at this; omega
    · have q1 : ¬ (i : Int) < r := by omega
      obtain rfl : i = r := by omega
      rw [List.take_of_length_le (by rw [HU.out]; exact Nat.le_refl _)] at hQ
      go_wp2_with (fail)
      go_ret2
      refine ⟨_, cs, rfl, ?_, hx⟩
      rw [HU.out, HN2.out]
      exact hQ
end Go.Proofs.Ytfpcldkfmcnjkaa
