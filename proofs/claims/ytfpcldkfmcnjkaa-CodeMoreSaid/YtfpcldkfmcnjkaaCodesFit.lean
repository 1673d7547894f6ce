/- Sums of stripes, and what fits a code. No program in sight. -/
import Derived.Test.YtfpcldkfmcnjkaaCodesAny
namespace Gm
open Gf
/-- A sum of stripes has the sums of their shards. -/
theorem rowL_lay {k c : Nat} {r : List UInt8} {x : UInt8} {a b s : L} (ha : Rect k c a) (hb : Rect k c b) (hk : 0 < k) (hs : s.length = k) (h : ∀ i, i < k → row s i = lay (row a i) x (row b i)) : rowL r s = lay (rowL r a) x (rowL r b) := by
  have hcs : cols s = c := by unfold cols; rw [h 0 hk, lay_length, ha.wid 0 hk]
  refine ext_get (by rw [lay_length, rowL_length, rowL_length, hcs, ha.cols hk]) fun j hj => ?_
  rw [rowL_length, hcs] at hj
  rw [lay_get _ _ _ (by rw [rowL_length, ha.cols hk]; exact hj), layAt_all, get_rowL (by rw [hcs]; exact hj), get_rowL (by rw [ha.cols hk]; exact hj), get_rowL (by rw [hb.cols hk]; exact hj), hs, ha.len, hb.len, Gm.mul_sum, ← sum_add]
  refine sum_congr fun t ht => ?_
  have e : at_ s t j = at_ a t j ^^^ mul x (at_ b t j) := by
    unfold at_
    rw [h t ht, lay_get _ _ _ (by rw [ha.wid t ht]; exact hj), layAt_all]
  rw [e, mul_add, ← mul_assoc, mul_comm (get r t) x, mul_assoc]
theorem row_take' {m : L} {k i : Nat} (h : i < k) : row (m.take k) i = row m i := by
  unfold row
  rw [List.getD_eq_getElem?_getD, List.getD_eq_getElem?_getD, List.getElem?_take, if_pos h]
theorem enc_rect {k n c : Nat} {d : L} (hd : Rect k c d) (hk : 0 < k) (hkn : k ≤ n) : Rect n c (mulL (gen k n) d) := by
  have h := mulL_rect (gen k n) d
  rw [gen_length hkn, hd.cols hk] at h
  exact h
theorem enc_take {k n c : Nat} {d : L} (hd : Rect k c d) (hk : 0 < k) (hkn : k ≤ n) : (mulL (gen k n) d).take k = d := by
  have hr := enc_rect hd hk hkn
  refine rows_ext (by rw [List.length_take, hr.len, hd.len]; omega) fun i hi => ?_
  rw [List.length_take, hr.len] at hi
  rw [row_take' (by omega), encode_low hk hd.len (fun i hi => by rw [hd.wid i hi, hd.cols hk]) hkn (by omega)]
theorem Rect.even {n c : Nat} {s : L} (h : Rect n c s) (hn : 0 < n) (hc : c ≤ 65536) : even s n := ⟨h.len, hn, by rw [h.cols hn]; exact hc, fun i hi => by rw [h.wid i hi, h.cols hn]⟩
/-- The shards of a stripe fit. -/
theorem fit_all {k n c : Nat} {d : L} (hd : Rect k c d) (hk : 0 < k) (hkn : k ≤ n) (hc : c ≤ 65536) : even (mulL (gen k n) d) n ∧ mulL (gen k n) ((mulL (gen k n) d).take k) = mulL (gen k n) d :=
  ⟨(enc_rect hd hk hkn).even (by omega) hc, by rw [enc_take hd hk hkn]⟩
/-- With one byte turned they do not, where there is one shard more than needed. -/
theorem fit_not {k n c i p : Nat} {d : L} {t : UInt8} (hd : Rect k c d) (hk : 0 < k) (hkn : k < n) (hn : n ≤ 256) (hi : i < n) (hp : p < c) (ht : t ≠ 0) :
    mulL (gen k n) (((mulL (gen k n) d).set i ((row (mulL (gen k n) d) i).set p (get (row (mulL (gen k n) d) i) p ^^^ t))).take k) ≠ (mulL (gen k n) d).set i ((row (mulL (gen k n) d) i).set p (get (row (mulL (gen k n) d) i) p ^^^ t)) := by
  have hr := enc_rect (n := n) hd hk (by omega)
  have htk := enc_take (n := n) hd hk (by omega)
  have hlow := fun i (h : i < k) => encode_low (n := n) hk hd.len (fun i hi => by rw [hd.wid i hi, hd.cols hk]) (by omega) h
  have hgl : (gen k n).length = n := gen_length (by omega)
  have hrow : ∀ q, q < n → row (mulL (gen k n) d) q = rowL (row (gen k n) q) d := fun q hq => row_mulL (by rw [hgl]; exact hq)
  generalize hA : mulL (gen k n) d = A at *
  intro E
  have turned : get (row A i) p ^^^ t ≠ get (row A i) p := fun q => ht (by
    have := congrArg (fun z => get (row A i) p ^^^ z) q
    simp only [← UInt8.xor_assoc, UInt8.xor_self, UInt8.zero_xor] at this
    exact this)
  have hpl : p < (row A i).length := by rw [hr.wid i hi]; exact hp
  by_cases hik : i < k
  · -- a byte of the data
    have e1 := congrArg (fun m => get (row m k) p) E
    replace e1 : get (row (mulL (gen k n) ((A.set i ((row A i).set p (get (row A i) p ^^^ t))).take k)) k) p = get (row (A.set i ((row A i).set p (get (row A i) p ^^^ t))) k) p := e1
    rw [row_mulL (by rw [hgl]; exact hkn), row_set _ (by rw [hr.len]; exact hi), if_neg (by omega)] at e1
    generalize hB : (A.set i ((row A i).set p (get (row A i) p ^^^ t))).take k = B at *
    have hBr : Rect k c B := by
      rw [← hB]
      refine ⟨by rw [List.length_take, List.length_set, hr.len]; omega, fun q hq => ?_⟩
      rw [row_take' hq, row_set _ (by rw [hr.len]; exact hi)]
      by_cases e : i = q
      · subst e; rw [if_pos rfl, List.length_set]; exact hr.wid i hi
      · rw [if_neg e]; exact hr.wid q (by omega)
    have hBat : ∀ q, q < k → at_ B q p = at_ d q p ^^^ (if q = i then t else 0) := fun q hq => by
      unfold at_
      rw [← hB, row_take' hq, row_set _ (by rw [hr.len]; exact hi)]
      by_cases e : i = q
      · subst e
        rw [if_pos rfl, if_pos rfl, get_set _ hpl, if_pos rfl, ← hlow i hq]
      · rw [if_neg e, if_neg (fun q => e q.symm), UInt8.xor_zero, ← hlow q hq]
    have e2 := hrow k hkn
    rw [e2, get_rowL (by rw [hBr.cols hk]; exact hp), get_rowL (by rw [hd.cols hk]; exact hp), hBr.len, hd.len] at e1
    have e3 : sum (fun q => mul (get (row (gen k n) k) q) (at_ B q p)) k = sum (fun q => mul (get (row (gen k n) k) q) (at_ d q p)) k ^^^ mul (get (row (gen k n) k) i) t := by
      have e5 : sum (fun q => mul (get (row (gen k n) k) q) (if q = i then t else 0)) k = mul (get (row (gen k n) k) i) t := by
        rw [sum_one (f := fun q => mul (get (row (gen k n) k) q) (if q = i then t else 0)) hik (fun j _ hj => by rw [if_neg hj, mul_zero]), if_pos rfl]
      rw [← e5, ← sum_add]
      exact sum_congr fun q hq => by rw [hBat q hq, mul_add]
    rw [e3] at e1
    have e4 : mul (get (row (gen k n) k) i) t = 0 := by
      have := congrArg (fun z => sum (fun q => mul (get (row (gen k n) k) q) (at_ d q p)) k ^^^ z) e1
      simp only [← UInt8.xor_assoc, UInt8.xor_self, UInt8.zero_xor] at this
      exact this
    rcases mul_eq_zero e4 with h | h
    · have := at_gen_high (k := k) (n := n) (i := k) (j := i) (Nat.le_refl _) hkn hik
      unfold at_ at this
      rw [h] at this
      exact inv_ne (xor_ne (ofNat_ne (by omega) (by omega) (by omega))) this.symm
    · exact ht h
  · have e : ((A.set i ((row A i).set p (get (row A i) p ^^^ t))).take k) = d := by
      rw [List.take_set_of_le (by omega)]
      exact htk
    rw [e, hA] at E
    have e1 := congrArg (fun m => get (row m i) p) E
    replace e1 : get (row A i) p = get (row (A.set i ((row A i).set p (get (row A i) p ^^^ t))) i) p := e1
    rw [row_set _ (by rw [hr.len]; exact hi), if_pos rfl, get_set _ hpl, if_pos rfl] at e1
    exact turned e1.symm
end Gm
