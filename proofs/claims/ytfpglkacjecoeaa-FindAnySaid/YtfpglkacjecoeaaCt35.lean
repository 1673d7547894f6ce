/- Several texts in one: Any k rows of a code's matrix, all different, have an inverse; what a stripe's shards tell. No program in sight. Sums of stripes, and what fits a code. No program in sight. -/
import Derived.Test.YtfpglkacjecoeaaCt10
namespace Gm
open Gf
/-- All places but one. -/
def skip (p i : Nat) : Nat := if i < p then i else i + 1
theorem skip_lt {p i n : Nat} (h : i < n) : skip p i < n + 1 := by unfold skip; split <;> omega
theorem skip_ne (p i : Nat) : skip p i ≠ p := by unfold skip; split <;> omega
theorem skip_inj {p i j : Nat} (h : i ≠ j) : skip p i ≠ skip p j := by unfold skip; split <;> split <;> omega
theorem skip_onto {p i n : Nat} (hi : i < n + 1) (hp : p < n + 1) (h : i ≠ p) : ∃ j, j < n ∧ skip p j = i := by
  by_cases e : i < p
  · exact ⟨i, by omega, by unfold skip; rw [if_pos e]⟩
  · exact ⟨i - 1, by omega, by unfold skip; rw [if_neg (by omega)]; omega⟩
theorem sum_skip (f : Nat → UInt8) : ∀ (n p : Nat), p ≤ n → sum f (n + 1) = sum (fun i => f (skip p i)) n ^^^ f p
  | 0, p, h => by
    obtain rfl : p = 0 := by omega
    rfl
  | n + 1, p, h => by
    by_cases e : p = n + 1
    · subst e
      show sum f (n + 1) ^^^ f (n + 1) = _
      rw [sum_congr (f := f) (g := fun i => f (skip (n + 1) i)) (n := n + 1) (fun k hk => by show f k = f (skip (n + 1) k); unfold skip; rw [if_pos hk])]
    · show sum f (n + 1) ^^^ f (n + 1) = (sum (fun i => f (skip p i)) n ^^^ f (skip p n)) ^^^ f p
      rw [sum_skip f n p (by omega)]
      have : skip p n = n + 1 := by unfold skip; rw [if_neg (by omega)]
      rw [this, UInt8.xor_assoc, UInt8.xor_comm (f p), ← UInt8.xor_assoc]
/-- Rows of two kinds, the places of one, or inverses of sums: nothing but noughts makes nought of them. -/
theorem mixed_kernel : ∀ (n : Nat) (x y : Nat → UInt8) (d : Nat → Option Nat) (P : Nat → Nat → UInt8) (v : Nat → UInt8),
    (∀ i, i < n → ∀ j, j < n → P i j = match d i with | some c => one c j | none => inv (x i ^^^ y j)) →
    (∀ i c, i < n → d i = some c → c < n) → (∀ i j c, i < n → j < n → i ≠ j → d i = some c → d j ≠ some c) →
    (∀ i j, i < n → j < n → i ≠ j → d i = none → d j = none → x i ≠ x j) → (∀ i j, i < n → j < n → i ≠ j → y i ≠ y j) → (∀ i j, i < n → j < n → d i = none → x i ≠ y j) →
    (∀ j, j < n → sum (fun i => mul (v i) (P i j)) n = 0) → ∀ i, i < n → v i = 0
  | 0, _, _, _, _, _, _, _, _, _, _, _, _, i, hi => absurd hi (Nat.not_lt_zero _)
  | n + 1, x, y, d, P, v, hP, hd, hdd, hx, hy, hxy, hv, i, hi => by
    rcases Classical.em (∃ p, p < n + 1 ∧ ∃ c, d p = some c) with ⟨p, hp, c, hc⟩ | h0
    · have hcn := hd p c hp hc
      have hrest : ∀ i, i < n → v (skip p i) = 0 := by
        refine mixed_kernel n (fun i => x (skip p i)) (fun j => y (skip c j)) (fun i => (d (skip p i)).map fun e => if e < c then e else e - 1) (fun i j => P (skip p i) (skip c j)) (fun i => v (skip p i)) ?_ ?_ ?_ ?_ ?_ ?_ ?_
        · intro i hi j hj
          show P (skip p i) (skip c j) = _
          rw [hP _ (skip_lt hi) _ (skip_lt hj)]
          cases h : d (skip p i) with
          | none => rfl
          | some e =>
            have hec : e ≠ c := fun q => hdd p (skip p i) c hp (skip_lt hi) (fun q => skip_ne p i q.symm) hc (by rw [h, q])
            show one e (skip c j) = one (if e < c then e else e - 1) j
            unfold one skip
            by_cases q1 : j < c <;> by_cases q2 : e < c
            · rw [if_pos q1, if_pos q2]
            · rw [if_pos q1, if_neg q2]
              rw [if_neg (by omega), if_neg (by omega)]
            · rw [if_neg q1, if_pos q2]
              rw [if_neg (by omega), if_neg (by omega)]
            · rw [if_neg q1, if_neg q2]
              by_cases q3 : e = j + 1
              · rw [if_pos q3, if_pos (by omega)]
              · rw [if_neg q3, if_neg (by omega)]
        · intro i e hi he
          simp only [Option.map_eq_some_iff] at he
          obtain ⟨e', h1, h2⟩ := he
          have := hd _ e' (skip_lt hi) h1
          have hec : e' ≠ c := fun q => hdd p (skip p i) c hp (skip_lt hi) (fun q => skip_ne p i q.symm) hc (by rw [h1, q])
          split at h2 <;> omega
        · intro i j e hi hj hij he he'
          simp only [Option.map_eq_some_iff] at he he'
          obtain ⟨e1, h1, h2⟩ := he
          obtain ⟨e2, h3, h4⟩ := he'
          have c1 : e1 ≠ c := fun q => hdd p (skip p i) c hp (skip_lt hi) (fun q => skip_ne p i q.symm) hc (by rw [h1, q])
          have c2 : e2 ≠ c := fun q => hdd p (skip p j) c hp (skip_lt hj) (fun q => skip_ne p j q.symm) hc (by rw [h3, q])
          have : e1 = e2 := by split at h2 <;> split at h4 <;> omega
          subst this
          exact hdd _ _ e1 (skip_lt hi) (skip_lt hj) (skip_inj hij) h1 h3
        · intro i j hi hj hij h1 h2
          simp only [Option.map_eq_none_iff] at h1 h2
          exact hx _ _ (skip_lt hi) (skip_lt hj) (skip_inj hij) h1 h2
        · intro i j hi hj hij
          exact hy _ _ (skip_lt hi) (skip_lt hj) (skip_inj hij)
        · intro i j hi hj h1
          simp only [Option.map_eq_none_iff] at h1
          exact hxy _ _ (skip_lt hi) (skip_lt hj) h1
        · intro j hj
          have h := hv (skip c j) (skip_lt hj)
          rw [sum_skip _ n p (by omega)] at h
          have hz : P p (skip c j) = 0 := by
            rw [hP p hp _ (skip_lt hj), hc]
            exact if_neg (fun q => skip_ne c j q.symm)
          rw [hz, mul_zero, UInt8.xor_zero] at h
          exact h
      by_cases e : i = p
      · subst e
        have h := hv c hcn
        rw [sum_skip _ n i (by omega), sum_zero (fun k hk => by rw [hrest k hk, zero_mul]), UInt8.zero_xor, hP i hp c hcn, hc] at h
        have : (one c c : UInt8) = 1 := if_pos rfl
        simp only [this, mul_one] at h
        exact h
      · obtain ⟨j, hj, rfl⟩ := skip_onto hi hp e
        exact hrest j hj
    · have hn : ∀ p, p < n + 1 → d p = none := fun p hp => by
        cases h : d p with
        | none => rfl
        | some c => exact absurd ⟨p, hp, c, h⟩ h0
      refine cauchy_kernel (n + 1) x y v (fun i j h1 h2 h3 => hx i j h1 h2 h3 (hn i h1) (hn j h2)) hy (fun i j h1 h2 => hxy i j h1 h2 (hn i h1)) (fun j hj => ?_) i hi
      rw [← hv j hj]
      exact sum_congr fun i hi => by rw [hP i hi j hj, hn i hi]
theorem at_gen_low {k n i j : Nat} (hi : i < k) (hj : j < k) : at_ (gen k n) i j = one i j := by
  unfold at_
  rw [row_gen_low hi]
  exact at_unit hi hj
theorem at_gen_high {k n i j : Nat} (h1 : k ≤ i) (h2 : i < n) (hj : j < k) : at_ (gen k n) i j = inv (UInt8.ofNat i ^^^ UInt8.ofNat j) := by
  unfold at_
  rw [row_gen_high h1]
  have := at_cauchy (r := n - k) (c := k) (i := i - k) (j := j) (by omega) hj
  unfold at_ at this
  rw [this, show k + (i - k) = i by omega]
/-- The stage's theorem: any k rows, all different, have an inverse. -/
theorem any_full {k n : Nat} {p : L} (f : Nat → Nat) (hk : 0 < k) (hkn : k ≤ n) (hn : n ≤ 256) (hf : ∀ i, i < k → f i < n) (hff : ∀ i j, i < k → j < k → i ≠ j → f i ≠ f j)
    (hp : Rect k k p) (h : ∀ i, i < k → row p i = row (gen k n) (f i)) : rank p = k := by
  have h1 := rank_le hp hk
  rcases Nat.lt_or_ge (rank p) k with hl | hg
  · exfalso
    obtain ⟨v, ⟨i0, hi0, hv0⟩, hv⟩ := rank_short hp hk hl
    apply hv0
    have key : ∀ i, i < k → ∀ j, at_ p i j = at_ (gen k n) (f i) j := fun i hi j => by unfold at_; rw [h i hi]
    refine mixed_kernel k (fun i => UInt8.ofNat (f i)) (fun j => UInt8.ofNat j) (fun i => if f i < k then some (f i) else none) (at_ p) v ?_ ?_ ?_ ?_ ?_ ?_ hv i0 hi0
    · intro i hi j hj
      rw [key i hi]
      by_cases e : f i < k
      · simp only [e, ↓reduceIte]
        exact at_gen_low e hj
      · simp only [e, ↓reduceIte]
        exact at_gen_high (by omega) (hf i hi) hj
    · intro i c hi hc
      by_cases e : f i < k
      · simp only [e, ↓reduceIte, Option.some.injEq] at hc
        omega
      · simp [e] at hc
    · intro i j c hi hj hij hc hc'
      have := hff i j hi hj hij
      by_cases e : f i < k
      · by_cases e' : f j < k
        · simp only [e, e', ↓reduceIte, Option.some.injEq] at hc hc'
          omega
        · simp [e'] at hc'
      · simp [e] at hc
    · intro i j hi hj hij _ _
      have := hf i hi; have := hf j hj
      exact ofNat_ne (by omega) (by omega) (hff i j hi hj hij)
    · intro i j hi hj hij
      exact ofNat_ne (by omega) (by omega) hij
    · intro i j hi hj hd
      have := hf i hi
      by_cases e : f i < k
      · simp [e] at hd
      · exact ofNat_ne (by omega) (by omega) (by omega)
  · omega
/-- What k rows tell of the shards of a stripe: the stripe. -/
theorem told_back {k n : Nat} {p d s : L} (f : Nat → Nat) (hk : 0 < k) (hkn : k ≤ n) (hn : n ≤ 256) (hf : ∀ i, i < k → f i < n) (hff : ∀ i j, i < k → j < k → i ≠ j → f i ≠ f j)
    (hp : Rect k k p) (h : ∀ i, i < k → row p i = row (gen k n) (f i)) (hd : Rect k (cols d) d) (hs : s.length = k) (hss : ∀ i, i < k → row s i = row (mulL (gen k n) d) (f i)) : mulL (invert p) s = d := by
  have hr := any_full f hk hkn hn hf hff hp h
  have e : s = mulL p d := by
    refine rows_ext (by rw [hs, mulL_length, hp.len]) fun i hi => ?_
    rw [hs] at hi
    rw [hss i hi, row_mulL (by rw [gen_length hkn]; exact hf i hi), row_mulL (by rw [hp.len]; exact hi), h i hi]
  rw [e, ← mulL_assoc (inv_rect hp hk hr) hp hd hk hk, inv_left hp hk hr, unit_mulL hd hk]
end Gm
namespace Gm
open Gf
/-- A sum of stripes has the sums of their shards. -/
theorem rowL_lay {k c : Nat} {r : List UInt8} {x : UInt8} {a b s : L} (ha : Rect k c a) (hb : Rect k c b) (hk : 0 < k) (hs : s.length = k) (h : ∀ i, i < k → row s i = lay (row a i) x (row b i)) : rowL r s = lay (rowL r a) x (rowL r b) := by
  have hcs : cols s = c := by unfold cols; rw [h 0 hk, lay_length, ha.wid 0 hk]
  refine ext_get (by rw [lay_length, rowL_length, rowL_length, hcs, ha.cols hk]) fun j hj => ?_
  rw [rowL_length, hcs] at hj
  rw [lay_get _ _ _ (by rw [rowL_length, ha.cols hk]; exact hj), layAt_all, get_rowL (by rw [hcs]; exact hj), get_rowL (by rw [ha.cols hk]; exact hj), get_rowL (by rw [hb.cols hk]; exact hj), hs, ha.len, hb.len, Gm.mul_sum, ← sum_add]
  refine sum_congr fun t ht => ?_
  have e : at_ s t j = at_ a t j ^^^ mul x (at_ b t j) := by
    unfold at_
    rw [h t ht, lay_get _ _ _ (by rw [ha.wid t ht]; exact hj), layAt_all]
  rw [e, mul_add, ← mul_assoc, mul_comm (get r t) x, mul_assoc]
theorem row_take' {m : L} {k i : Nat} (h : i < k) : row (m.take k) i = row m i := by
  unfold row
  rw [List.getD_eq_getElem?_getD, List.getD_eq_getElem?_getD, List.getElem?_take, if_pos h]
theorem enc_rect {k n c : Nat} {d : L} (hd : Rect k c d) (hk : 0 < k) (hkn : k ≤ n) : Rect n c (mulL (gen k n) d) := by
  have h := mulL_rect (gen k n) d
  rw [gen_length hkn, hd.cols hk] at h
  exact h
theorem enc_take {k n c : Nat} {d : L} (hd : Rect k c d) (hk : 0 < k) (hkn : k ≤ n) : (mulL (gen k n) d).take k = d := by
  have hr := enc_rect hd hk hkn
  refine rows_ext (by rw [List.length_take, hr.len, hd.len]; omega) fun i hi => ?_
  rw [List.length_take, hr.len] at hi
  rw [row_take' (by omega), encode_low hk hd.len (fun i hi => by rw [hd.wid i hi, hd.cols hk]) hkn (by omega)]
theorem Rect.even {n c : Nat} {s : L} (h : Rect n c s) (hn : 0 < n) (hc : c ≤ 65536) : even s n := ⟨h.len, hn, by rw [h.cols hn]; exact hc, fun i hi => by rw [h.wid i hi, h.cols hn]⟩
/-- The shards of a stripe fit. -/
theorem fit_all {k n c : Nat} {d : L} (hd : Rect k c d) (hk : 0 < k) (hkn : k ≤ n) (hc : c ≤ 65536) : even (mulL (gen k n) d) n ∧ mulL (gen k n) ((mulL (gen k n) d).take k) = mulL (gen k n) d :=
  ⟨(enc_rect hd hk hkn).even (by omega) hc, by rw [enc_take hd hk hkn]⟩
/-- With one byte turned they do not, where there is one shard more than needed. -/
theorem fit_not {k n c i p : Nat} {d : L} {t : UInt8} (hd : Rect k c d) (hk : 0 < k) (hkn : k < n) (hn : n ≤ 256) (hi : i < n) (hp : p < c) (ht : t ≠ 0) :
    mulL (gen k n) (((mulL (gen k n) d).set i ((row (mulL (gen k n) d) i).set p (get (row (mulL (gen k n) d) i) p ^^^ t))).take k) ≠ (mulL (gen k n) d).set i ((row (mulL (gen k n) d) i).set p (get (row (mulL (gen k n) d) i) p ^^^ t)) := by
  have hr := enc_rect (n := n) hd hk (by omega)
  have htk := enc_take (n := n) hd hk (by omega)
  have hlow := fun i (h : i < k) => encode_low (n := n) hk hd.len (fun i hi => by rw [hd.wid i hi, hd.cols hk]) (by omega) h
  have hgl : (gen k n).length = n := gen_length (by omega)
  have hrow : ∀ q, q < n → row (mulL (gen k n) d) q = rowL (row (gen k n) q) d := fun q hq => row_mulL (by rw [hgl]; exact hq)
  generalize hA : mulL (gen k n) d = A at *
  intro E
  have turned : get (row A i) p ^^^ t ≠ get (row A i) p := fun q => ht (by
    have := congrArg (fun z => get (row A i) p ^^^ z) q
    simp only [← UInt8.xor_assoc, UInt8.xor_self, UInt8.zero_xor] at this
    exact this)
  have hpl : p < (row A i).length := by rw [hr.wid i hi]; exact hp
  by_cases hik : i < k
  · -- a byte of the data
    have e1 := congrArg (fun m => get (row m k) p) E
    replace e1 : get (row (mulL (gen k n) ((A.set i ((row A i).set p (get (row A i) p ^^^ t))).take k)) k) p = get (row (A.set i ((row A i).set p (get (row A i) p ^^^ t))) k) p := e1
    rw [row_mulL (by rw [hgl]; exact hkn), row_set _ (by rw [hr.len]; exact hi), if_neg (by omega)] at e1
    generalize hB : (A.set i ((row A i).set p (get (row A i) p ^^^ t))).take k = B at *
    have hBr : Rect k c B := by
      rw [← hB]
      refine ⟨by rw [List.length_take, List.length_set, hr.len]; omega, fun q hq => ?_⟩
      rw [row_take' hq, row_set _ (by rw [hr.len]; exact hi)]
      by_cases e : i = q
      · subst e; rw [if_pos rfl, List.length_set]; exact hr.wid i hi
      · rw [if_neg e]; exact hr.wid q (by omega)
    have hBat : ∀ q, q < k → at_ B q p = at_ d q p ^^^ (if q = i then t else 0) := fun q hq => by
      unfold at_
      rw [← hB, row_take' hq, row_set _ (by rw [hr.len]; exact hi)]
      by_cases e : i = q
      · subst e
        rw [if_pos rfl, if_pos rfl, get_set _ hpl, if_pos rfl, ← hlow i hq]
      · rw [if_neg e, if_neg (fun q => e q.symm), UInt8.xor_zero, ← hlow q hq]
    have e2 := hrow k hkn
    rw [e2, get_rowL (by rw [hBr.cols hk]; exact hp), get_rowL (by rw [hd.cols hk]; exact hp), hBr.len, hd.len] at e1
    have e3 : sum (fun q => mul (get (row (gen k n) k) q) (at_ B q p)) k = sum (fun q => mul (get (row (gen k n) k) q) (at_ d q p)) k ^^^ mul (get (row (gen k n) k) i) t := by
      have e5 : sum (fun q => mul (get (row (gen k n) k) q) (if q = i then t else 0)) k = mul (get (row (gen k n) k) i) t := by
        rw [sum_one (f := fun q => mul (get (row (gen k n) k) q) (if q = i then t else 0)) hik (fun j _ hj => by rw [if_neg hj, mul_zero]), if_pos rfl]
      rw [← e5, ← sum_add]
      exact sum_congr fun q hq => by rw [hBat q hq, mul_add]
    rw [e3] at e1
    have e4 : mul (get (row (gen k n) k) i) t = 0 := by
      have := congrArg (fun z => sum (fun q => mul (get (row (gen k n) k) q) (at_ d q p)) k ^^^ z) e1
      simp only [← UInt8.xor_assoc, UInt8.xor_self, UInt8.zero_xor] at this
      exact this
    rcases mul_eq_zero e4 with h | h
    · have := at_gen_high (k := k) (n := n) (i := k) (j := i) (Nat.le_refl _) hkn hik
      unfold at_ at this
      rw [h] at this
      exact inv_ne (xor_ne (ofNat_ne (by omega) (by omega) (by omega))) this.symm
    · exact ht h
  · have e : ((A.set i ((row A i).set p (get (row A i) p ^^^ t))).take k) = d := by
      rw [List.take_set_of_le (by omega)]
      exact htk
    rw [e, hA] at E
    have e1 := congrArg (fun m => get (row m i) p) E
    replace e1 : get (row A i) p = get (row (A.set i ((row A i).set p (get (row A i) p ^^^ t))) i) p := e1
    rw [row_set _ (by rw [hr.len]; exact hi), if_pos rfl, get_set _ hpl, if_pos rfl] at e1
    exact turned e1.symm
end Gm
