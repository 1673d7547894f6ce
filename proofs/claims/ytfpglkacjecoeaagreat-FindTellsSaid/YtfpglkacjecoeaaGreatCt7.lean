/- Several texts in one: The laws of matrices in plain words: products, inverses, rows, ranks. No program in sight. Codes in plain words: the matrix of a code, what its rows tell of shards. No program in sight. The contracts of package field's methods on a field that New made: each says what the call answers, and that the world is as it was but for draws. -/
import Derived.Test.YtfpglkacjecoeaaGreatCt6
import Derived.Test.YtfpglkacjecoeaaGreatCt1
namespace Gm
open Gf
theorem mulL_rect' {n k c : Nat} {a b : L} (ha : Rect n k a) (hb : Rect k c b) (hk : 0 < k) : Rect n c (mulL a b) := by
  have := mulL_rect a b
  rwa [ha.len, hb.cols hk] at this
theorem at_mulL' {n k c : Nat} {a b : L} (ha : Rect n k a) (hb : Rect k c b) (hk : 0 < k) : Eq2 n c (at_ (mulL a b)) (prod k (at_ a) (at_ b)) := fun i hi j hj => by
  rw [at_mulL (by rw [ha.len]; exact hi) (by rw [hb.cols hk]; exact hj), hb.len]
theorem mulL_assoc {n k l c : Nat} {a b d : L} (ha : Rect n k a) (hb : Rect k l b) (hd : Rect l c d) (hk : 0 < k) (hl : 0 < l) : mulL (mulL a b) d = mulL a (mulL b d) := by
  refine Rect.ext (mulL_rect' (mulL_rect' ha hb hk) hd hl) (mulL_rect' ha (mulL_rect' hb hd hl) hk) ?_
  refine (at_mulL' (mulL_rect' ha hb hk) hd hl).trans (Eq2.symm ((at_mulL' ha (mulL_rect' hb hd hl) hk).trans ?_))
  refine (prod_congr (Eq2.refl n k _) (at_mulL' hb hd hl)).trans ?_
  rw [← prod_assoc]
  exact prod_congr (at_mulL' ha hb hk).symm (Eq2.refl l c _)
theorem mulL_unit {n k : Nat} {a : L} (ha : Rect n k a) (hk : 0 < k) : mulL a (unit k) = a :=
  Rect.ext (mulL_rect' ha (unit_rect k) hk) ha ((at_mulL' ha (unit_rect k) hk).trans ((prod_congr (Eq2.refl n k _) (fun _ hi _ hj => at_unit hi hj)).trans fun _ _ _ hj => prod_one _ hj))
theorem unit_mulL {n c : Nat} {a : L} (ha : Rect n c a) (hn : 0 < n) : mulL (unit n) a = a :=
  Rect.ext (mulL_rect' (unit_rect n) ha hn) ha ((at_mulL' (unit_rect n) ha hn).trans ((prod_congr (fun _ hi _ hj => at_unit hi hj) (Eq2.refl n c _)).trans fun _ hi j _ => one_prod _ hi j))
theorem unit_of {n : Nat} {m : L} (h : Rect n n m) (e : Eq2 n n (at_ m) one) : m = unit n := Rect.ext h (unit_rect n) (e.trans fun _ hi _ hj => (at_unit hi hj).symm)
theorem inv_rect {n : Nat} {m : L} (h : Rect n n m) (hn : 0 < n) (hr : rank m = n) : Rect n n (invert m) := (invert_spec h hn hr).1
theorem inv_left {n : Nat} {m : L} (h : Rect n n m) (hn : 0 < n) (hr : rank m = n) : mulL (invert m) m = unit n :=
  unit_of (mulL_rect' (inv_rect h hn hr) h hn) ((at_mulL' (inv_rect h hn hr) h hn).trans (invert_spec h hn hr).2.1)
theorem inv_right {n : Nat} {m : L} (h : Rect n n m) (hn : 0 < n) (hr : rank m = n) : mulL m (invert m) = unit n :=
  unit_of (mulL_rect' h (inv_rect h hn hr) hn) ((at_mulL' h (inv_rect h hn hr) hn).trans (invert_spec h hn hr).2.2)
/-- What has a factor that makes the unit has full rank; the factor is the inverse. -/
theorem full_of_right {n : Nat} {m x : L} (h : Rect n n m) (hx : Rect n n x) (hn : 0 < n) (e : mulL m x = unit n) : rank m = n :=
  rank_full_right h hn ((at_mulL' h hx hn).symm.trans (by rw [e]; exact fun _ hi _ hj => at_unit hi hj))
theorem full_of_left {n : Nat} {m x : L} (h : Rect n n m) (hx : Rect n n x) (hn : 0 < n) (e : mulL x m = unit n) : rank m = n :=
  rank_full_left h hn ((at_mulL' hx h hn).symm.trans (by rw [e]; exact fun _ hi _ hj => at_unit hi hj))
theorem inv_unique {n : Nat} {m x : L} (h : Rect n n m) (hx : Rect n n x) (hn : 0 < n) (e : mulL m x = unit n) : invert m = x := by
  have hr := full_of_right h hx hn e
  rw [← mulL_unit (inv_rect h hn hr) hn, ← e, ← mulL_assoc (inv_rect h hn hr) h hx hn hn, inv_left h hn hr, unit_mulL hx hn]
theorem rank_inv {n : Nat} {m : L} (h : Rect n n m) (hn : 0 < n) (hr : rank m = n) : rank (invert m) = n := full_of_right (inv_rect h hn hr) h hn (inv_left h hn hr)
theorem inv_inv {n : Nat} {m : L} (h : Rect n n m) (hn : 0 < n) (hr : rank m = n) : invert (invert m) = m := inv_unique (inv_rect h hn hr) h hn (inv_left h hn hr)
theorem rank_mul_left {n k c : Nat} {a b : L} (ha : Rect n k a) (hb : Rect k c b) (hn : 0 < n) (hk : 0 < k) : rank (mulL a b) ≤ rank a :=
  rank_least (mulL_rect' ha hb hk) hn (spans_prod (rank_spans ha hn) (at_mulL' ha hb hk))
theorem rank_mul_right {n k c : Nat} {a b : L} (ha : Rect n k a) (hb : Rect k c b) (hn : 0 < n) (hk : 0 < k) : rank (mulL a b) ≤ rank b :=
  rank_least (mulL_rect' ha hb hk) hn (spans_of_prod (rank_spans hb hk) (at_mulL' ha hb hk))
theorem rank_product {n : Nat} {a b : L} (ha : Rect n n a) (hb : Rect n n b) (hn : 0 < n) : (rank a = n ∧ rank b = n) ↔ rank (mulL a b) = n := by
  have l1 := rank_le ha hn
  have l2 := rank_le hb hn
  have l3 := rank_mul_left ha hb hn hn
  have l4 := rank_mul_right ha hb hn hn
  constructor
  · rintro ⟨r1, r2⟩
    refine full_of_right (mulL_rect' ha hb hn) (mulL_rect' (inv_rect hb hn r2) (inv_rect ha hn r1) hn) hn ?_
    rw [mulL_assoc ha hb (mulL_rect' (inv_rect hb hn r2) (inv_rect ha hn r1) hn) hn hn, ← mulL_assoc hb (inv_rect hb hn r2) (inv_rect ha hn r1) hn hn, inv_right hb hn r2, unit_mulL (inv_rect ha hn r1) hn, inv_right ha hn r1]
  · intro h
    exact ⟨by omega, by omega⟩
theorem inv_product {n : Nat} {a b : L} (ha : Rect n n a) (hb : Rect n n b) (hn : 0 < n) (r1 : rank a = n) (r2 : rank b = n) : invert (mulL a b) = mulL (invert b) (invert a) := by
  refine inv_unique (mulL_rect' ha hb hn) (mulL_rect' (inv_rect hb hn r2) (inv_rect ha hn r1) hn) hn ?_
  rw [mulL_assoc ha hb (mulL_rect' (inv_rect hb hn r2) (inv_rect ha hn r1) hn) hn hn, ← mulL_assoc hb (inv_rect hb hn r2) (inv_rect ha hn r1) hn hn, inv_right hb hn r2, unit_mulL (inv_rect ha hn r1) hn, inv_right ha hn r1]
/-- Rows of another matrix: the rank is no greater. -/
theorem rank_rows {n c n' : Nat} {m m' : L} (h : Rect n c m) (h' : Rect n' c m') (hn : 0 < n) (hn' : 0 < n') (f : Nat → Nat) (hf : ∀ i, i < n' → f i < n) (e : ∀ i, i < n' → row m' i = row m (f i)) : rank m' ≤ rank m := by
  obtain ⟨C, V, hCV⟩ := rank_spans h hn
  refine rank_least h' hn' ⟨fun i t => C (f i) t, V, fun i hi j hj => ?_⟩
  have := hCV (f i) (hf i hi) j hj
  unfold at_ at *
  rw [e i hi]
  exact this
theorem rank_cols {n c : Nat} {m : L} (h : Rect n c m) (hn : 0 < n) : rank m ≤ c := rank_least h hn ⟨at_ m, one, fun i _ j hj => (prod_one _ hj).symm⟩
/-- A product of picked rows. -/
theorem mulL_rows {n k c n' : Nat} {a b a' : L} (ha : Rect n k a) (ha' : Rect n' k a') (hb : Rect k c b) (hk : 0 < k) (f : Nat → Nat) (hf : ∀ i, i < n' → f i < n) (e : ∀ i, i < n' → row a' i = row a (f i)) :
    ∀ i, i < n' → row (mulL a' b) i = row (mulL a b) (f i) := fun i hi => by
  have r1 := mulL_rect' ha' hb hk
  have r2 := mulL_rect' ha hb hk
  refine ext_get (by rw [r1.wid i hi, r2.wid _ (hf i hi)]) fun j hj => ?_
  rw [r1.wid i hi] at hj
  have h1 := at_mulL' ha' hb hk i hi j hj
  have h2 := at_mulL' ha hb hk (f i) (hf i hi) j hj
  unfold at_ at h1 h2
  rw [h1, h2]
  unfold prod
  exact sum_congr fun t _ => by show mul (get (row a' i) t) _ = _; rw [e i hi]
end Gm
namespace Gm
open Gf
/-- The matrix of a code. -/
def gen (k n : Nat) : L := unit k ++ cauchy (n - k) k
theorem gen_length {k n : Nat} (h : k ≤ n) : (gen k n).length = n := by
  unfold gen
  rw [List.length_append, (unit_rect k).len, (cauchy_rect _ k).len]
  omega
theorem row_append {a b : L} (i : Nat) : row (a ++ b) i = if i < a.length then row a i else row b (i - a.length) := by
  unfold row
  rw [List.getD_eq_getElem?_getD]
  by_cases h : i < a.length
  · rw [if_pos h, List.getElem?_append_left h, List.getD_eq_getElem?_getD]
  · rw [if_neg h, List.getElem?_append_right (by omega), List.getD_eq_getElem?_getD]
theorem row_gen_low {k n i : Nat} (h : i < k) : row (gen k n) i = row (unit k) i := by
  unfold gen
  rw [row_append, (unit_rect k).len, if_pos h]
theorem row_gen_high {k n i : Nat} (h : k ≤ i) : row (gen k n) i = row (cauchy (n - k) k) (i - k) := by
  unfold gen
  rw [row_append, (unit_rect k).len, if_neg (by omega)]
theorem gen_rect {k n : Nat} (h : k ≤ n) : Rect n k (gen k n) :=
  ⟨gen_length h, fun i hi => by
    by_cases e : i < k
    · rw [row_gen_low e]; exact (unit_rect k).wid i e
    · rw [row_gen_high (by omega)]; exact (cauchy_rect _ k).wid _ (by omega)⟩
theorem gen_right {k n : Nat} (h1 : 1 ≤ k) (h : k ≤ n) (hn : n ≤ 255) : right (gen k n) := (gen_rect h).right (by omega) hn h1 (by omega)
/-- A row times shards. -/
def rowL (r : List UInt8) (s : L) : List UInt8 := (List.range (cols s)).map fun j => sum (fun t => mul (get r t) (at_ s t j)) s.length
theorem rowL_length (r : List UInt8) (s : L) : (rowL r s).length = cols s := by simp [rowL]
theorem get_rowL {r : List UInt8} {s : L} {j : Nat} (h : j < cols s) : get (rowL r s) j = sum (fun t => mul (get r t) (at_ s t j)) s.length := by
  unfold rowL
  rw [get_map_range _ h]
/-- The first t products of it, added. -/
def accL (r : List UInt8) (s : L) (t : Nat) : List UInt8 := (List.range (cols s)).map fun j => sum (fun t => mul (get r t) (at_ s t j)) t
theorem accL_length (r : List UInt8) (s : L) (t : Nat) : (accL r s t).length = cols s := by simp [accL]
theorem accL_zero (r : List UInt8) (s : L) : accL r s 0 = List.replicate (cols s) 0 := by
  refine ext_get (by simp [accL]) fun j hj => ?_
  rw [accL_length] at hj
  unfold accL
  rw [get_map_range _ hj, get_zeros]
  rfl
theorem accL_succ (r : List UInt8) (s : L) (k : Nat) : lay (accL r s k) (get r k) (row s k) = accL r s (k + 1) := by
  refine ext_get (by rw [lay_length, accL_length, accL_length]) fun j hj => ?_
  rw [lay_length] at hj
  rw [lay_get _ _ _ hj, layAt_all]
  rw [accL_length] at hj
  unfold accL
  rw [get_map_range _ hj, get_map_range _ hj]
  rfl
theorem accL_full {r : List UInt8} {s : L} {k : Nat} (h : k = s.length) : accL r s k = rowL r s := by subst h; rfl
theorem mulL_rows_of (a s : L) : mulL a s = a.map fun r => rowL r s := by
  refine List.ext_getElem (by simp [mulL]) fun i h1 h2 => ?_
  simp only [mulL, List.getElem_map, List.getElem_range, rowL]
  have hi : i < a.length := by simpa [mulL] using h1
  have : row a i = a[i] := row_of_lt hi
  rw [← this]
  rfl
theorem row_mulL {a s : L} {i : Nat} (h : i < a.length) : row (mulL a s) i = rowL (row a i) s := by
  rw [mulL_rows_of, row_of_lt (by simpa using h), row_of_lt h, List.getElem_map]
theorem mulL_length (a s : L) : (mulL a s).length = a.length := by rw [mulL_rows_of, List.length_map]
/-- So many shards, all of one length that may be. -/
def even (s : L) (n : Nat) : Prop := s.length = n ∧ 0 < n ∧ cols s ≤ 65536 ∧ ∀ i, i < n → (row s i).length = cols s
theorem even.rect {s : L} {n : Nat} (h : even s n) : Rect n (cols s) s := ⟨h.1, h.2.2.2⟩
/-- The first k rows of the code's shards are the data. -/
theorem encode_low {k n : Nat} {s : L} (hk : 0 < k) (hs : s.length = k) (hw : ∀ i, i < k → (row s i).length = cols s) (h : k ≤ n) {i : Nat} (hi : i < k) : row (mulL (gen k n) s) i = row s i := by
  rw [row_mulL (by rw [gen_length h]; omega), row_gen_low hi, ← row_mulL (by rw [(unit_rect k).len]; exact hi), unit_mulL (⟨hs, hw⟩ : Rect k (cols s) s) hk]
end Gm
namespace Go.Proofs.YtfpglkacjecoeaaGreat
open Go.RowKit

/-- Block b holds a field. -/
structure FieldAt (w : World) (b : Nat) : Prop where
  made : w.cell? ⟨b, 0, none⟩ = some (.bool true)
  exp : ∀ i : Nat, i < 510 → w.cell? ⟨b, 1 + i, none⟩ = some (.int .u8 ((Gf.gexp i).toNat : Int))
  log : ∀ x : UInt8, w.cell? ⟨b, 511 + x.toNat, none⟩ = some (.int .i64 (Gf.glog x : Int))
theorem FieldAt.ext {w w' : World} {b : Nat} (h : FieldAt w b) (hx : Ext w w') : FieldAt w' b :=
  ⟨hx.cell h.made, fun i hi => hx.cell (h.exp i hi), fun x => hx.cell (h.log x)⟩

abbrev fptr (b : Nat) : Value := .pointer (some ⟨b, 0, none⟩)

theorem is_yes (b : Nat) (w : World) (h : w.cell? ⟨b, 0, none⟩ = some (.bool true)) :
    Calls Tryz.prog 51 #[.pointer (some ⟨b, 0, none⟩)] w fun e w' => e = .returned (.bool true) ∧ w = w' := by
  go_enter Tryz.func51, Tryz.ntmps51
  go_wp2
  go_ret
  exact ⟨rfl, rfl⟩

theorem add_any (b : Nat) (w : World) (x y : UInt8) (hf : FieldAt w b) :
    Calls Tryz.prog 31 #[.pointer (some ⟨b, 0, none⟩), .int .u8 (x.toNat : Int), .int .u8 (y.toNat : Int)] w fun e w' => e = .returned (.int .u8 ((Gf.add x y).toNat : Int)) ∧ w = w' := by
  have h := hf.made
  clear hf
  go_enter Tryz.func31, Tryz.ntmps31
  go_wp2_with (go_at_call 51; refine (is_yes _ _ h).mono ?_; rintro e w' ⟨rfl, rfl⟩)
  go_ret
  exact ⟨ret_int (xor_u8 x y), rfl⟩

theorem mul_zero_left (b : Nat) (w : World) (x y : UInt8) (hf : FieldAt w b) (hx : x = 0) :
    Calls Tryz.prog 106 #[.pointer (some ⟨b, 0, none⟩), .int .u8 (x.toNat : Int), .int .u8 (y.toNat : Int)] w fun e w' => e = .returned (.int .u8 0) ∧ w = w' := by
  have h := hf.made
  have e1 := u8_zero x hx
  clear hf hx
  go_enter Tryz.func106, Tryz.ntmps106
  go_wp2_with (go_at_call 51; refine (is_yes _ _ h).mono ?_; rintro e w' ⟨rfl, rfl⟩)
  go_ret
  exact ⟨rfl, rfl⟩
theorem mul_zero_right (b : Nat) (w : World) (x y : UInt8) (hf : FieldAt w b) (hx : x ≠ 0) (hy : y = 0) :
    Calls Tryz.prog 106 #[.pointer (some ⟨b, 0, none⟩), .int .u8 (x.toNat : Int), .int .u8 (y.toNat : Int)] w fun e w' => e = .returned (.int .u8 0) ∧ w = w' := by
  have h := hf.made
  have e1 := u8_nonzero x hx
  have e2 := u8_zero y hy
  clear hf hx hy
  go_enter Tryz.func106, Tryz.ntmps106
  go_wp2_with (go_at_call 51; refine (is_yes _ _ h).mono ?_; rintro e w' ⟨rfl, rfl⟩)
  go_ret
  exact ⟨rfl, rfl⟩
set_option maxRecDepth 100000 in
theorem mul_nz (b : Nat) (w : World) (x y : UInt8) (hf : FieldAt w b) (hx : x ≠ 0) (hy : y ≠ 0) :
    Calls Tryz.prog 106 #[.pointer (some ⟨b, 0, none⟩), .int .u8 (x.toNat : Int), .int .u8 (y.toNat : Int)] w fun e w' => e = .returned (.int .u8 ((Gf.gexp (Gf.glog x + Gf.glog y)).toNat : Int)) ∧ ∃ n, w' = w.drewN n := by
  have b1 := Gf.glog_lt x
  have b2 := Gf.glog_lt y
  have h0 := hf.made
  have h1 := hf.log x
  have h2 := hf.log y
  have h3 := hf.exp (Gf.glog x + Gf.glog y) (by omega)
  have e1 := u8_nonzero x hx
  have e2 := u8_nonzero y hy
  have i1 := u8_int_lt x
  have i2 := u8_int_lt y
  have i3 : (Gf.glog x : Int) + (Gf.glog y : Int) < 510 := by omega
  clear hf hx hy
  go_enter Tryz.func106, Tryz.ntmps106
  go_wp2_with (go_at_call 51; refine (is_yes _ _ h0).mono ?_; rintro e w' ⟨rfl, rfl⟩)
  go_quiet (fail)
  go_wp2
  go_ret
  exact ⟨rfl, _, rfl⟩
theorem mul_any (b : Nat) (w : World) (x y : UInt8) (hf : FieldAt w b) :
    Calls Tryz.prog 106 #[.pointer (some ⟨b, 0, none⟩), .int .u8 (x.toNat : Int), .int .u8 (y.toNat : Int)] w fun e w' => e = .returned (.int .u8 ((Gf.mul x y).toNat : Int)) ∧ ∃ n, w' = w.drewN n := by
  by_cases hx : x = 0
  · refine (mul_zero_left b w x y hf hx).mono ?_
    rintro e w' ⟨rfl, rfl⟩
    subst hx
    exact ⟨by rw [Gf.zero_mul]; rfl, 0, rfl⟩
  · by_cases hy : y = 0
    · refine (mul_zero_right b w x y hf hx hy).mono ?_
      rintro e w' ⟨rfl, rfl⟩
      subst hy
      exact ⟨by rw [Gf.mul_zero]; rfl, 0, rfl⟩
    · refine (mul_nz b w x y hf hx hy).mono ?_
      rintro e w' ⟨rfl, hn⟩
      exact ⟨by rw [Gf.mul_log hx hy], hn⟩

theorem div_by_zero (b : Nat) (w : World) (x y : UInt8) (hf : FieldAt w b) (hy : y = 0) :
    Calls Tryz.prog 70 #[.pointer (some ⟨b, 0, none⟩), .int .u8 (x.toNat : Int), .int .u8 (y.toNat : Int)] w fun e w' => e = .returned (.tuple #[.int .u8 0, .int .i64 20]) ∧ w = w' := by
  have h0 := hf.made
  have e1 := u8_zero y hy
  clear hf hy
  go_enter Tryz.func70, Tryz.ntmps70
  go_wp2_with (go_at_call 51; refine (is_yes _ _ h0).mono ?_; rintro e w' ⟨rfl, rfl⟩)
  go_ret2
  exact ⟨rfl, rfl⟩
theorem div_zero (b : Nat) (w : World) (x y : UInt8) (hf : FieldAt w b) (hy : y ≠ 0) (hx : x = 0) :
    Calls Tryz.prog 70 #[.pointer (some ⟨b, 0, none⟩), .int .u8 (x.toNat : Int), .int .u8 (y.toNat : Int)] w fun e w' => e = .returned (.tuple #[.int .u8 0, .int .i64 0]) ∧ w = w' := by
  have h0 := hf.made
  have e1 := u8_nonzero y hy
  have e2 := u8_zero x hx
  clear hf hx hy
  go_enter Tryz.func70, Tryz.ntmps70
  go_wp2_with (go_at_call 51; refine (is_yes _ _ h0).mono ?_; rintro e w' ⟨rfl, rfl⟩)
  go_ret2
  exact ⟨rfl, rfl⟩
set_option maxRecDepth 100000 in
theorem div_nz (b : Nat) (w : World) (x y : UInt8) (hf : FieldAt w b) (hx : x ≠ 0) (hy : y ≠ 0) :
    Calls Tryz.prog 70 #[.pointer (some ⟨b, 0, none⟩), .int .u8 (x.toNat : Int), .int .u8 (y.toNat : Int)] w fun e w' => e = .returned (.tuple #[.int .u8 ((Gf.gexp (Gf.glog x + 255 - Gf.glog y)).toNat : Int), .int .i64 0]) ∧ ∃ n, w' = w.drewN n := by
  have b1 := Gf.glog_lt x
  have b2 := Gf.glog_lt y
  have h0 := hf.made
  have h1 := hf.log x
  have h2 := hf.log y
  have h3 := hf.exp (Gf.glog x + 255 - Gf.glog y) (by omega)
  have e1 := u8_nonzero x hx
  have e2 := u8_nonzero y hy
  have i1 := u8_int_lt x
  have i2 := u8_int_lt y
  have i3 : (Gf.glog x : Int) + 255 - (Gf.glog y : Int) < 510 := by omega
  have i4 : 0 ≤ (Gf.glog x : Int) + 255 - (Gf.glog y : Int) := by omega
  have i5 : ((Gf.glog x : Int) + 255 - (Gf.glog y : Int)).toNat = Gf.glog x + 255 - Gf.glog y := by omega
  clear hf hx hy
  go_enter Tryz.func70, Tryz.ntmps70
  go_wp2_with (go_at_call 51; refine (is_yes _ _ h0).mono ?_; rintro e w' ⟨rfl, rfl⟩)
  go_quiet (fail)
  go_wp2
  go_ret2
  exact ⟨rfl, _, rfl⟩
theorem div_any (b : Nat) (w : World) (x y : UInt8) (hf : FieldAt w b) :
    Calls Tryz.prog 70 #[.pointer (some ⟨b, 0, none⟩), .int .u8 (x.toNat : Int), .int .u8 (y.toNat : Int)] w fun e w' => e = .returned (.tuple #[.int .u8 ((Gf.divQ x y).toNat : Int), .int .i64 (Gf.divE y)]) ∧ ∃ n, w' = w.drewN n := by
  by_cases hy : y = 0
  · refine (div_by_zero b w x y hf hy).mono ?_
    rintro e w' ⟨rfl, rfl⟩
    refine ⟨?_, 0, rfl⟩
    unfold Gf.divQ Gf.divE
    rw [if_pos hy, if_pos hy]; rfl
  · by_cases hx : x = 0
    · refine (div_zero b w x y hf hy hx).mono ?_
      rintro e w' ⟨rfl, rfl⟩
      refine ⟨?_, 0, rfl⟩
      unfold Gf.divQ Gf.divE Gf.div
      rw [if_neg hy, if_neg hy, hx, Gf.zero_mul]; rfl
    · refine (div_nz b w x y hf hx hy).mono ?_
      rintro e w' ⟨rfl, hn⟩
      refine ⟨?_, hn⟩
      unfold Gf.divQ Gf.divE
      rw [if_neg hy, if_neg hy, Gf.div_log hx hy]

theorem inv_any (b : Nat) (w : World) (x : UInt8) (hf : FieldAt w b) :
    Calls Tryz.prog 54 #[.pointer (some ⟨b, 0, none⟩), .int .u8 (x.toNat : Int)] w fun e w' => e = .returned (.tuple #[.int .u8 ((Gf.divQ 1 x).toNat : Int), .int .i64 (Gf.divE x)]) ∧ ∃ n, w' = w.drewN n := by
  go_enter Tryz.func54, Tryz.ntmps54
  go_wp2_with (go_at_call 70; refine (div_any b _ 1 x hf).mono ?_; rintro e w' ⟨rfl, hn⟩)
  go_ret2
  exact ⟨rfl, hn⟩
end Go.Proofs.YtfpglkacjecoeaaGreat
