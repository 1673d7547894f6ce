/- Several texts in one: What the kit's library contracts ask of this program: the numbers of the library's functions, and that their bodies are these. No statement of the seat is proved here. The contract of slices.Sort at []int, on a list of one's own: the kit's contract, laid at this program. No statement of the seat is proved here. Cauchy matrices, products and picked rows, in plain words. No program in sight. -/
import Derived.Shelf.Sort.Plain
import Derived.Shelf.Slices.In.SortNone
import Derived.Test.YtfpglkacjecoeaaGreatProg
import Derived.Test.YtfpglkacjecoeaaGreatCt3
import Derived.Test.YtfpglkacjecoeaaGreatCt2
import Derived.Sort.EveryDepth
import Derived.Test.YtfpglkacjecoeaaGreatCt4
namespace Go.Proofs.YtfpglkacjecoeaaGreat
open Go.Shelf
def laysSort_ren : Go.Shelf.Ren := ⟨fun | 189 => 42 | 125 => 58 | 257 => 57 | 128 => 81 | 129 => 82 | 294 => 72 | 295 => 73 | 296 => 74 | 297 => 75 | 298 => 76 | 299 => 77 | 216 => 78 | 300 => 79 | 301 => 80 | 328 => 93 | 329 => 94 | 330 => 95 | 331 => 96 | 332 => 97 | 215 => 98 | 343 => 108 | n => n,
  fun | 28 => 22 | 3 => 3 | 46 => 77 | 0 => 0 | 51 => 118 | 53 => 120 | 4 => 4 | 183 => 110 | 182 => 109 | 131 => 115 | 5 => 5 | 9 => 9 | 218 => 129 | 222 => 133 | 228 => 139 | 229 => 140 | n => n,
  fun | n => n⟩
theorem laysSort : Go.Proofs.Lays.n189 Tryz.prog laysSort_ren := {
  mixed := by kernel_rfl,
  f125 := Tryz.func58.trans (congrArg some (by kernel_rfl)),
  f128 := Tryz.func81.trans (congrArg some (by kernel_rfl)),
  f129 := Tryz.func82.trans (congrArg some (by kernel_rfl)),
  f189 := Tryz.func42.trans (congrArg some (by kernel_rfl)),
  f215 := Tryz.func98.trans (congrArg some (by kernel_rfl)),
  f216 := Tryz.func78.trans (congrArg some (by kernel_rfl)),
  f257 := Tryz.func57.trans (congrArg some (by kernel_rfl)),
  f294 := Tryz.func72.trans (congrArg some (by kernel_rfl)),
  f295 := Tryz.func73.trans (congrArg some (by kernel_rfl)),
  f296 := Tryz.func74.trans (congrArg some (by kernel_rfl)),
  f297 := Tryz.func75.trans (congrArg some (by kernel_rfl)),
  f298 := Tryz.func76.trans (congrArg some (by kernel_rfl)),
  f299 := Tryz.func77.trans (congrArg some (by kernel_rfl)),
  f300 := Tryz.func79.trans (congrArg some (by kernel_rfl)),
  f301 := Tryz.func80.trans (congrArg some (by kernel_rfl)),
  f328 := Tryz.func93.trans (congrArg some (by kernel_rfl)),
  f329 := Tryz.func94.trans (congrArg some (by kernel_rfl)),
  f330 := Tryz.func95.trans (congrArg some (by kernel_rfl)),
  f331 := Tryz.func96.trans (congrArg some (by kernel_rfl)),
  f332 := Tryz.func97.trans (congrArg some (by kernel_rfl)),
  f343 := Tryz.func108.trans (congrArg some (by kernel_rfl)),
  t0 := Tryz.underlying0,
  a0 := Tryz.isAgg0,
  z0 := Tryz.sizeOf0,
  v0 := Tryz.zeroValue0,
  t3 := Tryz.underlying3,
  a3 := Tryz.isAgg3,
  z3 := Tryz.sizeOf3,
  v3 := Tryz.zeroValue3,
  t4 := Tryz.underlying4,
  a4 := Tryz.isAgg4,
  z4 := Tryz.sizeOf4,
  v4 := Tryz.zeroValue4,
  t5 := Tryz.underlying5,
  a5 := Tryz.isAgg5,
  z5 := Tryz.sizeOf5,
  v5 := Tryz.zeroValue5,
  t9 := Tryz.underlying9,
  a9 := Tryz.isAgg9,
  z9 := Tryz.sizeOf9,
  v9 := Tryz.zeroValue9,
  t28 := Tryz.underlying22,
  a28 := Tryz.isAgg22,
  z28 := Tryz.sizeOf22,
  v28 := Tryz.zeroValue22,
  t46 := Tryz.underlying77,
  a46 := Tryz.isAgg77,
  z46 := Tryz.sizeOf77,
  v46 := Tryz.zeroValue77,
  t51 := Tryz.underlying118,
  a51 := Tryz.isAgg118,
  z51 := Tryz.sizeOf118,
  v51 := Tryz.zeroValue118,
  t53 := Tryz.underlying120,
  a53 := Tryz.isAgg120,
  z53 := Tryz.sizeOf120,
  v53 := Tryz.zeroValue120,
  t131 := Tryz.underlying115,
  a131 := Tryz.isAgg115,
  z131 := Tryz.sizeOf115,
  v131 := Tryz.zeroValue115,
  t182 := Tryz.underlying109,
  a182 := Tryz.isAgg109,
  z182 := Tryz.sizeOf109,
  v182 := Tryz.zeroValue109,
  t183 := Tryz.underlying110,
  a183 := Tryz.isAgg110,
  z183 := Tryz.sizeOf110,
  v183 := Tryz.zeroValue110,
  t218 := Tryz.underlying129,
  a218 := Tryz.isAgg129,
  z218 := Tryz.sizeOf129,
  v218 := Tryz.zeroValue129,
  t222 := Tryz.underlying133,
  a222 := Tryz.isAgg133,
  z222 := Tryz.sizeOf133,
  v222 := Tryz.zeroValue133,
  t228 := Tryz.underlying139,
  a228 := Tryz.isAgg139,
  z228 := Tryz.sizeOf139,
  v228 := Tryz.zeroValue139,
  t229 := Tryz.underlying140,
  a229 := Tryz.isAgg140,
  z229 := Tryz.sizeOf140,
  v229 := Tryz.zeroValue140 }
end Go.Proofs.YtfpglkacjecoeaaGreat
namespace Go.Proofs.YtfpglkacjecoeaaGreat
open Go.RowKit Go.Shelf Go.Sort

/-- A row of one's own that is laid anew. -/
theorem own_put {w : World} {base g n c q : Nat} {l m : List Int} (hl : l.length = n) (h : w.ownsRow base 3 1 (.slice (some ⟨g, 0, none⟩) n c) n (icells l)) (hm : m.length = n) (os : Array Obj) :
    (grow (putRow (Value.int .i64) (Sort.ahead w q) g 0 m.toArray) os).ownsRow base 3 1 (.slice (some ⟨g, 0, none⟩) n c) n (icells m) ∧ w.grownBy (grow (putRow (Value.int .i64) (Sort.ahead w q) g 0 m.toArray) os) (some g) := by
  obtain ⟨h1, h2⟩ := h
  rcases h2 with ⟨h2, _⟩ | ⟨g', c', cur, e, hb, hg, hnc, hcm, hcs, hct⟩
  · cases h2
  injection e with e1 e2 e3
  injection e1 with e1
  injection e1 with e1 _ _
  subst e1 e3
  have hlt : g < w.heap.size := (Array.getElem?_eq_some_iff.1 hg).1
  have hblk : (grow (putRow (Value.int .i64) (Sort.ahead w q) g 0 m.toArray) os).heap[g]? = some (.cells (putCells (Value.int .i64) 0 m.toArray cur) 3 (0, 0)) := by
    rw [heap_grow_old _ _ (by simpa [Sort.ahead] using hlt)]
    simp [putRow, mapBlock, Array.getElem?_modify, Sort.ahead, hg, onCells]
  refine ⟨⟨by simp [icells, hm], .inr ⟨g, c, _, rfl, hb, hblk, hnc, hcm, by simp [putCells, hcs], ?_⟩⟩, ⟨rfl, rfl, rfl, ?_, fun k hk hne => ?_⟩⟩
  · apply List.ext_getElem?
    intro i
    rw [List.getElem?_take]
    by_cases hi : i < n * 1
    · rw [if_pos hi, Array.getElem?_toList]
      have hic : i < cur.size := by omega
      simp only [putCells, Array.getElem?_mapIdx, Array.getElem?_eq_getElem hic, Option.map_some]
      have him : i < m.length := by omega
      rw [if_pos (by simp; omega)]
      simp only [icells, List.getElem?_map, List.getElem?_eq_getElem him, Option.map_some, Nat.sub_zero]
      rw [getElem!_pos m.toArray i (by simpa using him)]
      simp
    · rw [if_neg hi, List.getElem?_eq_none (by simp [icells, hm]; omega)]
  · simp [grow, Sort.ahead]
  · have hkg : g ≠ k := fun e => hne (by rw [e])
    rw [heap_grow_old _ _ (by simpa [Sort.ahead] using hk)]
    simp [putRow, mapBlock, Array.getElem?_modify, Sort.ahead, hkg]
theorem own_holds {w : World} {base g n c : Nat} {l : List Int} (hl : l.length = n) (h : w.ownsRow base 3 1 (.slice (some ⟨g, 0, none⟩) n c) n (icells l)) : Holds (Value.int .i64) w g 0 l.toArray ∧ g < w.heap.size ∧ n ≤ c ∧ c ≤ maxLen := by
  obtain ⟨h1, h2⟩ := h
  rcases h2 with ⟨h2, _⟩ | ⟨g', c', cur, e, hb, hg, hnc, hcm, hcs, hct⟩
  · cases h2
  injection e with e1 e2 e3
  injection e1 with e1
  injection e1 with e1 _ _
  subst e1 e3
  refine ⟨fun j hj => ⟨?_, frozen_of_row w _ _ _ _ hg⟩, (Array.getElem?_eq_some_iff.1 hg).1, hnc, hcm⟩
  have hjl : j < l.length := by simpa using hj
  rw [Nat.zero_add, cell_of_row w g j cur _ (0, 0) hg]
  have := congrArg (fun x => x[j]?) hct
  simp only [List.getElem?_take, icells, List.getElem?_map] at this
  rw [if_pos (by omega), Array.getElem?_toList] at this
  rw [this, List.getElem?_eq_getElem hjl, getElem!_pos l.toArray j (by simpa using hjl)]
  simp
theorem sort_own (w : World) (base n c : Nat) (A : Option Addr) (l : List Int) (hl : l.length = n) (hn : n ≤ 1000000) (h : w.ownsRow base 3 1 (.slice A n c) n (icells l)) :
    Calls Tryz.prog 42 #[.slice A n c] w fun e w' => e = .returned (.tuple #[]) ∧ w'.ownsRow base 3 1 (.slice A n c) n (icells (Il.srt l)) ∧ w.grownBy w' (Value.slice A n c).ownBlock := by
  rcases Nat.eq_zero_or_pos n with h0 | h0
  · subst h0
    have e : l = [] := List.eq_nil_of_length_eq_zero hl
    subst e
    refine (calls_of_every_depth fun D => AnyS.slices_Sort_int_none_alone laysSort D A c w).mono ?_
    rintro e w' ⟨rfl, rfl⟩
    exact ⟨rfl, by simpa [Il.srt] using h, ⟨rfl, rfl, rfl, Nat.le_refl _, fun _ _ _ => rfl⟩⟩
  · obtain ⟨g, rfl, _, _⟩ := own_addr h h0
    obtain ⟨hH, hb, _, _⟩ := own_holds hl h
    have hs := Any.slices_Sort_int laysSort g 0 c l w hH hb (by omega)
    rw [hl] at hs
    refine hs.mono ?_
    rintro e w' ⟨rfl, q, os, rfl⟩
    exact ⟨rfl, own_put hl h (by simp [hl]) os⟩
end Go.Proofs.YtfpglkacjecoeaaGreat
namespace Gm
open Gf

/-- Sums of inverses of sums: what makes nought of all of them is nought. -/
theorem inv_ne {a : UInt8} (h : a ≠ 0) : inv a ≠ 0 := fun e => by
  have := mul_inv h
  rw [e, mul_zero] at this
  exact absurd this (by decide)
theorem xor_ne {a b : UInt8} (h : a ≠ b) : a ^^^ b ≠ 0 := fun e => h (by
  have : (a ^^^ b) ^^^ b = b := by rw [e, UInt8.zero_xor]
  rwa [UInt8.xor_assoc, UInt8.xor_self, UInt8.xor_zero] at this)
theorem cross (a b c d : UInt8) : mul (b ^^^ c) (a ^^^ d) ^^^ mul (b ^^^ d) (a ^^^ c) = mul (b ^^^ a) (d ^^^ c) := by
  simp only [add_mul, mul_add]
  rw [mul_comm c a, mul_comm d a, mul_comm c d]
  generalize mul b a = x1
  generalize mul b d = x2
  generalize mul a c = x3
  generalize mul d c = x4
  generalize mul b c = x5
  generalize mul a d = x6
  apply UInt8.toBitVec_inj.1
  simp only [UInt8.toBitVec_xor]
  ext i hi
  simp only [BitVec.getElem_xor]
  cases x1.toBitVec[i] <;> cases x2.toBitVec[i] <;> cases x3.toBitVec[i] <;> cases x4.toBitVec[i] <;> cases x5.toBitVec[i] <;> cases x6.toBitVec[i] <;> rfl
/-- One step of clearing: what 1/(x+y) and the last row come to. -/
theorem cauchy_step {A B C D E F : UInt8} (hA : A ≠ 0) (hB : B ≠ 0) (hC : C ≠ 0) (h : mul B C ^^^ mul D A = mul E F) :
    inv A ^^^ mul D (mul (inv B) (inv C)) = mul (mul E F) (mul (inv A) (mul (inv B) (inv C))) := by
  rw [← h, add_mul]
  have e1 : mul (mul B C) (mul (inv A) (mul (inv B) (inv C))) = inv A := by
    have : mul (mul B C) (mul (inv A) (mul (inv B) (inv C))) = mul (inv A) (mul (mul B (inv B)) (mul C (inv C))) := by
      rw [mul_comm (mul B C), mul_assoc (inv A), mul_comm (mul (inv B) (inv C)) (mul B C), mul_assoc B C, ← mul_assoc C (inv B), mul_comm C (inv B), mul_assoc (inv B) C, ← mul_assoc B (inv B)]
    rw [this, mul_inv hB, mul_inv hC, mul_one, mul_one]
  have e2 : mul (mul D A) (mul (inv A) (mul (inv B) (inv C))) = mul D (mul (inv B) (inv C)) := by
    rw [mul_assoc, ← mul_assoc A, mul_inv hA, one_mul]
  rw [e1, e2]
theorem cauchy_kernel : ∀ (n : Nat) (x y : Nat → UInt8) (v : Nat → UInt8), (∀ i j, i < n → j < n → i ≠ j → x i ≠ x j) → (∀ i j, i < n → j < n → i ≠ j → y i ≠ y j) → (∀ i j, i < n → j < n → x i ≠ y j) →
    (∀ j, j < n → sum (fun i => mul (v i) (inv (x i ^^^ y j))) n = 0) → ∀ i, i < n → v i = 0
  | 0, _, _, _, _, _, _, _, i, hi => absurd hi (Nat.not_lt_zero _)
  | n + 1, x, y, v, hx, hy, hxy, hv, i, hi => by
    have nz : ∀ i j, i < n + 1 → j < n + 1 → x i ^^^ y j ≠ 0 := fun i j h1 h2 => xor_ne (hxy i j h1 h2)
    -- the last unknown
    have hlast : mul (v n) (inv (x n ^^^ y n)) = sum (fun i => mul (v i) (inv (x i ^^^ y n))) n := by
      have h := hv n (by omega)
      rw [sum] at h
      have h2 : (sum (fun i => mul (v i) (inv (x i ^^^ y n))) n ^^^ mul (v n) (inv (x n ^^^ y n))) ^^^ mul (v n) (inv (x n ^^^ y n)) = mul (v n) (inv (x n ^^^ y n)) := by rw [h, UInt8.zero_xor]
      rw [UInt8.xor_assoc, UInt8.xor_self, UInt8.xor_zero] at h2
      exact h2.symm
    have hvn : v n = mul (x n ^^^ y n) (sum (fun i => mul (v i) (inv (x i ^^^ y n))) n) := by
      rw [← hlast, mul_comm (v n), ← mul_assoc, mul_inv (nz n n (by omega) (by omega)), one_mul]
    have hall : ∀ i, i < n → v i = 0 := by
      have hk := cauchy_kernel n x y (fun i => mul (v i) (mul (x n ^^^ x i) (inv (x i ^^^ y n)))) (fun i j h1 h2 => hx i j (by omega) (by omega)) (fun i j h1 h2 => hy i j (by omega) (by omega)) (fun i j h1 h2 => hxy i j (by omega) (by omega)) ?_
      · intro i hi
        have := hk i hi
        rcases mul_eq_zero this with h | h
        · exact h
        · rcases mul_eq_zero h with h | h
          · exact absurd h (xor_ne (hx n i (by omega) (by omega) (by omega)))
          · exact absurd h (inv_ne (nz i n (by omega) (by omega)))
      · intro j hj
        have hj' := hv j (by omega)
        rw [sum, hvn] at hj'
        have e1 : mul (mul (x n ^^^ y n) (sum (fun i => mul (v i) (inv (x i ^^^ y n))) n)) (inv (x n ^^^ y j)) = sum (fun i => mul (v i) (mul (x n ^^^ y n) (mul (inv (x n ^^^ y j)) (inv (x i ^^^ y n))))) n := by
          rw [mul_assoc, mul_comm (sum _ n), ← mul_assoc, mul_sum]
          refine sum_congr fun i _ => ?_
          rw [← mul_assoc, mul_comm (mul (x n ^^^ y n) (inv (x n ^^^ y j))) (v i), mul_assoc, mul_assoc]
        rw [e1, ← sum_add] at hj'
        have e2 : sum (fun i => mul (v i) (inv (x i ^^^ y j)) ^^^ mul (v i) (mul (x n ^^^ y n) (mul (inv (x n ^^^ y j)) (inv (x i ^^^ y n))))) n =
            mul (mul (y n ^^^ y j) (inv (x n ^^^ y j))) (sum (fun i => mul (mul (v i) (mul (x n ^^^ x i) (inv (x i ^^^ y n)))) (inv (x i ^^^ y j))) n) := by
          rw [mul_sum]
          refine sum_congr fun i hi => ?_
          rw [← mul_add]
          have hs := cauchy_step (A := x i ^^^ y j) (B := x n ^^^ y j) (C := x i ^^^ y n) (D := x n ^^^ y n) (E := x n ^^^ x i) (F := y n ^^^ y j) (nz i j (by omega) (by omega)) (nz n j (by omega) (by omega)) (nz i n (by omega) (by omega)) (cross (x i) (x n) (y j) (y n))
          rw [hs]
          generalize x n ^^^ x i = E
          generalize y n ^^^ y j = F
          generalize inv (x i ^^^ y j) = iA
          generalize inv (x n ^^^ y j) = iB
          generalize inv (x i ^^^ y n) = iC
          generalize v i = q
          rw [mul_comm (mul F iB), mul_assoc (mul q (mul E iC)), mul_assoc q]
          congr 1
          rw [mul_assoc E F, mul_assoc E iC]
          congr 1
          rw [mul_comm F (mul iA (mul iB iC)), mul_assoc iA, mul_assoc iB, mul_comm iC F, ← mul_assoc iB F iC, mul_comm iB F, mul_comm iC (mul iA (mul F iB)), mul_assoc iA]
        rw [e2] at hj'
        rcases mul_eq_zero hj' with h | h
        · rcases mul_eq_zero h with h | h
          · exact absurd h (xor_ne (hy n j (by omega) (by omega) (by omega)))
          · exact absurd h (inv_ne (nz n j (by omega) (by omega)))
        · exact h
    by_cases e : i < n
    · exact hall i e
    · have : i = n := by omega
      subst this
      rw [hvn, sum_zero (fun k hk => by rw [hall k hk, zero_mul]), mul_zero]

/-- Is it a matrix? -/
def right (m : L) : Prop := 1 ≤ m.length ∧ m.length ≤ 255 ∧ 1 ≤ cols m ∧ cols m ≤ 255 ∧ ∀ i, i < m.length → (row m i).length = cols m
instance (m : L) : Decidable (right m) := by unfold right; infer_instance
theorem right.rect {m : L} (h : right m) : Rect m.length (cols m) m := ⟨rfl, h.2.2.2.2⟩
theorem Rect.right {n c : Nat} {m : L} (h : Rect n c m) (h1 : 1 ≤ n) (h2 : n ≤ 255) (h3 : 1 ≤ c) (h4 : c ≤ 255) : right m := by
  have hc := h.cols h1
  exact ⟨by rw [h.len]; exact h1, by rw [h.len]; exact h2, by rw [hc]; exact h3, by rw [hc]; exact h4, fun i hi => by rw [hc]; exact h.wid i (by rw [← h.len]; exact hi)⟩
/-- A product. -/
def mulL (a b : L) : L := (List.range a.length).map fun i => (List.range (cols b)).map fun j => prod b.length (at_ a) (at_ b) i j
theorem mulL_rect (a b : L) : Rect a.length (cols b) (mulL a b) := ⟨by simp [mulL], fun i hi => by unfold mulL; rw [row_range _ hi]; simp⟩
theorem at_mulL {a b : L} {i j : Nat} (hi : i < a.length) (hj : j < cols b) : at_ (mulL a b) i j = prod b.length (at_ a) (at_ b) i j := by
  unfold at_ mulL
  rw [row_range _ hi, get_map_range _ hj]
  rfl
/-- Some rows. -/
def pick (m : L) (rows : List Nat) : L := rows.map (row m)
def cauchy (r c : Nat) : L := (List.range r).map fun i => (List.range c).map fun j => inv (UInt8.ofNat (c + i) ^^^ UInt8.ofNat j)
theorem cauchy_rect (r c : Nat) : Rect r c (cauchy r c) := ⟨by simp [cauchy], fun i hi => by unfold cauchy; rw [row_range _ hi]; simp⟩
theorem at_cauchy {r c i j : Nat} (hi : i < r) (hj : j < c) : at_ (cauchy r c) i j = inv (UInt8.ofNat (c + i) ^^^ UInt8.ofNat j) := by
  unfold at_ cauchy
  rw [row_range _ hi, get_map_range _ hj]
theorem ofNat_ne {a b : Nat} (ha : a < 256) (hb : b < 256) (h : a ≠ b) : UInt8.ofNat a ≠ UInt8.ofNat b := fun e => h (by
  have := congrArg UInt8.toNat e
  rw [UInt8.toNat_ofNat', UInt8.toNat_ofNat'] at this
  omega)
/-- Each square part of a Cauchy matrix has full rank. -/
theorem cauchy_full {r c n : Nat} {p : L} (a b : Nat → Nat) (hrc : r + c ≤ 256) (hn : 0 < n) (ha : ∀ i, i < n → a i < r) (hb : ∀ j, j < n → b j < c) (ha2 : ∀ i j, i < n → j < n → i ≠ j → a i ≠ a j) (hb2 : ∀ i j, i < n → j < n → i ≠ j → b i ≠ b j)
    (hp : Rect n n p) (h : ∀ i, i < n → ∀ j, j < n → at_ p i j = at_ (cauchy r c) (a i) (b j)) : rank p = n := by
  have h1 := rank_le hp hn
  rcases Nat.lt_or_ge (rank p) n with hl | hg
  · exfalso
    obtain ⟨v, ⟨i0, hi0, hv0⟩, hv⟩ := rank_short hp hn hl
    apply hv0
    refine cauchy_kernel n (fun i => UInt8.ofNat (c + a i)) (fun j => UInt8.ofNat (b j)) v ?_ ?_ ?_ ?_ i0 hi0
    · intro i j hi hj hne
      have := ha i hi; have := ha j hj; have := ha2 i j hi hj hne
      exact ofNat_ne (by omega) (by omega) (by omega)
    · intro i j hi hj hne
      have := hb i hi; have := hb j hj; have := hb2 i j hi hj hne
      exact ofNat_ne (by omega) (by omega) (by omega)
    · intro i j hi hj
      have := ha i hi; have := hb j hj
      exact ofNat_ne (by omega) (by omega) (by omega)
    · intro j hj
      rw [← hv j hj]
      exact sum_congr fun i hi => by rw [h i hi j hj, at_cauchy (ha i hi) (hb j hj)]
  · omega
end Gm
