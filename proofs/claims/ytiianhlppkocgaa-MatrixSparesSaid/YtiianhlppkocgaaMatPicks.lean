/- Picked rows in plain words; Pick where it picks; a number appended to a row of one's own. No statement of the seat is proved here. -/
import Derived.Test.YtiianhlppkocgaaMatR
namespace Go.Proofs.Ytiianhlppkocgaa
open Go.RowKit

/-- Numbers that are places below n, some. -/
structure Places (n : Nat) (l : List Int) : Prop where
  pos : 1 ≤ l.length
  at_ : ∀ k, k < l.length → 0 ≤ Il.get l k ∧ Il.get l k < n
theorem Places.rows {n : Nat} {l : List Int} (h : Places n l) (hl : l.length ≤ 255) : rowsOf n l := by
  refine ⟨h.pos, hl, ?_⟩
  rw [List.any_eq_false]
  intro x hx
  obtain ⟨k, hk, rfl⟩ := Il.mem_get hx
  have := h.at_ k hk
  unfold noRow
  rw [Bool.or_eq_true, decide_eq_true_eq, decide_eq_true_eq]
  omega
theorem Places.lt {n : Nat} {l : List Int} (h : Places n l) {i : Nat} (hi : i < l.length) : (Il.get l i).toNat < n := by have := h.at_ i hi; omega
theorem row_picked {m : Gm.L} {l : List Int} {i : Nat} (hi : i < l.length) : Gm.row (picked m l) i = Gm.row m (Il.get l i).toNat := by
  unfold picked Il.get
  simp [Gm.row, hi]
theorem picked_rect {n c : Nat} {m : Gm.L} {l : List Int} (h : Gm.Rect n c m) (hl : Places n l) : Gm.Rect l.length c (picked m l) :=
  ⟨picked_length m l, fun i hi => by rw [row_picked hi]; exact h.wid _ (hl.lt hi)⟩
theorem pick_r (w : World) (A : Option Addr) (n ca c : Nat) (a : Gm.L) (ha : Mx w A n ca a) (ra : Gm.Rect n c a) (hn : 1 ≤ n ∧ n ≤ 255) (hc : 1 ≤ c ∧ c ≤ 255) (B : Option Addr) (k d : Nat) (l : List Int) (hl : Is w B k d l) (hk : k ≤ 255) (hp : Places n l) :
    Calls Try.prog 16 #[.slice A n ca, .slice B k d] w (GivesR (picked a l) k 0 w) := by
  have h1 : Gm.right a := ra.right hn.1 hn.2 hc.1 hc.2
  have h2 : rowsOf a.length l := by rw [ra.len]; exact hp.rows (by rw [hl.len]; exact hk)
  exact (pick_any3 w A n ca a ha B k d l hl).mono fun _ _ h => h.r (by unfold pickM; rw [if_pos ⟨h1, h2⟩]) (by rw [picked_length, hl.len]) (by unfold pickE; rw [if_pos h1, if_pos h2])
theorem picked_mul {n c k : Nat} {x y : Gm.L} {l : List Int} (hx : Gm.Rect n k x) (hy : Gm.Rect k c y) (hk : 0 < k) (hl : Places n l) : picked (Gm.mulL x y) l = Gm.mulL (picked x l) y := by
  have r1 := picked_rect (Gm.mulL_rect' hx hy hk) hl
  have r2 := Gm.mulL_rect' (picked_rect hx hl) hy hk
  refine Gm.rows_ext (by rw [r1.len, r2.len]) fun i hi => ?_
  rw [r1.len] at hi
  rw [row_picked hi, Gm.mulL_rows hx (picked_rect hx hl) hy hk (fun i => (Il.get l i).toNat) (fun i hi => hl.lt hi) (fun i hi => row_picked hi) i hi]
theorem get_append_left {l l' : List Int} {i : Nat} (h : i < l.length) : Il.get (l ++ l') i = Il.get l i := by simp [Il.get, List.getD_eq_getElem?_getD, List.getElem?_append_left h]
theorem get_append_right {l l' : List Int} {i : Nat} (h : l.length ≤ i) : Il.get (l ++ l') i = Il.get l' (i - l.length) := by simp [Il.get, List.getD_eq_getElem?_getD, List.getElem?_append_right h]
theorem Places.twice {n : Nat} {l : List Int} (h : Places n l) : Places n (l ++ l) := by
  refine ⟨by have := h.pos; simp; omega, fun k hk => ?_⟩
  rw [List.length_append] at hk
  by_cases e : k < l.length
  · rw [get_append_left e]; exact h.at_ k e
  · rw [get_append_right (by omega)]; exact h.at_ _ (by omega)
/-- A row picked twice makes the rank no greater. -/
theorem rank_twice {n c : Nat} {m : Gm.L} {l : List Int} (h : Gm.Rect n c m) (hl : Places n l) : Gm.rank (picked m (l ++ l)) = Gm.rank (picked m l) := by
  have h0 := hl.pos
  have r1 := picked_rect h hl
  have r2 := picked_rect h hl.twice
  have hlen : (l ++ l).length = l.length + l.length := List.length_append
  refine Nat.le_antisymm ?_ ?_
  · refine Gm.rank_rows r1 r2 h0 (by omega) (fun i => if i < l.length then i else i - l.length) (fun i hi => by split <;> omega) (fun i hi => ?_)
    rw [row_picked hi]
    try dsimp only
    split
    · rename_i e; rw [row_picked e, get_append_left e]
    · rename_i e; rw [row_picked (by omega), get_append_right (by omega)]
  · refine Gm.rank_rows r2 r1 (by omega) h0 (fun i => i) (fun i hi => by omega) (fun i hi => ?_)
    rw [row_picked hi, row_picked (by omega), get_append_left hi]
/-- Places from the last one down. -/
def backTo (n t : Nat) : List Int := (List.range t).map fun i => ((n - 1 - i : Nat) : Int)
theorem backTo_length (n t : Nat) : (backTo n t).length = t := by simp [backTo]
theorem backTo_succ (n t : Nat) : backTo n (t + 1) = backTo n t ++ [((n - 1 - t : Nat) : Int)] := by simp [backTo, List.range_succ]
theorem get_backTo {n t i : Nat} (h : i < t) : Il.get (backTo n t) i = ((n - 1 - i : Nat) : Int) := Il.get_map_range _ h
theorem back_places {n : Nat} (h : 1 ≤ n) : Places n (backTo n n) := ⟨by rw [backTo_length]; exact h, fun k hk => by rw [backTo_length] at hk; rw [get_backTo hk]; omega⟩
theorem rank_back {n c : Nat} {m : Gm.L} (h : Gm.Rect n c m) (hn : 1 ≤ n) : Gm.rank (picked m (backTo n n)) = Gm.rank m := by
  have r := picked_rect h (back_places hn)
  rw [backTo_length] at r
  refine Nat.le_antisymm ?_ ?_
  · refine Gm.rank_rows h r hn hn (fun i => n - 1 - i) (fun i hi => by omega) (fun i hi => ?_)
    rw [row_picked (by rw [backTo_length]; exact hi), get_backTo hi, Int.toNat_natCast]
  · refine Gm.rank_rows r h hn hn (fun i => n - 1 - i) (fun i hi => by omega) (fun i hi => ?_)
    rw [row_picked (by rw [backTo_length]; omega), get_backTo (by omega), Int.toNat_natCast, show n - 1 - (n - 1 - i) = i by omega]
/-- Places below n out of bytes, the first ones. -/
def modTo (n : Nat) (b : List UInt8) (t : Nat) : List Int := (List.range t).map fun i => (((Gf.get b i).toNat % n : Nat) : Int)
theorem modTo_length (n : Nat) (b : List UInt8) (t : Nat) : (modTo n b t).length = t := by simp [modTo]
theorem modTo_succ (n : Nat) (b : List UInt8) (t : Nat) : modTo n b (t + 1) = modTo n b t ++ [(((Gf.get b t).toNat % n : Nat) : Int)] := by simp [modTo, List.range_succ]
theorem modTo_places {n t : Nat} (b : List UInt8) (hn : 1 ≤ n) (ht : 1 ≤ t) : Places n (modTo n b t) := by
  refine ⟨by rw [modTo_length]; exact ht, fun k hk => ?_⟩
  rw [modTo_length] at hk
  unfold modTo
  rw [Il.get_map_range _ hk]
  have := Nat.mod_lt (Gf.get b k).toNat hn
  omega
theorem zero_places {n : Nat} (hn : 1 ≤ n) : Places n [0] := ⟨by simp, fun k hk => by
  have : k = 0 := by simpa using hk
  subst this
  have : Il.get [0] 0 = 0 := rfl
  rw [this]; omega⟩
theorem ownsRow_empty (w : World) (e : TypeId) : (w.alloc (.cells #[] e)).ownsRow w.heap.size e 1 (.slice (some ⟨w.heap.size, 0, none⟩) 0 0) 0 [] :=
  ⟨rfl, .inr ⟨w.heap.size, 0, #[], rfl, Nat.le_refl _, heap_alloc_new w _, Nat.zero_le _, by unfold maxLen; omega, by simp, by simp⟩⟩
end Go.Proofs.Ytiianhlppkocgaa
