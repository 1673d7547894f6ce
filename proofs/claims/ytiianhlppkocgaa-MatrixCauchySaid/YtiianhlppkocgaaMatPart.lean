/- A square part of a Cauchy matrix, in plain words. No statement of the seat is proved here. -/
import Derived.Test.YtiianhlppkocgaaMatSome
namespace Go.Proofs.Ytiianhlppkocgaa
open Go.RowKit

def partTo (m : Gm.L) (a b : List Int) (i j : Nat) : List UInt8 := (List.range j).map fun t => Gf.get (Gm.row m (Il.get a i).toNat) (Il.get b t).toNat
def partM (m : Gm.L) (a b : List Int) (q t : Nat) : Gm.L := (List.range t).map fun i => partTo m a b i q
theorem partTo_length (m : Gm.L) (a b : List Int) (i j : Nat) : (partTo m a b i j).length = j := by simp [partTo]
theorem partTo_succ (m : Gm.L) (a b : List Int) (i j : Nat) : partTo m a b i (j + 1) = partTo m a b i j ++ [Gf.get (Gm.row m (Il.get a i).toNat) (Il.get b j).toNat] := by simp [partTo, List.range_succ]
theorem partM_succ (m : Gm.L) (a b : List Int) (q t : Nat) : partM m a b q (t + 1) = partM m a b q t ++ [partTo m a b t q] := by simp [partM, List.range_succ]
theorem partM_rect (m : Gm.L) (a b : List Int) (q t : Nat) : Gm.Rect t q (partM m a b q t) := ⟨by simp [partM], fun i hi => by unfold partM; rw [Gm.row_range _ hi, partTo_length]⟩
theorem part_full {r c q : Nat} {a b : List Int} (ha : Rise r a) (hb : Rise c b) (hrc : r + c ≤ 256) (hq : 1 ≤ q) (h1 : q ≤ a.length) (h2 : q ≤ b.length) : Gm.rank (partM (Gm.cauchy r c) a b q q) = q := by
  have lt : ∀ {n : Nat} {l : List Int}, Rise n l → q ≤ l.length → ∀ i, i < q → (Il.get l i).toNat < n := fun h hl i hi => h.pl.lt (by omega)
  have ne : ∀ {n : Nat} {l : List Int}, Rise n l → q ≤ l.length → ∀ i j, i < q → j < q → i ≠ j → (Il.get l i).toNat ≠ (Il.get l j).toNat := fun h hl i j hi hj hne e => by
    have p1 := h.pl.at_ i (by omega)
    have p2 := h.pl.at_ j (by omega)
    rcases Nat.lt_or_gt_of_ne hne with h3 | h3
    · have := h.rise i j h3 (by omega); omega
    · have := h.rise j i h3 (by omega); omega
  refine Gm.cauchy_full (fun i => (Il.get a i).toNat) (fun j => (Il.get b j).toNat) hrc hq (lt ha h1) (lt hb h2) (ne ha h1) (ne hb h2) (partM_rect _ a b q q) fun i hi j hj => ?_
  show Gf.get (Gm.row (partM (Gm.cauchy r c) a b q q) i) j = _
  unfold partM
  rw [Gm.row_range _ hi]
  unfold partTo
  rw [Gf.get_map_range _ hj]
  rfl
theorem Rise.nat {n : Nat} {l : List Int} (h : Rise n l) {i : Nat} (hi : i < l.length) : ∃ p : Nat, Il.get l i = (p : Int) ∧ p < n := by
  have := h.pl.at_ i hi
  exact ⟨(Il.get l i).toNat, by omega, by omega⟩
end Go.Proofs.Ytiianhlppkocgaa
