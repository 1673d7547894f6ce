/- A move and its way back; two moves in either order: plain words. No program in sight. -/
import Derived.Test.YtkanlbkfbkkknaaPlMoves
namespace Pl
open Il (get idx)

theorem movedOne_mem {p : P} {a b x : Int} (h : x ∈ (movedOne a b p).2) : x = b ∨ x ∈ p.2 := by
  by_cases ha : a ∈ p.2
  · obtain ⟨i, hi, _, _, _⟩ := idx_pos ha
    rw [movedOne_in ha hi] at h
    rcases List.mem_or_eq_of_mem_set h with h | h
    · exact .inr h
    · exact .inl h
  · rw [movedOne_out ha] at h
    exact .inr h
/-- No node is k, or above. -/
def Under (l : List P) (k : Int) : Prop := ∀ p, p ∈ l → ∀ x, x ∈ p.2 → x < k
theorem moved_under {l : List P} {a b k : Int} (h : Under l k) (hb : b < k) : Under (moved l a b) k := by
  intro p hp x hx
  simp only [moved, List.mem_map] at hp
  obtain ⟨q, hq, rfl⟩ := hp
  rcases movedOne_mem hx with e | hx
  · rw [e]; exact hb
  · exact h q hq x hx
theorem stepAt_under {l : List P} (m : UInt8 × UInt8) (h : Under l 40) : Under (stepAt l m) 40 := by
  unfold stepAt
  split
  · exact moved_under h (by omega)
  · exact h
theorem foldl_under (ms : List (UInt8 × UInt8)) (l : List P) (h : Under l 40) : Under (ms.foldl stepAt l) 40 := by
  induction ms generalizing l with
  | nil => exact h
  | cons x ms ih => rw [List.foldl_cons]; exact ih _ (stepAt_under x h)
theorem first_under (nodes n groups : Nat) (h : 0 < nodes) : Under (first nodes n groups) (nodes : Int) := by
  intro p hp x hx
  simp only [first, List.mem_map] at hp
  obtain ⟨g, _, rfl⟩ := hp
  simp only [firstNodes, List.mem_map] at hx
  obtain ⟨i, _, rfl⟩ := hx
  have := Nat.mod_lt (g + i) h
  omega
theorem placed_under (x y z : UInt8) (ms : List (UInt8 × UInt8)) : Under (placed x y z ms) 40 := by
  refine foldl_under _ _ fun p hp v hv => ?_
  have := first_under (1 + x.toNat % 20) _ _ (by omega) p hp v hv
  omega
theorem Under.out {l : List P} {k b : Int} (h : Under l k) (hb : k ≤ b) : ∀ p, p ∈ l → b ∉ p.2 := fun p hp hm => by
  have := h p hp b hm
  omega
theorem mayMove_fresh {l : List P} {a b m : Int} (h : Low l m) (hm : m < 1099511627776) (ha : 0 ≤ a ∧ a < 256) (hb : 0 ≤ b ∧ b < 256) (hab : a ≠ b) (hf : ∀ p, p ∈ l → b ∉ p.2) : MayMove l a b :=
  (mayMove_low h hm).2 ⟨ha, hb, hab, fun p hp => .inr (hf p hp)⟩
theorem moved_no_elder {l : List P} {a b : Int} (h : All l) (hab : a ≠ b) : ∀ p, p ∈ moved l a b → a ∉ p.2 := by
  intro p hp
  simp only [moved, List.mem_map] at hp
  obtain ⟨q, hq, rfl⟩ := hp
  exact moved_not_in (h.2.2 q hq) hab
theorem moved_keeps_out {l : List P} {a b x : Int} (h : ∀ p, p ∈ l → x ∉ p.2) (hx : x ≠ b) : ∀ p, p ∈ moved l a b → x ∉ p.2 := by
  intro p hp hm
  simp only [moved, List.mem_map] at hp
  obtain ⟨q, hq, rfl⟩ := hp
  rcases movedOne_mem hm with e | e
  · exact hx e
  · exact h q hq e
theorem get_set_self {l : List Int} {i : Nat} (b : Int) (h : i < l.length) : get (l.set i b) i = b := by rw [Il.get_set b h, if_pos rfl]
theorem in_moved {p : P} {a b : Int} (hb : b ∉ p.2) : b ∈ (movedOne a b p).2 ↔ a ∈ p.2 := by
  constructor
  · intro h
    refine Classical.byContradiction fun ha => ?_
    rw [movedOne_out ha] at h
    exact hb h
  · intro ha
    obtain ⟨i, hi, hl, _, _⟩ := idx_pos ha
    rw [movedOne_in ha hi]
    show b ∈ p.2.set i b
    rw [mem_get_iff]
    exact ⟨i, by simpa using hl, get_set_self b hl⟩
theorem moved_back {p : P} {a b : Int} (hb : b ∉ p.2) : movedOne b a (movedOne a b p) = (p.1 + (if a ∈ p.2 then 2 else 0), p.2) := by
  by_cases ha : a ∈ p.2
  · obtain ⟨i, hi, hl, he, _⟩ := idx_pos ha
    have hin := (in_moved (a := a) hb).2 ha
    rw [movedOne_in ha hi] at hin ⊢
    have hix : idx (p.2.set i b) b = (i : Int) := by
      refine Il.idx_found (by simpa using hl) (get_set_self b hl) (fun j hj e => ?_)
      rw [Il.get_set b hl, if_neg (by omega)] at e
      exact hb (by rw [← e]; exact Il.get_mem (by omega))
    rw [movedOne_in hin hix, if_pos ha]
    refine Prod.ext (by show p.1 + 1 + 1 = p.1 + 2; omega) ?_
    show (p.2.set i b).set i a = p.2
    rw [List.set_set]
    apply Il.ext_get (by simp)
    intro k hk
    rw [Il.get_set a hl]
    by_cases e : i = k
    · rw [if_pos e, ← e, he]
    · rw [if_neg e]
  · have hin := fun h => ha ((in_moved (a := a) hb).1 h)
    rw [movedOne_out ha] at hin ⊢
    rw [movedOne_out hin, if_neg ha, Int.add_zero]
theorem idx_set {l : List Int} {i : Nat} {b c : Int} (hl : i < l.length) (hi : get l i ≠ c) (hb : b ≠ c) : idx (l.set i b) c = idx l c := by
  have hg : ∀ k, get (l.set i b) k = c ↔ get l k = c := by
    intro k
    rw [Il.get_set b hl]
    by_cases e : i = k
    · rw [if_pos e, ← e]
      exact ⟨fun h => absurd h hb, fun h => absurd h hi⟩
    · rw [if_neg e]
  rcases Il.idx_cases l c with ⟨k, hk, h1, h2, h3⟩ | ⟨h1, h2⟩
  · rw [h1]
    exact Il.idx_found (by simpa using hk) ((hg k).2 h2) (fun j hj e => h3 j hj ((hg j).1 e))
  · rw [h1]
    exact Il.idx_none (fun j hj e => h2 j (by simpa using hj) ((hg j).1 e))
theorem mem_set_iff {l : List Int} {i : Nat} {b c : Int} (hl : i < l.length) (hi : get l i ≠ c) (hb : b ≠ c) : c ∈ l.set i b ↔ c ∈ l := by
  rw [← Il.idx_mem, ← Il.idx_mem, idx_set hl hi hb]
theorem moved_comm {p : P} {a b c d : Int} (hac : a ≠ c) (hbc : b ≠ c) (had : a ≠ d) : movedOne c d (movedOne a b p) = movedOne a b (movedOne c d p) := by
  by_cases ha : a ∈ p.2
  · obtain ⟨i, hi, hl, he, _⟩ := idx_pos ha
    have hic : get p.2 i ≠ c := by rw [he]; exact hac
    by_cases hc : c ∈ p.2
    · obtain ⟨k, hk, hkl, hke, _⟩ := idx_pos hc
      have hka : get p.2 k ≠ a := by rw [hke]; exact Ne.symm hac
      have hik : i ≠ k := fun e => by rw [e, hke] at he; exact hac he.symm
      rw [movedOne_in ha hi, movedOne_in hc hk]
      rw [movedOne_in (p := (p.1 + 1, p.2.set i b)) ((mem_set_iff hl hic hbc).2 hc) (by rw [idx_set hl hic hbc]; exact hk)]
      rw [movedOne_in (p := (p.1 + 1, p.2.set k d)) ((mem_set_iff hkl hka (Ne.symm had)).2 ha) (by rw [idx_set hkl hka (Ne.symm had)]; exact hi)]
      exact Prod.ext rfl (List.set_comm _ _ hik)
    · rw [movedOne_out hc, movedOne_in ha hi, movedOne_out]
      exact fun h => hc ((mem_set_iff hl hic hbc).1 h)
  · rw [movedOne_out ha]
    by_cases hc : c ∈ p.2
    · obtain ⟨k, hk, hkl, hke, _⟩ := idx_pos hc
      have hka : get p.2 k ≠ a := by rw [hke]; exact Ne.symm hac
      rw [movedOne_in hc hk, movedOne_out]
      exact fun h => ha ((mem_set_iff hkl hka (Ne.symm had)).1 h)
    · rw [movedOne_out hc, movedOne_out ha]
theorem moved_commute {l : List P} {a b c d : Int} (hac : a ≠ c) (hbc : b ≠ c) (had : a ≠ d) : moved (moved l a b) c d = moved (moved l c d) a b := by
  unfold moved
  rw [List.map_map, List.map_map]
  exact List.map_congr_left fun p _ => moved_comm hac hbc had
theorem groupsTo_same {l m : List P} {a b : Int} (k : Nat) (h : ∀ j, j < k → (a ∈ (pget l j).2 ↔ b ∈ (pget m j).2)) : groupsTo l a k = groupsTo m b k := by
  induction k with
  | zero => rfl
  | succ k ih =>
    rw [groupsTo_succ, groupsTo_succ, ih fun j hj => h j (by omega)]
    by_cases e : a ∈ (pget l k).2
    · rw [if_pos e, if_pos ((h k (by omega)).1 e)]
    · rw [if_neg e, if_neg (fun e' => e ((h k (by omega)).2 e'))]
theorem groups_back {l : List P} {a b : Int} (h : ∀ p, p ∈ l → b ∉ p.2) : groups l a = groups (moved l a b) b := by
  unfold groups
  rw [moved_length]
  refine groupsTo_same _ fun j hj => ?_
  rw [moved_get hj]
  exact (in_moved (h _ (pget_mem hj))).symm
end Pl
