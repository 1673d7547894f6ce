/- The contract of slices.Sort at []int, on a list of one's own: the kit's contract, laid at this program. No statement of the seat is proved here. -/
import Derived.Test.YtkclimblcipmlaaInts
import Derived.Test.YtkclimblcipmlaaLaysSort
import Derived.Test.YtkclimblcipmlaaSrt
import Derived.Sort.EveryDepth
namespace Go.Proofs.Ytkclimblcipmlaa
open Go.RowKit Go.Shelf Go.Sort

/-- A row of one's own that is laid anew. -/
theorem own_put {w : World} {base g n c q : Nat} {l m : List Int} (hl : l.length = n) (h : w.ownsRow base 3 1 (.slice (some ⟨g, 0, none⟩) n c) n (icells l)) (hm : m.length = n) (os : Array Obj) :
    (grow (putRow (Value.int .i64) (Sort.ahead w q) g 0 m.toArray) os).ownsRow base 3 1 (.slice (some ⟨g, 0, none⟩) n c) n (icells m) ∧ w.grownBy (grow (putRow (Value.int .i64) (Sort.ahead w q) g 0 m.toArray) os) (some g) := by
  obtain ⟨h1, h2⟩ := h
  rcases h2 with ⟨h2, _⟩ | ⟨g', c', cur, e, hb, hg, hnc, hcm, hcs, hct⟩
  · cases h2
  injection e with e1 e2 e3
  injection e1 with e1
  injection e1 with e1 _ _
  subst e1 e3
  have hlt : g < w.heap.size := (Array.getElem?_eq_some_iff.1 hg).1
  have hblk : (grow (putRow (Value.int .i64) (Sort.ahead w q) g 0 m.toArray) os).heap[g]? = some (.cells (putCells (Value.int .i64) 0 m.toArray cur) 3 (0, 0)) := by
    rw [heap_grow_old _ _ (by simpa [Sort.ahead] using hlt)]
    simp [putRow, mapBlock, Array.getElem?_modify, Sort.ahead, hg, onCells]
  refine ⟨⟨by simp [icells, hm], .inr ⟨g, c, _, rfl, hb, hblk, hnc, hcm, by simp [putCells, hcs], ?_⟩⟩, ⟨rfl, rfl, rfl, ?_, fun k hk hne => ?_⟩⟩
  · apply List.ext_getElem?
    intro i
    rw [List.getElem?_take]
    by_cases hi : i < n * 1
    · rw [if_pos hi, Array.getElem?_toList]
      have hic : i < cur.size := by omega
      simp only [putCells, Array.getElem?_mapIdx, Array.getElem?_eq_getElem hic, Option.map_some]
      have him : i < m.length := by omega
      rw [if_pos (by simp; omega)]
      simp only [icells, List.getElem?_map, List.getElem?_eq_getElem him, Option.map_some, Nat.sub_zero]
      rw [getElem!_pos m.toArray i (by simpa using him)]
      simp
    · rw [if_neg hi, List.getElem?_eq_none (by simp [icells, hm]; omega)]
  · simp [grow, Sort.ahead]
  · have hkg : g ≠ k := fun e => hne (by rw [e])
    rw [heap_grow_old _ _ (by simpa [Sort.ahead] using hk)]
    simp [putRow, mapBlock, Array.getElem?_modify, Sort.ahead, hkg]
theorem own_holds {w : World} {base g n c : Nat} {l : List Int} (hl : l.length = n) (h : w.ownsRow base 3 1 (.slice (some ⟨g, 0, none⟩) n c) n (icells l)) : Holds (Value.int .i64) w g 0 l.toArray ∧ g < w.heap.size ∧ n ≤ c ∧ c ≤ maxLen := by
  obtain ⟨h1, h2⟩ := h
  rcases h2 with ⟨h2, _⟩ | ⟨g', c', cur, e, hb, hg, hnc, hcm, hcs, hct⟩
  · cases h2
  injection e with e1 e2 e3
  injection e1 with e1
  injection e1 with e1 _ _
  subst e1 e3
  refine ⟨fun j hj => ⟨?_, frozen_of_row w _ _ _ _ hg⟩, (Array.getElem?_eq_some_iff.1 hg).1, hnc, hcm⟩
  have hjl : j < l.length := by simpa using hj
  rw [Nat.zero_add, cell_of_row w g j cur _ (0, 0) hg]
  have := congrArg (fun x => x[j]?) hct
  simp only [List.getElem?_take, icells, List.getElem?_map] at this
  rw [if_pos (by omega), Array.getElem?_toList] at this
  rw [this, List.getElem?_eq_getElem hjl, getElem!_pos l.toArray j (by simpa using hjl)]
  simp
theorem sort_own (w : World) (base n c : Nat) (A : Option Addr) (l : List Int) (hl : l.length = n) (hn : n ≤ 1000000) (h : w.ownsRow base 3 1 (.slice A n c) n (icells l)) :
    Calls Try.prog 30 #[.slice A n c] w fun e w' => e = .returned (.tuple #[]) ∧ w'.ownsRow base 3 1 (.slice A n c) n (icells (Il.srt l)) ∧ w.grownBy w' (Value.slice A n c).ownBlock := by
  rcases Nat.eq_zero_or_pos n with h0 | h0
  · subst h0
    have e : l = [] := List.eq_nil_of_length_eq_zero hl
    subst e
    refine (calls_of_every_depth fun D => AnyS.slices_Sort_int_none_alone laysSort D A c w).mono ?_
    rintro e w' ⟨rfl, rfl⟩
    exact ⟨rfl, by simpa [Il.srt] using h, ⟨rfl, rfl, rfl, Nat.le_refl _, fun _ _ _ => rfl⟩⟩
  · obtain ⟨g, rfl, _, _⟩ := own_addr h h0
    obtain ⟨hH, hb, _, _⟩ := own_holds hl h
    have hs := Any.slices_Sort_int laysSort g 0 c l w hH hb (by omega)
    rw [hl] at hs
    refine hs.mono ?_
    rintro e w' ⟨rfl, q, os, rfl⟩
    exact ⟨rfl, own_put hl h (by simp [hl]) os⟩
end Go.Proofs.Ytkclimblcipmlaa
