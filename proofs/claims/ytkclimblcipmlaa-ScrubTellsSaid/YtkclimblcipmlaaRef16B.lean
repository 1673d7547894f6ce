/- The contracts of the document's without and with (chapter 16). -/
import Derived.Test.YtkclimblcipmlaaRef16A
namespace Go.Proofs.Ytkclimblcipmlaa
open Go.RowKit

theorem Is.drop {w : World} {b o n c j : Nat} {l : List Int} (h : Is w (some ⟨b, o, .none⟩) n c l) (hj : j ≤ n) : Rd w 1 (some ⟨b, o + j, .none⟩) (n - j) (icells (l.drop j)) := by
  refine ⟨by rw [icells_length, List.length_drop, h.len]; omega, fun h0 => ⟨b, o + j, rfl, fun i u hu => ?_⟩⟩
  obtain ⟨b', o', e, hc⟩ := h.rd.2 (by omega)
  injection e with e
  injection e with e1 e2 _
  subst e1 e2
  rw [Nat.add_assoc]
  refine hc (j + i) u ?_
  simp only [icells, List.getElem?_map, List.getElem?_drop] at hu ⊢
  exact hu
theorem rd_none (w : World) (A : Option Addr) {l : List Int} {n : Nat} (hn : n = 0) (hl : l = []) : Rd w 1 A n (icells l) := by
  subst hn hl
  exact Rd.nil _ _ _
set_option maxHeartbeats 1000000 in
theorem without_any (w : World) (A : Option Addr) (n c i : Nat) (l : List Int) (hl : Is w A n c l) (hi : i < n) (hn : n ≤ 100000) :
    Calls Try.prog 38 #[.slice A n c, .int .i64 (i : Int)] w fun e w' => ∃ v, e = .returned v ∧ NewInts w w' v (l.eraseIdx i) := by
  obtain ⟨i0, hi0, hz0, hz1, hz2⟩ := info_parts int_info
  have hm := hl.max
  have hle := hl.le
  have LL := Lib.hid hl.len
  obtain ⟨b, o, rfl, _⟩ := hl.rd.intAt hi
  have T1 := Lib.hid (hl.take (Nat.le_of_lt hi)).rd
  have hll : (l.take i).length = i := by rw [List.length_take, hl.len]; omega
  have HLL := Lib.hid hll
  have g1 : (i : Int) ≤ n := by omega
  have g2 : (i : Int) ≤ c := by omega
  have g3 : (0 : Int) ≤ i := by omega
  have g4 : (0 : Int) ≤ (i : Int) + 1 := by omega
  have g5 : (i : Int) + 1 ≤ n := by omega
  have HO0 := Lib.hid (World.ownsRow_nil w w.heap.size 3 1)
  have HL := Lib.hid hl
  clear hl hll
  by_cases hc : c = i + 1
  · have hin : n = i + 1 := by omega
    subst hc
    have hd : l.drop (i + 1) = [] := List.drop_eq_nil_of_le (by rw [LL.out]; omega)
    have T2 := Lib.hid (rd_none w (some ⟨b, o, none⟩) (l := l.drop (i + 1)) (n := 0) rfl hd)
    clear hd
    go_enter Try.func38, Try.ntmps38
    go_wp2_with (first
      | (at_builtin; refine wpList_append_rd _ rfl (.tmp 6) (.tmp 9) 22 rfl w.heap.size 3 i0 _ 1 8 Try.underlying22 hi0 hz0 hz1 hz2 rfl (by omega) (.slice none 0 0) 0 [] rfl HO0.out (some ⟨b, o, none⟩) i (i + 1) (icells (l.take i)) rfl T1.out (icells_one _) (by omega) (by unfold maxLen; omega) (by simp <;> omega) ?_; intro v5 w5 hown hgr hat; have HOW := Lib.hid hown; have HGR := Lib.hid hgr; have hsz5 := hgr.size; clear hown hgr)
      | (at_builtin; refine wpList_append_rd _ rfl (.tmp 11) (.tmp 15) 22 rfl w.heap.size 3 i0 _ 1 8 Try.underlying22 hi0 hz0 hz1 hz2 rfl (by omega) v5 (0 + i) ([] ++ icells (l.take i)) rfl HOW.out (some ⟨b, o, none⟩) 0 0 (icells (l.drop (i + 1))) rfl (T2.out.ext ((Ext.refl w).ofGrown HGR.out (fun k hk => by cases hk))) (icells_one _) (by omega) (by unfold maxLen; omega) (by first | omega | (simp; done) | (simp; omega)) ?_; intro v6 w6 hown hgr hat; have HOW6 := Lib.hid hown; have HGR6 := Lib.hid hgr; clear hown hgr))
    go_ret
    have x5 : Ext w w5 := (Ext.refl w).ofGrown HGR.out (fun k hk => by cases hk)
    refine ⟨v6, rfl, ?_, x5.ofGrown HGR6.out (fun k hk => (HOW.out.lt k hk).1)⟩
    have he : l.eraseIdx i = l.take i ++ l.drop (i + 1) := List.eraseIdx_eq_take_drop_succ l i
    have hll2 : (l.eraseIdx i).length = 0 + i + 0 := by rw [List.length_eraseIdx_of_lt (by rw [LL.out]; exact hi), LL.out]; omega
    rw [hll2, he, icells_append]
    have := HOW6.out
    rw [List.nil_append] at this
    exact this
  · have T2 := Lib.hid (HL.out.drop (j := i + 1) (by omega))
    have hc2 : ¬ c = i + 1 := hc
    go_enter Try.func38, Try.ntmps38
    go_wp2_with (first
      | (at_builtin; refine wpList_append_rd _ rfl (.tmp 6) (.tmp 9) 22 rfl w.heap.size 3 i0 _ 1 8 Try.underlying22 hi0 hz0 hz1 hz2 rfl (by omega) (.slice none 0 0) 0 [] rfl HO0.out (some ⟨b, o, none⟩) i c (icells (l.take i)) rfl T1.out (icells_one _) (by omega) (by unfold maxLen; omega) (by simp <;> omega) ?_; intro v5 w5 hown hgr hat; have HOW := Lib.hid hown; have HGR := Lib.hid hgr; have hsz5 := hgr.size; clear hown hgr)
      | (at_builtin; refine wpList_append_rd _ rfl (.tmp 11) (.tmp 15) 22 rfl w.heap.size 3 i0 _ 1 8 Try.underlying22 hi0 hz0 hz1 hz2 rfl (by omega) v5 (0 + i) ([] ++ icells (l.take i)) rfl HOW.out (some ⟨b, o + (i + 1), none⟩) (n - (i + 1)) (c - (i + 1)) (icells (l.drop (i + 1))) rfl (T2.out.ext ((Ext.refl w).ofGrown HGR.out (fun k hk => by cases hk))) (icells_one _) (by omega) (by unfold maxLen; omega) (by first | omega | (simp; done) | (simp; omega)) ?_; intro v6 w6 hown hgr hat; have HOW6 := Lib.hid hown; have HGR6 := Lib.hid hgr; clear hown hgr))
    go_ret
    have x5 : Ext w w5 := (Ext.refl w).ofGrown HGR.out (fun k hk => by cases hk)
    refine ⟨v6, rfl, ?_, x5.ofGrown HGR6.out (fun k hk => (HOW.out.lt k hk).1)⟩
    have he : l.eraseIdx i = l.take i ++ l.drop (i + 1) := List.eraseIdx_eq_take_drop_succ l i
    have hll2 : (l.eraseIdx i).length = 0 + i + (n - (i + 1)) := by rw [List.length_eraseIdx_of_lt (by rw [LL.out]; exact hi), LL.out]; omega
    rw [hll2, he, icells_append]
    have := HOW6.out
    rw [List.nil_append] at this
    exact this
end Go.Proofs.Ytkclimblcipmlaa
