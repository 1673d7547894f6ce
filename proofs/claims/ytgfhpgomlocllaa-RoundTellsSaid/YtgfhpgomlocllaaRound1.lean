/- Small functions of package round: named, count. -/
import Derived.Test.YtgfhpgomlocllaaIntsContains
import Derived.Test.YtgfhpgomlocllaaRounds
import Derived.Test.YtgfhpgomlocllaaMem
namespace Go.Proofs.Ytgfhpgomlocllaa
open Go.RowKit

theorem named_any (w : World) (s v n d : Int) :
    Calls Try.prog 39 #[.int .i64 s, .int .i64 v, .int .i64 n, .int .i64 d] w fun r w' => r = .returned (.bool (decide (Rounds.named s v n d))) ∧ w = w' := by
  go_enter Try.func39, Try.ntmps39
  go_wp2
  all_goals
    go_ret
    first
      | exact ⟨ret_bool (decide_eq_false (by unfold Rounds.named; omega)).symm, rfl⟩
      | exact ⟨ret_bool (decide_eq_decide.2 (by unfold Rounds.named; omega)), rfl⟩

theorem count1_in (w : World) (m : Int) (bk bn : Nat) (A : Option Addr) (n c : Nat) (ks : List Int) (v : Int) (hk : w.cell? ⟨bk, 0, none⟩ = some (.slice A n c)) (hi : Is w A n c ks) (hn : w.cell? ⟨bn, 0, none⟩ = some (.int .i64 v)) (hf : w.frozen? ⟨bn, 0, none⟩ = false)
    (h0 : 0 ≤ v) (h1 : v ≤ 9000000000000000000) (hm : m ∈ ks) :
    Calls Try.prog 44 #[.int .i64 m, .pointer (some ⟨bk, 0, none⟩), .pointer (some ⟨bn, 0, none⟩)] w fun r w' => r = .returned (.tuple #[]) ∧ w' = w.setCell ⟨bn, 0, none⟩ (.int .i64 (v + 1)) := by
  have hc := contains_any w A n c ks m hi
  rw [decide_eq_true hm] at hc
  have HC := Lib.hid hc
  clear hc hm
  go_enter Try.func44, Try.ntmps44
  go_wp2_with (fail)
  refine HC.out.mono ?_
  rintro r w' ⟨rfl, rfl⟩
  go_wp2_with (fail)
  go_end0
  exact ⟨rfl, rfl⟩
theorem count1_out (w : World) (m : Int) (bk bn : Nat) (A : Option Addr) (n c : Nat) (ks : List Int) (hk : w.cell? ⟨bk, 0, none⟩ = some (.slice A n c)) (hi : Is w A n c ks) (hm : m ∉ ks) :
    Calls Try.prog 44 #[.int .i64 m, .pointer (some ⟨bk, 0, none⟩), .pointer (some ⟨bn, 0, none⟩)] w fun r w' => r = .returned (.tuple #[]) ∧ w' = w := by
  have hc := contains_any w A n c ks m hi
  rw [decide_eq_false hm] at hc
  have HC := Lib.hid hc
  clear hc hm
  go_enter Try.func44, Try.ntmps44
  go_wp2_with (fail)
  refine HC.out.mono ?_
  rintro r w' ⟨rfl, rfl⟩
  go_wp2_with (fail)
  go_end0
  exact ⟨rfl, rfl⟩

/-- A round as it is handed over. -/
abbrev rval (r : Rounds.R) (A : Option Addr) (n c : Nat) : Value := .agg #[.int .i64 r.stripe, .int .i64 r.version, .int .i64 r.need, .int .i64 r.phase, .slice A n c]

set_option maxHeartbeats 1000000 in
theorem count_any (w : World) (s v d p : Int) (l : List Int) (A : Option Addr) (n c : Nat) (B : Option Addr) (m e : Nat) (ks : List Int) (hl : Is w A n c l) (hk : Is w B m e ks) (hn : n ≤ 1000000) :
    Calls Try.prog 38 #[.agg #[.int .i64 s, .int .i64 v, .int .i64 d, .int .i64 p, .slice A n c], .slice B m e] w fun r w' => r = .returned (.int .i64 (Rounds.count l ks)) ∧ Ext w w' := by
  have hmx := hl.max
  have hle := hl.le
  have L := Lib.hid hl.len
  go_enter Try.func38, Try.ntmps38
  go_wp2
  have x0 : Ext w (((w.alloc (.cells #[.int .i64 s, .int .i64 v, .int .i64 d, .int .i64 p, .slice A n c] 25)).alloc (.cells #[.slice B m e] 23)).alloc (.cells #[.int .i64 0] 3)) := ((Ext.alloc _ _).thenAlloc _).thenAlloc _
  have y1 : (((w.alloc (.cells #[.int .i64 s, .int .i64 v, .int .i64 d, .int .i64 p, .slice A n c] 25)).alloc (.cells #[.slice B m e] 23)).alloc (.cells #[.int .i64 0] 3)).cell? ⟨w.heap.size + 1, 0, none⟩ = some (.slice B m e) :=
    (Ext.alloc _ _).cell (by rw [show w.heap.size + 1 = (w.alloc (.cells #[.int .i64 s, .int .i64 v, .int .i64 d, .int .i64 p, .slice A n c] 25)).heap.size by simp, World.cell?_alloc_new]; rfl)
  have b2 : (((w.alloc (.cells #[.int .i64 s, .int .i64 v, .int .i64 d, .int .i64 p, .slice A n c] 25)).alloc (.cells #[.slice B m e] 23)).alloc (.cells #[.int .i64 0] 3)).heap[w.heap.size + 1 + 1]? = some (.cells #[.int .i64 0] 3 (0, 0)) := by
    have h := heap_alloc_new ((w.alloc (.cells #[.int .i64 s, .int .i64 v, .int .i64 d, .int .i64 p, .slice A n c] 25)).alloc (.cells #[.slice B m e] 23)) (.cells #[.int .i64 0] 3)
    simpa using h
  generalize (((w.alloc (.cells #[.int .i64 s, .int .i64 v, .int .i64 d, .int .i64 p, .slice A n c] 25)).alloc (.cells #[.slice B m e] 23)).alloc (.cells #[.int .i64 0] 3)) = W at *
  generalize hg : w.heap.size = g at *
  have HG := Lib.hid hg
  clear hg
  have y2 : W.cell? ⟨g + 1 + 1, 0, none⟩ = some (.int .i64 0) := by rw [cell_of_row W _ _ _ _ _ b2]; rfl
  have f2 : W.frozen? ⟨g + 1 + 1, 0, none⟩ = false := frozen_of_row W _ _ _ _ b2
  clear b2
  go_loopw [13] (fun i wr => ∃ k : Nat, k ≤ n ∧ i = .int .i64 k ∧ Ext w wr ∧ wr.cell? ⟨g + 1, 0, none⟩ = some (.slice B m e) ∧ wr.cell? ⟨g + 1 + 1, 0, none⟩ = some (.int .i64 (Rounds.count (l.take k) ks)) ∧ wr.frozen? ⟨g + 1 + 1, 0, none⟩ = false) (fun i _ => n - (intOf i).toNat)
  case atStart => exact ⟨0, by omega, rfl, x0, y1, y2, f2⟩
  case round =>
    obtain ⟨k, hk', rfl, hx, z1, z2, zf⟩ := hrel
    clear y1 y2 f2 x0
    by_cases hlt : k < n
    · have q1 : (k : Int) < n := by omega
      obtain ⟨b, o, rfl, hc⟩ := (hl.ext hx).rd.intAt hlt
      have hc0 := Rounds.count_ge (l.take k) ks
      have hc1 := Rounds.count_le (l.take k) ks
      have hc2 : (l.take k).length ≤ k := List.length_take_le _ _
      have hsn : Rounds.count (l.take (k + 1)) ks = Rounds.count (l.take k) ks + if Il.get l k ∈ ks then 1 else 0 := by
        rw [Rounds.take_snoc (by rw [L.out]; exact hlt), Rounds.count_snoc]
      generalize Il.get l k = mk at *
      generalize Rounds.count (l.take k) ks = q at *
      have HSN := Lib.hid hsn
      clear hsn
      by_cases hin : mk ∈ ks
      · have hcall := count1_in wr mk (g + 1) (g + 1 + 1) B m e ks q z1 (hk.ext hx) z2 zf hc0 (by omega) hin
        rw [if_pos hin] at HSN
        have HC := Lib.hid hcall
        clear hcall hin
        go_wp2_with (fail)
        refine HC.out.mono ?_
        rintro r w' ⟨rfl, rfl⟩
        go_wp2_with (fail)
        refine ⟨⟨k + 1, by omega, by go_num, hx.set_ (by rw [HG.out]; show g ≤ g + 1 + 1; omega) _, ?_, ?_, ?_⟩, by simp [intOf]; omega⟩
        · rw [World.cell?_setCell_other _ _ _ _ (fun e => by injection e with e1; omega)]; exact z1
        · rw [World.cell?_setCell_same _ _ _ z2, HSN.out]
        · rw [World.frozen?_setCell]; exact zf
      · have hcall := count1_out wr mk (g + 1) (g + 1 + 1) B m e ks z1 (hk.ext hx) hin
        rw [if_neg hin, Int.add_zero] at HSN
        have HC := Lib.hid hcall
        clear hcall hin
        go_wp2_with (fail)
        refine HC.out.mono ?_
        rintro r w' ⟨rfl, rfl⟩
        go_wp2_with (fail)
        refine ⟨⟨k + 1, by omega, by go_num, hx, z1, ?_, zf⟩, by simp [intOf]; omega⟩
        rw [z2, HSN.out]
    · have q1 : ¬ (k : Int) < n := by omega
      have hall : l.take k = l := List.take_of_length_le (by rw [L.out]; omega)
      rw [hall] at z2
      clear hall
      go_wp2_with (fail)
      go_ret
      exact ⟨rfl, hx⟩
end Go.Proofs.Ytgfhpgomlocllaa
