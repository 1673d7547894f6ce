/- The contract of slices.Index at []int. -/
import Derived.Test.YtkanlbkfbkkknaaInts
namespace Go.Proofs.Ytkanlbkfbkkknaa
open Go.RowKit

theorem index_any (w : World) (A : Option Addr) (n c : Nat) (l : List Int) (v : Int) (hl : Is w A n c l) :
    Calls Try.prog 39 #[.slice A n c, .int .i64 v] w fun e w' => e = .returned (.int .i64 (Il.idx l v)) ∧ w = w' := by
  have hm := hl.max
  have hle := hl.le
  have L := Lib.hid hl.len
  go_enter Try.func39, Try.ntmps39
  go_wp2
  go_loop [8] (fun i => ∃ k : Nat, k ≤ n ∧ i = .int .i64 k ∧ (∀ j, j < k → Il.get l j ≠ v)) (fun i => n - (intOf i).toNat)
  case atStart => exact ⟨0, by omega, rfl, fun j hj => by omega⟩
  case round =>
    obtain ⟨k, hk, rfl, hno⟩ := hrel
    have H := Lib.hid hno
    clear hno
    by_cases hlt : k < n
    · obtain ⟨b, o, rfl, hc⟩ := hl.rd.intAt hlt
      have i1 : (k : Int) < n := by omega
      by_cases he : Il.get l k = v
      · have e1 : (v == Il.get l k) = true := by rw [he]; simp
        have E := Lib.hid he
        clear he
        go_wp2
        go_ret
        exact ⟨ret_int (show (k : Int) = Il.idx l v by rw [Il.idx_found (by rw [L.out]; exact hlt) E.out H.out]), rfl⟩
      · have e1 : (v == Il.get l k) = false := by rw [beq_eq_false_iff_ne]; exact fun e => he e.symm
        have E := Lib.hid he
        clear he
        go_wp2
        refine ⟨⟨k + 1, by omega, by go_num, fun j hj => ?_⟩, by simp [intOf]; omega⟩
        by_cases hj' : j = k
        · rw [hj']; exact E.out
        · exact H.out j (by omega)
    · have i1 : ¬ (k : Int) < n := by omega
      go_wp2
      go_ret
      exact ⟨ret_int (show (-1 : Int) = Il.idx l v by rw [Il.idx_none fun j hj => H.out j (by rw [L.out] at hj; omega)]), rfl⟩
end Go.Proofs.Ytkanlbkfbkkknaa
