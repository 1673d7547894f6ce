/- The contract of bytes.GetUint: the number that stands at a place. -/
import Derived.Test.YtkanlbkfbkkknaaPlEnc
import Derived.Test.YtkanlbkfbkkknaaStep
import Derived.Test.YtkanlbkfbkkknaaBytesLow
namespace Go.Proofs.Ytkanlbkfbkkknaa
open Go.RowKit

/-- What is handed back of what 'dec' tells. -/
def toB (at_ : Nat) (E : Int) (u : Nat) : Nat := if E = 0 then at_ + u else 0
theorem dec_cons {l : List UInt8} {i : Nat} (h : i < l.length) (k acc : Nat) : Pl.dec (l.drop i) k acc = if (0 < k ∧ (Gf.get l i).toNat = 0) ∨ (8 < k ∧ 1 < (Gf.get l i).toNat) then (10, 0, 0) else if (Gf.get l i).toNat < 128 then (0, acc + (Gf.get l i).toNat * 2 ^ (7 * k), k + 1) else Pl.dec (l.drop (i + 1)) (k + 1) (acc + ((Gf.get l i).toNat % 128) * 2 ^ (7 * k)) := by
  rw [List.drop_eq_getElem_cons h, Pl.dec]
  have : Gf.get l i = l[i] := by simp [Gf.get, h]
  rw [this]
theorem dec_end {l : List UInt8} {i : Nat} (h : l.length ≤ i) (k acc : Nat) : Pl.dec (l.drop i) k acc = (11, 0, 0) := by
  rw [List.drop_eq_nil_of_le h, Pl.dec]

set_option maxRecDepth 100000 in
set_option maxHeartbeats 1000000 in
theorem getUint_any (w : World) (A : Option Addr) (n c : Nat) (l : List UInt8) (hl : Bs w A n c l) (at_ : Nat) (ha : at_ ≤ n) (E : Int) (N u : Nat) (hd : Pl.dec (l.drop at_) 0 0 = (E, N, u)) :
    Calls Try.prog 43 #[.slice A n c, .int .i64 (at_ : Int)] w fun e w' => e = .returned (.tuple #[.int .u64 (N : Int), .int .i64 (toB at_ E u : Int), .int .i64 E]) ∧ w = w' := by
  have h1 := hl.max
  have h2 := hl.le
  have L := Lib.hid hl.len
  have HD := Lib.hid hd
  clear hd
  go_enter Try.func43, Try.ntmps43
  go_wp2_with (fail)
  go_loopw [7, 8] (fun s7 s8 wr => ∃ k acc : Nat, s7 = .int .u64 (acc : Int) ∧ s8 = .int .i64 ((at_ : Int) + (k : Int)) ∧ at_ + k ≤ n ∧ RowKit.Hid (k ≤ 9 ∧ acc < 2 ^ (7 * k) ∧ Pl.dec (l.drop (at_ + k)) k acc = (E, N, u)) ∧ wr = w) (fun _ s8 _ => n - (intOf s8).toNat)
  case atStart => exact ⟨0, 0, rfl, by simp, by omega, Lib.hid ⟨by omega, by simp, HD.out⟩, rfl⟩
  case round =>
    obtain ⟨k, acc, rfl, rfl, hk, H, rfl⟩ := hrel
    have hsub : (at_ : Int) + (k : Int) - (at_ : Int) = (k : Int) := by omega
    by_cases hlt : at_ + k < n
    · have i1 : (at_ : Int) + (k : Int) < n := by omega
      obtain ⟨b, o, rfl, hc⟩ := hl.rd.byte hlt
      have hdc := dec_cons (l := l) (i := at_ + k) (by rw [L.out]; exact hlt) k acc
      obtain ⟨hk9, hac, hde⟩ := H.out
      rw [hdc] at hde
      clear hdc H
      have hx := (Gf.get l (at_ + k)).toNat_lt
      obtain ⟨x, hx'⟩ : ∃ x, (Gf.get l (at_ + k)).toNat = x := ⟨_, rfl⟩
      rw [hx'] at hc hde hx
      clear hx'
      have fin : ∀ e w', e = Ending.returned (.tuple #[.int .u64 0, .int .i64 0, .int .i64 10]) ∧ wr = w' → ((0 < k ∧ x = 0) ∨ (8 < k ∧ 1 < x)) → (e = .returned (.tuple #[.int .u64 (N : Int), .int .i64 (toB at_ E u : Int), .int .i64 E]) ∧ wr = w') := fun e w' h hb => by
        rw [if_pos hb] at hde
        injection hde with a1 a2
        injection a2 with a2 a3
        subst a1 a2 a3
        exact h
      have pw : (2 : Nat) ^ (7 * (k + 1)) = 128 * 2 ^ (7 * k) := by rw [show 7 * (k + 1) = 7 + 7 * k by omega, Nat.pow_add]
      have p9 : (2 : Nat) ^ (7 * k) ≤ 2 ^ 63 := Nat.pow_le_pow_right (by omega) (by omega)
      have p8 : ¬ 8 < k → (2 : Nat) ^ (7 * k) ≤ 2 ^ 56 := fun h => Nat.pow_le_pow_right (by omega) (by omega)
      -- what is added up
      have sum : ¬ (8 < k ∧ 1 < x) → IntKind.u64.wrap ((acc : Int) + IntKind.u64.wrap ((x : Int) % 128 * 2 ^ (7 * k))) = ((acc + x % 128 * 2 ^ (7 * k) : Nat) : Int) := fun hb => by
        have hP : ((2 : Int) ^ (7 * k)) = ((2 ^ (7 * k) : Nat) : Int) := by simp
        have hlt : x % 128 * 2 ^ (7 * k) ≤ 2 ^ 63 := by
          by_cases h8 : 8 < k
          · have hx1 : x % 128 ≤ 1 := by omega
            calc x % 128 * 2 ^ (7 * k) ≤ 1 * 2 ^ (7 * k) := Nat.mul_le_mul_right _ hx1
              _ ≤ 2 ^ 63 := by omega
          · calc x % 128 * 2 ^ (7 * k) ≤ 127 * 2 ^ 56 := Nat.mul_le_mul (by omega) (p8 h8)
              _ ≤ 2 ^ 63 := by omega
        rw [hP, show ((x : Int) % 128 * ((2 ^ (7 * k) : Nat) : Int)) = ((x % 128 * 2 ^ (7 * k) : Nat) : Int) by push_cast; rfl]
        generalize x % 128 * 2 ^ (7 * k) = s at hlt ⊢
        rw [IntWalk.u64_in (s : Int) (by omega), IntWalk.u64_in ((acc : Int) + (s : Int)) (by omega)]
        omega
      -- the end
      have last : x < 128 → ¬ ((0 < k ∧ x = 0) ∨ (8 < k ∧ 1 < x)) → N = acc + x % 128 * 2 ^ (7 * k) ∧ (toB at_ E u : Int) = (at_ : Int) + (k : Int) + 1 ∧ E = 0 := fun h1 h2 => by
        rw [if_neg h2, if_pos h1] at hde
        injection hde with a1 a2
        injection a2 with a2 a3
        subst a1 a2 a3
        refine ⟨by rw [Nat.mod_eq_of_lt h1], ?_, rfl⟩
        unfold toB
        rw [if_pos rfl]
        omega
      have more : ¬ x < 128 → ¬ ((0 < k ∧ x = 0) ∨ (8 < k ∧ 1 < x)) → at_ + (k + 1) ≤ n ∧ RowKit.Hid (k + 1 ≤ 9 ∧ acc + x % 128 * 2 ^ (7 * k) < 2 ^ (7 * (k + 1)) ∧ Pl.dec (l.drop (at_ + (k + 1))) (k + 1) (acc + x % 128 * 2 ^ (7 * k)) = (E, N, u)) := fun h1 h2 => by
        rw [if_neg h2, if_neg h1] at hde
        refine ⟨by omega, Lib.hid ⟨by omega, ?_, hde⟩⟩
        rw [pw]
        have : x % 128 * 2 ^ (7 * k) ≤ 127 * 2 ^ (7 * k) := Nat.mul_le_mul_right _ (by omega)
        omega
      have SUM := Lib.hid sum
      have LAST := Lib.hid last
      have MORE := Lib.hid more
      clear sum last more pw p9 p8
      have FIN := Lib.hid fin
      have HDE := Lib.hid hde
      have HAC := Lib.hid hac
      clear fin hde hac
      by_cases k0 : 0 < k
      · have k0' : (0 : Int) < (k : Int) := by omega
        by_cases x0 : x = 0
        · have x0' : ((x : Int) == 0) = true := by subst x0; rfl
          clear hl
          go_wp2_with (fail)
          refine bodyPost_ret (results_tmp3 rfl _ _ _) rfl ?_
          exact FIN.out _ _ ⟨rfl, rfl⟩ (.inl ⟨k0, x0⟩)
        · have x0' : ((x : Int) == 0) = false := beq_eq_false_iff_ne.2 (by omega)
          by_cases k8 : 8 < k
          · have k8' : (8 : Int) < (k : Int) := by omega
            by_cases x1 : 1 < x
            · have x1' : (1 : Int) < (x : Int) := by omega
              clear hl
              go_wp2_with (fail)
              refine bodyPost_ret (results_tmp3 rfl _ _ _) rfl ?_
              exact FIN.out _ _ ⟨rfl, rfl⟩ (.inr ⟨k8, x1⟩)
            · have x1' : ¬ (1 : Int) < (x : Int) := by omega
              have xs : (x : Int) < 128 := by omega
              clear hl
              go_wp2_with (fail)
              refine bodyPost_ret (results_tmp3 rfl _ _ _) rfl ?_
              obtain ⟨b1, b2, b3⟩ := LAST.out (by omega) (by omega)
              rw [SUM.out (by omega), b1, b2, b3]
              exact ⟨rfl, rfl⟩
          · have k8' : ¬ (8 : Int) < (k : Int) := by omega
            by_cases xs : x < 128
            · have xs' : (x : Int) < 128 := by omega
              clear hl
              go_wp2_with (fail)
              refine bodyPost_ret (results_tmp3 rfl _ _ _) rfl ?_
              obtain ⟨b1, b2, b3⟩ := LAST.out (by omega) (by omega)
              rw [SUM.out (by omega), b1, b2, b3]
              exact ⟨rfl, rfl⟩
            · have xs' : ¬ (x : Int) < 128 := by omega
              clear hl
              go_wp2_with (fail)
              rw [SUM.out (by omega)]
              obtain ⟨b1, b2⟩ := MORE.out (by omega) (by omega)
              refine ⟨⟨k + 1, acc + x % 128 * 2 ^ (7 * k), rfl, by go_num, b1, b2, trivial⟩, by simp [intOf]; omega⟩
      · have k0' : ¬ (0 : Int) < (k : Int) := by omega
        have k8' : ¬ (8 : Int) < (k : Int) := by omega
        by_cases xs : x < 128
        · have xs' : (x : Int) < 128 := by omega
          clear hl
          go_wp2_with (fail)
          refine bodyPost_ret (results_tmp3 rfl _ _ _) rfl ?_
          obtain ⟨b1, b2, b3⟩ := LAST.out (by omega) (by omega)
          rw [SUM.out (by omega), b1, b2, b3]
          exact ⟨rfl, rfl⟩
        · have xs' : ¬ (x : Int) < 128 := by omega
          clear hl
          go_wp2_with (fail)
          rw [SUM.out (by omega)]
          obtain ⟨b1, b2⟩ := MORE.out (by omega) (by omega)
          refine ⟨⟨k + 1, acc + x % 128 * 2 ^ (7 * k), rfl, by go_num, b1, b2, trivial⟩, by simp [intOf]; omega⟩
    · have i1 : ¬ (at_ : Int) + (k : Int) < n := by omega
      have hde := H.out.2.2
      rw [dec_end (by rw [L.out]; omega)] at hde
      injection hde with a1 a2
      injection a2 with a2 a3
      subst a1 a2 a3
      clear hl
      go_wp2_with (fail)
      refine bodyPost_ret (results_tmp3 rfl _ _ _) rfl ?_
      exact ⟨rfl, rfl⟩
end Go.Proofs.Ytkanlbkfbkkknaa
