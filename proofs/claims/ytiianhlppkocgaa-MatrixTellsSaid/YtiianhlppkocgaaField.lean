/- The contracts of package field's methods on a field that New made: each says what the call answers, and that the world is as it was but for draws. -/
import Derived.Test.YtiianhlppkocgaaBase
import Derived.Test.YtiianhlppkocgaaGf
namespace Go.Proofs.Ytiianhlppkocgaa
open Go.RowKit

/-- Block b holds a field. -/
structure FieldAt (w : World) (b : Nat) : Prop where
  made : w.cell? ⟨b, 0, none⟩ = some (.bool true)
  exp : ∀ i : Nat, i < 510 → w.cell? ⟨b, 1 + i, none⟩ = some (.int .u8 ((Gf.gexp i).toNat : Int))
  log : ∀ x : UInt8, w.cell? ⟨b, 511 + x.toNat, none⟩ = some (.int .i64 (Gf.glog x : Int))
theorem FieldAt.ext {w w' : World} {b : Nat} (h : FieldAt w b) (hx : Ext w w') : FieldAt w' b :=
  ⟨hx.cell h.made, fun i hi => hx.cell (h.exp i hi), fun x => hx.cell (h.log x)⟩

abbrev fptr (b : Nat) : Value := .pointer (some ⟨b, 0, none⟩)

theorem is_yes (b : Nat) (w : World) (h : w.cell? ⟨b, 0, none⟩ = some (.bool true)) :
    Calls Try.prog 52 #[.pointer (some ⟨b, 0, none⟩)] w fun e w' => e = .returned (.bool true) ∧ w = w' := by
  go_enter Try.func52, Try.ntmps52
  go_wp2
  go_ret
  exact ⟨rfl, rfl⟩

theorem add_any (b : Nat) (w : World) (x y : UInt8) (hf : FieldAt w b) :
    Calls Try.prog 36 #[.pointer (some ⟨b, 0, none⟩), .int .u8 (x.toNat : Int), .int .u8 (y.toNat : Int)] w fun e w' => e = .returned (.int .u8 ((Gf.add x y).toNat : Int)) ∧ w = w' := by
  have h := hf.made
  clear hf
  go_enter Try.func36, Try.ntmps36
  go_wp2_with (go_at_call 52; refine (is_yes _ _ h).mono ?_; rintro e w' ⟨rfl, rfl⟩)
  go_ret
  exact ⟨ret_int (xor_u8 x y), rfl⟩

theorem mul_zero_left (b : Nat) (w : World) (x y : UInt8) (hf : FieldAt w b) (hx : x = 0) :
    Calls Try.prog 53 #[.pointer (some ⟨b, 0, none⟩), .int .u8 (x.toNat : Int), .int .u8 (y.toNat : Int)] w fun e w' => e = .returned (.int .u8 0) ∧ w = w' := by
  have h := hf.made
  have e1 := u8_zero x hx
  clear hf hx
  go_enter Try.func53, Try.ntmps53
  go_wp2_with (go_at_call 52; refine (is_yes _ _ h).mono ?_; rintro e w' ⟨rfl, rfl⟩)
  go_ret
  exact ⟨rfl, rfl⟩
theorem mul_zero_right (b : Nat) (w : World) (x y : UInt8) (hf : FieldAt w b) (hx : x ≠ 0) (hy : y = 0) :
    Calls Try.prog 53 #[.pointer (some ⟨b, 0, none⟩), .int .u8 (x.toNat : Int), .int .u8 (y.toNat : Int)] w fun e w' => e = .returned (.int .u8 0) ∧ w = w' := by
  have h := hf.made
  have e1 := u8_nonzero x hx
  have e2 := u8_zero y hy
  clear hf hx hy
  go_enter Try.func53, Try.ntmps53
  go_wp2_with (go_at_call 52; refine (is_yes _ _ h).mono ?_; rintro e w' ⟨rfl, rfl⟩)
  go_ret
  exact ⟨rfl, rfl⟩
set_option maxRecDepth 100000 in
theorem mul_nz (b : Nat) (w : World) (x y : UInt8) (hf : FieldAt w b) (hx : x ≠ 0) (hy : y ≠ 0) :
    Calls Try.prog 53 #[.pointer (some ⟨b, 0, none⟩), .int .u8 (x.toNat : Int), .int .u8 (y.toNat : Int)] w fun e w' => e = .returned (.int .u8 ((Gf.gexp (Gf.glog x + Gf.glog y)).toNat : Int)) ∧ ∃ n, w' = w.drewN n := by
  have b1 := Gf.glog_lt x
  have b2 := Gf.glog_lt y
  have h0 := hf.made
  have h1 := hf.log x
  have h2 := hf.log y
  have h3 := hf.exp (Gf.glog x + Gf.glog y) (by omega)
  have e1 := u8_nonzero x hx
  have e2 := u8_nonzero y hy
  have i1 := u8_int_lt x
  have i2 := u8_int_lt y
  have i3 : (Gf.glog x : Int) + (Gf.glog y : Int) < 510 := by omega
  clear hf hx hy
  go_enter Try.func53, Try.ntmps53
  go_wp2_with (go_at_call 52; refine (is_yes _ _ h0).mono ?_; rintro e w' ⟨rfl, rfl⟩)
  go_quiet (fail)
  go_wp2
  go_ret
  exact ⟨rfl, _, rfl⟩
theorem mul_any (b : Nat) (w : World) (x y : UInt8) (hf : FieldAt w b) :
    Calls Try.prog 53 #[.pointer (some ⟨b, 0, none⟩), .int .u8 (x.toNat : Int), .int .u8 (y.toNat : Int)] w fun e w' => e = .returned (.int .u8 ((Gf.mul x y).toNat : Int)) ∧ ∃ n, w' = w.drewN n := by
  by_cases hx : x = 0
  · refine (mul_zero_left b w x y hf hx).mono ?_
    rintro e w' ⟨rfl, rfl⟩
    subst hx
    exact ⟨by rw [Gf.zero_mul]; rfl, 0, rfl⟩
  · by_cases hy : y = 0
    · refine (mul_zero_right b w x y hf hx hy).mono ?_
      rintro e w' ⟨rfl, rfl⟩
      subst hy
      exact ⟨by rw [Gf.mul_zero]; rfl, 0, rfl⟩
    · refine (mul_nz b w x y hf hx hy).mono ?_
      rintro e w' ⟨rfl, hn⟩
      exact ⟨by rw [Gf.mul_log hx hy], hn⟩

theorem div_by_zero (b : Nat) (w : World) (x y : UInt8) (hf : FieldAt w b) (hy : y = 0) :
    Calls Try.prog 51 #[.pointer (some ⟨b, 0, none⟩), .int .u8 (x.toNat : Int), .int .u8 (y.toNat : Int)] w fun e w' => e = .returned (.tuple #[.int .u8 0, .int .i64 20]) ∧ w = w' := by
  have h0 := hf.made
  have e1 := u8_zero y hy
  clear hf hy
  go_enter Try.func51, Try.ntmps51
  go_wp2_with (go_at_call 52; refine (is_yes _ _ h0).mono ?_; rintro e w' ⟨rfl, rfl⟩)
  go_ret2
  exact ⟨rfl, rfl⟩
theorem div_zero (b : Nat) (w : World) (x y : UInt8) (hf : FieldAt w b) (hy : y ≠ 0) (hx : x = 0) :
    Calls Try.prog 51 #[.pointer (some ⟨b, 0, none⟩), .int .u8 (x.toNat : Int), .int .u8 (y.toNat : Int)] w fun e w' => e = .returned (.tuple #[.int .u8 0, .int .i64 0]) ∧ w = w' := by
  have h0 := hf.made
  have e1 := u8_nonzero y hy
  have e2 := u8_zero x hx
  clear hf hx hy
  go_enter Try.func51, Try.ntmps51
  go_wp2_with (go_at_call 52; refine (is_yes _ _ h0).mono ?_; rintro e w' ⟨rfl, rfl⟩)
  go_ret2
  exact ⟨rfl, rfl⟩
set_option maxRecDepth 100000 in
theorem div_nz (b : Nat) (w : World) (x y : UInt8) (hf : FieldAt w b) (hx : x ≠ 0) (hy : y ≠ 0) :
    Calls Try.prog 51 #[.pointer (some ⟨b, 0, none⟩), .int .u8 (x.toNat : Int), .int .u8 (y.toNat : Int)] w fun e w' => e = .returned (.tuple #[.int .u8 ((Gf.gexp (Gf.glog x + 255 - Gf.glog y)).toNat : Int), .int .i64 0]) ∧ ∃ n, w' = w.drewN n := by
  have b1 := Gf.glog_lt x
  have b2 := Gf.glog_lt y
  have h0 := hf.made
  have h1 := hf.log x
  have h2 := hf.log y
  have h3 := hf.exp (Gf.glog x + 255 - Gf.glog y) (by omega)
  have e1 := u8_nonzero x hx
  have e2 := u8_nonzero y hy
  have i1 := u8_int_lt x
  have i2 := u8_int_lt y
  have i3 : (Gf.glog x : Int) + 255 - (Gf.glog y : Int) < 510 := by omega
  have i4 : 0 ≤ (Gf.glog x : Int) + 255 - (Gf.glog y : Int) := by omega
  have i5 : ((Gf.glog x : Int) + 255 - (Gf.glog y : Int)).toNat = Gf.glog x + 255 - Gf.glog y := by omega
  clear hf hx hy
  go_enter Try.func51, Try.ntmps51
  go_wp2_with (go_at_call 52; refine (is_yes _ _ h0).mono ?_; rintro e w' ⟨rfl, rfl⟩)
  go_quiet (fail)
  go_wp2
  go_ret2
  exact ⟨rfl, _, rfl⟩
theorem div_any (b : Nat) (w : World) (x y : UInt8) (hf : FieldAt w b) :
    Calls Try.prog 51 #[.pointer (some ⟨b, 0, none⟩), .int .u8 (x.toNat : Int), .int .u8 (y.toNat : Int)] w fun e w' => e = .returned (.tuple #[.int .u8 ((Gf.divQ x y).toNat : Int), .int .i64 (Gf.divE y)]) ∧ ∃ n, w' = w.drewN n := by
  by_cases hy : y = 0
  · refine (div_by_zero b w x y hf hy).mono ?_
    rintro e w' ⟨rfl, rfl⟩
    refine ⟨?_, 0, rfl⟩
    unfold Gf.divQ Gf.divE
    rw [if_pos hy, if_pos hy]; rfl
  · by_cases hx : x = 0
    · refine (div_zero b w x y hf hy hx).mono ?_
      rintro e w' ⟨rfl, rfl⟩
      refine ⟨?_, 0, rfl⟩
      unfold Gf.divQ Gf.divE Gf.div
      rw [if_neg hy, if_neg hy, hx, Gf.zero_mul]; rfl
    · refine (div_nz b w x y hf hx hy).mono ?_
      rintro e w' ⟨rfl, hn⟩
      refine ⟨?_, hn⟩
      unfold Gf.divQ Gf.divE
      rw [if_neg hy, if_neg hy, Gf.div_log hx hy]

theorem inv_any (b : Nat) (w : World) (x : UInt8) (hf : FieldAt w b) :
    Calls Try.prog 35 #[.pointer (some ⟨b, 0, none⟩), .int .u8 (x.toNat : Int)] w fun e w' => e = .returned (.tuple #[.int .u8 ((Gf.divQ 1 x).toNat : Int), .int .i64 (Gf.divE x)]) ∧ ∃ n, w' = w.drewN n := by
  go_enter Try.func35, Try.ntmps35
  go_wp2_with (go_at_call 51; refine (div_any b _ 1 x hf).mono ?_; rintro e w' ⟨rfl, hn⟩)
  go_ret2
  exact ⟨rfl, hn⟩
end Go.Proofs.Ytiianhlppkocgaa
