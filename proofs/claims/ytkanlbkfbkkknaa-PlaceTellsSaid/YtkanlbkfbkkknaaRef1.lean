/- The contracts of the document's functions of chapter 01 that chapter 09 stands on: Varint, joined, Uint, GetUint. -/
import Derived.Test.YtkanlbkfbkkknaaUint
import Derived.Test.YtkanlbkfbkkknaaGetUint
import Derived.Laws.IdiomStrings
namespace Go.Proofs.Ytkanlbkfbkkknaa
open Go.RowKit

theorem textOf_append (l m : List UInt8) : textOf l ++ textOf m = textOf (l ++ m) := by
  apply ByteArray.ext
  show (textOf l ++ textOf m).data = (l ++ m).toArray
  rw [ByteArray.data_append]
  simp [textOf]
theorem run_back (w : World) (l : List UInt8) (hl : l.length ≤ 140737488355328) : ∃ g c w', (convert 9 50 (.string (textOf l))).run Try.prog w = .ok (.slice (some ⟨g, 0, none⟩) l.length c) w' ∧ Bs w' (some ⟨g, 0, none⟩) l.length c l ∧ Ext w w' := by
  have h := run_bytes_of_string (P := Try.prog) w 9 50 5 (textOf l) Try.underlying9 Try.underlying50 Try.underlying5
  have hs : (textOf l).size = l.length := by simp [textOf, ByteArray.size]
  rw [hs] at h
  refine ⟨_, _, _, h, ⟨rfl, grownCap_ge _ _ _ _, Nat.le_trans (grownCap_le_maxLen _ _ _ _ (by unfold maxLen; omega)) (by unfold maxLen; omega), by rw [bcells_length]; omega, fun _ => ⟨_, 0, rfl, fun j u hu => ?_⟩⟩, (Ext.drew w).thenAlloc _⟩
  have hb := heap_alloc_new w.drew (.cells (bytesRow (textOf l) (grownCap w l.length 0 5)) 5 ((bytesRow (textOf l) (grownCap w l.length 0 5)).size, (bytesRow (textOf l) (grownCap w l.length 0 5)).size + 1))
  rw [Nat.zero_add]
  refine (cell_of_row _ _ _ _ _ _ hb).trans ?_
  have hj : j < l.length := by
    have := (List.getElem?_eq_some_iff.1 hu).1
    rwa [bcells_length] at this
  rw [← hu]
  unfold bytesRow textOf bcells
  rw [Array.getElem?_append_left (by simpa using hj)]
  simp

set_option maxRecDepth 100000 in
theorem joined_any (w : World) (A A' : Option Addr) (n c m c' : Nat) (x y : List UInt8) (hx : Bs w A n c x) (hy : Bs w A' m c' y) (hl : n + m ≤ 140737488355328) :
    Calls Try.prog 51 #[.slice A n c, .slice A' m c'] w fun e w' => ∃ B d, e = .returned (.slice B (x ++ y).length d) ∧ Bs w' B (x ++ y).length d (x ++ y) ∧ Ext w w' := by
  have h1 := run_text (P := Try.prog) w 50 9 5 Try.underlying50 Try.underlying5 Try.underlying9 A n c x hx
  have h2 := run_text (P := Try.prog) w 50 9 5 Try.underlying50 Try.underlying5 Try.underlying9 A' m c' y hy
  have hlen : (x ++ y).length ≤ 140737488355328 := by rw [List.length_append, hx.len, hy.len]; exact hl
  obtain ⟨g, d, w', hr, hb, he⟩ := run_back w (x ++ y) hlen
  rw [← textOf_append] at hr
  obtain ⟨N, hN⟩ : ∃ N, (x ++ y).length = N := ⟨_, rfl⟩
  rw [hN] at hr hb ⊢
  have s1 : (textOf x).size = n := by rw [← hx.len]; simp [textOf, ByteArray.size]
  have s2 : (textOf y).size = m := by rw [← hy.len]; simp [textOf, ByteArray.size]
  clear hN hlen hx hy
  go_enter Try.func51, Try.ntmps51
  go_wp2_with (fail)
  go_ret
  exact ⟨_, _, rfl, hb, he⟩

set_option maxRecDepth 100000 in
set_option maxHeartbeats 1000000 in
theorem varint_any (w : World) (m : Nat) (hm : m < 2 ^ 63) :
    Calls Try.prog 45 #[.int .u64 (m : Int)] w fun e w' => ∃ v, e = .returned v ∧ NewB w w' v (Pl.enc m) := by
  obtain ⟨i0, hi0, hz0, hz1, hz2⟩ := info_parts u8_infoB
  go_enter Try.func45, Try.ntmps45
  go_wp2_with (fail)
  go_loopw [0, 3] (fun s0 s3 wr => ∃ (k : Nat) (p : List UInt8), s0 = .int .u64 (k : Int) ∧ k ≤ m ∧ RowKit.Hid (Pl.enc m = p ++ Pl.enc k) ∧ wr.ownsRow w.heap.size 5 1 s3 p.length (bcells p) ∧ Ext w wr) (fun s0 _ _ => (intOf s0).toNat)
  case atStart => exact ⟨m, [], rfl, Nat.le_refl _, Lib.hid rfl, World.ownsRow_nil _ _ _ _, Ext.refl w⟩
  case round =>
    obtain ⟨k, p, rfl, hk, HE, own, x1⟩ := hrel
    have hlen : p.length + (Pl.enc k).length ≤ 10 := by
      have h1 := Pl.enc_le 9 m (by omega)
      rw [HE.out, List.length_append] at h1
      exact h1
    have q1 : (p.length + 1) * 1 ≤ 140737488355328 := by omega
    have q2 : p.length + 1 ≤ maxLen := by unfold maxLen; omega
    have q4 := x1.size
    by_cases hs : (k : Int) < 128
    · have e1 : Pl.enc m = p ++ [UInt8.ofNat k] := by rw [HE.out, Pl.enc_small (n := k) (by omega)]
      have e2 : [Value.int .u8 (k : Int)] = bcells [UInt8.ofNat k] := by
        show _ = [Value.int .u8 ((UInt8.ofNat k).toNat : Int)]
        rw [Pl.toNat_of (by omega)]
      have E1 := Lib.hid e1
      have E2 := Lib.hid e2
      clear e1 e2 hlen
      go_wp2_with (
        at_builtin
        refine wpList_append_rd _ rfl (.tmp 6) (.tmp 9) 50 rfl w.heap.size 5 i0 _ 1 1 Try.underlying50 hi0 hz0 hz1 hz2 rfl (by omega) u3 p.length (bcells p) rfl (ownsRow_ext own (Ext.alloc _ _)) (some ⟨wr.heap.size, 0, none⟩) 1 1 [.int .u8 (k : Int)] rfl (Rd.lit _ _ _) (by simp [Value.oneCell']) q1 q2 (by simp; omega) ?_
        intro v1 w1 hown hg hat)
      go_ret
      refine ⟨v1, rfl, ?_, ?_⟩
      · rw [E2.out, ← bcells_append] at hown
        rw [E1.out, List.length_append]
        exact hown
      · exact Ext.ofGrown (x1.thenAlloc _) hg (fun q hq => own_row own q hq)
    · have e1 : Pl.enc m = (p ++ [UInt8.ofNat (k % 128 + 128)]) ++ Pl.enc (k / 128) := by
        rw [HE.out, Pl.enc_great (n := k) (by omega)]
        simp
      have e2 : [Value.int .u8 ((k : Int) % 128 + 128)] = bcells [UInt8.ofNat (k % 128 + 128)] := by
        show _ = [Value.int .u8 ((UInt8.ofNat (k % 128 + 128)).toNat : Int)]
        rw [Pl.toNat_of (by omega)]
        simp
      have E1 := Lib.hid e1
      have E2 := Lib.hid e2
      clear e1 e2 hlen
      go_wp2_with (
        at_builtin
        refine wpList_append_rd _ rfl (.tmp 11) (.tmp 16) 50 rfl w.heap.size 5 i0 _ 1 1 Try.underlying50 hi0 hz0 hz1 hz2 rfl (by omega) u3 p.length (bcells p) rfl (ownsRow_ext own (Ext.alloc _ _)) (some ⟨wr.heap.size, 0, none⟩) 1 1 [.int .u8 ((k : Int) % 128 + 128)] rfl (Rd.lit _ _ _) (by simp [Value.oneCell']) q1 q2 (by simp; omega) ?_
        intro v1 w1 hown hg hat)
      refine ⟨⟨k / 128, p ++ [UInt8.ofNat (k % 128 + 128)], by go_num, by omega, Lib.hid E1.out, ?_, ?_⟩, by simp [intOf]; omega⟩
      · rw [E2.out, ← bcells_append] at hown
        rw [List.length_append]
        exact hown
      · exact Ext.ofGrown (x1.thenAlloc _) hg (fun q hq => own_row own q hq)
theorem rUint_any (w : World) (A : Option Addr) (n c : Nat) (x : List UInt8) (hx : Bs w A n c x) (m : Nat) (hm : m < 2 ^ 63) (hl : n + 10 ≤ 140737488355328) :
    Calls Try.prog 46 #[.slice A n c, .int .u64 (m : Int)] w fun e w' => ∃ B d, e = .returned (.slice B (x ++ Pl.enc m).length d) ∧ Bs w' B (x ++ Pl.enc m).length d (x ++ Pl.enc m) ∧ Ext w w' := by
  have hv := varint_any w m hm
  have hjj : ∀ w1 : World, Ext w w1 → ∀ C d, Bs w1 C (Pl.enc m).length d (Pl.enc m) → _ := fun w1 x1 C d hb => joined_any w1 A C n c _ d x (Pl.enc m) (hx.ext x1) hb (by have := Pl.enc_le 9 m (by omega); omega)
  obtain ⟨M, hM⟩ : ∃ M, (x ++ Pl.enc m).length = M := ⟨_, rfl⟩
  rw [hM] at hjj ⊢
  clear hM
  go_enter Try.func46, Try.ntmps46
  go_wp2_with (fail)
  with_reducible refine hv.mono ?_
  rintro e w1 ⟨v, rfl, hn⟩
  obtain ⟨C, d, rfl, hb⟩ := hn.bs
  have x1 := hn.ext
  have hj := hjj w1 x1 C d hb
  clear hv hn hb hjj
  go_wp2_with (fail)
  with_reducible refine hj.mono ?_
  rintro e w2 ⟨B, d2, rfl, hb2, x2⟩
  go_wp2_with (fail)
  go_ret
  exact ⟨_, _, rfl, hb2, x1.trans x2⟩

set_option maxRecDepth 100000 in
set_option maxHeartbeats 1000000 in
theorem rGetUint_any (w : World) (A : Option Addr) (n c : Nat) (l : List UInt8) (hl : Bs w A n c l) (at_ : Nat) (ha : at_ ≤ n) (E : Int) (N u : Nat) (hd : Pl.dec (l.drop at_) 0 0 = (E, N, u)) :
    Calls Try.prog 47 #[.slice A n c, .int .i64 (at_ : Int)] w fun e w' => e = .returned (.tuple #[.int .u64 (N : Int), .int .i64 (toB at_ E u : Int), .int .i64 E]) ∧ w = w' := by
  have h1 := hl.max
  have h2 := hl.le
  have L := Lib.hid hl.len
  have HD := Lib.hid hd
  clear hd
  go_enter Try.func47, Try.ntmps47
  go_wp2_with (fail)
  go_loopw [7, 8, 9] (fun s7 s8 s9 wr => ∃ k acc P : Nat, s7 = .int .u64 (acc : Int) ∧ s8 = .int .u64 (P : Int) ∧ s9 = .int .i64 (k : Int) ∧ at_ + k ≤ n ∧ RowKit.Hid (P = 2 ^ (7 * k)) ∧ RowKit.Hid (k ≤ 9 ∧ acc < 2 ^ (7 * k) ∧ Pl.dec (l.drop (at_ + k)) k acc = (E, N, u)) ∧ wr = w) (fun _ _ s9 _ => n - (intOf s9).toNat)
  case atStart => exact ⟨0, 0, 1, rfl, rfl, rfl, by omega, Lib.hid rfl, Lib.hid ⟨by omega, by simp, HD.out⟩, rfl⟩
  case round =>
    obtain ⟨k, acc, P, rfl, rfl, rfl, hk, HPP, H, rfl⟩ := hrel
    by_cases hlt : at_ + k < n
    · have i1 : ((at_ : Int) + (k : Int) == (n : Int)) = false := beq_eq_false_iff_ne.2 (by omega)
      have i2 : (at_ : Int) + (k : Int) < n := by omega
      obtain ⟨b, o, rfl, hc⟩ := hl.rd.byte hlt
      have hdc := dec_cons (l := l) (i := at_ + k) (by rw [L.out]; exact hlt) k acc
      obtain ⟨hk9, hac, hde⟩ := H.out
      rw [hdc] at hde
      clear hdc H
      have hx := (Gf.get l (at_ + k)).toNat_lt
      obtain ⟨x, hx'⟩ : ∃ x, (Gf.get l (at_ + k)).toNat = x := ⟨_, rfl⟩
      rw [hx'] at hc hde hx
      clear hx'
      have pw : (2 : Nat) ^ (7 * (k + 1)) = 128 * 2 ^ (7 * k) := by rw [show 7 * (k + 1) = 7 + 7 * k by omega, Nat.pow_add]
      have p9 : (2 : Nat) ^ (7 * k) ≤ 2 ^ 63 := Nat.pow_le_pow_right (by omega) (by omega)
      have p8 : ¬ 8 < k → (2 : Nat) ^ (7 * k) ≤ 2 ^ 56 := fun h => Nat.pow_le_pow_right (by omega) (by omega)
      rw [← HPP.out] at hde hac pw p9 p8
      have fin : ∀ e w', e = Ending.returned (.tuple #[.int .u64 0, .int .i64 0, .int .i64 10]) ∧ wr = w' → ((0 < k ∧ x = 0) ∨ (8 < k ∧ 1 < x)) → (e = .returned (.tuple #[.int .u64 (N : Int), .int .i64 (toB at_ E u : Int), .int .i64 E]) ∧ wr = w') := fun e w' h hb => by
        rw [if_pos hb] at hde
        injection hde with a1 a2
        injection a2 with a2 a3
        subst a1 a2 a3
        exact h
      have sum : ∀ y : Nat, y ≤ 127 → ¬ (8 < k ∧ 1 < y) → IntKind.u64.wrap ((acc : Int) + IntKind.u64.wrap ((P : Int) * (y : Int))) = ((acc + y * P : Nat) : Int) := fun y hy hb => by
        have hlt : y * P ≤ 2 ^ 63 := by
          by_cases h8 : 8 < k
          · have hx1 : y ≤ 1 := by omega
            calc y * P ≤ 1 * P := Nat.mul_le_mul_right _ hx1
              _ ≤ 2 ^ 63 := by omega
          · calc y * P ≤ 127 * 2 ^ 56 := Nat.mul_le_mul (by omega) (p8 h8)
              _ ≤ 2 ^ 63 := by omega
        rw [show ((P : Int) * (y : Int)) = ((y * P : Nat) : Int) by push_cast; exact Int.mul_comm _ _]
        generalize y * P = s at hlt ⊢
        rw [IntWalk.u64_in (s : Int) (by omega), IntWalk.u64_in ((acc : Int) + (s : Int)) (by omega)]
        omega
      have last : x < 128 → ¬ ((0 < k ∧ x = 0) ∨ (8 < k ∧ 1 < x)) → N = acc + x * P ∧ (toB at_ E u : Int) = (at_ : Int) + ((k : Int) + 1) ∧ E = 0 := fun h1 h2 => by
        rw [if_neg h2, if_pos h1] at hde
        injection hde with a1 a2
        injection a2 with a2 a3
        subst a1 a2 a3
        refine ⟨rfl, ?_, rfl⟩
        unfold toB
        rw [if_pos rfl]
        omega
      have more : ¬ x < 128 → ¬ ((0 < k ∧ x = 0) ∨ (8 < k ∧ 1 < x)) → at_ + (k + 1) ≤ n ∧ RowKit.Hid (P * 128 = 2 ^ (7 * (k + 1))) ∧ RowKit.Hid (k + 1 ≤ 9 ∧ acc + (x - 128) * P < 2 ^ (7 * (k + 1)) ∧ Pl.dec (l.drop (at_ + (k + 1))) (k + 1) (acc + (x - 128) * P) = (E, N, u)) := fun h1 h2 => by
        rw [if_neg h2, if_neg h1, show x % 128 = x - 128 by omega] at hde
        refine ⟨by omega, Lib.hid (by omega), Lib.hid ⟨by omega, ?_, hde⟩⟩
        rw [pw]
        have : (x - 128) * P ≤ 127 * P := Nat.mul_le_mul_right _ (by omega)
        omega
      have wm : ¬ 8 < k → IntKind.u64.wrap ((P : Int) * 128) = ((P * 128 : Nat) : Int) := fun h => by
        have := p8 h
        rw [IntWalk.u64_in _ (by omega)]
        omega
      have SUM := Lib.hid sum
      have LAST := Lib.hid last
      have MORE := Lib.hid more
      have FIN := Lib.hid fin
      have WM := Lib.hid wm
      clear sum last more pw p9 p8 wm fin hde hac
      by_cases k0 : 0 < k
      · have k0' : (1 : Int) < (k : Int) + 1 := by omega
        by_cases x0 : x = 0
        · have x0' : ((x : Int) == 0) = true := by subst x0; rfl
          clear hl
          go_wp2_with (fail)
          refine bodyPost_ret (results_tmp3 rfl _ _ _) rfl ?_
          exact FIN.out _ _ ⟨rfl, rfl⟩ (.inl ⟨k0, x0⟩)
        · have x0' : ((x : Int) == 0) = false := beq_eq_false_iff_ne.2 (by omega)
          by_cases k8 : 8 < k
          · have k8' : ((k : Int) + 1 == 10) = true := by have : k = 9 := by omega
                                                          subst this; rfl
            by_cases x1 : 1 < x
            · have x1' : (1 : Int) < (x : Int) := by omega
              clear hl
              go_wp2_with (fail)
              refine bodyPost_ret (results_tmp3 rfl _ _ _) rfl ?_
              exact FIN.out _ _ ⟨rfl, rfl⟩ (.inr ⟨k8, x1⟩)
            · have x1' : ¬ (1 : Int) < (x : Int) := by omega
              have xs : (x : Int) < 128 := by omega
              clear hl
              go_wp2_with (fail)
              refine bodyPost_ret (results_tmp3 rfl _ _ _) rfl ?_
              obtain ⟨b1, b2, b3⟩ := LAST.out (by omega) (by omega)
              rw [SUM.out x (by omega) (by omega), b1, b2, b3]
              exact ⟨rfl, rfl⟩
          · have k8' : ((k : Int) + 1 == 10) = false := beq_eq_false_iff_ne.2 (by omega)
            by_cases xs : x < 128
            · have xs' : (x : Int) < 128 := by omega
              clear hl
              go_wp2_with (fail)
              refine bodyPost_ret (results_tmp3 rfl _ _ _) rfl ?_
              obtain ⟨b1, b2, b3⟩ := LAST.out (by omega) (by omega)
              rw [SUM.out x (by omega) (by omega), b1, b2, b3]
              exact ⟨rfl, rfl⟩
            · have xs' : ¬ (x : Int) < 128 := by omega
              obtain ⟨y, hy⟩ : ∃ y : Nat, (x : Int) - 128 = (y : Int) ∧ y = x - 128 := ⟨x - 128, by omega, rfl⟩
              have y1 : (x : Int) - 128 = (y : Int) := hy.1
              have Y2 := Lib.hid hy.2
              have y3 : y ≤ 127 := by omega
              clear hl hy
              go_wp2_with (fail)
              obtain ⟨b1, b2, b3⟩ := MORE.out (by omega) (by omega)
              rw [SUM.out y (by omega) (by omega), WM.out (by omega), Y2.out]
              refine ⟨⟨k + 1, acc + (x - 128) * P, P * 128, rfl, rfl, by go_num, b1, b2, b3, trivial⟩, by simp [intOf]; omega⟩
      · have k0' : ¬ (1 : Int) < (k : Int) + 1 := by omega
        have k8' : ((k : Int) + 1 == 10) = false := beq_eq_false_iff_ne.2 (by omega)
        by_cases xs : x < 128
        · have xs' : (x : Int) < 128 := by omega
          clear hl
          go_wp2_with (fail)
          refine bodyPost_ret (results_tmp3 rfl _ _ _) rfl ?_
          obtain ⟨b1, b2, b3⟩ := LAST.out (by omega) (by omega)
          rw [SUM.out x (by omega) (by omega), b1, b2, b3]
          exact ⟨rfl, rfl⟩
        · have xs' : ¬ (x : Int) < 128 := by omega
          obtain ⟨y, hy⟩ : ∃ y : Nat, (x : Int) - 128 = (y : Int) ∧ y = x - 128 := ⟨x - 128, by omega, rfl⟩
          have y1 : (x : Int) - 128 = (y : Int) := hy.1
          have Y2 := Lib.hid hy.2
          have y3 : y ≤ 127 := by omega
          clear hl hy
          go_wp2_with (fail)
          obtain ⟨b1, b2, b3⟩ := MORE.out (by omega) (by omega)
          rw [SUM.out y (by omega) (by omega), WM.out (by omega), Y2.out]
          refine ⟨⟨k + 1, acc + (x - 128) * P, P * 128, rfl, rfl, by go_num, b1, b2, b3, trivial⟩, by simp [intOf]; omega⟩
    · have i1 : ((at_ : Int) + (k : Int) == (n : Int)) = true := by
        have : (at_ : Int) + (k : Int) = (n : Int) := by omega
        rw [this]
        exact beq_self_eq_true _
      have hde := H.out.2.2
      rw [dec_end (by rw [L.out]; omega)] at hde
      injection hde with a1 a2
      injection a2 with a2 a3
      subst a1 a2 a3
      clear hl
      go_wp2_with (fail)
      refine bodyPost_ret (results_tmp3 rfl _ _ _) rfl ?_
      exact ⟨rfl, rfl⟩
end Go.Proofs.Ytkanlbkfbkkknaa
