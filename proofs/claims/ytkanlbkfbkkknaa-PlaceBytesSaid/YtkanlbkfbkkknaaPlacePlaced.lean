/- The contract of the laws' placed: placements with some moves. -/
import Derived.Test.YtkanlbkfbkkknaaPlaceMoveAny
import Derived.StillTailTactics
import Derived.Test.YtkanlbkfbkkknaaPlaceOf
namespace Go.Proofs.Ytkanlbkfbkkknaa
open Go.RowKit

/-- A slice of pairs of bytes. -/
structure Ms (w : World) (A : Option Addr) (n c : Nat) (l : List (UInt8 × UInt8)) : Prop where
  len : l.length = n
  le : n ≤ c
  max : c ≤ 9223372036854775807
  rd : ∀ k, (hk : k < l.length) → ∃ b off, A = some ⟨b, off, none⟩ ∧ w.cell? ⟨b, off + k * 2, none⟩ = some (.int .u8 (l[k].1.toNat : Int)) ∧ w.cell? ⟨b, off + k * 2 + 1, none⟩ = some (.int .u8 (l[k].2.toNat : Int))
theorem Ms.ext {w w' : World} {A : Option Addr} {n c : Nat} {l : List (UInt8 × UInt8)} (h : Ms w A n c l) (hx : Ext w w') : Ms w' A n c l :=
  ⟨h.len, h.le, h.max, fun k hk => by
    obtain ⟨b, off, e, h1, h2⟩ := h.rd k hk
    exact ⟨b, off, e, hx.cell h1, hx.cell h2⟩⟩

set_option maxRecDepth 100000 in
set_option maxHeartbeats 2000000 in
theorem placed_any (w : World) (x y z : UInt8) (A : Option Addr) (n c : Nat) (ms : List (UInt8 × UInt8)) (hm : Ms w A n c ms) :
    Calls Try.prog 10 #[.agg #[.int .u8 (x.toNat : Int), .int .u8 (y.toNat : Int), .int .u8 (z.toNat : Int)], .slice A n c] w fun r w' => ∃ B m d, r = .returned (.tuple #[.slice B m d, .bool true]) ∧ Ps w' B m d (Pl.placed x y z ms) ∧ Ext w w' := by
  have hmax := hm.max
  have hle := hm.le
  have L := Lib.hid hm.len
  have lx := x.toNat_lt
  have ly := y.toNat_lt
  have lz := z.toNat_lt
  go_enter Try.func10, Try.ntmps10
  go_wp2
  have hb : (w.alloc (.cells #[.int .u8 (x.toNat : Int), .int .u8 (y.toNat : Int), .int .u8 (z.toNat : Int)] 22)).heap[w.heap.size]? = some (.cells #[.int .u8 (x.toNat : Int), .int .u8 (y.toNat : Int), .int .u8 (z.toNat : Int)] 22 (0, 0)) := heap_alloc_new w _
  have x0 : Ext w (w.alloc (.cells #[.int .u8 (x.toNat : Int), .int .u8 (y.toNat : Int), .int .u8 (z.toNat : Int)] 22)) := Ext.alloc _ _
  generalize (w.alloc (.cells #[.int .u8 (x.toNat : Int), .int .u8 (y.toNat : Int), .int .u8 (z.toNat : Int)] 22)) = W at *
  have c1 : W.cell? ⟨w.heap.size, 1, none⟩ = some (.int .u8 (y.toNat : Int)) := by rw [cell_of_row W _ _ _ _ _ hb]; rfl
  have c2 : W.cell? ⟨w.heap.size, 2, none⟩ = some (.int .u8 (z.toNat : Int)) := by rw [cell_of_row W _ _ _ _ _ hb]; rfl
  clear hb
  obtain ⟨N, hN, hN1, hN2, hN3⟩ : ∃ N : Nat, 1 + (x.toNat : Int) % 20 = (N : Int) ∧ 1 ≤ N ∧ N ≤ 20 ∧ N = 1 + x.toNat % 20 := ⟨1 + x.toNat % 20, by omega, by omega, by omega, rfl⟩
  rw [hN]
  have HN3 := Lib.hid hN3
  have hlt : y.toNat % N < N := Nat.mod_lt _ (by omega)
  have hN0 : ¬ N = 0 := by omega
  clear hN hN3
  have hcall : ∀ W' : World, Calls Try.prog 15 #[.int .i64 (N : Int), .int .i64 (IntKind.i64.wrap (1 + (IntKind.i64.wrap (y.toNat : Int)).tmod (N : Int))), .int .i64 (IntKind.i64.wrap (1 + IntKind.i64.wrap ((z.toNat : Int).tmod 40)))] W' fun r w' => ∃ v, r = .returned (.tuple #[v, .int .i64 0]) ∧ NewPs W' w' v (Pl.made x y z) := by
    intro W'
    have t0 : IntKind.i64.wrap (y.toNat : Int) = (y.toNat : Int) := IntWalk.i64_in _ (by omega)
    have t1 : (z.toNat : Int).tmod 40 = ((z.toNat % 40 : Nat) : Int) := tmod_nat z.toNat 40
    have t2 : IntKind.i64.wrap ((z.toNat % 40 : Nat) : Int) = ((z.toNat % 40 : Nat) : Int) := IntWalk.i64_in _ (by omega)
    have h2 : IntKind.i64.wrap (1 + IntKind.i64.wrap ((z.toNat : Int).tmod 40)) = ((1 + z.toNat % 40 : Nat) : Int) := by
      rw [t1, t2, IntWalk.i64_in _ (by omega)]; omega
    have h1 : IntKind.i64.wrap (1 + (IntKind.i64.wrap (y.toNat : Int)).tmod (N : Int)) = ((1 + y.toNat % N : Nat) : Int) := by
      rw [t0, tmod_nat, IntWalk.i64_in _ (by omega)]; omega
    rw [h1, h2]
    have h := first_ok W' N (1 + y.toNat % N) (1 + z.toNat % 40) (by rw [HN3.out]; exact Pl.made_ok x y z)
    unfold Pl.made
    rw [← HN3.out]
    exact h
  have HC := Lib.hid hcall
  clear hcall
  have n1 : (0 : Int) ≤ ((y.toNat % N : Nat) : Int) := by omega
  have n2 : ((y.toNat % N : Nat) : Int) < 20 := by omega
  go_region_held3 (fun w' => w'.cell? ⟨w.heap.size, 1, none⟩ = some (.int .u8 (y.toNat : Int)) ∧ w'.cell? ⟨w.heap.size, 2, none⟩ = some (.int .u8 (z.toNat : Int)))
    (first | go_keep | exact ⟨hv.ext.cell c1, hv.ext.cell c2⟩) (first | ((with_reducible refine (HC.out _).mono ?_); rintro r w1 ⟨v, rfl, hv⟩))
  go_wp2
  obtain ⟨B0, d0, rfl, hp0⟩ := hv.ps
  have hx1 := (x0.trans (Ext.drewN W 1)).trans hv.ext
  clear hv HC
  all_goals
    go_loopw [7, 9] (fun v i wr => ∃ (k : Nat) (B : Option Addr) (m d : Nat), k ≤ n ∧ k ≤ 8 ∧ i = .int .i64 k ∧ v = .slice B m d ∧ Ps wr B m d (Pl.placedTo x y z ms k) ∧ Ext w wr) (fun _ i _ => n - (intOf i).toNat)
    case atStart => exact ⟨0, B0, _, d0, by omega, by omega, rfl, rfl, hp0, hx1⟩
    case round =>
      obtain ⟨k, B, m, d, hk, hk8, rfl, rfl, hp, hx⟩ := hrel
      by_cases hlt : k < n ∧ k < 8
      · obtain ⟨hlt1, hlt2⟩ := hlt
        have q1 : (k : Int) < n := by omega
        have q2 : (k : Int) < 8 := by omega
        have hkl : k < ms.length := by rw [L.out]; exact hlt1
        obtain ⟨b2, o2, rfl, r1, r2⟩ := (hm.ext hx).rd k hkl
        obtain ⟨hall, hlow, _⟩ := Pl.placedTo_facts x y z ms k hk8
        have hsu := Pl.placedTo_succ (x := x) (y := y) (z := z) hkl
        generalize hmm : ms[k] = mk at *
        have l1 := mk.1.toNat_lt
        have l2 := mk.2.toNat_lt
        have hcall : ∀ W' : World, Ext wr W' → Calls Try.prog 12 #[.slice B m d, .int .i64 (IntKind.i64.wrap ((mk.1.toNat : Int).tmod 40)), .int .i64 (IntKind.i64.wrap ((mk.2.toNat : Int).tmod 40))] W' fun r w' => ∃ v s, r = .returned (.tuple #[v, s, .int .i64 (Pl.moveE (Pl.placedTo x y z ms k) ((mk.1.toNat : Int) % 40) ((mk.2.toNat : Int) % 40))]) ∧ NewPs W' w' v (Pl.moveL (Pl.placedTo x y z ms k) ((mk.1.toNat : Int) % 40) ((mk.2.toNat : Int) % 40)) ∧ NewInts W' w' s (Pl.moveG (Pl.placedTo x y z ms k) ((mk.1.toNat : Int) % 40) ((mk.2.toNat : Int) % 40)) := by
          intro W' hW
          have t1 : (mk.1.toNat : Int).tmod 40 = (mk.1.toNat : Int) % 40 := Int.tmod_eq_emod_of_nonneg (by omega)
          have t2 : (mk.2.toNat : Int).tmod 40 = (mk.2.toNat : Int) % 40 := Int.tmod_eq_emod_of_nonneg (by omega)
          have t3 : IntKind.i64.wrap ((mk.1.toNat : Int) % 40) = (mk.1.toNat : Int) % 40 := IntWalk.i64_in _ (by omega)
          have t4 : IntKind.i64.wrap ((mk.2.toNat : Int) % 40) = (mk.2.toNat : Int) % 40 := IntWalk.i64_in _ (by omega)
          rw [t1, t2, t3, t4]
          exact move_any W' B m d _ (hp.ext hW) _ _
        have HC := Lib.hid hcall
        have HM := Lib.hid hmm
        have HS := Lib.hid hsu
        have HA := Lib.hid hall
        clear hcall hmm hsu hall hlow
        obtain ⟨wo, rfl⟩ : ∃ wo : World, wo = wr := ⟨_, rfl⟩
        go_wp2
        go_region_held3 (fun w' => w'.cell? ⟨b2, o2 + k * 2, none⟩ = some (.int .u8 (mk.1.toNat : Int)) ∧ w'.cell? ⟨b2, o2 + k * 2 + 1, none⟩ = some (.int .u8 (mk.2.toNat : Int)))
          (first | go_keep | exact ⟨hv.ext.cell r1, hv.ext.cell r2⟩) (first | ((with_reducible refine (HC.out wo.drew (Ext.drew wo)).mono ?_); rintro r w1 ⟨v, s, rfl, hv, _⟩))
        by_cases hmay : Pl.MayMove (Pl.placedTo x y z ms k) ((mk.1.toNat : Int) % 40) ((mk.2.toNat : Int) % 40)
        · have hE : Pl.moveE (Pl.placedTo x y z ms k) ((mk.1.toNat : Int) % 40) ((mk.2.toNat : Int) % 40) = 0 := by unfold Pl.moveE; rw [if_pos HA.out, if_pos hmay]
          have hL : Pl.moveL (Pl.placedTo x y z ms k) ((mk.1.toNat : Int) % 40) ((mk.2.toNat : Int) % 40) = Pl.placedTo x y z ms (k + 1) := by unfold Pl.moveL; rw [if_pos ⟨HA.out, hmay⟩, HS.out]; unfold Pl.stepAt; rw [if_pos hmay]
          rw [hE]
          rw [hL] at hv
          clear hE hL
          obtain ⟨B', d', rfl, hp'⟩ := hv.ps
          have hx' := (hx.trans (Ext.drew wo)).trans hv.ext
          clear hv
          go_wp2
          exact ⟨⟨k + 1, B', _, d', by omega, by omega, by go_num, rfl, hp', hx'⟩, by simp [intOf]; omega⟩
        · have hE : Pl.moveE (Pl.placedTo x y z ms k) ((mk.1.toNat : Int) % 40) ((mk.2.toNat : Int) % 40) = 100 := by unfold Pl.moveE; rw [if_pos HA.out, if_neg hmay]
          have hL : Pl.placedTo x y z ms k = Pl.placedTo x y z ms (k + 1) := by rw [HS.out]; unfold Pl.stepAt; rw [if_neg hmay]
          rw [hE]
          have hx' := (hx.trans (Ext.drew wo)).trans hv.ext
          have hp' := hp.ext ((Ext.drew wo).trans hv.ext)
          rw [hL] at hp'
          clear hE hL hv
          go_wp2
          exact ⟨⟨k + 1, B, _, d, by omega, by omega, by go_num, rfl, hp', hx'⟩, by simp [intOf]; omega⟩
      · have hend : Pl.placedTo x y z ms k = Pl.placed x y z ms := by
          by_cases h8 : k = 8
          · rw [h8]; rfl
          · exact Pl.placedTo_end (by rw [L.out]; omega) hk8
        rw [hend] at hp
        have HE := Lib.hid hend
        clear hend
        by_cases hlt1 : k < n
        · have q1 : (k : Int) < n := by omega
          have q2 : ¬ (k : Int) < 8 := by omega
          go_wp2
          go_ret2
          exact ⟨B, m, d, rfl, hp, hx⟩
        · have q1 : ¬ (k : Int) < n := by omega
          go_wp2
          go_ret2
          exact ⟨B, m, d, rfl, hp, hx⟩
end Go.Proofs.Ytkanlbkfbkkknaa
