/- The contract of place.Read. -/
import Derived.Test.YtkanlbkfbkkknaaPlNext
import Derived.Test.YtkanlbkfbkkknaaPlaceFirst
import Derived.Test.YtkanlbkfbkkknaaPlaceFunc
import Derived.Test.YtkanlbkfbkkknaaRegChain
namespace Pl
theorem nextV_le (b : List UInt8) (s : St) (most : Nat) : nextV b s most ≤ most := by
  unfold nextV
  split
  · exact Nat.zero_le _
  · rename_i h
    unfold off at h
    exact Nat.le_of_not_lt fun q => h (.inr (.inr q))
end Pl
namespace Go.Proofs.Ytkanlbkfbkkknaa
open Go.RowKit
set_option linter.unusedSimpArgs false

set_option maxRecDepth 100000 in
set_option maxHeartbeats 4000000 in
theorem plRead_any (w : World) (A : Option Addr) (n c : Nat) (l : List UInt8) (hl : Bs w A n c l) : Calls Try.prog 21 #[.slice A n c] w fun r w' => ∃ v, r = .returned (.tuple #[v, .int .i64 (Pl.readE l)]) ∧ NewPs w w' v (Pl.readL l) := by
  obtain ⟨i0, hi0, hz0, hz1, hz2⟩ := info_parts int_info
  obtain ⟨i1, hi1, hy0, hy1, hy2⟩ := info_parts place_info
  have L := Lib.hid hl.len
  have HB := Lib.hid hl
  have hle := hl.le
  have hmx := hl.max
  clear hl
  suffices hmain : Calls Try.prog 21 #[.slice A n c] w fun r w' => ∃ v, r = .returned (.tuple #[v, .int .i64 (Pl.readE l)]) ∧ OwnPs True w.heap.size w' v (.slice none 0 0) (Pl.readL l) ∧ Ext w w' by
    refine hmain.mono ?_
    rintro r w' ⟨v, e, h1, h2⟩
    exact ⟨v, e, h1, h2⟩
  go_enter Try.func21, Try.ntmps21
  go_wp2_with (fail)
  obtain ⟨g, hg⟩ : ∃ g, w.heap.size = g := ⟨_, rfl⟩
  have e1 := heap_alloc_new w (.cells #[.slice A n c] 50)
  have e2 := heap_alloc_new (w.alloc (.cells #[.slice A n c] 50)) (.cells #[.int .i64 0] 3)
  have e3 := heap_alloc_new ((w.alloc (.cells #[.slice A n c] 50)).alloc (.cells #[.int .i64 0] 3)) (.cells #[.bool false] 4)
  have z1 : (w.alloc (.cells #[.slice A n c] 50)).heap.size = g + 1 := by rw [← hg]; simp
  have z2 : ((w.alloc (.cells #[.slice A n c] 50)).alloc (.cells #[.int .i64 0] 3)).heap.size = g + 1 + 1 := by rw [← hg]; simp
  have z3 : (((w.alloc (.cells #[.slice A n c] 50)).alloc (.cells #[.int .i64 0] 3)).alloc (.cells #[.bool false] 4)).heap.size = g + 3 := by rw [← hg]; simp
  rw [hg] at e1
  rw [z1] at e2
  rw [z2] at e3
  have x0 : Ext w (((w.alloc (.cells #[.slice A n c] 50)).alloc (.cells #[.int .i64 0] 3)).alloc (.cells #[.bool false] 4)) := ((Ext.alloc _ _).thenAlloc _).thenAlloc _
  have b1 : (((w.alloc (.cells #[.slice A n c] 50)).alloc (.cells #[.int .i64 0] 3)).alloc (.cells #[.bool false] 4)).heap[g]? = some (.cells #[.slice A n c] 50 (0, 0)) := (((Ext.alloc _ _).thenAlloc _).block g (by rw [z1]; omega)).trans e1
  have b2 : (((w.alloc (.cells #[.slice A n c] 50)).alloc (.cells #[.int .i64 0] 3)).alloc (.cells #[.bool false] 4)).heap[g + 1]? = some (.cells #[.int .i64 0] 3 (0, 0)) := ((Ext.alloc _ _).block (g + 1) (by rw [z2]; omega)).trans e2
  rw [hg]
  generalize ((w.alloc (.cells #[.slice A n c] 50)).alloc (.cells #[.int .i64 0] 3)).alloc (.cells #[.bool false] 4) = W at *
  have R0 : RdB w W g (g + 1) (g + 1 + 1) A n c l ⟨0, false⟩ := ⟨by rw [cell_of_row W _ _ _ _ _ b1]; rfl, by rw [cell_of_row W _ _ _ _ _ b2]; rfl, by rw [cell_of_row W _ _ _ _ _ e3]; rfl, frozen_of_row W _ _ _ _ b2, frozen_of_row W _ _ _ _ e3, HB.out, Nat.zero_le _, ⟨by omega, by omega, by omega⟩, ⟨by omega, by omega⟩, x0⟩
  have hc := next_at w W g (g + 1) (g + 1 + 1) A n c l ⟨0, false⟩ R0 1000 (by decide) 1000 rfl
  have BGE := Lib.hid (show w.heap.size ≤ g + 3 by omega)
  have GE := Lib.hid hg
  have SZ0 := Lib.hid z3
  clear e1 e2 e3 z1 z2 z3 b1 b2 x0 hg
  with_reducible refine hc.mono ?_
  rintro e w1 ⟨rfl, ew1⟩
  have R1 := Lib.hid (show RdB w w1 g (g + 1) (g + 1 + 1) A n c l (Pl.startS l) from ew1 ▸ R0.next 1000)
  have SZ1 := Lib.hid (show g + 3 ≤ w1.heap.size from ew1 ▸ (SZ0.out ▸ (nextW_kt W (g + 1) (g + 1 + 1) l ⟨0, false⟩ 1000).size))
  obtain ⟨M, hM⟩ : ∃ M, Pl.nextV l ⟨0, false⟩ 1000 = M := ⟨_, rfl⟩
  have hM1 : M ≤ 1000 := hM ▸ Pl.nextV_le l ⟨0, false⟩ 1000
  rw [hM]
  have EM := Lib.hid (show Pl.startN l = M from hM)
  clear hc ew1 R0 hM
  go_wp2_with (fail)
  go_loopw [7, 12] (fun s7 s12 wr => ∃ (j : Nat) (s : Pl.St) (d : List Pl.P), j ≤ M ∧ s12 = .int .i64 (j : Int) ∧ RowKit.Hid (OwnPs True (g + 3) wr s7 (.slice none 0 0) d) ∧ RowKit.Hid (RdB w wr g (g + 1) (g + 1 + 1) A n c l s) ∧ RowKit.Hid (Pl.gotL l = d ++ Pl.manyV l s (M - j) ∧ Pl.gotS l = Pl.manyS l s (M - j) ∧ d.length = j) ∧ RowKit.Hid (g + 3 ≤ wr.heap.size)) (fun _ s12 _ => M - (intOf s12).toNat)
  case atStart =>
    refine ⟨0, Pl.startS l, [], Nat.zero_le _, rfl, Lib.hid (OwnPs.nil _ _ _ _), R1, Lib.hid ⟨?_, ?_, rfl⟩, SZ1⟩
    · rw [List.nil_append, Nat.sub_zero, ← EM.out]; rfl
    · rw [Nat.sub_zero, ← EM.out]; rfl
  case round =>
    obtain ⟨j, s, d, hj, rfl, HW, RW, HP, SZ⟩ := hrel
    clear R1 SZ1
    by_cases hlt : j < M
    · have t1 : (j : Int) < M := by omega
      obtain ⟨wo, hwo⟩ : ∃ wo, wo = wr := ⟨_, rfl⟩
      subst hwo
      have hn := next_at w wo g (g + 1) (g + 1 + 1) A n c l s RW.out 1099511627776 (by decide) 1099511627776 rfl
      go_wp2_with (fail)
      with_reducible refine hn.mono ?_
      rintro e w1 ⟨rfl, ew1⟩
      have R1 := Lib.hid (show RdB w w1 g (g + 1) (g + 1 + 1) A n c l (Pl.lifeS l s) from ew1 ▸ RW.out.next 1099511627776)
      have K1 := Lib.hid (show Kt (g + 1) (g + 1 + 1) wo w1 from ew1 ▸ nextW_kt wo (g + 1) (g + 1 + 1) l s 1099511627776)
      obtain ⟨ep, hep⟩ : ∃ ep, Pl.nextV l s 1099511627776 = ep := ⟨_, rfl⟩
      have hep1 : ep ≤ 1099511627776 := hep ▸ Pl.nextV_le l s _
      rw [hep]
      have EP := Lib.hid hep
      clear hn ew1 hep
      go_wp2_with (fail)
      obtain ⟨p, hp⟩ : ∃ p, w1.heap.size = p := ⟨_, rfl⟩
      have HPO := Lib.hid (show wo.heap.size ≤ p from hp ▸ K1.out.size)
      have PGE := Lib.hid (show w.heap.size ≤ p ∧ g + 3 ≤ p from ⟨by have := BGE.out; have := SZ.out; have := HPO.out; omega, Nat.le_trans SZ.out HPO.out⟩)
      have PNE := Lib.hid (show p ≠ g + 1 ∧ p ≠ g + 1 + 1 from by have := PGE.out; omega)
      have HPB := Lib.hid (show g + 1 < p + 1 ∧ g + 1 + 1 < p + 1 from by have := PGE.out; omega)
      have bl := heap_alloc_new w1 (.cells #[.int .i64 (ep : Int), .slice none 0 0] 33)
      have x2 := Ext.alloc w1 (.cells #[.int .i64 (ep : Int), .slice none 0 0] 33)
      rw [hp] at bl
      rw [hp]
      generalize w1.alloc (.cells #[.int .i64 (ep : Int), .slice none 0 0] 33) = w2 at *
      have R2 := Lib.hid (R1.out.ex x2)
      have K2 := Lib.hid (K1.out.thenExt x2)
      have hn := next_at w w2 g (g + 1) (g + 1 + 1) A n c l (Pl.lifeS l s) R2.out 255 (by decide) 255 rfl
      clear x2 R1 K1 hp
      with_reducible refine hn.mono ?_
      rintro e w3 ⟨rfl, ew3⟩
      have R3 := Lib.hid (show RdB w w3 g (g + 1) (g + 1 + 1) A n c l (Pl.sideS l s) from ew3 ▸ R2.out.next 255)
      have KK := Lib.hid (show Kt (g + 1) (g + 1 + 1) w2 w3 from ew3 ▸ nextW_kt w2 (g + 1) (g + 1 + 1) l (Pl.lifeS l s) 255)
      have K3 := Lib.hid (K2.out.trans KK.out)
      have BL3 := Lib.hid ((KK.out.block p (Array.getElem?_eq_some_iff.1 bl).1 PNE.out.1 PNE.out.2).trans bl)
      obtain ⟨cnt, hcnt⟩ : ∃ cnt, Pl.nextV l (Pl.lifeS l s) 255 = cnt := ⟨_, rfl⟩
      have hcnt1 : cnt ≤ 255 := hcnt ▸ Pl.nextV_le l _ _
      rw [hcnt]
      have EC := Lib.hid (show Pl.sideN l s = cnt from hcnt)
      clear hn ew3 hcnt bl R2 K2 KK
      go_wp2_with (fail)
      go_loopw [19] (fun s19 wr => ∃ (i : Nat) (s9 : Pl.St) (vn : Value) (dn : List Int), i ≤ cnt ∧ s19 = .int .i64 (i : Int) ∧ RowKit.Hid (RdB w wr g (g + 1) (g + 1 + 1) A n c l s9) ∧ RowKit.Hid (Kt (g + 1) (g + 1 + 1) wo wr) ∧ RowKit.Hid (wr.heap[p]? = some (.cells #[.int .i64 (ep : Int), vn] 33 (0, 0))) ∧ RowKit.Hid (wr.ownsRow (p + 1) 3 1 vn i (icells dn)) ∧ RowKit.Hid (Pl.nodesV l (Pl.sideS l s) cnt = dn ++ Pl.nodesV l s9 (cnt - i) ∧ Pl.nodesS l (Pl.sideS l s) cnt = Pl.nodesS l s9 (cnt - i) ∧ dn.length = i)) (fun s19 _ => cnt - (intOf s19).toNat)
      case atStart => exact ⟨0, Pl.sideS l s, .slice none 0 0, [], Nat.zero_le _, rfl, R3, K3, BL3, Lib.hid (World.ownsRow_nil _ _ _ _), Lib.hid ⟨by rw [Nat.sub_zero]; rfl, by rw [Nat.sub_zero], rfl⟩⟩
      case round =>
        obtain ⟨i, s9, vn, dn, hi, rfl, R9, K9, BL9, O9, HD9⟩ := hrel
        clear R3 K3 BL3
        have hlen9 : (icells dn).length = i := by rw [icells_length]; exact HD9.out.2.2
        by_cases hlt2 : i < cnt
        · have t2 : (i : Int) < cnt := by omega
          have c9 : wr.cell? ⟨p, 1, none⟩ = some vn := by rw [cell_of_row wr _ _ _ _ _ BL9.out]; rfl
          have PLT9 := Lib.hid (show p < wr.drew.heap.size from (Array.getElem?_eq_some_iff.1 BL9.out).1)
          have hn9 := next_at w wr.drew g (g + 1) (g + 1 + 1) A n c l s9 (R9.out.ex (Ext.drew wr)) 256 (by decide) 256 rfl
          obtain ⟨x, hx⟩ : ∃ x, Pl.nextV l s9 256 = x := ⟨_, rfl⟩
          rw [hx] at hn9
          have HX := Lib.hid hx
          have HN9 := Lib.hid hn9
          clear hn9 hx
          go_wp2_with (fail)
          have hS9 : (fun W : World => Hid (W.cell? ⟨p, 1, none⟩ = some vn)) wr.drew := Lib.hid ((Ext.drew wr).cell c9)
          refine wp_region_T (S := (fun W : World => Hid (W.cell? ⟨p, 1, none⟩ = some vn))) 7 rfl rfl ?_
          refine takeC [] (i := 0) (v := ?_) rfl (by kernel_rfl) (by kernel_rfl) (by kernel_rfl) (by kernel_rfl) (by decide) (fun _ _ _ h => h) (by kernel_rfl) (Or.inl ⟨by kernel_rfl, ?_⟩) (by assumption) ?_
          rotate_left
          · (intro W9 hSw; go_simp; (try with_reducible rfl))
          try simp only [Act.put, List.setIfInBounds_toArray, List.set_cons_zero, List.set_cons_succ]
          refine takeC [] (i := 1) (v := ?_) rfl (by kernel_rfl) (by kernel_rfl) (by kernel_rfl) (by kernel_rfl) (by decide) (fun _ _ _ h => h) (by kernel_rfl) (Or.inl ⟨by kernel_rfl, ?_⟩) (by assumption) ?_
          rotate_left
          · (intro W9 hSw; (have k1 := hSw.out; clear hSw; skip); go_simp; (try with_reducible rfl))
          try simp only [Act.put, List.setIfInBounds_toArray, List.set_cons_zero, List.set_cons_succ]
          refine takeC [] (i := 2) (v := ?_) rfl (by kernel_rfl) (by kernel_rfl) (by kernel_rfl) (by kernel_rfl) (by decide) (fun _ _ _ h => h) (by kernel_rfl) (Or.inl ⟨by kernel_rfl, ?_⟩) (by assumption) ?_
          rotate_left
          · (intro W9 hSw; go_simp; (try with_reducible rfl))
          try simp only [Act.put, List.setIfInBounds_toArray, List.set_cons_zero, List.set_cons_succ]
          refine oneT (i := 3) rfl (by kernel_rfl) (fun K hK => ?_)
          rw [if_pos (by kernel_rfl)]
          go_wp2_with (fail)
          with_reducible refine (HN9.out).mono ?_
          rintro e w10 ⟨rfl, e10⟩
          have hS10 : (fun W : World => Hid (W.cell? ⟨p, 1, none⟩ = some vn)) w10 := Lib.hid ((World.cell?_of_block (a := ⟨p, 1, none⟩) ((e10 ▸ nextW_kt wr.drew (g + 1) (g + 1 + 1) l s9 256 : Kt (g + 1) (g + 1 + 1) wr.drew w10).block p PLT9.out PNE.out.1 PNE.out.2)).trans hS9.out)
          have R10 := Lib.hid (show RdB w w10 g (g + 1) (g + 1 + 1) A n c l (Pl.nextS l s9 256) from e10 ▸ (R9.out.ex (Ext.drew wr)).next 256)
          have K10 := Lib.hid (show Kt (g + 1) (g + 1 + 1) wo w10 from (K9.out.thenExt (Ext.drew wr)).trans (e10 ▸ nextW_kt wr.drew (g + 1) (g + 1 + 1) l s9 256))
          have O10 := Lib.hid (show w10.ownsRow (p + 1) 3 1 vn i (icells dn) from (e10 ▸ nextW_kt wr.drew (g + 1) (g + 1 + 1) l s9 256 : Kt (g + 1) (g + 1 + 1) wr.drew w10).own (ownsRow_ext O9.out (Ext.drew wr)) HPB.out.1 HPB.out.2)
          have B10 := Lib.hid (show w10.heap[p]? = _ from ((e10 ▸ nextW_kt wr.drew (g + 1) (g + 1 + 1) l s9 256 : Kt (g + 1) (g + 1 + 1) wr.drew w10).block p PLT9.out PNE.out.1 PNE.out.2).trans BL9.out)
          have SZ10 := Lib.hid (show p + 1 ≤ w10.heap.size from Nat.le_trans PLT9.out (e10 ▸ nextW_kt wr.drew (g + 1) (g + 1 + 1) l s9 256 : Kt (g + 1) (g + 1 + 1) wr.drew w10).size)
          clear e10
          go_wp2_with (fail)
          refine hK.out _ _ (fun _ => hS10) ?_
          clear hK K
          try simp only [Act.put, List.setIfInBounds_toArray, List.set_cons_zero, List.set_cons_succ]
          refine oneT (i := 4) rfl (by kernel_rfl) (fun K hK => ?_)
          rw [if_pos (by kernel_rfl)]
          go_wp2_with (fail)
          have hS11 : (fun W : World => Hid (W.cell? ⟨p, 1, none⟩ = some vn)) (w10.alloc (.cells #[.int .i64 (x : Int)] 3)) := Lib.hid ((Ext.alloc w10 _).cell hS10.out)
          refine hK.out _ _ (fun _ => hS11) ?_
          clear hK K
          try simp only [Act.put, List.setIfInBounds_toArray, List.set_cons_zero, List.set_cons_succ]
          refine oneT (i := 5) rfl (by kernel_rfl) (fun K hK => ?_)
          refine step_append_rd _ rfl (.tmp 22) (.tmp 25) 28 rfl (p + 1) 3 i0 _ 1 8 Try.underlying28 hi0 hz0 hz1 hz2 rfl (by omega) vn i (icells dn) (by simp [Act.eval]) ((O10.out).alloc _) (some ⟨w10.heap.size, 0, none⟩) 1 1 [.int .i64 (x : Int)] (by simp [Act.eval]) (Rd.lit w10 _ _) (by simp [Value.oneCell']) (by omega) (by unfold maxLen; omega) (by have := SZ10.out; simp; omega) ?_
          intro v12 w12 o12 g12 at12
          have hne12 : some p ≠ vn.ownBlock := fun e => by have := own_row O10.out _ e.symm; omega
          have B12 := Lib.hid (show w12.heap[p]? = _ from (g12.block p (by have := SZ10.out; simp; omega) hne12).trans ((Below.heap_alloc w10 _ _ (by have := SZ10.out; omega)).trans B10.out))
          have hS12 : (fun W : World => Hid (W.cell? ⟨p, 1, none⟩ = some vn)) w12 := Lib.hid (by rw [cell_of_row w12 _ _ _ _ _ B12.out]; rfl)
          have c12 := hS12.out
          have z12 : w12.frozen? ⟨p, 1, none⟩ = false := frozen_of_row w12 _ _ _ _ B12.out
          have K12 := Lib.hid (show Kt (g + 1) (g + 1 + 1) wo w12 from (K10.out.thenExt (Ext.alloc w10 _)).grown g12 (fun q hq => by have := own_row O10.out q hq; have := HPO.out; omega))
          have R12 := Lib.hid (show RdB w w12 g (g + 1) (g + 1 + 1) A n c l (Pl.nextS l s9 256) from (R10.out.ex (Ext.alloc w10 _)).kt (h' := 0) (k' := 0) (Ext.ofGrown ((R10.out.ex (Ext.alloc w10 (.cells #[.int .i64 (x : Int)] 3))).ext) g12 (fun q hq => by have := own_row O10.out q hq; have := PGE.out; omega)) (fun q hq => g12.block q (by have := SZ10.out; have := HPB.out; simp; omega) (fun e => by have := own_row O10.out q e.symm; have := HPB.out; omega)))
          have O12 := Lib.hid o12
          clear g12 at12 hne12
          obtain ⟨D12, d12, rfl, _, _⟩ := ownsRow_slice o12
          clear o12
          refine hK.out _ _ (fun _ => hS12) ?_
          clear hK K
          try simp only [Act.put, List.setIfInBounds_toArray, List.set_cons_zero, List.set_cons_succ]
          refine takeC [] (i := 6) (v := ?_) rfl (by kernel_rfl) (by kernel_rfl) (by kernel_rfl) (by kernel_rfl) (by decide) (fun _ _ _ h => h) (by kernel_rfl) (Or.inl ⟨by kernel_rfl, ?_⟩) (by assumption) ?_
          rotate_left
          · (intro W9 hSw; go_simp; (try with_reducible rfl))
          try simp only [Act.put, List.setIfInBounds_toArray, List.set_cons_zero, List.set_cons_succ]
          refine oneT (i := 7) rfl (by kernel_rfl) (fun K hK => ?_)
          rw [if_pos (by kernel_rfl)]
          go_wp2_with (fail)
          refine hK.out _ _ (fun h => absurd (show true = false from h) (by decide)) ?_
          clear hK K
          try simp only [Act.put, List.setIfInBounds_toArray, List.set_cons_zero, List.set_cons_succ]
          refine doneT (by kernel_rfl) ?_ _
          clear c12 c9 hS9 hS10 hS11
          go_wp2_with (fail)
          refine ⟨⟨i + 1, Pl.nextS l s9 256, .slice D12 (i + 1) d12, dn ++ [(x : Int)], by omega, by go_num, ?_, ?_, ?_, ?_, ?_⟩, by simp [intOf]; omega⟩
          · exact Lib.hid (R12.out.kt (h' := 0) (k' := 0) (R12.out.ext.set_ (p := ⟨p, 1, none⟩) PGE.out.1 _) (fun q hq => heap_setCell_other _ _ _ _ (by have := HPB.out; have := PGE.out; show q ≠ p; omega)))
          · exact Lib.hid (K12.out.set (p := ⟨p, 1, none⟩) (.inr (.inr HPO.out)) _)
          · exact Lib.hid (heap_setCell_same w12 p 1 _ _ (.slice D12 (i + 1) d12) B12.out)
          · have := ownsRow_far O12.out (p := ⟨p, 1, none⟩) (by show p < p + 1; omega) (.slice D12 (i + 1) d12)
            rw [icells_append]
            exact Lib.hid this
          · obtain ⟨a1, a2, a3⟩ := HD9.out
            refine Lib.hid ⟨?_, ?_, by rw [List.length_append, a3]; rfl⟩
            · rw [a1, show cnt - i = (cnt - (i + 1)) + 1 by omega, List.append_assoc]
              show dn ++ ((Pl.nextV l s9 256 : Int) :: Pl.nodesV l (Pl.nextS l s9 256) (cnt - (i + 1))) = _
              rw [HX.out]
              rfl
            · rw [a2, show cnt - i = (cnt - (i + 1)) + 1 by omega]
              rfl
        · have t2 : ¬ (i : Int) < cnt := by omega
          obtain rfl : i = cnt := by omega
          obtain ⟨a1, a2, a3⟩ := HD9.out
          rw [Nat.sub_self] at a1 a2
          have one1 : Pl.oneV l s = ((ep : Int), dn) := by
            show ((Pl.nextV l s 1099511627776 : Int), Pl.nodesV l (Pl.sideS l s) (Pl.sideN l s)) = _
            rw [EP.out, EC.out, a1]
            show ((ep : Int), dn ++ []) = _
            rw [List.append_nil]
          have one2 : Pl.oneS l s = s9 := by
            show Pl.nodesS l (Pl.sideS l s) (Pl.sideN l s) = _
            rw [EC.out, a2]
            rfl
          have ONE := Lib.hid (And.intro one1 one2)
          have c0 : wr.cell? ⟨p, 0, none⟩ = some (.int .i64 (ep : Int)) := by rw [cell_of_row wr _ _ _ _ _ BL9.out]; rfl
          obtain ⟨DD, dd, rfl, _, _⟩ := ownsRow_slice O9.out
          have c1 : wr.cell? ⟨p, 1, none⟩ = some (.slice DD i dd) := by rw [cell_of_row wr _ _ _ _ _ BL9.out]; rfl
          have hpl := (K9.out.ps HW.out (by omega) (by omega)).ext (Ext.alloc wr (.cells #[.int .i64 (ep : Int), .slice DD i dd] 33))
          obtain ⟨cs, o1, o2⟩ := hpl.cells
          have hnodes : Is (wr.alloc (.cells #[.int .i64 (ep : Int), .slice DD i dd] 33)) DD i dd dn := by
            exact (Own.mk (base := p + 1) (e := 3) O9.out).ints.ext (Ext.alloc _ _)
          have hoff : Off (wr.alloc (.cells #[.int .i64 (ep : Int), .slice DD i dd] 33)) u7 DD i := by
            intro hn q hq
            obtain ⟨gd, rfl, e1, e2⟩ := own_addr O9.out hn
            injection hq with hq
            obtain ⟨cs0, o0, _⟩ := HW.out.cells
            have hq' : gd = q := hq
            refine ⟨by simp; omega, fun e => ?_⟩
            have := (o0.lt q e).2
            have := HPO.out
            omega
          have hrd : Rd (wr.alloc (.cells #[.int .i64 (ep : Int), .slice DD i dd] 33)) 2 (some ⟨wr.heap.size, 0, none⟩) 1 [.int .i64 (ep : Int), .slice DD i dd] := Rd.lit2 wr _ _ _
          have HFREE := Lib.hid ((Free.of_own (base' := g + 3) O9.out (by have := PGE.out; omega)).ext (Ext.alloc wr (.cells #[.int .i64 (ep : Int), .slice DD i dd] 33)))
          have HBS := Lib.hid (show g + 3 ≤ (wr.alloc (.cells #[.int .i64 (ep : Int), .slice DD i dd] 33)).heap.size by have := SZ.out; have := K9.out.size; simp; omega)
          have hdl : d.length = j := HP.out.2.2
          have HLEN := Lib.hid o1.1
          have hR := R9.out.ex (Ext.alloc wr (.cells #[.int .i64 (ep : Int), .slice DD i dd] 33))
          have HR := Lib.hid hR
          have hjs : (d.length + 1) * 32 ≤ 140737488355328 := by omega
          have hjm : d.length + 1 ≤ maxLen := by unfold maxLen; omega
          clear hpl a1 a2 a3 one1 one2 hR
          go_upto_region 12 with (
            at_builtin
            refine wpList_append_rd _ rfl (.tmp 29) (.tmp 31) 24 rfl (g + 3) 33 i1 _ 2 32 Try.underlying24 hi1 hy0 hy1 hy2 rfl (by omega) u7 d.length cs rfl o1
              (some ⟨wr.heap.size, 0, none⟩) 1 1 [.int .i64 (ep : Int), .slice DD i dd] rfl hrd (by simp [Value.oneCell']) hjs hjm HBS.out ?_
            intro v1 wf ho hgr hat)
          have HF0 := Lib.hid (OwnPs.push o2 HLEN.out hnodes hoff hoff.none (fun _ => HFREE.out) ho hgr hat)
          have RF0 := Lib.hid (HR.out.kt (h' := 0) (k' := 0) (HR.out.ext.ofGrown hgr (fun q hq => by have := own_row o1 q hq; have := BGE.out; omega)) (fun q hq => hgr.block q (by have := HBS.out; omega) (fun e => by have := own_row o1 q e.symm; omega)))
          have SZF := Lib.hid (Nat.le_trans HBS.out hgr.size)
          have c2f := RF0.out.c2
          clear hgr hat ho o1 o2 hnodes hoff hrd HFREE HLEN c0 c1
          obtain ⟨p1, p2, p3⟩ := HP.out
          rw [show M - j = (M - (j + 1)) + 1 by omega] at p1 p2
          replace p1 : Pl.gotL l = d ++ (Pl.oneV l s :: (if (Pl.oneS l s).bad = true then [] else Pl.manyV l (Pl.oneS l s) (M - (j + 1)))) := p1
          replace p2 : Pl.gotS l = (if (Pl.oneS l s).bad = true then Pl.oneS l s else Pl.manyS l (Pl.oneS l s) (M - (j + 1))) := p2
          rw [ONE.out.1, ONE.out.2] at p1
          rw [ONE.out.2] at p2
          cases hbd : s9.bad with
          | true =>
            rw [if_pos hbd] at p1 p2
            rw [hbd] at c2f
            have HF : RowKit.Hid (OwnPs True (g + 3) wf v1 (.slice none 0 0) (Pl.gotL l)) := by rw [p1]; exact HF0
            have RF : RowKit.Hid (RdB w wf g (g + 1) (g + 1 + 1) A n c l (Pl.gotS l)) := by rw [p2]; exact RF0
            clear HF0 RF0 p1 p2 p3 hbd
            go_upto_region 14 with (fail)
            clear c2f
            obtain ⟨VA, vc, rfl, hps⟩ := HF.out.ps
            have hall := all_any wf VA (Pl.gotL l).length vc (Pl.gotL l) hps
            have c0f := RF.out.c0
            have c1f := RF.out.c1
            have c2f := RF.out.c2
            have X := Lib.hid RF.out.ext
            by_cases hbad : (Pl.gotS l).bad = true
            · rw [hbad] at c2f
              have hg : ¬ Pl.Good l := fun q => by rw [q.1] at hbad; cases hbad
              have E1 := Lib.hid (show Pl.readE l = 100 from if_neg hg)
              have E2 := Lib.hid (show Pl.readL l = [] from if_neg hg)
              clear hall hps hbad hg
              go_wp2_with (fail)
              refine bodyPost_ret (results_tmp2 rfl _ _ _) rfl ?_
              rw [E1.out, E2.out]
              exact ⟨_, rfl, OwnPs.nil _ _ _ _, X.out⟩
            · have hbad' : (Pl.gotS l).bad = false := by cases hq : (Pl.gotS l).bad with | false => rfl | true => exact absurd hq hbad
              rw [hbad'] at c2f
              by_cases hat : (Pl.gotS l).at_ = n
              · have hat' : (((Pl.gotS l).at_ : Int) != (n : Int)) = false := by rw [hat]; simp
                by_cases hA : Pl.All (Pl.gotL l)
                · rw [decide_eq_true hA] at hall
                  have hg : Pl.Good l := ⟨hbad', by rw [hat, L.out], hA⟩
                  have E1 := Lib.hid (show Pl.readE l = 0 from if_pos hg)
                  have E2 := Lib.hid (show Pl.readL l = Pl.gotL l from if_pos hg)
                  clear hps hbad hbad' hg hat hA
                  go_wp2_with (fail)
                  with_reducible refine hall.mono ?_
                  rintro e wz ⟨rfl, xz⟩
                  clear hall
                  go_wp2_with (fail)
                  refine bodyPost_ret (results_tmp2 rfl _ _ _) rfl ?_
                  rw [E1.out, E2.out]
                  exact ⟨_, rfl, (HF.out.ext xz).lower BGE.out, X.out.trans xz⟩
                · rw [decide_eq_false hA] at hall
                  have hg : ¬ Pl.Good l := fun q => hA q.2.2
                  have E1 := Lib.hid (show Pl.readE l = 100 from if_neg hg)
                  have E2 := Lib.hid (show Pl.readL l = [] from if_neg hg)
                  clear hps hbad hbad' hg hat hA
                  go_wp2_with (fail)
                  with_reducible refine hall.mono ?_
                  rintro e wz ⟨rfl, xz⟩
                  clear hall
                  go_wp2_with (fail)
                  refine bodyPost_ret (results_tmp2 rfl _ _ _) rfl ?_
                  rw [E1.out, E2.out]
                  exact ⟨_, rfl, OwnPs.nil _ _ _ _, X.out.trans xz⟩
              · have hat' : (((Pl.gotS l).at_ : Int) != (n : Int)) = true := by simp; omega
                have hg : ¬ Pl.Good l := fun q => hat (q.2.1.trans L.out)
                have E1 := Lib.hid (show Pl.readE l = 100 from if_neg hg)
                have E2 := Lib.hid (show Pl.readL l = [] from if_neg hg)
                clear hall hps hbad hbad' hg hat
                go_wp2_with (fail)
                refine bodyPost_ret (results_tmp2 rfl _ _ _) rfl ?_
                rw [E1.out, E2.out]
                exact ⟨_, rfl, OwnPs.nil _ _ _ _, X.out⟩
          | false =>
            rw [if_neg (by rw [hbd]; decide)] at p1 p2
            rw [hbd] at c2f
            have PP := Lib.hid (And.intro p1 (And.intro p2 p3))
            clear p1 p2 p3 hbd
            go_wp2_with (fail)
            refine ⟨⟨j + 1, s9, d ++ [((ep : Int), dn)], by omega, by go_num, HF0, RF0, Lib.hid ⟨?_, PP.out.2.1, by rw [List.length_append, PP.out.2.2]; rfl⟩, SZF⟩, by simp [intOf]; omega⟩
            rw [PP.out.1, List.append_assoc]
            rfl
    · have t1 : ¬ (j : Int) < M := by omega
      obtain rfl : j = M := by omega
      obtain ⟨p1, p2, _⟩ := HP.out
      rw [Nat.sub_self] at p1 p2
      have q1 : Pl.gotL l = d := by rw [p1]; show d ++ [] = d; exact List.append_nil d
      have q2 : Pl.gotS l = s := p2
      have HF := HW
      have RF := RW
      rw [← q1] at HF
      rw [← q2] at RF
      obtain ⟨wf, hwf⟩ : ∃ wf, wf = wr := ⟨_, rfl⟩
      subst hwf
      clear HW RW HP p1 p2 q1 q2 SZ
      go_upto_region 14 with (fail)
      obtain ⟨VA, vc, rfl, hps⟩ := HF.out.ps
      have hall := all_any wf VA (Pl.gotL l).length vc (Pl.gotL l) hps
      have c0f := RF.out.c0
      have c1f := RF.out.c1
      have c2f := RF.out.c2
      have X := Lib.hid RF.out.ext
      by_cases hbad : (Pl.gotS l).bad = true
      · rw [hbad] at c2f
        have hg : ¬ Pl.Good l := fun q => by rw [q.1] at hbad; cases hbad
        have E1 := Lib.hid (show Pl.readE l = 100 from if_neg hg)
        have E2 := Lib.hid (show Pl.readL l = [] from if_neg hg)
        clear hall hps hbad hg
        go_wp2_with (fail)
        refine bodyPost_ret (results_tmp2 rfl _ _ _) rfl ?_
        rw [E1.out, E2.out]
        exact ⟨_, rfl, OwnPs.nil _ _ _ _, X.out⟩
      · have hbad' : (Pl.gotS l).bad = false := by cases hq : (Pl.gotS l).bad with | false => rfl | true => exact absurd hq hbad
        rw [hbad'] at c2f
        by_cases hat : (Pl.gotS l).at_ = n
        · have hat' : (((Pl.gotS l).at_ : Int) != (n : Int)) = false := by rw [hat]; simp
          by_cases hA : Pl.All (Pl.gotL l)
          · rw [decide_eq_true hA] at hall
            have hg : Pl.Good l := ⟨hbad', by rw [hat, L.out], hA⟩
            have E1 := Lib.hid (show Pl.readE l = 0 from if_pos hg)
            have E2 := Lib.hid (show Pl.readL l = Pl.gotL l from if_pos hg)
            clear hps hbad hbad' hg hat hA
            go_wp2_with (fail)
            with_reducible refine hall.mono ?_
            rintro e wz ⟨rfl, xz⟩
            clear hall
            go_wp2_with (fail)
            refine bodyPost_ret (results_tmp2 rfl _ _ _) rfl ?_
            rw [E1.out, E2.out]
            exact ⟨_, rfl, (HF.out.ext xz).lower BGE.out, X.out.trans xz⟩
          · rw [decide_eq_false hA] at hall
            have hg : ¬ Pl.Good l := fun q => hA q.2.2
            have E1 := Lib.hid (show Pl.readE l = 100 from if_neg hg)
            have E2 := Lib.hid (show Pl.readL l = [] from if_neg hg)
            clear hps hbad hbad' hg hat hA
            go_wp2_with (fail)
            with_reducible refine hall.mono ?_
            rintro e wz ⟨rfl, xz⟩
            clear hall
            go_wp2_with (fail)
            refine bodyPost_ret (results_tmp2 rfl _ _ _) rfl ?_
            rw [E1.out, E2.out]
            exact ⟨_, rfl, OwnPs.nil _ _ _ _, X.out.trans xz⟩
        · have hat' : (((Pl.gotS l).at_ : Int) != (n : Int)) = true := by simp; omega
          have hg : ¬ Pl.Good l := fun q => hat (q.2.1.trans L.out)
          have E1 := Lib.hid (show Pl.readE l = 100 from if_neg hg)
          have E2 := Lib.hid (show Pl.readL l = [] from if_neg hg)
          clear hall hps hbad hbad' hg hat
          go_wp2_with (fail)
          refine bodyPost_ret (results_tmp2 rfl _ _ _) rfl ?_
          rw [E1.out, E2.out]
          exact ⟨_, rfl, OwnPs.nil _ _ _ _, X.out⟩
end Go.Proofs.Ytkanlbkfbkkknaa
