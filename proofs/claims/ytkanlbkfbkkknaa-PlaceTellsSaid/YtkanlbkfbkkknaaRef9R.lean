/- The contract of the document's Read (chapter 09). -/
import Derived.Test.YtkanlbkfbkkknaaRef9B
import Derived.Test.YtkanlbkfbkkknaaPlRead
namespace Pl
theorem next_bad {b : List UInt8} {s : St} {most : Nat} (h : s.bad = true) : (nextS b s most).bad = true := by unfold nextS; rw [if_pos (.inl h)]
theorem nodes_bad0 {b : List UInt8} {s : St} (h : s.bad = true) {k : Nat} : (nodesS b s k).bad = true := by
  induction k generalizing s with
  | zero => exact h
  | succ k ih => exact ih (next_bad h)
theorem nodes_bad {b : List UInt8} {s s9 : St} {cnt i : Nat} (h : nodesS b s cnt = nodesS b s9 (cnt - i)) (hi : i < cnt) (hb : (nextS b s9 256).bad = true) : (nodesS b s cnt).bad = true := by
  rw [h, show cnt - i = (cnt - (i + 1)) + 1 by omega]
  exact nodes_bad0 hb
theorem start_bad {b : List UInt8} (h : (nextS b ⟨0, false⟩ 1000).bad = true) : (gotS b).bad = true := by
  have : startN b = 0 := by
    unfold startN nextV
    refine if_pos (Classical.byContradiction fun q => ?_)
    unfold nextS at h
    rw [if_neg q] at h
    cases h
  unfold gotS
  rw [this]
  exact h
end Pl
namespace Go.Proofs.Ytkanlbkfbkkknaa
open Go.RowKit
open Pl (next_bad nodes_bad0 nodes_bad start_bad)

theorem one_bad {l : List UInt8} {s : Pl.St} {k : Nat} (h : (Pl.nodesS l (Pl.sideS l s) k).bad = true) (hk : k = Pl.sideN l s) : (Pl.oneS l s).bad = true := by subst hk; exact h
theorem not_good {l : List UInt8} {s : Pl.St} {j M : Nat} (h : Pl.gotS l = Pl.manyS l s (M - j)) (hb : (Pl.oneS l s).bad = true) (hj : j < M) : ¬ Pl.Good l := fun g => by
  have h1 := g.1
  rw [h, show M - j = (M - (j + 1)) + 1 by omega] at h1
  have h2 : Pl.manyS l s ((M - (j + 1)) + 1) = Pl.oneS l s := if_pos hb
  rw [h2, hb] at h1
  cases h1
/-- One number more. -/
theorem rNext (W : World) (A : Option Addr) (n c : Nat) (l : List UInt8) (hl : Bs W A n c l) (s : Pl.St) (hb : s.bad = false) (hs : s.at_ ≤ n) : ∃ (E : Int) (N T : Nat), Calls Try.prog 47 #[.slice A n c, .int .i64 (s.at_ : Int)] W (fun e w' => e = .returned (.tuple #[.int .u64 (N : Int), .int .i64 (T : Int), .int .i64 E]) ∧ W = w') ∧ ∀ most, ((E = 0 ∧ N ≤ most) → Pl.nextV l s most = N ∧ Pl.nextS l s most = ⟨T, false⟩ ∧ T ≤ n) ∧ (¬ (E = 0 ∧ N ≤ most) → (Pl.nextS l s most).bad = true) := by
  obtain ⟨E, N, u, hd⟩ : ∃ E N u, Pl.dec (l.drop s.at_) 0 0 = (E, N, u) := ⟨_, _, _, rfl⟩
  have hE : Pl.getE l s.at_ = E := by unfold Pl.getE; rw [hd]
  have hN : Pl.getN l s.at_ = N := by unfold Pl.getN; rw [hd]
  refine ⟨E, N, toB s.at_ E u, rGetUint_any W A n c l hl s.at_ hs E N u hd, fun most => ⟨fun h => ?_, fun h => ?_⟩⟩
  · have ho : ¬ Pl.off l s most := by
      unfold Pl.off
      rw [hE, hN, hb, h.1]
      intro q
      rcases q with q | q | q
      · cases q
      · exact q rfl
      · omega
    have hT : Pl.getTo l s.at_ = toB s.at_ E u := by unfold Pl.getTo toB; rw [hd, if_pos h.1]
    have hle := getTo_le (l := l) (i := s.at_) (by rw [hl.len]; exact hs)
    refine ⟨by unfold Pl.nextV; rw [if_neg ho, hN], by unfold Pl.nextS; rw [if_neg ho, hT], by rw [← hT, ← hl.len]; exact hle⟩
  · have ho : Pl.off l s most := by
      unfold Pl.off
      rw [hE, hN]
      by_cases h0 : E = 0
      · exact .inr (.inr (by have : ¬ N ≤ most := fun q => h ⟨h0, q⟩
                             omega))
      · exact .inr (.inl h0)
    unfold Pl.nextS
    rw [if_pos ho]
/-- What the document's Read hands back. -/
def GivesRd (w : World) (l : List UInt8) (r : Ending) (w' : World) : Prop := ∃ v, r = .returned (.tuple #[v, .int .i64 (Pl.readE l)]) ∧ OwnPs True w.heap.size w' v (.slice none 0 0) (Pl.readL l) ∧ Ext w w'
theorem GivesRd.no {w w' : World} {l : List UInt8} (h : ¬ Pl.Good l) (hx : Ext w w') : GivesRd w l (.returned (.tuple #[.slice none 0 0, .int .i64 100])) w' := by
  have e1 : Pl.readE l = 100 := if_neg h
  have e2 : Pl.readL l = [] := if_neg h
  unfold GivesRd
  rw [e1, e2]
  exact ⟨_, rfl, OwnPs.nil _ _ _ _, hx⟩
theorem GivesRd.yes {w w' : World} {l : List UInt8} {v : Value} (e1 : Pl.readE l = 0) (e2 : Pl.readL l = Pl.gotL l) (ho : OwnPs True w.heap.size w' v (.slice none 0 0) (Pl.gotL l)) (hx : Ext w w') : GivesRd w l (.returned (.tuple #[v, .int .i64 0])) w' := by
  unfold GivesRd
  rw [e1, e2]
  exact ⟨_, rfl, ho, hx⟩

set_option maxRecDepth 100000 in
set_option maxHeartbeats 4000000 in
theorem rRead_any (w : World) (A : Option Addr) (n c : Nat) (l : List UInt8) (hl : Bs w A n c l) : Calls Try.prog 28 #[.slice A n c] w (GivesRd w l) := by
  obtain ⟨i0, hi0, hz0, hz1, hz2⟩ := info_parts int_info
  obtain ⟨i1, hi1, hy0, hy1, hy2⟩ := info_parts place_info
  have HL := Lib.hid hl
  have hle := hl.le
  have hmx := hl.max
  clear hl
  go_enter Try.func28, Try.ntmps28
  go_wp2_with (fail)
  obtain ⟨E1, N1, T1, hc1, hs1⟩ := rNext w A n c l (HL.out.ext (Ext.refl w)) ⟨0, false⟩ rfl (Nat.zero_le _)
  try dsimp only at hc1
  try rw [show ((0 : Nat) : Int) = 0 from rfl] at hc1
  have HS1 := Lib.hid (hs1 1000)
  clear hs1
  by_cases hok1 : E1 = 0 ∧ N1 ≤ 1000
  · obtain ⟨h0, hN1⟩ := hok1
    have h1 : ¬ (1000 : Int) < (N1 : Int) := by omega
    obtain ⟨nv1, ns1, nt1⟩ := HS1.out.1 ⟨h0, hN1⟩
    subst h0
    have wi1 : IntKind.i64.wrap (N1 : Int) = (N1 : Int) := IntWalk.i64_in _ (by omega)
    have NS1 := Lib.hid (And.intro nv1 ns1)
    clear nv1 ns1 HS1
    go_wp2_with (fail)
    with_reducible refine hc1.mono ?_
    rintro e wz ⟨rfl, rfl⟩
    clear hc1
    go_wp2_with (fail)
    have SN := Lib.hid (show Pl.startN l = N1 from NS1.out.1)
    have SS1 := Lib.hid (show Pl.startS l = ⟨T1, false⟩ from NS1.out.2)
    have NT1 := Lib.hid nt1
    clear NS1
    go_loopw [5, 7, 8] (fun s5 s7 s8 wr => ∃ (j : Nat) (s : Pl.St) (d : List Pl.P), j ≤ N1 ∧ s5 = .int .i64 (s.at_ : Int) ∧ s8 = .int .i64 (j : Int) ∧ RowKit.Hid (OwnPs True w.heap.size wr s7 (.slice none 0 0) d) ∧ RowKit.Hid (Ext w wr) ∧ RowKit.Hid (Pl.gotL l = d ++ Pl.manyV l s (N1 - j) ∧ Pl.gotS l = Pl.manyS l s (N1 - j) ∧ d.length = j ∧ s.bad = false ∧ s.at_ ≤ n)) (fun _ _ s8 _ => N1 - (intOf s8).toNat)
    case atStart =>
      refine ⟨0, ⟨T1, false⟩, [], Nat.zero_le _, rfl, rfl, Lib.hid (OwnPs.nil _ _ _ _), Lib.hid (Ext.refl w), Lib.hid ⟨?_, ?_, rfl, rfl, NT1.out⟩⟩
      · rw [List.nil_append, Nat.sub_zero, ← SN.out, ← SS1.out]; rfl
      · rw [Nat.sub_zero, ← SN.out, ← SS1.out]; rfl
    case round =>
      obtain ⟨j, s, d, hj, rfl, rfl, HW, HX, HP⟩ := hrel
      by_cases hlt : j < N1
      · have t1 : (j : Int) < N1 := by omega
        obtain ⟨wo, hwo⟩ : ∃ wo, wo = wr := ⟨_, rfl⟩
        subst hwo
        clear h1
        obtain ⟨E2, N2, T2, hc2, hs2⟩ := rNext wo A n c l (HL.out.ext HX.out) s HP.out.2.2.2.1 HP.out.2.2.2.2
        try dsimp only at hc2
        try rw [show ((0 : Nat) : Int) = 0 from rfl] at hc2
        have HS2 := Lib.hid (hs2 1099511627776)
        clear hs2
        by_cases hok2 : E2 = 0 ∧ N2 ≤ 1099511627776
        · obtain ⟨h0, hN2⟩ := hok2
          have h1 : ¬ (1099511627776 : Int) < (N2 : Int) := by omega
          obtain ⟨nv2, ns2, nt2⟩ := HS2.out.1 ⟨h0, hN2⟩
          subst h0
          have wi2 : IntKind.i64.wrap (N2 : Int) = (N2 : Int) := IntWalk.i64_in _ (by omega)
          have NS2 := Lib.hid (And.intro nv2 ns2)
          clear nv2 ns2 HS2
          go_wp2_with (fail)
          with_reducible refine hc2.mono ?_
          rintro e wz ⟨rfl, rfl⟩
          clear hc2
          go_wp2_with (fail)
          obtain ⟨E3, N3, T3, hc3, hs3⟩ := rNext wo A n c l (HL.out.ext HX.out) ⟨T2, false⟩ rfl nt2
          try dsimp only at hc3
          try rw [show ((0 : Nat) : Int) = 0 from rfl] at hc3
          have HS3 := Lib.hid (hs3 255)
          clear hs3
          by_cases hok3 : E3 = 0 ∧ N3 ≤ 255
          · obtain ⟨h0, hN3⟩ := hok3
            have h1 : ¬ (255 : Int) < (N3 : Int) := by omega
            obtain ⟨nv3, ns3, nt3⟩ := HS3.out.1 ⟨h0, hN3⟩
            subst h0
            have wi3 : IntKind.i64.wrap (N3 : Int) = (N3 : Int) := IntWalk.i64_in _ (by omega)
            have NS3 := Lib.hid (And.intro nv3 ns3)
            clear nv3 ns3 HS3
            go_wp2_with (fail)
            with_reducible refine hc3.mono ?_
            rintro e wz ⟨rfl, rfl⟩
            clear hc3
            go_wp2_with (fail)
            obtain ⟨p, hp⟩ : ∃ p, wo.heap.size = p := ⟨_, rfl⟩
            have HPO := Lib.hid hp
            have PGE := Lib.hid (show w.heap.size ≤ p from hp ▸ HX.out.size)
            have bl := heap_alloc_new wo (.cells #[.int .i64 (N2 : Int), .slice none 0 0] 33)
            have x2 := Ext.alloc wo (.cells #[.int .i64 (N2 : Int), .slice none 0 0] 33)
            rw [hp] at bl
            rw [hp]
            generalize wo.alloc (.cells #[.int .i64 (N2 : Int), .slice none 0 0] 33) = w2 at *
            have EP := Lib.hid (show Pl.nextV l s 1099511627776 = N2 from NS2.out.1)
            have EC := Lib.hid (show Pl.sideN l s = N3 by show Pl.nextV l (Pl.nextS l s 1099511627776) 255 = N3; rw [NS2.out.2]; exact NS3.out.1)
            have SS := Lib.hid (show Pl.sideS l s = ⟨T3, false⟩ by show Pl.nextS l (Pl.nextS l s 1099511627776) 255 = _; rw [NS2.out.2]; exact NS3.out.2)
            have BL3 := Lib.hid bl
            have X3 := Lib.hid (HX.out.trans x2)
            have Y3 := Lib.hid x2
            have NT3 := Lib.hid nt3
            clear bl x2 hp NS2 NS3
            go_wp2_with (fail)
            go_loopw [13, 15] (fun s13 s15 wr => ∃ (i : Nat) (s9 : Pl.St) (vn : Value) (dn : List Int), i ≤ N3 ∧ s13 = .int .i64 (s9.at_ : Int) ∧ s15 = .int .i64 (i : Int) ∧ RowKit.Hid (Ext w wr) ∧ RowKit.Hid (Ext wo wr) ∧ RowKit.Hid (wr.heap[p]? = some (.cells #[.int .i64 (N2 : Int), vn] 33 (0, 0))) ∧ RowKit.Hid (wr.ownsRow (p + 1) 3 1 vn i (icells dn)) ∧ RowKit.Hid (Pl.nodesV l (Pl.sideS l s) N3 = dn ++ Pl.nodesV l s9 (N3 - i) ∧ Pl.nodesS l (Pl.sideS l s) N3 = Pl.nodesS l s9 (N3 - i) ∧ dn.length = i ∧ s9.bad = false ∧ s9.at_ ≤ n)) (fun _ s15 _ => N3 - (intOf s15).toNat)
            case atStart => exact ⟨0, ⟨T3, false⟩, .slice none 0 0, [], Nat.zero_le _, rfl, rfl, X3, Y3, BL3, Lib.hid (World.ownsRow_nil _ _ _ _), Lib.hid ⟨by rw [Nat.sub_zero, SS.out]; rfl, by rw [Nat.sub_zero, SS.out], rfl, rfl, NT3.out⟩⟩
            case round =>
              obtain ⟨i, s9, vn, dn, hi, rfl, rfl, X9, Y9, BL9, O9, HD9⟩ := hrel
              clear X3 Y3 BL3
              have hlen9 : (icells dn).length = i := by rw [icells_length]; exact HD9.out.2.2.1
              have c9 : wr.cell? ⟨p, 1, none⟩ = some vn := by rw [cell_of_row wr _ _ _ _ _ BL9.out]; rfl
              have PLT9 := Lib.hid (Array.getElem?_eq_some_iff.1 BL9.out).1
              by_cases hlt2 : i < N3
              · have t2 : (i : Int) < N3 := by omega
                obtain ⟨E4, N4, T4, hc4, hs4⟩ := rNext wr A n c l (HL.out.ext X9.out) s9 HD9.out.2.2.2.1 HD9.out.2.2.2.2
                try dsimp only at hc4
                try rw [show ((0 : Nat) : Int) = 0 from rfl] at hc4
                have HS4 := Lib.hid (hs4 256)
                clear hs4
                by_cases hok4 : E4 = 0 ∧ N4 ≤ 256
                · obtain ⟨h0, hN4⟩ := hok4
                  have h1 : ¬ (256 : Int) < (N4 : Int) := by omega
                  obtain ⟨nv4, ns4, nt4⟩ := HS4.out.1 ⟨h0, hN4⟩
                  subst h0
                  have wi4 : IntKind.i64.wrap (N4 : Int) = (N4 : Int) := IntWalk.i64_in _ (by omega)
                  have NS4 := Lib.hid (And.intro nv4 ns4)
                  clear nv4 ns4 HS4
                  go_wp2_with (fail)
                  with_reducible refine hc4.mono ?_
                  rintro e wz ⟨rfl, rfl⟩
                  clear hc4
                  go_upto_region 22 with (
                    at_builtin
                    refine wpList_append_rd _ rfl (.tmp 87) (.tmp 90) 28 rfl (p + 1) 3 i0 _ 1 8 Try.underlying28 hi0 hz0 hz1 hz2 rfl (by omega) vn i (icells dn) rfl (ownsRow_ext O9.out (Ext.alloc _ _)) (some ⟨wr.heap.size, 0, none⟩) 1 1 [.int .i64 (N4 : Int)] rfl (Rd.lit _ _ _) (by simp [Value.oneCell']) (by omega) (by unfold maxLen; omega) (by have := PLT9.out; simp; omega) ?_
                    intro v12 w12 o12 g12 at12
                    have hne12 : some p ≠ vn.ownBlock := fun e => by have := own_row O9.out _ e.symm; omega
                    have B12 := Lib.hid (show w12.heap[p]? = _ from (g12.block p (by have := PLT9.out; simp; omega) hne12).trans ((Below.heap_alloc wr _ _ PLT9.out).trans BL9.out))
                    have c12 : w12.cell? ⟨p, 1, none⟩ = some vn := by rw [cell_of_row w12 _ _ _ _ _ B12.out]; rfl
                    have z12 : w12.frozen? ⟨p, 1, none⟩ = false := frozen_of_row w12 _ _ _ _ B12.out
                    have Y12 := Lib.hid (show Ext wo w12 from (Y9.out.thenAlloc (.cells #[.int .i64 (N4 : Int)] 3)).ofGrown g12 (fun q hq => by have := own_row O9.out q hq; have := HPO.out; omega))
                    have O12 := Lib.hid o12
                    clear g12 at12 hne12 c9
                    obtain ⟨D12, d12, rfl, _, _⟩ := ownsRow_slice o12
                    clear o12)
                  go_wp2_with (fail)
                  refine ⟨⟨i + 1, Pl.nextS l s9 256, .slice D12 (i + 1) d12, dn ++ [(N4 : Int)], by omega, by rw [NS4.out.2], by go_num, Lib.hid ?_, Lib.hid ?_, Lib.hid ?_, Lib.hid ?_, Lib.hid ?_⟩, by simp [intOf]; omega⟩
                  · exact HX.out.trans (Y12.out.set_ (p := ⟨p, 1, none⟩) (by have := HPO.out; show wo.heap.size ≤ p; omega) _)
                  · exact Y12.out.set_ (p := ⟨p, 1, none⟩) (by have := HPO.out; show wo.heap.size ≤ p; omega) _
                  · exact heap_setCell_same w12 p 1 _ _ (.slice D12 (i + 1) d12) B12.out
                  · have := ownsRow_far O12.out (p := ⟨p, 1, none⟩) (by show p < p + 1; omega) (.slice D12 (i + 1) d12)
                    rw [icells_append]
                    exact this
                  · obtain ⟨a1, a2, a3, a4, a5⟩ := HD9.out
                    refine ⟨?_, ?_, by rw [List.length_append, a3]; rfl, by rw [NS4.out.2], by rw [NS4.out.2]; exact nt4⟩
                    · rw [a1, show N3 - i = (N3 - (i + 1)) + 1 by omega, List.append_assoc]
                      show dn ++ ((Pl.nextV l s9 256 : Int) :: Pl.nodesV l (Pl.nextS l s9 256) (N3 - (i + 1))) = _
                      rw [NS4.out.1]
                      rfl
                    · rw [a2, show N3 - i = (N3 - (i + 1)) + 1 by omega]
                      rfl
                · have hb4 : (Pl.nextS l s9 256).bad = true := HS4.out.2 hok4
                  have HBAD := Lib.hid (show ¬ Pl.Good l from not_good HP.out.2.1 (one_bad (nodes_bad (HD9.out.2.1) hlt2 hb4) EC.out.symm) hlt)
                  by_cases h0 : E4 = 0
                  · have h1 : (256 : Int) < (N4 : Int) := by
                      have : ¬ N4 ≤ 256 := fun q => hok4 ⟨h0, q⟩
                      omega
                    subst h0
                    clear hok4 hb4 HS4
                    go_wp2_with (fail)
                    with_reducible refine hc4.mono ?_
                    rintro e wz ⟨rfl, rfl⟩
                    clear hc4
                    go_wp2_with (fail)
                    refine bodyPost_ret (results_tmp2 rfl _ _ _) rfl ?_
                    exact GivesRd.no HBAD.out (X9.out)
                  · have h0' : (E4 != 0) = true := by simpa using h0
                    clear hok4 hb4 HS4 h0
                    go_wp2_with (fail)
                    with_reducible refine hc4.mono ?_
                    rintro e wz ⟨rfl, rfl⟩
                    clear hc4
                    go_wp2_with (fail)
                    refine bodyPost_ret (results_tmp2 rfl _ _ _) rfl ?_
                    exact GivesRd.no HBAD.out (X9.out)
              · have t2 : ¬ (i : Int) < N3 := by omega
                obtain rfl : i = N3 := by omega
                clear c9
                obtain ⟨a1, a2, a3, a4, a5⟩ := HD9.out
                rw [Nat.sub_self] at a1 a2
                have one1 : Pl.oneV l s = ((N2 : Int), dn) := by
                  show ((Pl.nextV l s 1099511627776 : Int), Pl.nodesV l (Pl.sideS l s) (Pl.sideN l s)) = _
                  rw [EP.out, EC.out, a1]
                  show ((N2 : Int), dn ++ []) = _
                  rw [List.append_nil]
                have one2 : Pl.oneS l s = s9 := by
                  show Pl.nodesS l (Pl.sideS l s) (Pl.sideN l s) = _
                  rw [EC.out, a2]
                  rfl
                have ONE := Lib.hid (And.intro one1 one2)
                have A45 := Lib.hid (And.intro a4 a5)
                have c0 : wr.cell? ⟨p, 0, none⟩ = some (.int .i64 (N2 : Int)) := by rw [cell_of_row wr _ _ _ _ _ BL9.out]; rfl
                obtain ⟨DD, dd, rfl, _, _⟩ := ownsRow_slice O9.out
                have c1 : wr.cell? ⟨p, 1, none⟩ = some (.slice DD i dd) := by rw [cell_of_row wr _ _ _ _ _ BL9.out]; rfl
                have hpl := (HW.out.ext Y9.out).ext (Ext.alloc wr (.cells #[.int .i64 (N2 : Int), .slice DD i dd] 33))
                obtain ⟨cs, o1, o2⟩ := hpl.cells
                have hnodes : Is (wr.alloc (.cells #[.int .i64 (N2 : Int), .slice DD i dd] 33)) DD i dd dn := (Own.mk (base := p + 1) (e := 3) O9.out).ints.ext (Ext.alloc _ _)
                have hoff : Off (wr.alloc (.cells #[.int .i64 (N2 : Int), .slice DD i dd] 33)) u7 DD i := by
                  intro hn q hq
                  obtain ⟨gd, rfl, e1, e2⟩ := own_addr O9.out hn
                  injection hq with hq
                  obtain ⟨cs0, o0, _⟩ := HW.out.cells
                  have hq' : gd = q := hq
                  refine ⟨by simp; omega, fun e => ?_⟩
                  have := (o0.lt q e).2
                  have := HPO.out
                  omega
                have hrd : Rd (wr.alloc (.cells #[.int .i64 (N2 : Int), .slice DD i dd] 33)) 2 (some ⟨wr.heap.size, 0, none⟩) 1 [.int .i64 (N2 : Int), .slice DD i dd] := Rd.lit2 wr _ _ _
                have HFREE := Lib.hid ((Free.of_own (base' := w.heap.size) O9.out (by have := PGE.out; omega)).ext (Ext.alloc wr (.cells #[.int .i64 (N2 : Int), .slice DD i dd] 33)))
                have HBS := Lib.hid (show w.heap.size ≤ (wr.alloc (.cells #[.int .i64 (N2 : Int), .slice DD i dd] 33)).heap.size by have := X9.out.size; simp; omega)
                have hdl : d.length = j := HP.out.2.2.1
                have HLEN := Lib.hid o1.1
                have hjs : (d.length + 1) * 32 ≤ 140737488355328 := by omega
                have hjm : d.length + 1 ≤ maxLen := by unfold maxLen; omega
                clear hpl a1 a2 a3 a4 a5 one1 one2
                go_wp2_with (
                  at_builtin
                  refine wpList_append_rd _ rfl (.tmp 94) (.tmp 96) 24 rfl w.heap.size 33 i1 _ 2 32 Try.underlying24 hi1 hy0 hy1 hy2 rfl (by omega) u7 d.length cs rfl o1
                    (some ⟨wr.heap.size, 0, none⟩) 1 1 [.int .i64 (N2 : Int), .slice DD i dd] rfl hrd (by simp [Value.oneCell']) hjs hjm HBS.out ?_
                  intro v1 wf ho hgr hat)
                obtain ⟨p1, p2, p3, p4, p5⟩ := HP.out
                rw [show N1 - j = (N1 - (j + 1)) + 1 by omega] at p1 p2
                replace p1 : Pl.gotL l = d ++ (Pl.oneV l s :: (if (Pl.oneS l s).bad = true then [] else Pl.manyV l (Pl.oneS l s) (N1 - (j + 1)))) := p1
                replace p2 : Pl.gotS l = (if (Pl.oneS l s).bad = true then Pl.oneS l s else Pl.manyS l (Pl.oneS l s) (N1 - (j + 1))) := p2
                rw [ONE.out.1, ONE.out.2, if_neg (by rw [A45.out.1]; decide)] at p1
                rw [ONE.out.2, if_neg (by rw [A45.out.1]; decide)] at p2
                refine ⟨⟨j + 1, s9, d ++ [((N2 : Int), dn)], by omega, rfl, by go_num, Lib.hid ?_, Lib.hid ?_, Lib.hid ⟨?_, p2, by rw [List.length_append, p3]; rfl, A45.out.1, A45.out.2⟩⟩, by simp [intOf]; omega⟩
                · exact OwnPs.push o2 HLEN.out hnodes hoff hoff.none (fun _ => HFREE.out) ho hgr hat
                · exact (X9.out.thenAlloc _).ofGrown hgr (own_row o1)
                · rw [p1, List.append_assoc]
                  rfl
          · have hb3 : (Pl.nextS l ⟨T2, false⟩ 255).bad = true := HS3.out.2 hok3
            have HBAD := Lib.hid (show ¬ Pl.Good l from not_good HP.out.2.1 (one_bad (k := Pl.sideN l s) (nodes_bad0 (by show (Pl.nextS l (Pl.nextS l s 1099511627776) 255).bad = true; rw [NS2.out.2]; exact hb3)) rfl) hlt)
            by_cases h0 : E3 = 0
            · have h1 : (255 : Int) < (N3 : Int) := by
                have : ¬ N3 ≤ 255 := fun q => hok3 ⟨h0, q⟩
                omega
              subst h0
              clear hok3 hb3 HS3
              go_wp2_with (fail)
              with_reducible refine hc3.mono ?_
              rintro e wz ⟨rfl, rfl⟩
              clear hc3
              go_wp2_with (fail)
              refine bodyPost_ret (results_tmp2 rfl _ _ _) rfl ?_
              exact GivesRd.no HBAD.out (HX.out)
            · have h0' : (E3 != 0) = true := by simpa using h0
              clear hok3 hb3 HS3 h0
              go_wp2_with (fail)
              with_reducible refine hc3.mono ?_
              rintro e wz ⟨rfl, rfl⟩
              clear hc3
              go_wp2_with (fail)
              refine bodyPost_ret (results_tmp2 rfl _ _ _) rfl ?_
              exact GivesRd.no HBAD.out (HX.out)
        · have hb2 : (Pl.nextS l s 1099511627776).bad = true := HS2.out.2 hok2
          have HBAD := Lib.hid (show ¬ Pl.Good l from not_good HP.out.2.1 (one_bad (k := Pl.sideN l s) (nodes_bad0 (next_bad hb2)) rfl) hlt)
          by_cases h0 : E2 = 0
          · have h1 : (1099511627776 : Int) < (N2 : Int) := by
              have : ¬ N2 ≤ 1099511627776 := fun q => hok2 ⟨h0, q⟩
              omega
            subst h0
            clear hok2 hb2 HS2
            go_wp2_with (fail)
            with_reducible refine hc2.mono ?_
            rintro e wz ⟨rfl, rfl⟩
            clear hc2
            go_wp2_with (fail)
            refine bodyPost_ret (results_tmp2 rfl _ _ _) rfl ?_
            exact GivesRd.no HBAD.out (HX.out)
          · have h0' : (E2 != 0) = true := by simpa using h0
            clear hok2 hb2 HS2 h0
            go_wp2_with (fail)
            with_reducible refine hc2.mono ?_
            rintro e wz ⟨rfl, rfl⟩
            clear hc2
            go_wp2_with (fail)
            refine bodyPost_ret (results_tmp2 rfl _ _ _) rfl ?_
            exact GivesRd.no HBAD.out (HX.out)
      · have t1 : ¬ (j : Int) < N1 := by omega
        obtain rfl : j = N1 := by omega
        obtain ⟨VA, vc, rfl, hps⟩ := HW.out.ps
        obtain ⟨p1, p2, _, p4, _⟩ := HP.out
        rw [Nat.sub_self] at p1 p2
        have q1 : Pl.gotL l = d := by rw [p1]; show d ++ [] = d; exact List.append_nil d
        have q2 : (Pl.gotS l).bad = false := by rw [p2]; exact p4
        rw [← q1] at hps HW ⊢
        have PS := Lib.hid hps
        clear p1 p2 p4 q1 hps
        by_cases hA : Pl.All (Pl.gotL l)
        · have hb := rBytes_ok wr VA _ vc _ PS.out hA
          obtain ⟨XL, hXL⟩ : ∃ XL, Pl.encL (Pl.gotL l) = XL := ⟨_, rfl⟩
          rw [hXL] at hb
          by_cases hq : XL = l
          · have hg : Pl.Good l := ⟨q2, by have h2 := (Pl.got_inv l q2).2; rw [hXL, hq] at h2; exact h2, hA⟩
            have E1 := Lib.hid (show Pl.readE l = 0 from if_pos hg)
            have E2 := Lib.hid (show Pl.readL l = Pl.gotL l from if_pos hg)
            rw [hq] at hb
            clear hA hXL hq hg q2
            go_wp2_with (fail)
            with_reducible refine hb.mono ?_
            rintro e w8 ⟨B, m, dB, rfl, bB, x8⟩
            have X8 := Lib.hid (HX.out.trans x8)
            have HF := Lib.hid (HW.out.ext x8)
            have r1 := run_text (P := Try.prog) w8 50 9 5 Try.underlying50 Try.underlying5 Try.underlying9 B m dB l bB
            have r2 := run_text (P := Try.prog) w8 50 9 5 Try.underlying50 Try.underlying5 Try.underlying9 A n c l (HL.out.ext X8.out)
            have tq : ((textOf l).toList == (textOf l).toList) = true := beq_self_eq_true _
            have tq2 : ((textOf l).toList != (textOf l).toList) = false := by simp
            clear hb bB x8
            go_wp2_with (fail)
            refine bodyPost_ret (results_tmp2 rfl _ _ _) rfl ?_
            exact GivesRd.yes E1.out E2.out HF.out X8.out
          · have hg : ¬ Pl.Good l := fun g => hq (hXL.symm.trans (Pl.enc_read g))
            have HBAD := Lib.hid hg
            have hqq : (XL == l) = false := beq_eq_false_iff_ne.2 hq
            have QQ := Lib.hid hqq
            clear hA hXL hg q2 hq hqq
            go_wp2_with (fail)
            with_reducible refine hb.mono ?_
            rintro e w8 ⟨B, m, dB, rfl, bB, x8⟩
            have X8 := Lib.hid (HX.out.trans x8)
            have r1 := run_text (P := Try.prog) w8 50 9 5 Try.underlying50 Try.underlying5 Try.underlying9 B m dB XL bB
            have r2 := run_text (P := Try.prog) w8 50 9 5 Try.underlying50 Try.underlying5 Try.underlying9 A n c l (HL.out.ext X8.out)
            have tq : ((textOf XL).toList == (textOf l).toList) = false := by rw [text_eq]; exact QQ.out
            have tq2 : ((textOf XL).toList != (textOf l).toList) = true := by unfold bne; rw [tq]; rfl
            clear hb bB x8
            go_wp2_with (fail)
            refine bodyPost_ret (results_tmp2 rfl _ _ _) rfl ?_
            exact GivesRd.no HBAD.out (X8.out)
        · have hb := rBytes_no wr VA _ vc _ PS.out hA
          have HBAD := Lib.hid (show ¬ Pl.Good l from fun g => hA g.2.2)
          clear hA q2
          go_wp2_with (fail)
          with_reducible refine hb.mono ?_
          rintro e w8 ⟨rfl, x8⟩
          have X8 := Lib.hid (HX.out.trans x8)
          clear hb x8
          go_wp2_with (fail)
          refine bodyPost_ret (results_tmp2 rfl _ _ _) rfl ?_
          exact GivesRd.no HBAD.out (X8.out)
  · have hb1 : (Pl.nextS l ⟨0, false⟩ 1000).bad = true := HS1.out.2 hok1
    have HBAD := Lib.hid (show ¬ Pl.Good l from fun g => by have h := g.1; rw [start_bad hb1] at h; cases h)
    by_cases h0 : E1 = 0
    · have h1 : (1000 : Int) < (N1 : Int) := by
        have : ¬ N1 ≤ 1000 := fun q => hok1 ⟨h0, q⟩
        omega
      subst h0
      clear hok1 hb1 HS1
      go_wp2_with (fail)
      with_reducible refine hc1.mono ?_
      rintro e wz ⟨rfl, rfl⟩
      clear hc1
      go_wp2_with (fail)
      refine bodyPost_ret (results_tmp2 rfl _ _ _) rfl ?_
      exact GivesRd.no HBAD.out ((Ext.refl w))
    · have h0' : (E1 != 0) = true := by simpa using h0
      clear hok1 hb1 HS1 h0
      go_wp2_with (fail)
      with_reducible refine hc1.mono ?_
      rintro e wz ⟨rfl, rfl⟩
      clear hc1
      go_wp2_with (fail)
      refine bodyPost_ret (results_tmp2 rfl _ _ _) rfl ?_
      exact GivesRd.no HBAD.out ((Ext.refl w))
end Go.Proofs.Ytkanlbkfbkkknaa
