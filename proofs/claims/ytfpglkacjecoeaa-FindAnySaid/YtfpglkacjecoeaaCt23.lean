/- Several texts in one: Small words for stores into one block. The contract of matrix.Cauchy. -/
import Derived.Test.YtfpglkacjecoeaaCt22
import Derived.Deep.DrawnRows
namespace Go.Proofs.Ytfpglkacjecoeaa
open Go.RowKit

theorem Ext.gb {w w' : World} (hx : Ext w w') (row : Option Nat) : w.grownBy w' row := ⟨hx.os, hx.tape, hx.output, hx.size, fun k hk _ => hx.block k hk⟩
theorem gb_set {w w1 : World} {g : Nat} (h : w.grownBy w1 (some g)) (i : Nat) (u : Value) : w.grownBy (w1.setCell ⟨g, i, none⟩ u) (some g) :=
  ⟨h.os, h.tape, h.output, by simpa using h.size, fun k hk hne => (heap_setCell_other w1 ⟨g, i, none⟩ k u (fun e => hne (by rw [e]))).trans (h.block k hk hne)⟩
theorem grownBy_trans' {a w w' : World} {row : Option Nat} (h : a.grownBy w row) (k : w.grownBy w' row) : a.grownBy w' row :=
  ⟨k.os.trans h.os, k.tape.trans h.tape, k.output.trans h.output, Nat.le_trans h.size k.size, fun i hi hne => (k.block i (Nat.lt_of_lt_of_le hi h.size) hne).trans (h.block i hi hne)⟩
theorem FieldAt.gb {w w' : World} {b : Nat} (h : FieldAt w b) {g : Nat} (hg : w.grownBy w' (some g)) (hne : b ≠ g) : FieldAt w' b :=
  ⟨hg.cell h.made (fun e => hne (by injection e)), fun i hi => hg.cell (h.exp i hi) (fun e => hne (by injection e)), fun x => hg.cell (h.log x) (fun e => hne (by injection e))⟩

end Go.Proofs.Ytfpglkacjecoeaa
namespace Go.Proofs.Ytfpglkacjecoeaa
open Go.RowKit
attribute [local go_sem ↓] Go.wp_at_zero Go.wp_at_succ

/-- A row of which so many numbers are there. -/
def partRow (c i j : Nat) : List UInt8 := (List.range c).map fun t => if t < j then Gf.inv (UInt8.ofNat (c + i) ^^^ UInt8.ofNat t) else 0
theorem partRow_length (c i j : Nat) : (partRow c i j).length = c := by simp [partRow]
theorem partRow_zero (c i : Nat) : partRow c i 0 = zeros c := by
  refine List.ext_getElem (by simp [partRow, zeros]) fun k h1 h2 => ?_
  simp [partRow, zeros]
theorem partRow_full {r c i : Nat} (hi : i < r) : partRow c i c = Gm.row (Gm.cauchy r c) i := by
  unfold Gm.cauchy
  rw [Gm.row_range _ hi]
  refine List.ext_getElem (by simp [partRow]) fun k h1 h2 => ?_
  have h3 : k < c := by rw [partRow_length] at h1; exact h1
  simp [partRow, h3]
theorem partRow_set {c i j : Nat} : (partRow c i j).set j (Gf.inv (UInt8.ofNat (c + i) ^^^ UInt8.ofNat j)) = partRow c i (j + 1) := by
  refine List.ext_getElem (by rw [List.length_set, partRow_length, partRow_length]) fun k h1 h2 => ?_
  rw [List.getElem_set]
  by_cases e : j = k
  · subst e; simp [partRow]
  · rw [if_neg e]
    simp only [partRow, List.getElem_map, List.getElem_range]
    by_cases e2 : k < j
    · rw [if_pos e2, if_pos (by omega)]
    · rw [if_neg e2, if_neg (by omega)]
theorem divQ_one (x : UInt8) : Gf.divQ 1 x = Gf.inv x := by
  unfold Gf.divQ
  by_cases e : x = 0
  · rw [if_pos e]; unfold Gf.inv; rw [if_pos e]
  · rw [if_neg e]; unfold Gf.div; rw [Gf.one_mul]
theorem set_row_self2 {m : Gm.L} {k : Nat} (hk : k < m.length) : m.set k (Gm.row m k) = m := by
  rw [Gm.row_of_lt hk, List.set_getElem_self]
theorem u8_cast {n : Nat} (h : n < 256) : ((UInt8.ofNat n).toNat : Int) = (n : Int) := by
  rw [UInt8.toNat_ofNat', Nat.mod_eq_of_lt h]
set_option maxRecDepth 100000 in
set_option maxHeartbeats 2000000 in
theorem cauchy_ok (fb : Nat) (w : World) (r c : Nat) (hf : FieldAt w fb) (h1 : 1 ≤ r) (h2 : 1 ≤ c) (h3 : r + c ≤ 256) :
    Calls Try.prog 41 #[.pointer (some ⟨fb, 0, none⟩), .int .i64 (r : Int), .int .i64 (c : Int)] w (GivesQE (Gm.cauchy r c) 0 w) := by
  have HN := Lib.hid (none_any fb w hf)
  have HF := Lib.hid hf
  have g1 : ¬ (r : Int) < 1 := by omega
  have g2 : ¬ (c : Int) < 1 := by omega
  have g3 : ¬ (256 : Int) < r := by omega
  have g4 : ¬ (256 - (r : Int)) < c := by omega
  clear hf
  go_enter Try.func41, Try.ntmps41
  try dsimp only [List.append]
  go_wp2_with (fail)
  refine HN.out.mono ?_
  rintro e w' ⟨rfl, rfl⟩
  go_wp2_with (fail)
  refine (blank_any w r c (by omega) (by omega)).mono ?_
  rintro e w3 ⟨v, cs, rfl, hQ, x3⟩
  rw [List.length_replicate] at hQ
  obtain ⟨G, cg, rfl, hc1, hc2⟩ := ownsRow_slice hQ.own
  obtain ⟨g, rfl, hg1, hg2⟩ := own_addr hQ.own (by omega)
  have hml : (Gm.cauchy r c).length = r := (Gm.cauchy_rect r c).len
  have hst : List.replicate r (zeros c) = upTo (Gm.cauchy r c) (List.replicate r (zeros c)) 0 := (upTo_zero _ _).symm
  rw [hst] at hQ
  have HU := Lib.hid hml
  obtain ⟨N2, hN2⟩ : ∃ N2, w.heap.size = N2 := ⟨_, rfl⟩
  rw [hN2] at hQ hg1
  have HN2 := Lib.hid hN2
  clear hst hml hN2
  go_wp2_with (fail)
  go_loopw [9, 35] (fun _ s wr => ∃ i : Nat, i ≤ r ∧ s = .int .i64 i ∧ Mq wr N2 (Hot N2 (.slice (some ⟨g, 0, none⟩) r cg)) (.slice (some ⟨g, 0, none⟩) r cg) r cs (upTo (Gm.cauchy r c) (List.replicate r (zeros c)) i) ∧ Ext w wr ∧ g < wr.heap.size) (fun _ s _ => r - (intOf s).toNat)
  case atStart => exact ⟨0, by omega, rfl, hQ, x3, hg2⟩
  case round =>
    obtain ⟨i, hi, rfl, hQ', hx', hgs⟩ := hrel
    clear hQ
    by_cases hlt : i < r
    · have q1 : (i : Int) < r := by omega
      obtain ⟨wo, rfl⟩ : ∃ wo : World, wo = wr := ⟨_, rfl⟩
      obtain ⟨U, hUU⟩ : ∃ U, upTo (Gm.cauchy r c) (List.replicate r (zeros c)) i = U := ⟨_, rfl⟩
      have hrow0 : Gm.row U i = zeros c := by rw [← hUU, row_upTo (by rw [HU.out]; omega) (Nat.le_refl _), row_replicate _ hlt]
      have hnext : U.set i (partRow c i c) = upTo (Gm.cauchy r c) (List.replicate r (zeros c)) (i + 1) := by rw [partRow_full hlt, ← hUU, upTo_set (by rw [HU.out]; simp) (by rw [HU.out]; exact hlt)]
      rw [hUU] at hQ'
      clear hUU
      have hUl : U.length = r := hQ'.len
      have hQ0 : Mq wo N2 (Hot N2 (.slice (some ⟨g, 0, none⟩) r cg)) (.slice (some ⟨g, 0, none⟩) r cg) r cs (U.set i (partRow c i 0)) := by
        rw [partRow_zero, ← hrow0, set_row_self2 (by rw [hUl]; exact hlt)]; exact hQ'
      have hrs : ∀ j, Gm.row (U.set i (partRow c i j)) i = partRow c i j := fun j => by rw [Gm.row_set _ (by rw [hUl]; exact hlt), if_pos rfl]
      have HRS := Lib.hid hrs
      have HNX := Lib.hid hnext
      clear hrs hnext hrow0 hQ' hUl
      go_wp2_with (fail)
      go_loopw [10, 39] (fun _ s wr => ∃ j : Nat, j ≤ c ∧ s = .int .i64 j ∧ Mq wr N2 (Hot N2 (.slice (some ⟨g, 0, none⟩) r cg)) (.slice (some ⟨g, 0, none⟩) r cg) r cs (U.set i (partRow c i j)) ∧ Ext w wr ∧ g < wr.heap.size) (fun _ s _ => c - (intOf s).toNat)
      case atStart => exact ⟨0, by omega, rfl, hQ0, hx', hgs⟩
      case round =>
        obtain ⟨j, hj, rfl, hQj, hxj, hgj⟩ := hrel
        clear hQ0 hx' hgs
        by_cases hjc : j < c
        · have q2 : (j : Int) < c := by omega
          obtain ⟨Ai, ci, hcs, hcell, _, ho⟩ := hQj.cellAt hlt
          rw [HRS.out j] at hcs hcell ho
          rw [partRow_length] at hcs hcell ho
          obtain ⟨b, rfl, hb1, hb2⟩ := own_addr ho (by omega)
          have hne : (Value.slice (some ⟨g, 0, none⟩) r cg).ownBlock ≠ some b := fun e => hQj.cool i _ b hcs rfl (.inl e)
          have hbg : b ≠ g := fun e => hne (by rw [e]; exact rfl)
          have hpk := fun (W : World) (hW : Ext wr W) => (hQj.ext hW).poke hlt (g := b) (c := ci) (by rw [HRS.out j, partRow_length]; exact hcs) j (Gf.inv (UInt8.ofNat (c + i) ^^^ UInt8.ofNat j)) hne
          have hss : (U.set i (partRow c i j)).set i ((Gm.row (U.set i (partRow c i j)) i).set j (Gf.inv (UInt8.ofNat (c + i) ^^^ UInt8.ofNat j))) = U.set i (partRow c i (j + 1)) := by rw [HRS.out j, partRow_set, List.set_set]
          rw [hss] at hpk
          have hcb : wr.cell? ⟨b, j, none⟩ = some (.int .u8 ((Gf.get (partRow c i j) j).toNat : Int)) := by rw [ho.cellAt j (by omega), bcells_get (by rw [partRow_length]; exact hjc)]
          have hfb : wr.frozen? ⟨b, j, none⟩ = false := ho.frozenAt j
          have hcm : c ≤ ci ∧ ci ≤ 9223372036854775807 := by
            obtain ⟨_, _, ee, hm1, hm2⟩ := ownsRow_slice ho
            injection ee with _ _ ee3
            omega
          have hA0 := add_any fb wr.drew (UInt8.ofNat (c + i)) (UInt8.ofNat j) (HF.out.ext (hxj.thenDrew))
          have hI0 := inv_any fb wr.drew (Gf.add (UInt8.ofNat (c + i)) (UInt8.ofNat j)) (HF.out.ext (hxj.thenDrew))
          rw [divQ_one] at hI0
          have e64 : IntKind.i64.wrap ((c : Int) + (i : Int)) = ((c + i : Nat) : Int) := by simp [IntKind.wrap, IntKind.bits, IntKind.signed]; omega
          rw [← wrap_u8_nat, ← wrap_u8_nat, ← e64] at hA0
          clear e64
          have hxx : Gf.inv (Gf.add (UInt8.ofNat (c + i)) (UInt8.ofNat j)) = Gf.inv (UInt8.ofNat (c + i) ^^^ UInt8.ofNat j) := rfl
          rw [hxx] at hI0
          generalize Gf.inv (UInt8.ofNat (c + i) ^^^ UInt8.ofNat j) = x at *
          generalize Gf.add (UInt8.ofNat (c + i)) (UInt8.ofNat j) = y at *
          generalize Gf.divE y = ye at *
          have HP := Lib.hid hpk
          have HAD := Lib.hid hA0
          have HIN := Lib.hid hI0
          have hxs := fun (W : World) (hW : Ext wr W) => (hxj.trans hW).set_ (p := ⟨b, j, none⟩) (by rw [HN2.out]; exact hb1) (.int .u8 (x.toNat : Int))
          have HXS := Lib.hid hxs
          clear hxs
          have hS : ∀ W : World, Ext wr W → W.cell? ⟨g, i, none⟩ = some (.slice (some ⟨b, 0, none⟩) c ci) := fun W hW => hW.cell hcell
          have hS2 : ∀ W : World, Ext wr W → ∀ u : Value, (W.setCell ⟨b, j, none⟩ u).cell? ⟨g, i, none⟩ = some (.slice (some ⟨b, 0, none⟩) c ci) := fun W hW u => by
            rw [World.cell?_setCell_other _ _ _ _ (fun e => hbg (by injection e))]; exact hW.cell hcell
          have HS := Lib.hid hS
          have HS2 := Lib.hid hS2
          have HNE := Lib.hid hne
          clear hpk hss hcs hne hA0 hI0 hxx hxj hS hS2 ho hQj
          go_wp2_with (fail)
          go_region_held3 (fun W => W.cell? ⟨g, i, none⟩ = some (.slice (some ⟨b, 0, none⟩) c ci))
            (first | exact HS.out _ (Ext.drew _) | exact hs4 | exact hs5)
            (first
              | (((with_reducible refine HAD.out.mono ?_); (rintro e w4 ⟨rfl, rfl⟩)))
              | (((with_reducible refine HIN.out.mono ?_); (rintro e w4 ⟨rfl, nd, rfl⟩; have x4 : Ext wr (wr.drewN (1 + nd)) := Ext.drewN _ _; have hs4 := HS.out _ x4; have hnc := x4.cell hcb; have hnf : (wr.drewN (1 + nd)).frozen? ⟨b, j, none⟩ = false := hfb; have hs5 := HS2.out _ x4 (.int .u8 (x.toNat : Int))))))
          all_goals
            go_wp2_with (fail)
            exact ⟨⟨j + 1, by omega, by go_num, HP.out _ (Ext.drewN _ _), HXS.out _ (Ext.drewN _ _), by simp; omega⟩, by simp [intOf]; omega⟩
        · have q2 : ¬ (j : Int) < c := by omega
          obtain rfl : j = c := by omega
          rw [HNX.out] at hQj
          go_wp2_with (fail)
          exact ⟨⟨i + 1, by omega, by go_num, hQj, hxj, hgj⟩, by simp [intOf]; omega⟩
    · have q1 : ¬ (i : Int) < r := by omega
      obtain rfl : i = r := by omega
      rw [upTo_full HU.out.symm (by simp [HU.out])] at hQ'
      go_wp2_with (fail)
      go_ret2
      refine ⟨_, cs, rfl, ?_, hx'⟩
      rw [HU.out, HN2.out]
      exact hQ'
theorem cauchy_no (fb : Nat) (w : World) (r c : Int) (hf : FieldAt w fb) (h : r < 1 ∨ c < 1 ∨ 256 < r ∨ 256 - r < c) :
    Calls Try.prog 41 #[.pointer (some ⟨fb, 0, none⟩), .int .i64 r, .int .i64 c] w (GivesQE [] 2 w) := by
  have HN := Lib.hid (none_any fb w hf)
  have HF := Lib.hid hf
  clear hf
  by_cases g1 : r < 1
  · clear h
    go_enter Try.func41, Try.ntmps41
    try dsimp only [List.append]
    go_wp2_with (fail)
    refine HN.out.mono ?_
    rintro e w' ⟨rfl, rfl⟩
    go_wp2_with (fail)
    go_ret2
    exact GivesQE.none 2 (Ext.refl _)
  · by_cases g2 : c < 1
    · clear h
      go_enter Try.func41, Try.ntmps41
      try dsimp only [List.append]
      go_wp2_with (fail)
      refine HN.out.mono ?_
      rintro e w' ⟨rfl, rfl⟩
      go_wp2_with (fail)
      go_ret2
      exact GivesQE.none 2 (Ext.refl _)
    · by_cases g3 : 256 < r
      · clear h
        go_enter Try.func41, Try.ntmps41
        try dsimp only [List.append]
        go_wp2_with (fail)
        refine HN.out.mono ?_
        rintro e w' ⟨rfl, rfl⟩
        go_wp2_with (fail)
        go_ret2
        exact GivesQE.none 2 (Ext.refl _)
      · have g4 : 256 - r < c := by omega
        clear h
        go_enter Try.func41, Try.ntmps41
        try dsimp only [List.append]
        go_wp2_with (fail)
        refine HN.out.mono ?_
        rintro e w' ⟨rfl, rfl⟩
        go_wp2_with (fail)
        go_ret2
        exact GivesQE.none 2 (Ext.refl _)
end Go.Proofs.Ytfpglkacjecoeaa
