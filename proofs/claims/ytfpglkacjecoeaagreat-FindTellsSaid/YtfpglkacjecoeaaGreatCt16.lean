/- Several texts in one: Small words for stores into one block. The contract of matrix.Cauchy. A code that New made, as it lies in memory; the contracts of made, Need, All, New. -/
import Derived.Test.YtfpglkacjecoeaaGreatCt15
import Derived.Deep.DrawnRows
import Derived.Test.YtfpglkacjecoeaaGreatCt7
namespace Go.Proofs.YtfpglkacjecoeaaGreat
open Go.RowKit

theorem Ext.gb {w w' : World} (hx : Ext w w') (row : Option Nat) : w.grownBy w' row := ⟨hx.os, hx.tape, hx.output, hx.size, fun k hk _ => hx.block k hk⟩
theorem gb_set {w w1 : World} {g : Nat} (h : w.grownBy w1 (some g)) (i : Nat) (u : Value) : w.grownBy (w1.setCell ⟨g, i, none⟩ u) (some g) :=
  ⟨h.os, h.tape, h.output, by simpa using h.size, fun k hk hne => (heap_setCell_other w1 ⟨g, i, none⟩ k u (fun e => hne (by rw [e]))).trans (h.block k hk hne)⟩
theorem grownBy_trans' {a w w' : World} {row : Option Nat} (h : a.grownBy w row) (k : w.grownBy w' row) : a.grownBy w' row :=
  ⟨k.os.trans h.os, k.tape.trans h.tape, k.output.trans h.output, Nat.le_trans h.size k.size, fun i hi hne => (k.block i (Nat.lt_of_lt_of_le hi h.size) hne).trans (h.block i hi hne)⟩
theorem FieldAt.gb {w w' : World} {b : Nat} (h : FieldAt w b) {g : Nat} (hg : w.grownBy w' (some g)) (hne : b ≠ g) : FieldAt w' b :=
  ⟨hg.cell h.made (fun e => hne (by injection e)), fun i hi => hg.cell (h.exp i hi) (fun e => hne (by injection e)), fun x => hg.cell (h.log x) (fun e => hne (by injection e))⟩

end Go.Proofs.YtfpglkacjecoeaaGreat
namespace Go.Proofs.YtfpglkacjecoeaaGreat
open Go.RowKit
attribute [local go_sem ↓] Go.wp_at_zero Go.wp_at_succ

/-- A row of which so many numbers are there. -/
def partRow (c i j : Nat) : List UInt8 := (List.range c).map fun t => if t < j then Gf.inv (UInt8.ofNat (c + i) ^^^ UInt8.ofNat t) else 0
theorem partRow_length (c i j : Nat) : (partRow c i j).length = c := by simp [partRow]
theorem partRow_zero (c i : Nat) : partRow c i 0 = zeros c := by
  refine List.ext_getElem (by simp [partRow, zeros]) fun k h1 h2 => ?_
  simp [partRow, zeros]
theorem partRow_full {r c i : Nat} (hi : i < r) : partRow c i c = Gm.row (Gm.cauchy r c) i := by
  unfold Gm.cauchy
  rw [Gm.row_range _ hi]
  refine List.ext_getElem (by simp [partRow]) fun k h1 h2 => ?_
  have h3 : k < c := by rw [partRow_length] at h1; exact h1
  simp [partRow, h3]
theorem partRow_set {c i j : Nat} : (partRow c i j).set j (Gf.inv (UInt8.ofNat (c + i) ^^^ UInt8.ofNat j)) = partRow c i (j + 1) := by
  refine List.ext_getElem (by rw [List.length_set, partRow_length, partRow_length]) fun k h1 h2 => ?_
  rw [List.getElem_set]
  by_cases e : j = k
  · subst e; simp [partRow]
  · rw [if_neg e]
    simp only [partRow, List.getElem_map, List.getElem_range]
    by_cases e2 : k < j
    · rw [if_pos e2, if_pos (by omega)]
    · rw [if_neg e2, if_neg (by omega)]
theorem divQ_one (x : UInt8) : Gf.divQ 1 x = Gf.inv x := by
  unfold Gf.divQ
  by_cases e : x = 0
  · rw [if_pos e]; unfold Gf.inv; rw [if_pos e]
  · rw [if_neg e]; unfold Gf.div; rw [Gf.one_mul]
theorem set_row_self2 {m : Gm.L} {k : Nat} (hk : k < m.length) : m.set k (Gm.row m k) = m := by
  rw [Gm.row_of_lt hk, List.set_getElem_self]
theorem u8_cast {n : Nat} (h : n < 256) : ((UInt8.ofNat n).toNat : Int) = (n : Int) := by
  rw [UInt8.toNat_ofNat', Nat.mod_eq_of_lt h]
set_option maxRecDepth 100000 in
set_option maxHeartbeats 2000000 in
theorem cauchy_ok (fb : Nat) (w : World) (r c : Nat) (hf : FieldAt w fb) (h1 : 1 ≤ r) (h2 : 1 ≤ c) (h3 : r + c ≤ 256) :
    Calls Tryz.prog 33 #[.pointer (some ⟨fb, 0, none⟩), .int .i64 (r : Int), .int .i64 (c : Int)] w (GivesQE (Gm.cauchy r c) 0 w) := by
  have HN := Lib.hid (none_any fb w hf)
  have HF := Lib.hid hf
  have g1 : ¬ (r : Int) < 1 := by omega
  have g2 : ¬ (c : Int) < 1 := by omega
  have g3 : ¬ (256 : Int) < r := by omega
  have g4 : ¬ (256 - (r : Int)) < c := by omega
  clear hf
  go_enter Tryz.func33, Tryz.ntmps33
  try dsimp only [List.append]
  go_wp2_with (fail)
  refine HN.out.mono ?_
  rintro e w' ⟨rfl, rfl⟩
  go_wp2_with (fail)
  refine (blank_any w r c (by omega) (by omega)).mono ?_
  rintro e w3 ⟨v, cs, rfl, hQ, x3⟩
  rw [List.length_replicate] at hQ
  obtain ⟨G, cg, rfl, hc1, hc2⟩ := ownsRow_slice hQ.own
  obtain ⟨g, rfl, hg1, hg2⟩ := own_addr hQ.own (by omega)
  have hml : (Gm.cauchy r c).length = r := (Gm.cauchy_rect r c).len
  have hst : List.replicate r (zeros c) = upTo (Gm.cauchy r c) (List.replicate r (zeros c)) 0 := (upTo_zero _ _).symm
  rw [hst] at hQ
  have HU := Lib.hid hml
  obtain ⟨N2, hN2⟩ : ∃ N2, w.heap.size = N2 := ⟨_, rfl⟩
  rw [hN2] at hQ hg1
  have HN2 := Lib.hid hN2
  clear hst hml hN2
  go_wp2_with (fail)
  go_loopw [9, 35] (fun _ s wr => ∃ i : Nat, i ≤ r ∧ s = .int .i64 i ∧ Mq wr N2 (Hot N2 (.slice (some ⟨g, 0, none⟩) r cg)) (.slice (some ⟨g, 0, none⟩) r cg) r cs (upTo (Gm.cauchy r c) (List.replicate r (zeros c)) i) ∧ Ext w wr ∧ g < wr.heap.size) (fun _ s _ => r - (intOf s).toNat)
  case atStart => exact ⟨0, by omega, rfl, hQ, x3, hg2⟩
  case round =>
    obtain ⟨i, hi, rfl, hQ', hx', hgs⟩ := hrel
    clear hQ
    by_cases hlt : i < r
    · have q1 : (i : Int) < r := by omega
      obtain ⟨wo, rfl⟩ : ∃ wo : World, wo = wr := ⟨_, rfl⟩
      obtain ⟨U, hUU⟩ : ∃ U, upTo (Gm.cauchy r c) (List.replicate r (zeros c)) i = U := ⟨_, rfl⟩
      have hrow0 : Gm.row U i = zeros c := by rw [← hUU, row_upTo (by rw [HU.out]; omega) (Nat.le_refl _), row_replicate _ hlt]
      have hnext : U.set i (partRow c i c) = upTo (Gm.cauchy r c) (List.replicate r (zeros c)) (i + 1) := by rw [partRow_full hlt, ← hUU, upTo_set (by rw [HU.out]; simp) (by rw [HU.out]; exact hlt)]
      rw [hUU] at hQ'
      clear hUU
      have hUl : U.length = r := hQ'.len
      have hQ0 : Mq wo N2 (Hot N2 (.slice (some ⟨g, 0, none⟩) r cg)) (.slice (some ⟨g, 0, none⟩) r cg) r cs (U.set i (partRow c i 0)) := by
        rw [partRow_zero, ← hrow0, set_row_self2 (by rw [hUl]; exact hlt)]; exact hQ'
      have hrs : ∀ j, Gm.row (U.set i (partRow c i j)) i = partRow c i j := fun j => by rw [Gm.row_set _ (by rw [hUl]; exact hlt), if_pos rfl]
      have HRS := Lib.hid hrs
      have HNX := Lib.hid hnext
      clear hrs hnext hrow0 hQ' hUl
      go_wp2_with (fail)
      go_loopw [10, 39] (fun _ s wr => ∃ j : Nat, j ≤ c ∧ s = .int .i64 j ∧ Mq wr N2 (Hot N2 (.slice (some ⟨g, 0, none⟩) r cg)) (.slice (some ⟨g, 0, none⟩) r cg) r cs (U.set i (partRow c i j)) ∧ Ext w wr ∧ g < wr.heap.size) (fun _ s _ => c - (intOf s).toNat)
      case atStart => exact ⟨0, by omega, rfl, hQ0, hx', hgs⟩
      case round =>
        obtain ⟨j, hj, rfl, hQj, hxj, hgj⟩ := hrel
        clear hQ0 hx' hgs
        by_cases hjc : j < c
        · have q2 : (j : Int) < c := by omega
          obtain ⟨Ai, ci, hcs, hcell, _, ho⟩ := hQj.cellAt hlt
          rw [HRS.out j] at hcs hcell ho
          rw [partRow_length] at hcs hcell ho
          obtain ⟨b, rfl, hb1, hb2⟩ := own_addr ho (by omega)
          have hne : (Value.slice (some ⟨g, 0, none⟩) r cg).ownBlock ≠ some b := fun e => hQj.cool i _ b hcs rfl (.inl e)
          have hbg : b ≠ g := fun e => hne (by rw [e]; exact rfl)
          have hpk := fun (W : World) (hW : Ext wr W) => (hQj.ext hW).poke hlt (g := b) (c := ci) (by rw [HRS.out j, partRow_length]; exact hcs) j (Gf.inv (UInt8.ofNat (c + i) ^^^ UInt8.ofNat j)) hne
          have hss : (U.set i (partRow c i j)).set i ((Gm.row (U.set i (partRow c i j)) i).set j (Gf.inv (UInt8.ofNat (c + i) ^^^ UInt8.ofNat j))) = U.set i (partRow c i (j + 1)) := by rw [HRS.out j, partRow_set, List.set_set]
          rw [hss] at hpk
          have hcb : wr.cell? ⟨b, j, none⟩ = some (.int .u8 ((Gf.get (partRow c i j) j).toNat : Int)) := by rw [ho.cellAt j (by omega), bcells_get (by rw [partRow_length]; exact hjc)]
          have hfb : wr.frozen? ⟨b, j, none⟩ = false := ho.frozenAt j
          have hcm : c ≤ ci ∧ ci ≤ 9223372036854775807 := by
            obtain ⟨_, _, ee, hm1, hm2⟩ := ownsRow_slice ho
            injection ee with _ _ ee3
            omega
          have hA0 := add_any fb wr.drew (UInt8.ofNat (c + i)) (UInt8.ofNat j) (HF.out.ext (hxj.thenDrew))
          have hI0 := inv_any fb wr.drew (Gf.add (UInt8.ofNat (c + i)) (UInt8.ofNat j)) (HF.out.ext (hxj.thenDrew))
          rw [divQ_one] at hI0
          have e64 : IntKind.i64.wrap ((c : Int) + (i : Int)) = ((c + i : Nat) : Int) := by simp [IntKind.wrap, IntKind.bits, IntKind.signed]; omega
          rw [← wrap_u8_nat, ← wrap_u8_nat, ← e64] at hA0
          clear e64
          have hxx : Gf.inv (Gf.add (UInt8.ofNat (c + i)) (UInt8.ofNat j)) = Gf.inv (UInt8.ofNat (c + i) ^^^ UInt8.ofNat j) := rfl
          rw [hxx] at hI0
          generalize Gf.inv (UInt8.ofNat (c + i) ^^^ UInt8.ofNat j) = x at *
          generalize Gf.add (UInt8.ofNat (c + i)) (UInt8.ofNat j) = y at *
          generalize Gf.divE y = ye at *
          have HP := Lib.hid hpk
          have HAD := Lib.hid hA0
          have HIN := Lib.hid hI0
          have hxs := fun (W : World) (hW : Ext wr W) => (hxj.trans hW).set_ (p := ⟨b, j, none⟩) (by rw [HN2.out]; exact hb1) (.int .u8 (x.toNat : Int))
          have HXS := Lib.hid hxs
          clear hxs
          have hS : ∀ W : World, Ext wr W → W.cell? ⟨g, i, none⟩ = some (.slice (some ⟨b, 0, none⟩) c ci) := fun W hW => hW.cell hcell
          have hS2 : ∀ W : World, Ext wr W → ∀ u : Value, (W.setCell ⟨b, j, none⟩ u).cell? ⟨g, i, none⟩ = some (.slice (some ⟨b, 0, none⟩) c ci) := fun W hW u => by
            rw [World.cell?_setCell_other _ _ _ _ (fun e => hbg (by injection e))]; exact hW.cell hcell
          have HS := Lib.hid hS
          have HS2 := Lib.hid hS2
          have HNE := Lib.hid hne
          clear hpk hss hcs hne hA0 hI0 hxx hxj hS hS2 ho hQj
          go_wp2_with (fail)
          go_region_held3 (fun W => W.cell? ⟨g, i, none⟩ = some (.slice (some ⟨b, 0, none⟩) c ci))
            (first | exact HS.out _ (Ext.drew _) | exact hs4 | exact hs5)
            (first
              | (((with_reducible refine HAD.out.mono ?_); (rintro e w4 ⟨rfl, rfl⟩)))
              | (((with_reducible refine HIN.out.mono ?_); (rintro e w4 ⟨rfl, nd, rfl⟩; have x4 : Ext wr (wr.drewN (1 + nd)) := Ext.drewN _ _; have hs4 := HS.out _ x4; have hnc := x4.cell hcb; have hnf : (wr.drewN (1 + nd)).frozen? ⟨b, j, none⟩ = false := hfb; have hs5 := HS2.out _ x4 (.int .u8 (x.toNat : Int))))))
          all_goals
            go_wp2_with (fail)
            exact ⟨⟨j + 1, by omega, by go_num, HP.out _ (Ext.drewN _ _), HXS.out _ (Ext.drewN _ _), by simp; omega⟩, by simp [intOf]; omega⟩
        · have q2 : ¬ (j : Int) < c := by omega
          obtain rfl : j = c := by omega
          rw [HNX.out] at hQj
          go_wp2_with (fail)
          exact ⟨⟨i + 1, by omega, by go_num, hQj, hxj, hgj⟩, by simp [intOf]; omega⟩
    · have q1 : ¬ (i : Int) < r := by omega
      obtain rfl : i = r := by omega
      rw [upTo_full HU.out.symm (by simp [HU.out])] at hQ'
      go_wp2_with (fail)
      go_ret2
      refine ⟨_, cs, rfl, ?_, hx'⟩
      rw [HU.out, HN2.out]
      exact hQ'
theorem cauchy_no (fb : Nat) (w : World) (r c : Int) (hf : FieldAt w fb) (h : r < 1 ∨ c < 1 ∨ 256 < r ∨ 256 - r < c) :
    Calls Tryz.prog 33 #[.pointer (some ⟨fb, 0, none⟩), .int .i64 r, .int .i64 c] w (GivesQE [] 2 w) := by
  have HN := Lib.hid (none_any fb w hf)
  have HF := Lib.hid hf
  clear hf
  by_cases g1 : r < 1
  · clear h
    go_enter Tryz.func33, Tryz.ntmps33
    try dsimp only [List.append]
    go_wp2_with (fail)
    refine HN.out.mono ?_
    rintro e w' ⟨rfl, rfl⟩
    go_wp2_with (fail)
    go_ret2
    exact GivesQE.none 2 (Ext.refl _)
  · by_cases g2 : c < 1
    · clear h
      go_enter Tryz.func33, Tryz.ntmps33
      try dsimp only [List.append]
      go_wp2_with (fail)
      refine HN.out.mono ?_
      rintro e w' ⟨rfl, rfl⟩
      go_wp2_with (fail)
      go_ret2
      exact GivesQE.none 2 (Ext.refl _)
    · by_cases g3 : 256 < r
      · clear h
        go_enter Tryz.func33, Tryz.ntmps33
        try dsimp only [List.append]
        go_wp2_with (fail)
        refine HN.out.mono ?_
        rintro e w' ⟨rfl, rfl⟩
        go_wp2_with (fail)
        go_ret2
        exact GivesQE.none 2 (Ext.refl _)
      · have g4 : 256 - r < c := by omega
        clear h
        go_enter Tryz.func33, Tryz.ntmps33
        try dsimp only [List.append]
        go_wp2_with (fail)
        refine HN.out.mono ?_
        rintro e w' ⟨rfl, rfl⟩
        go_wp2_with (fail)
        go_ret2
        exact GivesQE.none 2 (Ext.refl _)
end Go.Proofs.YtfpglkacjecoeaaGreat
namespace Go.Proofs.YtfpglkacjecoeaaGreat
open Go.RowKit

theorem gives_mx {m : Gm.L} {er : Int} {w w' : World} {e : Ending} (h : GivesQE m er w e w') : ∃ A c, e = .returned (.tuple #[.slice A m.length c, .int .i64 er]) ∧ Mx w' A m.length c m ∧ Ext w w' := by
  obtain ⟨v, cs, rfl, hq, hx⟩ := h
  obtain ⟨A, c, rfl, hm⟩ := hq.mx
  exact ⟨A, c, rfl, hm, hx⟩
theorem Rows.append {w : World} {cs cs' : List Value} {m m' : Gm.L} (h : Rows w cs m) (h' : Rows w cs' m') : Rows w (cs ++ cs') (m ++ m') := by
  refine ⟨by rw [List.length_append, List.length_append, h.len, h'.len], fun i hi => ?_⟩
  rw [Gm.row_append]
  by_cases e : i < m.length
  · obtain ⟨A, n, c, e1, e2⟩ := h.at_ i e
    refine ⟨A, n, c, ?_, ?_⟩
    · rw [List.getElem?_append_left (by rw [h.len]; exact e)]; exact e1
    · rw [if_pos e]; exact e2
  · rw [List.length_append] at hi
    obtain ⟨A, n, c, e1, e2⟩ := h'.at_ (i - m.length) (by omega)
    refine ⟨A, n, c, ?_, ?_⟩
    · rw [List.getElem?_append_right (by rw [h.len]; omega), h.len]; exact e1
    · rw [if_neg e]; exact e2
theorem Mq.rows_grown {w w' : World} {base n : Nat} {P : Nat → Prop} {v : Value} {cs : List Value} {m : Gm.L} {row : Option Nat} (h : Mq w base P v n cs m) (hg : w.grownBy w' row) (hr : ∀ (i : Nat) (u : Value) (b : Nat), cs[i]? = some u → u.ownBlock = some b → row ≠ some b) : Rows w' cs m :=
  ⟨by rw [h.clen, h.len], fun i hi => by
    obtain ⟨A, c, e, ho⟩ := h.row i (by rw [← h.len]; exact hi)
    refine ⟨A, _, c, e, (Own.mk (base := base) (e := 5) (ownsRow_grown ho hg ?_)).bs⟩
    cases hq : (Value.slice A (Gm.row m i).length c).ownBlock with
    | none => exact .inl rfl
    | some b => exact .inr (fun e2 => hr i _ b e hq e2.symm)⟩
/-- The box of a code: its field, its need, its matrix. -/
structure Cd (w : World) (b fb k n : Nat) : Prop where
  f : FieldAt w fb
  c0 : w.cell? ⟨b, 0, none⟩ = some (.pointer (some ⟨fb, 0, none⟩))
  c1 : w.cell? ⟨b, 1, none⟩ = some (.int .i64 (k : Int))
  mx : ∃ A c, w.cell? ⟨b, 2, none⟩ = some (.slice A n c) ∧ Mx w A n c (Gm.gen k n)
  k1 : 1 ≤ k
  kn : k ≤ n
  n2 : n ≤ 255
theorem Cd.ext {w w' : World} {b fb k n : Nat} (h : Cd w b fb k n) (hx : Ext w w') : Cd w' b fb k n := by
  obtain ⟨A, c, h1, h2⟩ := h.mx
  exact ⟨h.f.ext hx, hx.cell h.c0, hx.cell h.c1, ⟨A, c, hx.cell h1, h2.ext hx⟩, h.k1, h.kn, h.n2⟩
abbrev cptr (b : Nat) : Value := .pointer (some ⟨b, 0, none⟩)
theorem made_any (w : World) (b fb k n : Nat) (h : Cd w b fb k n) : Calls Tryz.prog 60 #[cptr b] w fun e w' => e = .returned (.bool true) ∧ w = w' := by
  have c0 := h.c0
  clear h
  go_enter Tryz.func60, Tryz.ntmps60
  go_wp2
  go_ret
  exact ⟨rfl, rfl⟩
theorem need_any (w : World) (b fb k n : Nat) (h : Cd w b fb k n) : Calls Tryz.prog 46 #[cptr b] w fun e w' => e = .returned (.int .i64 (k : Int)) ∧ w = w' := by
  have c1 := h.c1
  have H := Lib.hid (made_any w b fb k n h)
  clear h
  go_enter Tryz.func46, Tryz.ntmps46
  go_wp2_with (fail)
  refine H.out.mono ?_
  rintro e w' ⟨rfl, rfl⟩
  go_wp2_with (fail)
  go_ret
  exact ⟨rfl, rfl⟩
theorem all_any (w : World) (b fb k n : Nat) (h : Cd w b fb k n) : Calls Tryz.prog 47 #[cptr b] w fun e w' => e = .returned (.int .i64 (n : Int)) ∧ w = w' := by
  obtain ⟨A, c, c2, hm⟩ := h.mx
  have hm1 := hm.max
  have hm2 := hm.le
  have H := Lib.hid (made_any w b fb k n h)
  clear h hm
  go_enter Tryz.func47, Tryz.ntmps47
  go_wp2_with (fail)
  refine H.out.mono ?_
  rintro e w' ⟨rfl, rfl⟩
  go_wp2_with (fail)
  go_ret
  exact ⟨rfl, rfl⟩
set_option maxRecDepth 100000 in
set_option maxHeartbeats 1000000 in
theorem codeNew_arg (fb : Nat) (w : World) (k n : Int) (hf : FieldAt w fb) (h : k < 1 ∨ n < k ∨ 255 < n) :
    Calls Tryz.prog 9 #[.pointer (some ⟨fb, 0, none⟩), .int .i64 k, .int .i64 n] w fun e w' => e = .returned (.tuple #[.pointer none, .int .i64 2]) ∧ w = w' := by
  have hA : Calls Tryz.prog 31 #[.pointer (some ⟨fb, 0, none⟩), .int .u8 0, .int .u8 1] w fun e w' => e = .returned (.int .u8 1) ∧ w = w' := add_any fb w 0 1 hf
  have HA := Lib.hid hA
  clear hA hf
  by_cases h1 : k < 1
  · go_enter Tryz.func9, Tryz.ntmps9
    go_wp2_with (fail)
    refine HA.out.mono ?_
    rintro e w' ⟨rfl, rfl⟩
    go_wp2_with (fail)
    go_ret2
    exact ⟨rfl, rfl⟩
  · by_cases h2 : n < k
    · go_enter Tryz.func9, Tryz.ntmps9
      go_wp2_with (fail)
      refine HA.out.mono ?_
      rintro e w' ⟨rfl, rfl⟩
      go_wp2_with (fail)
      go_ret2
      exact ⟨rfl, rfl⟩
    · have h3 : 255 < n := by omega
      clear h
      go_enter Tryz.func9, Tryz.ntmps9
      go_wp2_with (fail)
      refine HA.out.mono ?_
      rintro e w' ⟨rfl, rfl⟩
      go_wp2_with (fail)
      go_ret2
      exact ⟨rfl, rfl⟩
theorem gen_all (n : Nat) : Gm.gen n n = Gm.unit n := by
  unfold Gm.gen
  rw [Nat.sub_self]
  show Gm.unit n ++ [] = _
  rw [List.append_nil]
theorem Cd.new {W : World} {fb k n : Nat} {A : Option Addr} {c : Nat} (hf : FieldAt W fb) (hm : Mx W A n c (Gm.gen k n)) (h1 : 1 ≤ k) (h2 : k ≤ n) (h3 : n ≤ 255) (t : TypeId) :
    Cd (W.alloc (.cells #[.pointer (some ⟨fb, 0, none⟩), .int .i64 (k : Int), .slice A n c] t)) W.heap.size fb k n := by
  have hc := fun j => World.cell?_alloc_new W #[.pointer (some ⟨fb, 0, none⟩), .int .i64 (k : Int), .slice A n c] t j
  exact ⟨hf.ext (Ext.alloc _ _), (hc 0).trans rfl, (hc 1).trans rfl, ⟨A, c, (hc 2).trans rfl, hm.ext (Ext.alloc _ _)⟩, h1, h2, h3⟩
/-- A new code is handed back. -/
def GivesC (fb k n : Nat) (w : World) (e : Ending) (w' : World) : Prop := ∃ b, e = .returned (.tuple #[cptr b, .int .i64 0]) ∧ Cd w' b fb k n ∧ Ext w w'
set_option maxRecDepth 100000 in
set_option maxHeartbeats 2000000 in
theorem codeNew_ok (fb : Nat) (w : World) (k n : Nat) (hf : FieldAt w fb) (h1 : 1 ≤ k) (h2 : k ≤ n) (h3 : n ≤ 255) :
    Calls Tryz.prog 9 #[.pointer (some ⟨fb, 0, none⟩), .int .i64 (k : Int), .int .i64 (n : Int)] w (GivesC fb k n w) := by
  obtain ⟨i0, hi0, hz0, hz1, hz2⟩ := info_parts bytes_info
  have hA : Calls Tryz.prog 31 #[.pointer (some ⟨fb, 0, none⟩), .int .u8 0, .int .u8 1] w fun e w' => e = .returned (.int .u8 1) ∧ w = w' := add_any fb w 0 1 hf
  have HA := Lib.hid hA
  have HF := Lib.hid hf
  have HU := Lib.hid (unit_ok w k h1 (by omega))
  have g1 : ¬ (k : Int) < 1 := by omega
  have g2 : ¬ (n : Int) < k := by omega
  have g3 : ¬ (255 : Int) < n := by omega
  clear hA hf
  by_cases e : k < n
  · have g4 : (k : Int) < n := by omega
    have HC := Lib.hid (fun W (hW : FieldAt W fb) => cauchy_ok fb W (n - k) k hW (by omega) h1 (by omega))
    have e1 : ((n - k : Nat) : Int) = (n : Int) - k := by omega
    rw [e1] at HC
    clear e1
    go_enter Tryz.func9, Tryz.ntmps9
    go_wp2_with (fail)
    refine HA.out.mono ?_
    rintro e w' ⟨rfl, rfl⟩
    go_wp2_with (fail)
    refine HU.out.mono ?_
    rintro e w1 ⟨v1, cs1, rfl, m1, x1⟩
    rw [(Gm.unit_rect k).len] at m1
    go_wp2_with (fail)
    refine (HC.out w1 (HF.out.ext x1)).mono ?_
    rintro e w2 ⟨v2, cs2, rfl, m2, x2⟩
    rw [(Gm.cauchy_rect _ k).len] at m2
    obtain ⟨A2, c2, rfl, q1, q2⟩ := ownsRow_slice m2.own
    have HO := Lib.hid (ownsRow_ext m1.own x2)
    have HR2 := Lib.hid (Rd.of_own m2.own)
    have HB := Lib.hid (own_row m1.own)
    have H1 := Lib.hid m2.rows.one
    have M1 := Lib.hid m1
    have M2 := Lib.hid m2
    have x12 := x1.trans x2
    have hsz := x12.size
    clear m1 m2
    go_wp2_with (at_builtin; refine wpList_append_rd _ rfl (.tmp 45) (.tmp 46) 39 rfl w.heap.size 46 i0 _ 1 24 Tryz.underlying39 hi0 hz0 hz1 hz2 rfl (by omega) v1 k cs1 rfl HO.out A2 (n - k) c2 cs2 rfl HR2.out H1.out (by omega) (by unfold maxLen; omega) (by omega) ?_; intro v5 w5 hown hgr hat; rw [show k + (n - k) = n by omega] at hown; obtain ⟨A5, c5, rfl, q5, q6⟩ := ownsRow_slice hown)
    go_ret2
    have x5 : Ext w w5 := x12.ofGrown hgr HB.out
    have r1 : Rows w5 cs1 (Gm.unit k) := (M1.out.ext x2).rows_grown hgr (fun i u q hu hq e => (M1.out.cool i u q hu hq) (.inl e))
    have r2 : Rows w5 cs2 (Gm.cauchy (n - k) k) := M2.out.rows_grown hgr (fun i u q hu hq e => by
      have h1 := (M1.out.own.lt q e).2
      have h2 := (M2.out.block hu hq).1
      omega)
    have hmx : Mx w5 A5 n c5 (Gm.gen k n) := ⟨Gm.gen_length h2, q5, q6, cs1 ++ cs2, Rd.of_own hown, r1.append r2⟩
    exact ⟨_, rfl, Cd.new (HF.out.ext x5) hmx h1 h2 h3 _, x5.thenAlloc _⟩
  · obtain rfl : n = k := by omega
    go_enter Tryz.func9, Tryz.ntmps9
    go_wp2_with (fail)
    refine HA.out.mono ?_
    rintro e w' ⟨rfl, rfl⟩
    go_wp2_with (fail)
    refine HU.out.mono ?_
    intro e w1 hg
    obtain ⟨A1, c1, rfl, m1, x1⟩ := gives_mx hg
    clear hg
    rw [(Gm.unit_rect n).len] at m1
    rw [(Gm.unit_rect n).len]
    go_wp2_with (fail)
    go_ret2
    exact ⟨_, rfl, Cd.new (HF.out.ext x1) (by rw [gen_all]; exact m1) h1 h2 h3 _, x1.thenAlloc _⟩
end Go.Proofs.YtfpglkacjecoeaaGreat
