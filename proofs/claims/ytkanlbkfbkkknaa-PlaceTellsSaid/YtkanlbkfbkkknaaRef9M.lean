/- The contract of the document's Move (chapter 09). -/
import Derived.Test.YtkanlbkfbkkknaaPlaceMoveOk
import Derived.Test.YtkanlbkfbkkknaaPlMore
import Derived.Test.YtkanlbkfbkkknaaRef9A
namespace Go.Proofs.Ytkanlbkfbkkknaa
open Go.RowKit

theorem Ps.none0 (w : World) : Ps w none 0 0 [] := ⟨rfl, Nat.le_refl _, by omega, fun k hk => absurd hk (Nat.not_lt_zero _)⟩
theorem off_old {w wr : World} {v : Value} {A : Option Addr} {n c : Nat} {l : List Int} (hi : Is w A n c l) (hx : Ext w wr) (hv : ∀ q, v.ownBlock = some q → w.heap.size ≤ q) : Off wr v A n := fun hn b hb => by
  obtain ⟨b', off, e, hc⟩ := hi.rd.2 hn
  have h0 := World.block_lt_of_cell? _ _ (hc 0 _ (icells_get (by rw [hi.len]; exact hn)))
  rw [e] at hb
  injection hb with hb
  have hb : b' = b := hb
  have h0 : b' < w.heap.size := h0
  refine ⟨by have := hx.size; omega, fun e2 => ?_⟩
  have := hv b e2
  omega
/-- What the document's Move hands back. -/
def GivesMv (w : World) (l : List Pl.P) (a b : Int) (r : Ending) (w' : World) : Prop :=
  ∃ A c B d, r = .returned (.tuple #[.slice A (Pl.moveL l a b).length c, .slice B (Pl.moveG l a b).length d, .int .i64 (Pl.moveE l a b)]) ∧ Ps w' A (Pl.moveL l a b).length c (Pl.moveL l a b) ∧ Is w' B (Pl.moveG l a b).length d (Pl.moveG l a b) ∧ Ext w w'
theorem GivesMv.no {w w' : World} {l : List Pl.P} {a b : Int} {e : Int} (hx : Ext w w') (hE : Pl.moveE l a b = e) (h0 : ¬ (Pl.All l ∧ Pl.MayMove l a b)) : GivesMv w l a b (.returned (.tuple #[.slice none 0 0, .slice none 0 0, .int .i64 e])) w' := by
  have e1 : Pl.moveL l a b = [] := if_neg h0
  have e2 : Pl.moveG l a b = [] := if_neg h0
  unfold GivesMv
  rw [e1, e2, hE]
  exact ⟨none, 0, none, 0, rfl, Ps.none0 w', Is.none w', hx⟩

set_option maxRecDepth 100000 in
set_option maxHeartbeats 4000000 in
theorem rMove_any (w : World) (A : Option Addr) (n c : Nat) (l : List Pl.P) (hl : Ps w A n c l) (a b : Int) :
    Calls Try.prog 26 #[.slice A n c, .int .i64 a, .int .i64 b] w (GivesMv w l a b) := by
  have ha := rAll_any w A n c l hl
  have hmax := hl.max
  have hle := hl.le
  have L := Lib.hid hl.len
  have HL := Lib.hid hl
  clear hl
  by_cases hA : Pl.All l
  · rw [decide_eq_true hA] at ha
    by_cases hr : (0 ≤ a ∧ a < 256) ∧ (0 ≤ b ∧ b < 256) ∧ a ≠ b
    · obtain ⟨n1, n2, n3⟩ := hr
      obtain ⟨i0, hi0, hz0, hz1, hz2⟩ := info_parts int_info
      obtain ⟨i1, hi1, hy0, hy1, hy2⟩ := info_parts place_info
      have hn : n ≤ 1000 := by rw [← L.out]; exact hA.2.1
      have HA := Lib.hid hA
      have e3 : (a == b) = false := by rw [beq_eq_false_iff_ne]; exact n3
      have N3 := Lib.hid n3
      have t1 : ¬ a < 0 := by omega
      have t2 : ¬ 256 ≤ a := by omega
      have t3 : ¬ b < 0 := by omega
      have t4 : ¬ 256 ≤ b := by omega
      clear hA n3
      go_enter Try.func26, Try.ntmps26
      go_wp2_with (fail)
      with_reducible refine ha.mono ?_
      rintro r w1 ⟨rfl, x1⟩
      have X1 := Lib.hid x1
      clear ha x1
      go_wp2_with (fail)
      clear e3 t1 t2 t3 t4
      go_loopw [9, 10, 11] (fun s9 s10 s11 wr => ∃ k : Nat, k ≤ n ∧ s11 = .int .i64 k ∧ RowKit.Hid (OwnPs False w1.heap.size wr s9 s10 (Pl.movedTo l a b k)) ∧ RowKit.Hid (wr.ownsRow w1.heap.size 3 1 s10 (Pl.groupsTo l a k).length (icells (Pl.groupsTo l a k))) ∧ RowKit.Hid (s9.ownBlock = none ∨ s9.ownBlock ≠ s10.ownBlock) ∧ RowKit.Hid (Ext w1 wr) ∧ RowKit.Hid (∀ j, j < k → ¬ Pl.Hinders a b (Pl.pget l j))) (fun _ _ s11 _ => n - (intOf s11).toNat)
      case atStart => exact ⟨0, by omega, rfl, Lib.hid (OwnPs.nil _ _ _ _), Lib.hid (World.ownsRow_nil _ _ _ _), Lib.hid (.inl rfl), Lib.hid (Ext.refl w1), Lib.hid fun j hj => absurd hj (Nat.not_lt_zero _)⟩
      case round =>
        obtain ⟨k, hk, rfl, HO, HG, HNE, HX, HH⟩ := hrel
        obtain ⟨wo, hwo⟩ : ∃ wo : World, wo = wr := ⟨_, rfl⟩
        subst hwo
        by_cases hlt : k < n
        · have q1 : (k : Int) < n := by omega
          have hlk : k < l.length := by rw [L.out]; exact hlt
          have hml := Pl.movedTo_length (l := l) (a := a) (b := b) (k := k) (by omega)
          obtain ⟨b0, off, A', n', c', rfl, r1, r2, hi⟩ := HL.out.rd k hlt
          have HI := Lib.hid (hi.ext X1.out)
          replace r1 := (X1.out.trans HX.out).cell r1
          replace r2 := (X1.out.trans HX.out).cell r2
          have hright := HA.out.2.2 _ (Pl.pget_mem (l := l) (k := k) hlk)
          obtain ⟨⟨_, _, p1, p2, p3, p4⟩, _⟩ := hright
          have hn' : n' ≤ 255 := by rw [← hi.len]; exact p4
          have hnl := hi.len
          have hml1 := hi.le
          have hml2 := hi.max
          obtain ⟨e, he⟩ : ∃ e, (Pl.pget l k).1 = e := ⟨_, rfl⟩
          obtain ⟨nodes, hnn⟩ : ∃ nodes, (Pl.pget l k).2 = nodes := ⟨_, rfl⟩
          rw [he] at r1 p1 p2
          rw [hnn] at HI hnl
          have HE := Lib.hid he
          have HN := Lib.hid hnn
          have HPG := Lib.hid (show Pl.pget l k = (e, nodes) from Prod.ext he hnn)
          clear he hnn p3 p4 hi
          have bx := heap_alloc_new wo (.cells #[.int .i64 e, .slice A' n' c'] 33)
          have xa := Ext.alloc wo (.cells #[.int .i64 e, .slice A' n' c'] 33)
          have hcall := fun W (hW : Ext w1 W) (v : Int) => rIndex_any W e A' n' c' nodes v (HI.out.ext hW)
          have HC := Lib.hid hcall
          clear hcall
          go_wp2_with (fail)
          obtain ⟨p, hp⟩ : ∃ p, wo.heap.size = p := ⟨_, rfl⟩
          rw [hp] at bx
          rw [hp]
          have HP := Lib.hid hp
          have NL := Lib.hid hnl
          generalize wo.alloc (.cells #[.int .i64 e, .slice A' n' c'] 33) = W at *
          clear hp hnl
          with_reducible refine (HC.out W (HX.out.trans xa) a).mono ?_
          rintro r W1 ⟨rfl, xb⟩
          have XW1 := Lib.hid (xa.trans xb)
          have B1 := Lib.hid ((xb.block p (Array.getElem?_eq_some_iff.1 bx).1).trans bx)
          clear bx xa xb
          have s0 : W1.cell? ⟨p, 0, none⟩ = some (.int .i64 e) := by rw [cell_of_row W1 _ _ _ _ _ B1.out]; rfl
          have s1 : W1.cell? ⟨p, 1, none⟩ = some (.slice A' n' c') := by rw [cell_of_row W1 _ _ _ _ _ B1.out]; rfl
          have LO : RowKit.Hid (∀ q, u10.ownBlock = some q → w1.heap.size ≤ q ∧ q < p) := Lib.hid fun q hq => by have := HG.out.lt q hq; have := HP.out; omega
          have LO1 : RowKit.Hid (∀ q, u9.ownBlock = some q → w1.heap.size ≤ q ∧ q < p) := Lib.hid fun q hq => by
            obtain ⟨cs, o1, _⟩ := HO.out.cells
            have := o1.lt q hq
            have := HP.out
            omega
          by_cases hin : a ∈ nodes
          · obtain ⟨i, hilt, hie⟩ : ∃ i : Nat, i < nodes.length ∧ Il.idx nodes a = (i : Int) := by
              have h0 := (Il.idx_mem nodes a).2 hin
              have h1 := Il.idx_lt nodes a
              exact ⟨(Il.idx nodes a).toNat, by omega, by omega⟩
            rw [hie]
            have HIE := Lib.hid hie
            have HIN := Lib.hid hin
            have hin' : i < n' := by rw [← NL.out]; exact hilt
            have IL := Lib.hid hilt
            clear hie hin hilt
            have hc2 := HC.out W1 (HX.out.trans XW1.out) b
            by_cases hbn : b ∈ nodes
            · have hb0 : 0 ≤ Il.idx nodes b := (Il.idx_mem nodes b).2 hbn
              have hbad : ¬ Pl.MayMove l a b := fun hM => hM.2.2.2 _ (Pl.pget_mem hlk) (by rw [HPG.out]; exact ⟨HIN.out, .inl hbn⟩)
              have HB := Lib.hid hbad
              clear hbad hbn
              go_wp2_with (fail)
              with_reducible refine hc2.mono ?_
              rintro r W2 ⟨rfl, xc⟩
              have XC := Lib.hid xc
              clear hc2 xc
              go_wp2_with (fail)
              refine bodyPost_ret (results_tmp3 rfl _ _ _) rfl ?_
              exact GivesMv.no ((X1.out.trans HX.out).trans (XW1.out.trans XC.out)) (by unfold Pl.moveE; rw [if_pos HA.out, if_neg HB.out]) (fun q => HB.out q.2)
            · have hb0 : ¬ 0 ≤ Il.idx nodes b := fun q => hbn ((Il.idx_mem nodes b).1 q)
              by_cases hem : e = 1099511627776
              · have hem' : (e == 1099511627776) = true := by rw [hem]; rfl
                have hbad : ¬ Pl.MayMove l a b := fun hM => hM.2.2.2 _ (Pl.pget_mem hlk) (by rw [HPG.out]; exact ⟨HIN.out, .inr (by show (1099511627776 : Int) ≤ e; omega)⟩)
                have HB := Lib.hid hbad
                clear hbad hbn hem
                go_wp2_with (fail)
                with_reducible refine hc2.mono ?_
                rintro r W2 ⟨rfl, xc⟩
                have XC := Lib.hid xc
                replace s0 := xc.cell s0
                replace s1 := xc.cell s1
                clear hc2 xc
                go_wp2_with (fail)
                refine bodyPost_ret (results_tmp3 rfl _ _ _) rfl ?_
                exact GivesMv.no ((X1.out.trans HX.out).trans (XW1.out.trans XC.out)) (by unfold Pl.moveE; rw [if_pos HA.out, if_neg HB.out]) (fun q => HB.out q.2)
              · have hem' : (e == 1099511627776) = false := beq_eq_false_iff_ne.2 hem
                have hnh : ¬ Pl.Hinders a b (Pl.pget l k) := fun hM => by
                  rw [HPG.out] at hM
                  rcases hM.2 with q | q
                  · exact hbn q
                  · have q : (1099511627776 : Int) ≤ e := q
                    omega
                have HNH := Lib.hid hnh
                have he1 : e + 1 ≤ 1099511627776 := by omega
                clear hnh hbn hem
                go_wp2_with (fail)
                with_reducible refine hc2.mono ?_
                rintro r W2 ⟨rfl, xc⟩
                have XC := Lib.hid (XW1.out.trans xc)
                replace s0 := xc.cell s0
                replace s1 := xc.cell s1
                have B2 := Lib.hid ((xc.block p (Array.getElem?_eq_some_iff.1 B1.out).1).trans B1.out)
                have PLT2 := Lib.hid (Nat.lt_of_lt_of_le (Array.getElem?_eq_some_iff.1 B1.out).1 xc.size)
                have hsrc := Lib.hid ((HI.out.ext (HX.out.trans XC.out)).rd)
                clear hc2 xc
                have i3 : (i : Int) < n' := by omega
                go_upto_region 19 with (
                  at_builtin
                  refine wpList_append_rd _ rfl (.tmp 65) (.tmp 67) 28 rfl W2.heap.size 3 i0 _ 1 8 Try.underlying28 hi0 hz0 hz1 hz2 rfl (by omega) (.slice none 0 0) 0 [] rfl (World.ownsRow_nil _ _ _ _) A' n' c' (icells nodes) rfl hsrc.out (by exact icells_one nodes) (by omega) (by unfold maxLen; omega) (Nat.le_refl _) ?_
                  intro v3 W3 hown3 hg3 hat3
                  rw [Nat.zero_add, List.nil_append] at hown3
                  have X3 := Lib.hid (Ext.ofGrown (w := W2) XC.out hg3 (fun q hq => by simp [Value.ownBlock] at hq))
                  have B3 := Lib.hid ((hg3.block p PLT2.out (by simp [Value.ownBlock])).trans B2.out)
                  obtain ⟨D, d, rfl, _, _⟩ := ownsRow_slice hown3
                  obtain ⟨gd, rfl, j1, j2⟩ := own_addr hown3 (by omega)
                  have k1 : W3.cell? ⟨gd, i, none⟩ = some (.int .i64 (Il.get nodes i)) := by rw [hown3.cellAt i (by omega), icells_get IL.out]
                  have k2 : W3.frozen? ⟨gd, i, none⟩ = false := hown3.frozenAt i
                  have O3 := Lib.hid hown3
                  have J1 := Lib.hid (And.intro j1 j2)
                  clear hown3 hg3 hat3 s0 s1 j1 j2)
                have PLT := PLT2.out
                have B4 := Lib.hid (show (W3.setCell ⟨gd, i, none⟩ (.int .i64 b)).heap[p]? = _ from (heap_setCell_other W3 ⟨gd, i, none⟩ p (.int .i64 b) (by have := J1.out; show p ≠ gd; omega)).trans B3.out)
                have c0 : (W3.setCell ⟨gd, i, none⟩ (.int .i64 b)).cell? ⟨p, 0, none⟩ = some (.int .i64 e) := by rw [cell_of_row _ _ _ _ _ _ B4.out]; rfl
                have X4 := Lib.hid (show Ext wo (W3.setCell ⟨gd, i, none⟩ (.int .i64 b)) from X3.out.set_ (by have := J1.out; have := HP.out; show wo.heap.size ≤ gd; omega) _)
                have O4 := Lib.hid (show (W3.setCell ⟨gd, i, none⟩ (.int .i64 b)).ownsRow W2.heap.size 3 1 (.slice (some ⟨gd, 0, none⟩) n' d) n' (icells (nodes.set i b)) by rw [icells_set]; exact (O3.out.stored i _).1)
                have hp1 := (HO.out.ext (X4.out.thenAlloc (.cells #[.int .i64 (e + 1), .slice (some ⟨gd, 0, none⟩) n' d] 33)))
                obtain ⟨cs, o1, o2⟩ := hp1.cells
                have hlen := Lib.hid o1.1
                rw [hml] at o1
                have O2 := Lib.hid o2
                have hb4 : w1.heap.size ≤ ((W3.setCell ⟨gd, i, none⟩ (.int .i64 b)).alloc (.cells #[.int .i64 (e + 1), .slice (some ⟨gd, 0, none⟩) n' d] 33)).heap.size := by
                  have := HX.out.size
                  have := (X4.out.thenAlloc (.cells #[.int .i64 (e + 1), .slice (some ⟨gd, 0, none⟩) n' d] 33)).size
                  omega
                have HB4 := Lib.hid hb4
                have lg := Pl.groupsTo_length l a k
                clear hp1 o2 hb4
                obtain ⟨W4, hW4⟩ : ∃ W4, W3.setCell ⟨gd, i, none⟩ (.int .i64 b) = W4 := ⟨_, rfl⟩
                rw [hW4] at B4 c0 X4 O4 o1 O2 HB4 ⊢
                clear hW4 k1 k2
                go_wp2_with (first
                  | (at_builtin
                     refine wpList_append_rd _ rfl (.tmp 73) (.tmp 79) 24 rfl w1.heap.size 33 i1 _ 2 32 Try.underlying24 hi1 hy0 hy1 hy2 rfl (by omega) u9 k cs rfl o1
                        (some ⟨W4.heap.size, 0, none⟩) 1 1 [.int .i64 (e + 1), .slice (some ⟨gd, 0, none⟩) n' d] rfl (Rd.lit2 _ _ _ _) (by simp [Value.oneCell']) (by omega) (by unfold maxLen; omega) HB4.out ?_
                     intro v5 W5 ho5 hg5 hat5
                     have OO5 := Lib.hid ho5
                     have HG5 := Lib.hid hg5
                     have HAT5 := Lib.hid hat5
                     have XW5 := Lib.hid (show Ext w1 W5 from Ext.ofGrown (HX.out.trans (X4.out.thenAlloc _)) hg5 (fun q hq => (LO1.out q hq).1))
                     have GR5 := Lib.hid (show W5.ownsRow w1.heap.size 3 1 u10 (Pl.groupsTo l a k).length (icells (Pl.groupsTo l a k)) from ownsRow_grown (ownsRow_ext HG.out (X4.out.thenAlloc _)) hg5 (apart_symm HNE.out))
                     have SZ5 := Lib.hid (show w1.heap.size ≤ (W5.alloc (.cells #[.int .i64 (k : Int)] 3)).heap.size from by have := XW5.out.size; simp; omega)
                     clear ho5 hg5 hat5)
                  | (at_builtin
                     refine wpList_append_rd _ rfl (.tmp 81) (.tmp 83) 28 rfl w1.heap.size 3 i0 _ 1 8 Try.underlying28 hi0 hz0 hz1 hz2 rfl (by omega) u10 (Pl.groupsTo l a k).length (icells (Pl.groupsTo l a k)) rfl (ownsRow_ext GR5.out (Ext.alloc _ _))
                       (some ⟨W5.heap.size, 0, none⟩) 1 1 [.int .i64 (k : Int)] rfl (Rd.lit _ _ _) (by simp [Value.oneCell']) (by omega) (by unfold maxLen; omega) SZ5.out ?_
                     intro v6 W6 ho6 hg6 hat6))
                have hmo : Pl.movedOne a b (Pl.pget l k) = (e + 1, nodes.set i b) := by unfold Pl.movedOne; rw [HPG.out, if_pos HIN.out, HIE.out, Int.toNat_natCast]
                have hgs : Pl.groupsTo l a (k + 1) = Pl.groupsTo l a k ++ [(k : Int)] := by rw [Pl.groupsTo_succ, HN.out, if_pos HIN.out]
                have hI : Is (W4.alloc (.cells #[.int .i64 (e + 1), .slice (some ⟨gd, 0, none⟩) n' d] 33)) (some ⟨gd, 0, none⟩) n' d (nodes.set i b) := (Own.mk (base := W2.heap.size) (e := 3) O4.out).ints.ext (Ext.alloc _ _)
                have hgdo : ∀ v : Value, (∀ q, v.ownBlock = some q → w1.heap.size ≤ q ∧ q < p) → Off (W4.alloc (.cells #[.int .i64 (e + 1), .slice (some ⟨gd, 0, none⟩) n' d] 33)) v (some ⟨gd, 0, none⟩) n' := fun v hv _ q hq => by
                  injection hq with hq
                  have hq' : gd = q := hq
                  have h1 := (O4.out.lt gd rfl).2
                  refine ⟨by simp; omega, fun e2 => ?_⟩
                  have := (hv q e2).2
                  have := J1.out
                  omega
                have hpush := OwnPs.push (fr := False) (e := e + 1) (nodes := nodes.set i b) O2.out hlen.out hI (hgdo _ LO1.out) (hgdo _ LO.out) (fun f => f.elim) (by rw [hml]; exact OO5.out) HG5.out HAT5.out
                have hsz4 : p < (W4.alloc (.cells #[.int .i64 (e + 1), .slice (some ⟨gd, 0, none⟩) n' d] 33)).heap.size := by
                  have := (Array.getElem?_eq_some_iff.1 B4.out).1
                  simp; omega
                have ha1 : v5.ownBlock = none ∨ v5.ownBlock ≠ u10.ownBlock := apart_symm (apart_step (apart_symm HNE.out) HAT5.out (fun q hq => by have := (LO.out q hq).2; omega))
                refine ⟨⟨k + 1, by omega, by go_num, Lib.hid ?_, Lib.hid ?_, Lib.hid ?_, Lib.hid ?_, Lib.hid fun j hj => ?_⟩, by simp [intOf]; omega⟩
                · rw [Pl.movedTo_succ hlk, hmo]
                  exact (hpush.ext (Ext.alloc _ _)).other ha1 hg6 hat6
                · rw [hgs, icells_append, List.length_append]
                  exact ho6
                · exact apart_step ha1 hat6 (fun q hq => by have := (OO5.out.lt q hq).2; simp; omega)
                · exact Ext.ofGrown (XW5.out.thenAlloc _) hg6 (fun q hq => (LO.out q hq).1)
                · by_cases hjk : j = k
                  · rw [hjk]
                    exact HNH.out
                  · exact HH.out j (by omega)
          · have hneg : Il.idx nodes a < 0 := by
              have := (Il.idx_mem nodes a).1
              exact Int.not_le.1 fun q => hin (this q)
            have hp1 := (HO.out.ext (XW1.out.thenAlloc (.cells #[.int .i64 e, .slice A' n' c'] 33)))
            obtain ⟨cs, o1, o2⟩ := hp1.cells
            have hlen := Lib.hid o1.1
            rw [hml] at o1
            have O2 := Lib.hid o2
            have hb4 : w1.heap.size ≤ (W1.alloc (.cells #[.int .i64 e, .slice A' n' c'] 33)).heap.size := by
              have := HX.out.size
              have := (XW1.out.thenAlloc (.cells #[.int .i64 e, .slice A' n' c'] 33)).size
              omega
            have HB4 := Lib.hid hb4
            clear hp1 o2 hb4
            go_wp2_with (
              at_builtin
              refine wpList_append_rd _ rfl (.tmp 52) (.tmp 54) 24 rfl w1.heap.size 33 i1 _ 2 32 Try.underlying24 hi1 hy0 hy1 hy2 rfl (by omega) u9 k cs rfl o1
                    (some ⟨W1.heap.size, 0, none⟩) 1 1 [.int .i64 e, .slice A' n' c'] rfl (Rd.lit2 _ _ _ _) (by simp [Value.oneCell']) (by omega) (by unfold maxLen; omega) HB4.out ?_
              intro v2 W6 ho2 hg2 hat2)
            have hmo : Pl.movedOne a b (Pl.pget l k) = (e, nodes) := by unfold Pl.movedOne; rw [HPG.out, if_neg hin]
            have hgs : Pl.groupsTo l a (k + 1) = Pl.groupsTo l a k := by rw [Pl.groupsTo_succ, HN.out, if_neg hin, List.append_nil]
            have hI := (HI.out.ext (HX.out.trans (XW1.out.thenAlloc (.cells #[.int .i64 e, .slice A' n' c'] 33))))
            refine ⟨⟨k + 1, by omega, by go_num, Lib.hid ?_, Lib.hid ?_, Lib.hid ?_, Lib.hid ?_, Lib.hid fun j hj => ?_⟩, by simp [intOf]; omega⟩
            · rw [Pl.movedTo_succ hlk, hmo]
              exact OwnPs.push O2.out hlen.out hI (off_old HI.out (HX.out.trans (XW1.out.thenAlloc _)) (fun q hq => (LO1.out q hq).1)) (off_old HI.out (HX.out.trans (XW1.out.thenAlloc _)) (fun q hq => (LO.out q hq).1)) (fun f => f.elim) (by rw [hml]; exact ho2) hg2 hat2
            · rw [hgs]
              exact ownsRow_grown (ownsRow_ext HG.out (XW1.out.thenAlloc _)) hg2 (apart_symm HNE.out)
            · exact apart_symm (apart_step (apart_symm HNE.out) hat2 (fun q hq => by have := (LO.out q hq).2; have := HP.out; have := (XW1.out.thenAlloc (.cells #[.int .i64 e, .slice A' n' c'] 33)).size; omega))
            · exact Ext.ofGrown (HX.out.trans (XW1.out.thenAlloc _)) hg2 (fun q hq => (LO1.out q hq).1)
            · by_cases hjk : j = k
              · rw [hjk, HPG.out]
                exact fun q => hin q.1
              · exact HH.out j (by omega)
        · have q1 : ¬ (k : Int) < n := by omega
          obtain rfl : k = n := by omega
          have hM : Pl.MayMove l a b := ⟨n1, n2, N3.out, fun p hp => by
            obtain ⟨j, hj, rfl⟩ := Pl.mem_pget hp
            exact HH.out j (by rw [L.out] at hj; exact hj)⟩
          have e1 : Pl.moveL l a b = Pl.movedTo l a b k := by unfold Pl.moveL; rw [if_pos ⟨HA.out, hM⟩, ← Pl.movedTo_all, L.out]
          have e2 : Pl.moveG l a b = Pl.groupsTo l a k := by unfold Pl.moveG; rw [if_pos ⟨HA.out, hM⟩]; unfold Pl.groups; rw [L.out]
          have e3 : Pl.moveE l a b = 0 := by unfold Pl.moveE; rw [if_pos HA.out, if_pos hM]
          obtain ⟨C, d, rfl, hps⟩ := HO.out.ps
          obtain ⟨D, d2, rfl, _, _⟩ := ownsRow_slice HG.out
          have hgi := (Own.mk (base := w1.heap.size) (e := 3) HG.out).ints
          have HPS := Lib.hid hps
          have HGI := Lib.hid hgi
          have EE := Lib.hid (And.intro e1 (And.intro e2 e3))
          clear hps hgi e1 e2 e3 hM
          go_wp2_with (fail)
          refine bodyPost_ret (results_tmp3 rfl _ _ _) rfl ?_
          unfold GivesMv
          rw [EE.out.1, EE.out.2.1, EE.out.2.2]
          exact ⟨_, _, _, _, rfl, HPS.out, HGI.out, X1.out.trans HX.out⟩
    · have hc : a < 0 ∨ (¬ a < 0 ∧ 256 ≤ a) ∨ (¬ a < 0 ∧ ¬ 256 ≤ a ∧ b < 0) ∨ (¬ a < 0 ∧ ¬ 256 ≤ a ∧ ¬ b < 0 ∧ 256 ≤ b) ∨ (¬ a < 0 ∧ ¬ 256 ≤ a ∧ ¬ b < 0 ∧ ¬ 256 ≤ b ∧ a = b) := by omega
      have hbad : ¬ Pl.MayMove l a b := fun hM => hr ⟨hM.1, hM.2.1, hM.2.2.1⟩
      have HA := Lib.hid hA
      have HB := Lib.hid hbad
      clear hA hbad hr
      rcases hc with h1 | ⟨h1, h2⟩ | ⟨h1, h2, h3⟩ | ⟨h1, h2, h3, h4⟩ | ⟨h1, h2, h3, h4, h5⟩
      case' inr.inr.inr.inr => subst h5; have h6 : (a == a) = true := beq_self_eq_true a
      all_goals
        go_enter Try.func26, Try.ntmps26
        go_wp2_with (fail)
        with_reducible refine ha.mono ?_
        rintro r w1 ⟨rfl, x1⟩
        have X1 := Lib.hid x1
        clear x1
        go_wp2_with (fail)
        refine bodyPost_ret (results_tmp3 rfl _ _ _) rfl ?_
        exact GivesMv.no X1.out (by unfold Pl.moveE; rw [if_pos HA.out, if_neg HB.out]) (fun q => HB.out q.2)
  · rw [decide_eq_false hA] at ha
    have HA := Lib.hid hA
    clear hA
    go_enter Try.func26, Try.ntmps26
    go_wp2_with (fail)
    with_reducible refine ha.mono ?_
    rintro r w1 ⟨rfl, x1⟩
    have X1 := Lib.hid x1
    clear x1 ha
    go_wp2_with (fail)
    refine bodyPost_ret (results_tmp3 rfl _ _ _) rfl ?_
    exact GivesMv.no X1.out (by unfold Pl.moveE; rw [if_neg HA.out]) (fun q => HA.out q.1)
end Go.Proofs.Ytkanlbkfbkkknaa
