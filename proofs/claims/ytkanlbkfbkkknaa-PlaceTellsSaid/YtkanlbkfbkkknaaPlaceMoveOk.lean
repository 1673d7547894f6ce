/- The contract of place.Move where it moves. -/
import Derived.Test.YtkanlbkfbkkknaaPlaceMove
import Derived.Test.YtkanlbkfbkkknaaPlaceFirst
namespace Go.Proofs.Ytkanlbkfbkkknaa
open Go.RowKit

set_option maxRecDepth 100000 in
set_option maxHeartbeats 2000000 in
theorem move_ok (w : World) (A : Option Addr) (n c : Nat) (l : List Pl.P) (hl : Ps w A n c l) (a b : Int) (h : Pl.All l) (hm : Pl.MayMove l a b) :
    Calls Try.prog 12 #[.slice A n c, .int .i64 a, .int .i64 b] w fun r w' => ∃ v s, r = .returned (.tuple #[v, s, .int .i64 0]) ∧ NewPs w w' v (Pl.moved l a b) ∧ NewInts w w' s (Pl.groups l a) := by
  have d : decide (Pl.All l) = true := decide_eq_true h
  obtain ⟨n1, n2, n3, n4⟩ := hm
  obtain ⟨_, hn2, hr⟩ := h
  have L := Lib.hid hl.len
  have hn : n ≤ 1000 := by rw [← L.out]; exact hn2
  have HR := Lib.hid hr
  clear hn2 hr
  go_enter Try.func12, Try.ntmps12
  go_wp2_with (fail)
  have x0 : Ext w ((w.alloc (.cells #[.int .i64 a] 3)).alloc (.cells #[.int .i64 b] 3)) := (Ext.alloc _ _).thenAlloc _
  have c0 : ((w.alloc (.cells #[.int .i64 a] 3)).alloc (.cells #[.int .i64 b] 3)).cell? ⟨w.heap.size, 0, none⟩ = some (.int .i64 a) := (Ext.alloc (w.alloc (.cells #[.int .i64 a] 3)) _).cell (by rw [World.cell?_alloc_new]; rfl)
  have c1 : ((w.alloc (.cells #[.int .i64 a] 3)).alloc (.cells #[.int .i64 b] 3)).cell? ⟨w.heap.size + 1, 0, none⟩ = some (.int .i64 b) := cell_two _ _ _ _ _
  refine (all_any _ A n c l (hl.ext x0)).mono ?_
  rintro r w1 ⟨rfl, hx⟩
  rw [d]
  clear d
  have y0 := hx.cell c0
  have y1 := hx.cell c1
  have x1 := x0.trans hx
  clear c0 c1 hx x0
  go_wp2_with (fail)
  refine (node_any _ a).mono ?_
  rintro r w' ⟨rfl, rfl⟩
  rw [decide_eq_true n1]
  go_wp2_with (fail)
  refine (node_any _ b).mono ?_
  rintro r w' ⟨rfl, rfl⟩
  rw [decide_eq_true n2]
  have e3 : (a == b) = false := by rw [beq_eq_false_iff_ne]; exact n3
  have hq := hinders_asks w1 w.heap.size (w.heap.size + 1) a b y0 y1
  have hq2 : (l.any fun p => decide (Pl.Hinders a b p)) = false := (any_hinders l a b).2 n4
  have HQ := Lib.hid hq2
  clear hq2 n3
  go_wp2_with (fail)
  refine (containsFunc_any _ A n c l (hl.ext x1) 35 _ _ (enters_of Try.func35 (by kernel_rfl) rfl) hq).mono ?_
  rintro r w2 ⟨rfl, hx2⟩
  rw [HQ.out]
  have b0 := w1.block_lt_of_cell? _ y0
  have z0 := hx2.cell y0
  have z1 := hx2.cell y1
  have x2 := x1.trans hx2
  clear hq HQ y0 y1 hx2 x1 b0 e3
  obtain ⟨i0, hi0, hz0, hz1, hz2⟩ := info_parts int_info
  obtain ⟨i1, hi1, hy0, hy1, hy2⟩ := info_parts place_info
  have hmax := hl.max
  have hle := hl.le
  go_wp2_with (fail)
  go_loopw [11, 12, 44] (fun v s i wr => ∃ k : Nat, k ≤ n ∧ i = .int .i64 k ∧ OwnPs True w2.heap.size wr v s (Pl.movedTo l a b k) ∧ wr.ownsRow w2.heap.size 3 1 s (Pl.groupsTo l a k).length (icells (Pl.groupsTo l a k)) ∧ (v.ownBlock = none ∨ v.ownBlock ≠ s.ownBlock) ∧ Ext w2 wr) (fun _ _ i _ => n - (intOf i).toNat)
  case atStart => exact ⟨0, by omega, rfl, OwnPs.nil _ _ _ _, World.ownsRow_nil _ _ _ _, .inl rfl, Ext.refl w2⟩
  case round =>
    obtain ⟨k, hk, rfl, hown, hgr, hne, hx⟩ := hrel
    by_cases hlt : k < n
    · have q1 : (k : Int) < n := by omega
      obtain ⟨b0, off, A', n', c', rfl, r1, r2, hi⟩ := (hl.ext (x2.trans hx)).rd k hlt
      have hright := HR.out _ (Pl.pget_mem (l := l) (k := k) (by rw [L.out]; exact hlt))
      obtain ⟨⟨_, _, p1, p2, p3, p4⟩, _⟩ := hright
      have hn' : n' ≤ 255 := by rw [← hi.len]; exact p4
      have t0 := hx.cell z0
      have t1 := hx.cell z1
      generalize he : (Pl.pget l k).1 = e at *
      generalize hnn : (Pl.pget l k).2 = nodes at *
      have HE := Lib.hid he
      have HN := Lib.hid hnn
      clear he hnn
      obtain ⟨wo, rfl⟩ : ∃ wo : World, wo = wr := ⟨_, rfl⟩
      go_wp2_with (fail)
      have bx : (wo.alloc (.cells #[.int .i64 e, .slice A' n' c'] 33)).heap[wo.heap.size]? = some (.cells #[.int .i64 e, .slice A' n' c'] 33 (0, 0)) := heap_alloc_new wo _
      have hsz : (wo.alloc (.cells #[.int .i64 e, .slice A' n' c'] 33)).heap.size = wo.heap.size + 1 := by simp
      have xa : Ext wo (wo.alloc (.cells #[.int .i64 e, .slice A' n' c'] 33)) := Ext.alloc _ _
      generalize (wo.alloc (.cells #[.int .i64 e, .slice A' n' c'] 33)) = W at *
      refine (own_any W e A' n' c' nodes (hi.ext xa) (by omega)).mono ?_
      rintro r W1 ⟨v1, rfl, own1, xb⟩
      rw [hsz] at own1
      have B1 := (xb.block wo.heap.size (by omega)).trans bx
      have X1 := xa.trans xb
      clear bx hsz xa xb
      obtain ⟨D, d, rfl, _, _⟩ := ownsRow_slice own1
      have g0 : wo.heap.size < W1.heap.size := (Array.getElem?_eq_some_iff.1 B1).1
      have s0 : W1.cell? ⟨wo.heap.size, 0, none⟩ = some (.int .i64 e) := by rw [cell_of_row W1 _ _ _ _ _ B1]; rfl
      have s1 : W1.cell? ⟨wo.heap.size, 1, none⟩ = some (.slice A' n' c') := by rw [cell_of_row W1 _ _ _ _ _ B1]; rfl
      have f0 : W1.frozen? ⟨wo.heap.size, 0, none⟩ = false := frozen_of_row W1 _ _ _ _ B1
      have f1 : W1.frozen? ⟨wo.heap.size, 1, none⟩ = false := frozen_of_row W1 _ _ _ _ B1
      have u0 := X1.cell t0
      have u1 := X1.cell t1
      have g1 : w.heap.size + 1 < wo.heap.size := World.block_lt_of_cell? _ _ t1
      go_wp2_with (fail)
      have X2 : Ext wo ((W1.setCell ⟨wo.heap.size, 0, none⟩ (.int .i64 e)).setCell ⟨wo.heap.size, 1, none⟩ (.slice D nodes.length d)) := (X1.set_ (Nat.le_refl _) _).set_ (Nat.le_refl _) _
      have B2 : ((W1.setCell ⟨wo.heap.size, 0, none⟩ (.int .i64 e)).setCell ⟨wo.heap.size, 1, none⟩ (.slice D nodes.length d)).heap[wo.heap.size]? = some (.cells #[.int .i64 e, .slice D nodes.length d] 33 (0, 0)) :=
        heap_setCell_same _ wo.heap.size 1 _ _ (.slice D nodes.length d) (heap_setCell_same W1 wo.heap.size 0 _ _ (.int .i64 e) B1)
      have own2 : ((W1.setCell ⟨wo.heap.size, 0, none⟩ (.int .i64 e)).setCell ⟨wo.heap.size, 1, none⟩ (.slice D nodes.length d)).ownsRow (wo.heap.size + 1) 3 1 (.slice D nodes.length d) nodes.length (icells nodes) :=
        ownsRow_far (ownsRow_far own1 (p := ⟨wo.heap.size, 0, none⟩) (by show wo.heap.size < wo.heap.size + 1; omega) _) (p := ⟨wo.heap.size, 1, none⟩) (by show wo.heap.size < wo.heap.size + 1; omega) _
      generalize ((W1.setCell ⟨wo.heap.size, 0, none⟩ (.int .i64 e)).setCell ⟨wo.heap.size, 1, none⟩ (.slice D nodes.length d)) = W2 at *
      clear s0 s1 f0 f1 u0 u1 own1 B1 X1 W
      refine (pIndex_any _ e D nodes.length d nodes a (Own.mk (base := wo.heap.size + 1) (e := 3) own2).ints).mono ?_
      rintro r W3 ⟨rfl, xc⟩
      have X3 := X2.trans xc
      have own3 := ownsRow_ext own2 xc
      have g2 : wo.heap.size < W2.heap.size := (Array.getElem?_eq_some_iff.1 B2).1
      have B3 := (xc.block wo.heap.size g2).trans B2
      clear X2 B2 own2 xc g2 W2
      have s0 : W3.cell? ⟨wo.heap.size, 0, none⟩ = some (.int .i64 e) := by rw [cell_of_row W3 _ _ _ _ _ B3]; rfl
      have s1 : W3.cell? ⟨wo.heap.size, 1, none⟩ = some (.slice D nodes.length d) := by rw [cell_of_row W3 _ _ _ _ _ B3]; rfl
      have f0 : W3.frozen? ⟨wo.heap.size, 0, none⟩ = false := frozen_of_row W3 _ _ _ _ B3
      have f1 : W3.frozen? ⟨wo.heap.size, 1, none⟩ = false := frozen_of_row W3 _ _ _ _ B3
      have u0 := X3.cell t0
      have u1 := X3.cell t1
      by_cases hin : a ∈ nodes
      · obtain ⟨i, hilt, hie⟩ : ∃ i : Nat, i < nodes.length ∧ Il.idx nodes a = (i : Int) := by
          have h0 := (Il.idx_mem nodes a).2 hin
          have h1 := Il.idx_lt nodes a
          exact ⟨(Il.idx nodes a).toNat, by omega, by omega⟩
        rw [hie]
        have HIE := Lib.hid hie
        clear hie
        obtain ⟨gd, rfl, j1, j2⟩ := own_addr own3 (by omega)
        have k1 : W3.cell? ⟨gd, i, none⟩ = some (.int .i64 (Il.get nodes i)) := by rw [own3.cellAt i (by omega), icells_get hilt]
        have k2 : W3.frozen? ⟨gd, i, none⟩ = false := own3.frozenAt i
        have i3 : (i : Int) < nodes.length := by omega
        have lg := Pl.groupsTo_length l a k
        have hlow : ∀ q, u12.ownBlock = some q → w2.heap.size ≤ q ∧ q < wo.heap.size := fun q hq => hgr.lt q hq
        obtain ⟨cs, o1, o2⟩ := hown.cells
        have hlow1 : ∀ q, u11.ownBlock = some q → w2.heap.size ≤ q ∧ q < wo.heap.size := fun q hq => o1.lt q hq
        clear o1 o2
        have X4 : Ext wo (((W3.setCell ⟨gd, i, none⟩ (.int .i64 b)).setCell ⟨wo.heap.size, 0, none⟩ (.int .i64 (e + 1))).alloc (.cells #[.int .i64 k] 3)) := ((X3.set_ (by show wo.heap.size ≤ gd; omega) _).set_ (Nat.le_refl _) _).thenAlloc _
        have own4 : (((W3.setCell ⟨gd, i, none⟩ (.int .i64 b)).setCell ⟨wo.heap.size, 0, none⟩ (.int .i64 (e + 1))).alloc (.cells #[.int .i64 k] 3)).ownsRow (wo.heap.size + 1) 3 1 (.slice (some ⟨gd, 0, none⟩) nodes.length d) nodes.length (icells (nodes.set i b)) := by
          rw [icells_set]
          exact ownsRow_ext (ownsRow_far (own3.stored i _).1 (by show wo.heap.size < wo.heap.size + 1; omega) _) (Ext.alloc _ _)
        have B4 : (((W3.setCell ⟨gd, i, none⟩ (.int .i64 b)).setCell ⟨wo.heap.size, 0, none⟩ (.int .i64 (e + 1))).alloc (.cells #[.int .i64 k] 3)).heap[wo.heap.size]? = some (.cells #[.int .i64 (e + 1), .slice (some ⟨gd, 0, none⟩) nodes.length d] 33 (0, 0)) := by
          rw [Below.heap_alloc _ _ _ (by simp; omega)]
          exact heap_setCell_same _ wo.heap.size 0 _ _ (.int .i64 (e + 1)) ((heap_setCell_other W3 ⟨gd, i, none⟩ wo.heap.size (.int .i64 b) (by show wo.heap.size ≠ gd; omega)).trans B3)
        have S5 := Rd.lit ((W3.setCell ⟨gd, i, none⟩ (.int .i64 b)).setCell ⟨wo.heap.size, 0, none⟩ (.int .i64 (e + 1))) #[.int .i64 k] 3
        have z4 : (((W3.setCell ⟨gd, i, none⟩ (.int .i64 b)).setCell ⟨wo.heap.size, 0, none⟩ (.int .i64 (e + 1))).alloc (.cells #[.int .i64 k] 3)).heap.size = W3.heap.size + 1 := by simp
        have X4' := Lib.hid X4
        have own4' := Lib.hid own4
        have B4' := Lib.hid B4
        have S5' := Lib.hid S5
        have Z4 := Lib.hid z4
        have hno : u12.ownBlock ≠ some wo.heap.size := fun e => by have := hlow _ e; omega
        have hno2 : u12.ownBlock ≠ some gd := fun e => by have := hlow _ e; omega
        have NO := Lib.hid hno
        have NO2 := Lib.hid hno2
        have LO := Lib.hid hlow
        have LO1 := Lib.hid hlow1
        clear X4 own4 B4 S5 z4 hno hno2 hlow hlow1
        go_wp2_with (first
          | (at_builtin
             refine wpList_append_rd _ rfl (.tmp 65) (.tmp 67) 28 rfl w2.heap.size 3 i0 _ 1 8 Try.underlying28 hi0 hz0 hz1 hz2 rfl (by omega) u12 (Pl.groupsTo l a k).length (icells (Pl.groupsTo l a k)) rfl (ownsRow_ext hgr X4'.out)
               (some ⟨W3.heap.size, 0, none⟩) 1 1 [.int .i64 k] rfl (by simpa using S5'.out) (by simp [Value.oneCell']) (by omega) (by unfold maxLen; omega) (by have := X4'.out.size; have := hx.size; omega) ?_
             intro v1 W5 hgr5 hg hat
             have B5 := (hg.block wo.heap.size (by rw [Z4.out]; have := X3.size; omega) (fun e => NO.out e.symm)).trans B4'.out
             have c0 : W5.cell? ⟨wo.heap.size, 0, none⟩ = some (.int .i64 (e + 1)) := by rw [cell_of_row W5 _ _ _ _ _ B5]; rfl
             have c1 : W5.cell? ⟨wo.heap.size, 1, none⟩ = some (.slice (some ⟨gd, 0, none⟩) nodes.length d) := by rw [cell_of_row W5 _ _ _ _ _ B5]; rfl
             have hpl := ((hown.ext X4'.out).other hne hg hat).ext (Ext.alloc W5 (.cells #[.int .i64 (e + 1), .slice (some ⟨gd, 0, none⟩) nodes.length d] 33))
             obtain ⟨cs, o1, o2⟩ := hpl.cells
             have hlen := Lib.hid o1.1
             have hw5 := Lib.hid (Nat.le_trans (Nat.le_trans (Nat.le_trans hx.size X4'.out.size) hg.size) (by simp : W5.heap.size ≤ (W5.alloc (.cells #[.int .i64 (e + 1), .slice (some ⟨gd, 0, none⟩) nodes.length d] 33)).heap.size))
             rw [Pl.movedTo_length (by rw [L.out]; omega)] at o1
             have HG := Lib.hid hg
             have HAT := Lib.hid hat
             have HGR := Lib.hid hgr5
             have O2 := Lib.hid o2
             clear hpl hat hgr5 hg o2)
          | (at_builtin
             refine wpList_append_rd _ rfl (.tmp 69) (.tmp 71) 24 rfl w2.heap.size 33 i1 _ 2 32 Try.underlying24 hi1 hy0 hy1 hy2 rfl (by omega) u11 k cs rfl o1
                (some ⟨W5.heap.size, 0, none⟩) 1 1 [.int .i64 (e + 1), .slice (some ⟨gd, 0, none⟩) nodes.length d] rfl (Rd.lit2 _ _ _ _) (by simp [Value.oneCell']) (by omega) (by unfold maxLen; omega) hw5.out ?_
             intro v2 W6 ho2 hg2 hat2))
        have hmo : Pl.movedOne a b (Pl.pget l k) = (e + 1, nodes.set i b) := by unfold Pl.movedOne; rw [HE.out, HN.out, if_pos hin, HIE.out, Int.toNat_natCast]
        have hgs : Pl.groupsTo l a (k + 1) = Pl.groupsTo l a k ++ [(k : Int)] := by rw [Pl.groupsTo_succ, HN.out, if_pos hin]
        have hgd4 := Z4.out
        have hs5 := HG.out.size
        have hs3 := X3.size
        have ha1 : u11.ownBlock = none ∨ u11.ownBlock ≠ v1.ownBlock := apart_step hne HAT.out (fun q hq => by have := LO1.out q hq; omega)
        have hv1 : v1.ownBlock ≠ some gd := by
          rcases HAT.out with e1 | e1 <;> rw [e1]
          · exact NO2.out
          · intro e2; injection e2 with e2; omega
        have hI := ((Own.mk (base := wo.heap.size + 1) (e := 3) own4'.out).ints.grown HG.out (fun _ q hq => by injection hq with hq; have hq' : gd = q := hq; rw [← hq']; exact NO2.out)).ext (Ext.alloc W5 (.cells #[.int .i64 (e + 1), .slice (some ⟨gd, 0, none⟩) nodes.length d] 33))
        have HFREE := Lib.hid (((Free.of_own (base' := w2.heap.size) own4'.out (by have := hx.size; omega)).grown HG.out (fun _ q hq => by injection hq with hq; have hq' : gd = q := hq; rw [← hq']; exact NO2.out)).ext (Ext.alloc W5 (.cells #[.int .i64 (e + 1), .slice (some ⟨gd, 0, none⟩) nodes.length d] 33)))
        have hzz : (W5.alloc (.cells #[.int .i64 (e + 1), .slice (some ⟨gd, 0, none⟩) nodes.length d] 33)).heap.size = W5.heap.size + 1 := by simp
        have hlk : k < l.length := by rw [L.out]; exact hlt
        have hml := Pl.movedTo_length (l := l) (a := a) (b := b) (k := k) (by omega)
        refine ⟨⟨k + 1, by omega, by go_num, ?_, ?_, ?_, ?_⟩, by simp [intOf]; omega⟩
        · rw [Pl.movedTo_succ hlk, hmo]
          exact OwnPs.push O2.out hlen.out hI (off_own (by omega) (fun e1 => by have := LO1.out _ e1; omega)) (off_own (by omega) hv1) (fun _ => HFREE.out) (by rw [hml]; exact ho2) hg2 hat2
        · rw [hgs, icells_append, List.length_append]
          exact ownsRow_grown (ownsRow_ext HGR.out (Ext.alloc _ _)) hg2 (apart_symm ha1)
        · exact apart_symm (apart_step (apart_symm ha1) hat2 (fun q hq => by have := (HGR.out.lt q hq).2; omega))
        · exact Ext.ofGrown ((Ext.ofGrown (hx.trans X4'.out) HG.out (fun q hq => (LO.out q hq).1)).thenAlloc _) hg2 (fun q hq => (LO1.out q hq).1)
      · have hneg : ¬ 0 ≤ Il.idx nodes a := fun h => hin ((Il.idx_mem nodes a).1 h)
        obtain ⟨gd, rfl, j1, j2⟩ := own_addr own3 (by omega)
        have hlow : ∀ q, u12.ownBlock = some q → w2.heap.size ≤ q ∧ q < wo.heap.size := fun q hq => hgr.lt q hq
        have LO := Lib.hid hlow
        have hpl := (hown.ext X3).ext (Ext.alloc W3 (.cells #[.int .i64 e, .slice (some ⟨gd, 0, none⟩) nodes.length d] 33))
        obtain ⟨cs, o1, o2⟩ := hpl.cells
        have hlow1 : ∀ q, u11.ownBlock = some q → w2.heap.size ≤ q ∧ q < wo.heap.size := by
          obtain ⟨cs', o1', _⟩ := hown.cells
          exact fun q hq => o1'.lt q hq
        have LO1 := Lib.hid hlow1
        have hlen := Lib.hid o1.1
        rw [Pl.movedTo_length (by rw [L.out]; omega)] at o1
        have O2 := Lib.hid o2
        have hw5 : w2.heap.size ≤ (W3.alloc (.cells #[.int .i64 e, .slice (some ⟨gd, 0, none⟩) nodes.length d] 33)).heap.size := by
          have := hx.size
          have := X3.size
          simp; omega
        have HW5 := Lib.hid hw5
        clear hlow hpl hlow1 o2 hw5
        go_wp2_with (
          at_builtin
          refine wpList_append_rd _ rfl (.tmp 69) (.tmp 71) 24 rfl w2.heap.size 33 i1 _ 2 32 Try.underlying24 hi1 hy0 hy1 hy2 rfl (by omega) u11 k cs rfl o1
                (some ⟨W3.heap.size, 0, none⟩) 1 1 [.int .i64 e, .slice (some ⟨gd, 0, none⟩) nodes.length d] rfl (Rd.lit2 _ _ _ _) (by simp [Value.oneCell']) (by omega) (by unfold maxLen; omega) HW5.out ?_
          intro v2 W6 ho2 hg2 hat2)
        have hmo : Pl.movedOne a b (Pl.pget l k) = (e, nodes) := by unfold Pl.movedOne; rw [HN.out, if_neg hin, ← HE.out, ← HN.out]
        have hgs : Pl.groupsTo l a (k + 1) = Pl.groupsTo l a k := by rw [Pl.groupsTo_succ, HN.out, if_neg hin, List.append_nil]
        have hs3 := X3.size
        have hI := (Own.mk (base := wo.heap.size + 1) (e := 3) own3).ints.ext (Ext.alloc W3 (.cells #[.int .i64 e, .slice (some ⟨gd, 0, none⟩) nodes.length d] 33))
        have HFREE := Lib.hid ((Free.of_own (base' := w2.heap.size) own3 (by have := hx.size; omega)).ext (Ext.alloc W3 (.cells #[.int .i64 e, .slice (some ⟨gd, 0, none⟩) nodes.length d] 33)))
        have hzz : (W3.alloc (.cells #[.int .i64 e, .slice (some ⟨gd, 0, none⟩) nodes.length d] 33)).heap.size = W3.heap.size + 1 := by simp
        have hlk : k < l.length := by rw [L.out]; exact hlt
        have hml := Pl.movedTo_length (l := l) (a := a) (b := b) (k := k) (by omega)
        refine ⟨⟨k + 1, by omega, by go_num, ?_, ?_, ?_, ?_⟩, by simp [intOf]; omega⟩
        · rw [Pl.movedTo_succ hlk, hmo]
          exact OwnPs.push O2.out hlen.out hI (off_own (by omega) (fun e1 => by have := LO1.out _ e1; omega)) (off_own (by omega) (fun e1 => by have := LO.out _ e1; omega)) (fun _ => HFREE.out) (by rw [hml]; exact ho2) hg2 hat2
        · rw [hgs]
          exact ownsRow_grown (ownsRow_ext (ownsRow_ext hgr X3) (Ext.alloc _ _)) hg2 (apart_symm hne)
        · exact apart_symm (apart_step (apart_symm hne) hat2 (fun q hq => by have := (LO.out q hq).2; omega))
        · exact Ext.ofGrown ((hx.trans X3).thenAlloc _) hg2 (fun q hq => (LO1.out q hq).1)
    · have q1 : ¬ (k : Int) < n := by omega
      obtain rfl : k = n := by omega
      go_wp2_with (fail)
      go_ret3
      refine ⟨_, _, rfl, ⟨?_, x2.trans hx⟩, ?_, x2.trans hx⟩
      · rw [← Pl.movedTo_all, L.out]
        exact hown.alone.lower x2.size
      · unfold Pl.groups
        rw [L.out]
        exact ownsRow_base hgr x2.size
end Go.Proofs.Ytkanlbkfbkkknaa
