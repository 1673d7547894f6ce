/- PlaceMoves holds: behind a move nothing is at the elder node, and every other shard has what it had; for every input. -/
import Derived.Test.YtkanlbkfbkkknaaPlaceOpen
import Derived.Test.YtkanlbkfbkkknaaPlaceAwake
import Derived.Test.YtkanlbkfbkkknaaPlMoves
namespace Go.Proofs.Ytkanlbkfbkkknaa
open Go.ChangeShapes Go.WideShapes Go.ChangeAt Go.RowKit

namespace placeMoves
theorem wf_nat {a : Int} (h : (Lit.int .u8 a).wf = true) : ∃ x : UInt8, a = (x.toNat : Int) := wf_u8 h

set_option maxRecDepth 100000 in
set_option maxHeartbeats 4000000 in
theorem walk {H : Type} {enc : TypeId × Value → H} {base : Nat} (w : World) (v0 : Value) (d0 : DataW H) (p0 : List MemPlace) (v1 : Value) (d1 : DataW H) (p1 : List MemPlace) (a2 a3 : Int)
    (o0 : Value.okWide Try.prog w .any base 22 v0) (h0 : DataW.Trod enc Try.prog w 0 (fun _ => true) true 22 v0 d0 p0)
    (o1 : Value.okWide Try.prog w .any base 23 v1) (h1 : DataW.Trod enc Try.prog w 0 (fun _ => true) true 23 v1 d1 p1)
    (w2 : (Lit.int .u8 a2).wf = true) (w3 : (Lit.int .u8 a3).wf = true) :
    Calls Try.prog 3 #[v0, v1, .int .u8 a2, .int .u8 a3] w fun e w' => e = .returned (.bool true) ∧ Ext w w' := by
  obtain ⟨x, y, z, rfl⟩ := open_u8x3 Try.underlying22 Try.underlying5 (by kernel_rfl) (by kernel_rfl) o0 h0
  obtain ⟨A, n, c, rfl⟩ := okWide_slice Try.underlying23 o1
  obtain ⟨ms, hm⟩ := Ms.of_trod Try.underlying23 Try.underlying61 Try.underlying5 (by kernel_rfl) (by kernel_rfl) h1
  obtain ⟨a, rfl⟩ := wf_u8 w2
  obtain ⟨b, rfl⟩ := wf_u8 w3
  clear o0 h0 o1 h1 w2 w3
  have la := a.toNat_lt
  have lb := b.toNat_lt
  obtain ⟨hall, hlow, hlen⟩ := Pl.placedTo_facts x y z ms 8 (Nat.le_refl _)
  have hl40 : (Pl.placed x y z ms).length ≤ 40 := by have : (Pl.placed x y z ms).length = 1 + z.toNat % 40 := hlen; omega
  have HALL := Lib.hid (show Pl.All (Pl.placed x y z ms) from hall)
  have HLOW := Lib.hid (show Pl.Low (Pl.placed x y z ms) 9 from hlow)
  clear hall hlow hlen
  go_enter Try.func3, Try.ntmps3
  try dsimp only [List.append]
  go_wp2_with (fail)
  refine (placed_any _ x y z A n c ms (hm.ext (Ext.alloc _ _))).mono ?_
  rintro r w1 ⟨B, m, d, rfl, hp, x1⟩
  have x1 := (Ext.alloc w _).trans x1
  generalize Pl.placed x y z ms = l at *
  go_wp2_with (fail)
  refine (right_law w1 B m d l hp HALL.out).mono ?_
  rintro r w2 ⟨rfl, x2⟩
  have hp2 := hp.ext x2
  have x2 := x1.trans x2
  clear hp x1 hm
  go_wp2_with (fail)
  obtain ⟨ia, ha, ha1, ha2⟩ : ∃ i : Int, (a.toNat : Int) % 40 = i ∧ 0 ≤ i ∧ i < 40 := ⟨_, rfl, by omega, by omega⟩
  obtain ⟨ib, hb, hb1, hb2⟩ : ∃ i : Int, (b.toNat : Int) % 40 = i ∧ 0 ≤ i ∧ i < 40 := ⟨_, rfl, by omega, by omega⟩
  rw [ha, hb]
  clear ha hb la lb
  refine (move_any w2 B m d l hp2 ia ib).mono ?_
  rintro r w3 ⟨v, s, rfl, hv, hs⟩
  have hp3 := hp2.ext hv.ext
  have X3 := Lib.hid (x2.trans hv.ext)
  have HV := Lib.hid hv
  have HS := Lib.hid hs
  have L := Lib.hid hp3.len
  have hmay := Pl.mayTo_all HLOW.out (a := ia) (b := ib) (by omega) (by omega) (by omega)
  have HMAY := Lib.hid hmay
  have hmx := hp3.max
  have hle := hp3.le
  have hm40 : m ≤ 40 := by rw [← L.out]; exact hl40
  have hz : (ia != ib) = Pl.mayTo l ia ib 0 := by rw [Pl.mayTo_zero, bne]; rw [Bool.eq_iff_iff]; simp
  clear hp2 x2 hv hs hmay
  go_wp2_with (fail)
  go_loopw [16, 56] (fun b i wr => ∃ k : Nat, k ≤ m ∧ i = .int .i64 k ∧ b = .bool (Pl.mayTo l ia ib k) ∧ Ext w3 wr) (fun _ i _ => m - (intOf i).toNat)
  case atStart => exact ⟨0, by omega, rfl, rfl, Ext.refl w3⟩
  case round =>
    obtain ⟨k, hk, rfl, rfl, hx⟩ := hrel
    by_cases hlt : k < m
    · have q1 : (k : Int) < m := by omega
      obtain ⟨b1, o1, A1, n1, c1, rfl, r1, r2, i1⟩ := (hp3.ext hx).rd k hlt
      have hsu := Pl.mayTo_succ (l := l) (a := ia) (b := ib) (k := k) (by rw [L.out]; exact hlt)
      have HSU := Lib.hid hsu
      clear hsu hz
      generalize hy : Pl.mayTo l ia ib k = y at *
      have hep : (Pl.pget l k).2 = (Pl.pget l k).2 := rfl
      generalize hpe : (Pl.pget l k).1 = ep at *
      generalize hpn : (Pl.pget l k).2 = np at *
      clear hy hpe hpn hep
      cases y with
      | false =>
        rw [Bool.false_and] at HSU
        go_wp2_with (fail)
        exact ⟨⟨k + 1, by omega, by go_num, by rw [HSU.out], hx.thenAlloc _⟩, by simp [intOf]; omega⟩
      | true =>
        rw [Bool.true_and] at HSU
        have hi := fun W (h : Ext wr W) (j : Int) => pIndex_any W ep A1 n1 c1 np j (i1.ext h)
        have HI := Lib.hid hi
        clear hi
        by_cases hin : ia ∈ np
        · obtain ⟨i, e1, _, _, _⟩ := Pl.idx_pos hin
          have E1 := Lib.hid e1
          have D1 := Lib.hid (decide_eq_false (fun h => h hin : ¬ (ia ∉ np)))
          clear e1 hin
          go_wp2_with (fail)
          refine (HI.out _ (Ext.alloc _ _) ia).mono ?_
          rintro r w4 ⟨rfl, x4⟩
          rw [E1.out]
          have x4' := (Ext.alloc wr _).trans x4
          have y0 : w4.cell? ⟨wr.heap.size, 0, none⟩ = some (.int .i64 ep) := x4.cell (by rw [World.cell?_alloc_new]; rfl)
          have y1 : w4.cell? ⟨wr.heap.size, 1, none⟩ = some (.slice A1 n1 c1) := x4.cell (by rw [World.cell?_alloc_new]; rfl)
          go_wp2_with (fail)
          refine (HI.out _ x4' ib).mono ?_
          rintro r w5 ⟨rfl, x5⟩
          by_cases hin2 : ib ∈ np
          · obtain ⟨i2, e2, _, _, _⟩ := Pl.idx_pos hin2
            rw [e2]
            have D2 := Lib.hid (decide_eq_false (fun h => h hin2 : ¬ (ib ∉ np)))
            clear e2 hin2
            go_wp2_with (fail)
            exact ⟨⟨k + 1, by omega, by go_num, by rw [HSU.out, D1.out, D2.out]; rfl, (hx.trans x4').trans x5⟩, by simp [intOf]; omega⟩
          · rw [Pl.idx_none_of hin2]
            have D2 := Lib.hid (decide_eq_true hin2)
            clear hin2
            go_wp2_with (fail)
            exact ⟨⟨k + 1, by omega, by go_num, by rw [HSU.out, D1.out, D2.out]; rfl, (hx.trans x4').trans x5⟩, by simp [intOf]; omega⟩
        · have E1 := Lib.hid (Pl.idx_none_of hin)
          have D1 := Lib.hid (decide_eq_true hin)
          clear hin
          go_wp2_with (fail)
          refine (HI.out _ (Ext.alloc _ _) ia).mono ?_
          rintro r w4 ⟨rfl, x4⟩
          rw [E1.out]
          go_wp2_with (fail)
          exact ⟨⟨k + 1, by omega, by go_num, by rw [HSU.out, D1.out]; rfl, (hx.thenAlloc _).trans x4⟩, by simp [intOf]; omega⟩
    · have q1 : ¬ (k : Int) < m := by omega
      have hkm : Pl.mayTo l ia ib k = decide (Pl.MayMove l ia ib) := by
        have : k = l.length := by rw [L.out]; omega
        rw [this]; exact HMAY.out
      rw [hkm]
      clear hkm
      have X4 := Lib.hid (X3.out.trans hx)
      by_cases hM : Pl.MayMove l ia ib
      · have hE : Pl.moveE l ia ib = 0 := by unfold Pl.moveE; rw [if_pos HALL.out, if_pos hM]
        rw [hE, decide_eq_true hM]
        have hL : Pl.moveL l ia ib = Pl.moved l ia ib := by unfold Pl.moveL; rw [if_pos ⟨HALL.out, hM⟩]
        have hG : Pl.moveG l ia ib = Pl.groups l ia := by unfold Pl.moveG; rw [if_pos ⟨HALL.out, hM⟩]
        rw [hL] at HV
        rw [hG] at HS
        obtain ⟨B1, e1, rfl, hq⟩ := HV.out.ps
        obtain ⟨B2, e2, rfl, hg⟩ := HS.out.is
        have hml : (Pl.moved l ia ib).length = m := by rw [Pl.moved_length]; exact L.out
        have HMA := Lib.hid (Pl.moved_all HALL.out hM)
        have hab : ia ≠ ib := hM.2.2.1
        have HAB := Lib.hid hab
        rw [hml] at hq ⊢
        have hq := hq.ext hx
        have hg := hg.ext hx
        have hp4 := hp3.ext hx
        have hgm := hg.max
        have hgl := hg.le
        have hqm := hq.max
        have hql := hq.le
        have HGL := Lib.hid hg.len
        clear hE hL hG hM HV HS hml hab hx hp3 HMAY hz
        go_wp2_with (fail)
        refine (right_law wr B1 m e1 _ hq HMA.out).mono ?_
        rintro r w4 ⟨rfl, x4⟩
        have hq4 := hq.ext x4
        have hg4 := hg.ext x4
        have hp5 := hp4.ext x4
        have X5 := Lib.hid (X4.out.trans x4)
        clear hq hg hp4 x4
        go_wp2_with (fail)
        go_loopw [19, 105] (fun t i wr => ∃ g : Nat, g ≤ m ∧ i = .int .i64 g ∧ t = .int .i64 ((Pl.groupsTo l ia g).length : Nat) ∧ Ext w4 wr) (fun _ i _ => m - (intOf i).toNat)
        case atStart => exact ⟨0, by omega, rfl, rfl, Ext.refl w4⟩
        case round =>
          obtain ⟨g, hg, rfl, rfl, hx⟩ := hrel
          by_cases hlt : g < m
          · have q1' : (g : Int) < m := by omega
            have hgl2 : g < l.length := by rw [L.out]; exact hlt
            obtain ⟨b1, o1, A1, n1, c1, rfl, r1, r2, i1⟩ := (hp5.ext hx).rd g hlt
            obtain ⟨b2, o2, A2, n2, c2, rfl, s1, s2, i2⟩ := (hq4.ext hx).rd g hlt
            rw [Pl.moved_get hgl2] at s1 i2
            have hlen2 : n2 = n1 := by rw [← i1.len, ← i2.len]; exact Pl.movedOne_length _ _ _
            subst hlen2
            have hright := HALL.out.2.2 _ (Pl.pget_mem hgl2)
            have hlo := HLOW.out _ (Pl.pget_mem hgl2)
            have hlo1 := hright.1.2.2.1
            have hnot := Pl.moved_not_in hright HAB.out (b := ib)
            have hep := Pl.movedOne_epoch ia ib (Pl.pget l g)
            have hnode := fun j (hj : j < (Pl.pget l g).2.length) => Pl.moved_node (p := Pl.pget l g) (a := ia) (b := ib) (j := j) hj
            have hgi := fun h => Pl.groupsTo_in (l := l) (a := ia) (k := g) h
            have hgo := fun h => Pl.groupsTo_out (l := l) (a := ia) (k := g) h
            have hga := fun h => Pl.groups_at (l := l) (a := ia) (k := g) hgl2 h
            generalize Pl.movedOne ia ib (Pl.pget l g) = q at *
            generalize Pl.pget l g = p at *
            obtain ⟨ep, np⟩ := p
            obtain ⟨eq, nq⟩ := q
            simp only at r1 i1 s1 i2 hnot hep hnode hgi hgo hga hlo hlo1 hlo hlo1 hlo hlo1
            have hgtl := Pl.groupsTo_length l ia g
            generalize (Pl.groupsTo l ia g).length = t at *
            have HNODE := Lib.hid hnode
            have HGI := Lib.hid hgi
            have HGO := Lib.hid hgo
            have HEP := Lib.hid hep
            have LN := Lib.hid i1.len
            have hi := fun W (h : Ext wr W) => pIndex_any W ep A1 n2 c1 np ia (i1.ext h)
            have hi2 := fun W (h : Ext wr W) => pIndex_any W eq A2 n2 c2 nq ia (i2.ext h)
            rw [Pl.idx_none_of hnot] at hi2
            have HI := Lib.hid hi
            have HI2 := Lib.hid hi2
            have e0 : ((n2 : Int) != (n2 : Int)) = false := by simp
            have hn1 := i1.max
            have hn2 := i1.le
            have hn3 := i2.max
            have hn4 := i2.le
            clear hnode hgi hgo hep hi hi2 hright hnot
            by_cases hin : ia ∈ np
            · obtain ⟨ii, j1, j2, _, _⟩ := Pl.idx_pos hin
              rw [j1] at HI
              obtain ⟨hga1, hga2⟩ := hga hin
              obtain ⟨b5, o5, rfl, g5⟩ := (hg4.ext hx).rd.intAt (show t < (Pl.groups l ia).length from hga1)
              rw [hga2] at g5
              have IDX := Lib.hid j1
              have HIN := Lib.hid hin
              have he : eq = ep + 1 := by rw [HEP.out, if_pos hin]
              subst he
              have z1 : decide ((Pl.groups l ia).length ≤ t) = false := decide_eq_false (by omega)
              have z2 : ((g : Int) != (g : Int)) = false := by simp
              have z3 : (t : Int) < ((Pl.groups l ia).length : Int) := by omega
              have hep9 : ep ≤ 9 := hlo
              have hep1 : 1 ≤ ep := hlo1
              clear hga j1 hga1 hga2 hin
              go_wp2_with (fail)
              refine (HI.out wr (Ext.refl wr)).mono ?_
              rintro r w6 ⟨rfl, x6⟩
              have r1 := x6.cell r1
              have r2 := x6.cell r2
              have s1 := x6.cell s1
              have s2 := x6.cell s2
              go_wp2_with (fail)
              go_region_held3 (fun w' => w'.cell? ⟨b1, o1 + g * 2 + 1, none⟩ = some (.slice A1 n2 c1) ∧ w'.cell? ⟨b2, o2 + g * 2, none⟩ = some (.int .i64 (ep + 1)) ∧ w'.cell? ⟨b2, o2 + g * 2 + 1, none⟩ = some (.slice A2 n2 c2))
                (first | go_keep | exact ⟨x7.cell r2, x7.cell s1, x7.cell s2⟩) (first | ((with_reducible refine (HI2.out w6.drew (x6.trans (Ext.drew w6))).mono ?_); rintro r w7 ⟨rfl, x7⟩))
              have x8 := (Ext.drew w6).trans x7
              have r1 := x8.cell r1
              have r2 := x8.cell r2
              have s1 := x8.cell s1
              have s2 := x8.cell s2
              have i1' := (i1.ext x6).ext x8
              have i2' := (i2.ext x6).ext x8
              have xx := (hx.trans x6).trans x8
              have g5 := (x6.trans x8).cell g5
              go_wp2
              go_quiet (fail)
              go_wp2
              go_wp2
              go_loop [183] (fun i => ∃ j : Nat, j ≤ n2 ∧ i = .int .i64 j) (fun i => n2 - (intOf i).toNat)
              case atStart => exact ⟨0, by omega, rfl⟩
              case round =>
                obtain ⟨j, hj, rfl⟩ := hrel
                by_cases hlj : j < n2
                · have qj : (j : Int) < n2 := by omega
                  obtain ⟨b3, o3, rfl, t1⟩ := i1'.rd.intAt hlj
                  obtain ⟨b4, o4, rfl, t2⟩ := i2'.rd.intAt hlj
                  have hnd := HNODE.out j (by rw [LN.out]; exact hlj)
                  by_cases hjj : (j : Int) = (ii : Int)
                  · have ej : ((j : Int) == (ii : Int)) = true := by rw [hjj]; simp
                    rw [IDX.out, if_pos hjj] at hnd
                    rw [hnd] at t2
                    clear hnd hjj
                    go_wp2
                    exact ⟨⟨j + 1, by omega, by go_num⟩, by simp [intOf]; omega⟩
                  · have ej : ((j : Int) == (ii : Int)) = false := by rw [beq_eq_false_iff_ne]; exact hjj
                    rw [IDX.out, if_neg hjj] at hnd
                    rw [hnd] at t2
                    clear hnd hjj
                    go_wp2
                    exact ⟨⟨j + 1, by omega, by go_num⟩, by simp [intOf]; omega⟩
                · have qj : ¬ (j : Int) < n2 := by omega
                  go_wp2
                  exact ⟨⟨g + 1, by omega, by go_num, by rw [HGI.out HIN.out]; go_num, xx.thenDrewN _⟩, by simp [intOf]; omega⟩
            · have IDX := Lib.hid (Pl.idx_none_of hin)
              have HIN := Lib.hid hin
              have he : eq = ep := by rw [HEP.out, if_neg hin]
              subst he
              rw [IDX.out] at HI
              clear hga hin
              go_wp2_with (fail)
              refine (HI.out wr (Ext.refl wr)).mono ?_
              rintro r w6 ⟨rfl, x6⟩
              have r1 := x6.cell r1
              have r2 := x6.cell r2
              have s1 := x6.cell s1
              have s2 := x6.cell s2
              go_wp2_with (fail)
              go_region_held3 (fun w' => w'.cell? ⟨b1, o1 + g * 2 + 1, none⟩ = some (.slice A1 n2 c1) ∧ w'.cell? ⟨b2, o2 + g * 2, none⟩ = some (.int .i64 eq) ∧ w'.cell? ⟨b2, o2 + g * 2 + 1, none⟩ = some (.slice A2 n2 c2))
                (first | go_keep | exact ⟨x7.cell r2, x7.cell s1, x7.cell s2⟩) (first | ((with_reducible refine (HI2.out w6.drew (x6.trans (Ext.drew w6))).mono ?_); rintro r w7 ⟨rfl, x7⟩))
              have x8 := (Ext.drew w6).trans x7
              have r1 := x8.cell r1
              have r2 := x8.cell r2
              have s1 := x8.cell s1
              have s2 := x8.cell s2
              have i1' := (i1.ext x6).ext x8
              have i2' := (i2.ext x6).ext x8
              have xx := (hx.trans x6).trans x8
              go_wp2
              go_quiet (fail)
              go_wp2
              go_wp2
              go_loop [183] (fun i => ∃ j : Nat, j ≤ n2 ∧ i = .int .i64 j) (fun i => n2 - (intOf i).toNat)
              case atStart => exact ⟨0, by omega, rfl⟩
              case round =>
                obtain ⟨j, hj, rfl⟩ := hrel
                by_cases hlj : j < n2
                · have qj : (j : Int) < n2 := by omega
                  obtain ⟨b3, o3, rfl, t1⟩ := i1'.rd.intAt hlj
                  obtain ⟨b4, o4, rfl, t2⟩ := i2'.rd.intAt hlj
                  have hnd := HNODE.out j (by rw [LN.out]; exact hlj)
                  by_cases hjj : (j : Int) = (-1 : Int)
                  · have ej : ((j : Int) == (-1 : Int)) = true := by rw [hjj]; simp
                    rw [IDX.out, if_pos hjj] at hnd
                    rw [hnd] at t2
                    clear hnd hjj
                    go_wp2
                    exact ⟨⟨j + 1, by omega, by go_num⟩, by simp [intOf]; omega⟩
                  · have ej : ((j : Int) == (-1 : Int)) = false := by rw [beq_eq_false_iff_ne]; exact hjj
                    rw [IDX.out, if_neg hjj] at hnd
                    rw [hnd] at t2
                    clear hnd hjj
                    go_wp2
                    exact ⟨⟨j + 1, by omega, by go_num⟩, by simp [intOf]; omega⟩
                · have qj : ¬ (j : Int) < n2 := by omega
                  go_wp2
                  exact ⟨⟨g + 1, by omega, by go_num, by rw [HGO.out HIN.out], xx.thenDrewN _⟩, by simp [intOf]; omega⟩
          · have q1' : ¬ (g : Int) < m := by omega
            have hgm : (Pl.groupsTo l ia g).length = (Pl.groups l ia).length := by unfold Pl.groups; rw [show g = l.length by rw [L.out]; omega]
            rw [hgm]
            clear hgm
            go_wp2_with (fail)
            refine (awake_any _).mono ?_
            rintro r w5 ⟨rfl, x5⟩
            go_wp2_with (fail)
            go_ret
            exact ⟨rfl, (X5.out.trans hx).trans x5⟩
      · have hE : Pl.moveE l ia ib = 100 := by unfold Pl.moveE; rw [if_pos HALL.out, if_neg hM]
        have hL : Pl.moveL l ia ib = [] := by unfold Pl.moveL; rw [if_neg (fun h => hM h.2)]
        have hG : Pl.moveG l ia ib = [] := by unfold Pl.moveG; rw [if_neg (fun h => hM h.2)]
        rw [hE, decide_eq_false hM]
        rw [hL] at HV
        rw [hG] at HS
        obtain ⟨B1, e1, rfl, _⟩ := HV.out.ps
        obtain ⟨B2, e2, rfl, _⟩ := HS.out.is
        clear hE hL hG hM
        go_wp2_with (fail)
        refine (awake_any _).mono ?_
        rintro r w5 ⟨rfl, x5⟩
        go_wp2_with (fail)
        go_ret
        exact ⟨rfl, X4.out.trans x5⟩
end placeMoves
end Go.Proofs.Ytkanlbkfbkkknaa
