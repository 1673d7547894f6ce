/- The contract of place.First. -/
import Derived.Test.YtkanlbkfbkkknaaPlaceList
import Derived.Test.YtkanlbkfbkkknaaStep
namespace Go.Proofs.Ytkanlbkfbkkknaa
open Go.RowKit

theorem run_build_one (w : World) (e : Int) : (Instr.build 33 #[(0, .int .i64 e)]).run Try.prog w = .ok (.agg #[.int .i64 e, .slice none 0 0]) w := by kernel_rfl
theorem prefix_succ (nodes n g : Nat) : Pl.firstNodes nodes (n + 1) g = Pl.firstNodes nodes n g ++ [(((g + n) % nodes : Nat) : Int)] := by simp [Pl.firstNodes, List.range_succ]
theorem first_succ (nodes n k : Nat) : Pl.first nodes n (k + 1) = Pl.first nodes n k ++ [(1, Pl.firstNodes nodes n k)] := by simp [Pl.first, List.range_succ]
theorem Rd.lit2 (w : World) (c0 c1 : Value) (t : TypeId) : Rd (w.alloc (.cells #[c0, c1] t)) 2 (some ⟨w.heap.size, 0, none⟩) 1 [c0, c1] := by
  refine ⟨rfl, fun _ => ⟨w.heap.size, 0, rfl, fun j u hu => ?_⟩⟩
  rw [Nat.zero_add, World.cell?_alloc_new]
  simpa using hu
theorem tmod_small (g i m : Nat) : ((g : Int) + (i : Int)).tmod (m : Int) = (((g + i) % m : Nat) : Int) := by
  rw [Int.tmod_eq_emod_of_nonneg (by omega)]; simp

set_option maxRecDepth 100000 in
set_option maxHeartbeats 2000000 in
theorem first_ok (w : World) (a b c : Nat) (h : Pl.FirstOk a b c) :
    Calls Try.prog 15 #[.int .i64 (a : Int), .int .i64 (b : Int), .int .i64 (c : Int)] w fun r w' => ∃ v, r = .returned (.tuple #[v, .int .i64 0]) ∧ NewPs w w' v (Pl.first a b c) := by
  obtain ⟨i0, hi0, hz0, hz1, hz2⟩ := info_parts int_info
  obtain ⟨i1, hi1, hy0, hy1, hy2⟩ := info_parts place_info
  obtain ⟨h1, h2, h3, h4, h5, h6, h7⟩ := h
  have t1 : ¬ (a : Int) < 1 := by omega
  have t2 : ¬ 256 < (a : Int) := by omega
  have t3 : ¬ (b : Int) < 1 := by omega
  have t4 : ¬ (a : Int) < (b : Int) := by omega
  have t5 : ¬ 255 < (b : Int) := by omega
  have t6 : ¬ (c : Int) < 1 := by omega
  have t7 : ¬ 1000 < (c : Int) := by omega
  by_cases hm : (a : Int) < 255
  all_goals
    go_enter Try.func15, Try.ntmps15
    go_wp2
    clear hm t1 t2 t3 t4 t5 t6 t7
    go_loopw [8, 37] (fun v s wr => ∃ k : Nat, k ≤ c ∧ s = .int .i64 k ∧ OwnPs True w.heap.size wr v (.slice none 0 0) (Pl.first a b k) ∧ Ext w wr) (fun _ s _ => c - (intOf s).toNat)
    case atStart => exact ⟨0, by omega, rfl, OwnPs.nil _ _ _ _, Ext.refl w⟩
    case round =>
      obtain ⟨k, hk, rfl, hown, hx⟩ := hrel
      by_cases hlt : k < c
      · have q1 : (k : Int) < c := by omega
        have hk1 : k < 1000 := by omega
        obtain ⟨wo, rfl⟩ : ∃ wo : World, wo = wr := ⟨_, rfl⟩
        go_wp2
        have x0 : Ext wo (wo.alloc (.cells #[.int .i64 1, .slice none 0 0] 33)) := Ext.alloc _ _
        have hbl : (wo.alloc (.cells #[.int .i64 1, .slice none 0 0] 33)).heap[wo.heap.size]? = some (.cells #[.int .i64 1, .slice none 0 0] 33 (0, 0)) := heap_alloc_new wo _
        generalize (wo.alloc (.cells #[.int .i64 1, .slice none 0 0] 33)) = W0 at *
        go_loopw [42] (fun s wr => ∃ (j : Nat) (vn : Value), j ≤ b ∧ s = .int .i64 j ∧ Ext wo wr ∧ wr.heap[wo.heap.size]? = some (.cells #[.int .i64 1, vn] 33 (0, 0)) ∧ wr.ownsRow (wo.heap.size + 1) 3 1 vn j (icells (Pl.firstNodes a j k))) (fun s _ => b - (intOf s).toNat)
        case atStart => exact ⟨0, .slice none 0 0, by omega, rfl, x0, hbl, World.ownsRow_nil _ _ _ _⟩
        case round =>
          obtain ⟨j, vn, hj, rfl, xi, bl, own⟩ := hrel
          have g0 : wo.heap.size < wr.heap.size := (Array.getElem?_eq_some_iff.1 bl).1
          have c0 : wr.cell? ⟨wo.heap.size, 0, none⟩ = some (.int .i64 1) := by rw [cell_of_row wr _ _ _ _ _ bl]; rfl
          have c1 : wr.cell? ⟨wo.heap.size, 1, none⟩ = some vn := by rw [cell_of_row wr _ _ _ _ _ bl]; rfl
          by_cases hlt2 : j < b
          · have q2 : (j : Int) < b := by omega
            have hmod := tmod_small k j a
            have own1 := own
            have zf : wr.frozen? ⟨wo.heap.size, 1, none⟩ = false := frozen_of_row wr _ _ _ _ bl
            have hlen : (icells (Pl.firstNodes a j k)).length = j := by rw [icells_length, Pl.firstNodes_length]
            have H0 := Lib.hid xi
            have HB := Lib.hid bl
            have HL := Lib.hid hlen
            clear xi bl hlen
            generalize hr : (k + j) % a = r at *
            have HR := Lib.hid hr
            clear hr
            have s1 : (j + 1) * 8 ≤ 140737488355328 := by omega
            have s2 : j + 1 ≤ maxLen := by unfold maxLen; omega
            have s3 : wo.heap.size + 1 ≤ ((wr.alloc (.cells #[.int .i64 (r : Int)] 3)).drew).heap.size := by simp; omega
            have s4 : ((wr.alloc (.cells #[.int .i64 (r : Int)] 3)).drew).ownsRow (wo.heap.size + 1) 3 1 vn j (icells (Pl.firstNodes a j k)) := own.alloc _
            have s5 : Rd ((wr.alloc (.cells #[.int .i64 (r : Int)] 3)).drew) 1 (some ⟨wr.heap.size, 0, none⟩) 1 [.int .i64 (r : Int)] := Rd.lit wr #[.int .i64 (r : Int)] 3
            have s6 : ∀ u ∈ [Value.int .i64 (r : Int)], u.oneCell' = true := by simp [Value.oneCell']
            have S1 := Lib.hid s1
            have S2 := Lib.hid s2
            have S3 := Lib.hid s3
            have S4 := Lib.hid s4
            have S5 := Lib.hid s5
            have S6 := Lib.hid s6
            clear s1 s2 s3 s4 s5 s6
            have hwr : IntKind.i64.wrap ((k : Int) + (j : Int)) = (k : Int) + (j : Int) := IntWalk.i64_in _ (by omega)
            have ha0 : ¬ a = 0 := by omega
            go_wp2
            go_region_law (refine step_append_rd _ rfl (.tmp 46) (.tmp 52) 28 rfl (wo.heap.size + 1) 3 i0 _ 1 8 Try.underlying28 hi0 hz0 hz1 hz2 rfl (by omega) vn j (icells (Pl.firstNodes a j k)) (by simp [Act.eval]) S4.out (some ⟨wr.heap.size, 0, none⟩) 1 1 [.int .i64 (r : Int)] (by simp [Act.eval]) S5.out S6.out S1.out S2.out S3.out ?_; intro v1 w1 hown1 hg hat1; have c1' : w1.cell? ⟨wo.heap.size, 1, none⟩ = some vn := hg.cell (w := (wr.alloc (.cells #[.int .i64 (r : Int)] 3)).drew) (Ext.cell (Ext.alloc wr _) c1) (fun e => by have := own_row own _ e.symm; simp at this; omega); have z1' : w1.frozen? ⟨wo.heap.size, 1, none⟩ = false := (World.frozen?_of_block (hg.block wo.heap.size (by simp; omega) (fun e => by have := own_row own _ e.symm; omega))).trans ((Ext.frozen (Ext.alloc wr _) c1).trans zf); obtain ⟨D, d, rfl, _, _⟩ := ownsRow_slice hown1)
            all_goals
              have B1 : w1.heap[wo.heap.size]? = some (.cells #[.int .i64 1, vn] 33 (0, 0)) :=
                (hg.block wo.heap.size (by simp; omega) (fun e => by have := own_row own _ e.symm; omega)).trans ((Below.heap_alloc wr _ _ g0).trans HB.out)
              have X1 : Ext wo w1 := Ext.ofGrown (Below.drew ((H0.out).thenAlloc (.cells #[.int .i64 (r : Int)] 3))) (w := (wr.alloc (.cells #[.int .i64 (r : Int)] 3)).drew) hg (fun q hq => by have := own_row own q hq; omega)
              have B2 := Lib.hid B1
              have X2 := Lib.hid X1
              clear B1 X1
              go_wp2
              refine ⟨⟨j + 1, .slice D (j + 1) d, by omega, by go_num, ?_, ?_, ?_⟩, by simp [intOf]; omega⟩
              · exact X2.out.set_ (Nat.le_refl _) _
              · exact heap_setCell_same w1 wo.heap.size 1 _ _ (.slice D (j + 1) d) B2.out
              · have := ownsRow_far hown1 (p := ⟨wo.heap.size, 1, none⟩) (by show wo.heap.size < wo.heap.size + 1; omega) (.slice D (j + 1) d)
                rw [prefix_succ, HR.out, icells_append]
                exact this
          · have q2 : ¬ (j : Int) < b := by omega
            obtain rfl : j = b := by omega
            obtain ⟨D, d, rfl, _, _⟩ := ownsRow_slice own
            obtain ⟨gd, rfl, e1, e2⟩ := own_addr own (by omega)
            have hpl := hown.ext (xi.thenAlloc (.cells #[.int .i64 1, .slice (some ⟨gd, 0, none⟩) j d] 33))
            obtain ⟨cs, o1, o2⟩ := hpl.cells
            have hnodes : Is (wr.alloc (.cells #[.int .i64 1, .slice (some ⟨gd, 0, none⟩) j d] 33)) (some ⟨gd, 0, none⟩) j d (Pl.firstNodes a j k) := (Own.mk (base := wo.heap.size + 1) (e := 3) own).ints.ext (Ext.alloc _ _)
            have hoff : Off (wr.alloc (.cells #[.int .i64 1, .slice (some ⟨gd, 0, none⟩) j d] 33)) u8 (some ⟨gd, 0, none⟩) j := by
              intro _ q hq
              injection hq with hq
              obtain ⟨cs0, o0, _⟩ := hown.cells
              have hq' : gd = q := hq
              refine ⟨by simp; omega, fun e => ?_⟩
              have := (o0.lt q e).2
              omega
            have hrd : Rd (wr.alloc (.cells #[.int .i64 1, .slice (some ⟨gd, 0, none⟩) j d] 33)) 2 (some ⟨wr.heap.size, 0, none⟩) 1 [.int .i64 1, .slice (some ⟨gd, 0, none⟩) j d] := Rd.lit2 wr _ _ _
            have hbase : w.heap.size ≤ (wr.alloc (.cells #[.int .i64 1, .slice (some ⟨gd, 0, none⟩) j d] 33)).heap.size := by
              have := hx.size
              have := xi.size
              simp; omega
            have HFREE := Lib.hid (((Free.of_own (base' := w.heap.size) own (by have := hx.size; omega)).ext (Ext.alloc wr (.cells #[.int .i64 1, .slice (some ⟨gd, 0, none⟩) j d] 33))))
            have hlen := o1.1
            rw [Pl.first_length] at o1 hlen
            have XI := Lib.hid xi
            have HW := Lib.hid hown
            have HB := Lib.hid hbase
            have HL := Lib.hid hlen
            clear xi bl hpl hown own hbl x0 hbase hlen
            go_wp2_with (
              at_builtin
              refine wpList_append_rd _ rfl (.tmp 56) (.tmp 58) 24 rfl w.heap.size 33 i1 _ 2 32 Try.underlying24 hi1 hy0 hy1 hy2 rfl (by omega) u8 k cs rfl o1
                (some ⟨wr.heap.size, 0, none⟩) 1 1 [.int .i64 1, .slice (some ⟨gd, 0, none⟩) j d] rfl hrd (by simp [Value.oneCell']) (by omega) (by unfold maxLen; omega) HB.out ?_
              intro v1 w1 ho hg hat)
            refine ⟨⟨k + 1, by omega, by go_num, ?_, ?_⟩, by simp [intOf]; omega⟩
            · rw [first_succ]
              exact OwnPs.push o2 (by rw [Pl.first_length]; exact HL.out) hnodes hoff hoff.none (fun _ => HFREE.out) (by rw [Pl.first_length]; exact ho) hg hat
            · exact (hx.trans (XI.out.thenAlloc _)).ofGrown hg (own_row o1)
      · have q1 : ¬ (k : Int) < c := by omega
        obtain rfl : k = c := by omega
        go_wp2
        go_ret2
        exact ⟨_, rfl, hown, hx⟩
end Go.Proofs.Ytkanlbkfbkkknaa
