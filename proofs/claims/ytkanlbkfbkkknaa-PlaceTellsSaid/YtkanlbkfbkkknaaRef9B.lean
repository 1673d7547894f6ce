/- First where it refuses; the contracts of the document's First and Bytes (chapter 09). -/
import Derived.Test.YtkanlbkfbkkknaaPlaceFirst
import Derived.Test.YtkanlbkfbkkknaaPlBytes
import Derived.Test.YtkanlbkfbkkknaaRef1
import Derived.Test.YtkanlbkfbkkknaaRef9A
namespace Go.Proofs.Ytkanlbkfbkkknaa
open Go.RowKit

set_option maxRecDepth 100000 in
set_option maxHeartbeats 2000000 in
theorem first_bad (w : World) (a b c : Int) (h : ¬ Pl.FirstOk a b c) :
    Calls Try.prog 15 #[.int .i64 a, .int .i64 b, .int .i64 c] w fun r w' => r = .returned (.tuple #[.slice none 0 0, .int .i64 2]) ∧ w = w' := by
  by_cases h1 : a < 1
  · clear h
    go_enter Try.func15, Try.ntmps15
    go_wp2_with (fail)
    refine bodyPost_ret (results_tmp2 rfl _ _ _) rfl ?_
    exact ⟨rfl, rfl⟩
  · by_cases h2 : 256 < a
    · clear h
      go_enter Try.func15, Try.ntmps15
      go_wp2_with (fail)
      refine bodyPost_ret (results_tmp2 rfl _ _ _) rfl ?_
      exact ⟨rfl, rfl⟩
    · by_cases h3 : b < 1
      · clear h
        go_enter Try.func15, Try.ntmps15
        go_wp2_with (fail)
        refine bodyPost_ret (results_tmp2 rfl _ _ _) rfl ?_
        exact ⟨rfl, rfl⟩
      · by_cases h4 : a < 255
        · by_cases h5 : a < b
          · clear h
            go_enter Try.func15, Try.ntmps15
            go_wp2_with (fail)
            all_goals
              refine bodyPost_ret (results_tmp2 rfl _ _ _) rfl ?_
              exact ⟨rfl, rfl⟩
          · by_cases h6 : c < 1
            · clear h
              go_enter Try.func15, Try.ntmps15
              go_wp2_with (fail)
              all_goals
                refine bodyPost_ret (results_tmp2 rfl _ _ _) rfl ?_
                exact ⟨rfl, rfl⟩
            · have h7 : 1000 < c := by
                refine Classical.byContradiction fun q => h ⟨by omega, by omega, by omega, by omega, by omega, by omega, by omega⟩
              clear h
              go_enter Try.func15, Try.ntmps15
              go_wp2_with (fail)
              all_goals
                refine bodyPost_ret (results_tmp2 rfl _ _ _) rfl ?_
                exact ⟨rfl, rfl⟩
        · by_cases h5 : 255 < b
          · clear h
            go_enter Try.func15, Try.ntmps15
            go_wp2_with (fail)
            all_goals
              refine bodyPost_ret (results_tmp2 rfl _ _ _) rfl ?_
              exact ⟨rfl, rfl⟩
          · by_cases h6 : c < 1
            · clear h
              go_enter Try.func15, Try.ntmps15
              go_wp2_with (fail)
              all_goals
                refine bodyPost_ret (results_tmp2 rfl _ _ _) rfl ?_
                exact ⟨rfl, rfl⟩
            · have h7 : 1000 < c := by
                refine Classical.byContradiction fun q => h ⟨by omega, by omega, by omega, by omega, by omega, by omega, by omega⟩
              clear h
              go_enter Try.func15, Try.ntmps15
              go_wp2_with (fail)
              all_goals
                refine bodyPost_ret (results_tmp2 rfl _ _ _) rfl ?_
                exact ⟨rfl, rfl⟩
set_option maxRecDepth 100000 in
set_option maxHeartbeats 2000000 in
theorem rFirst_bad (w : World) (a b c : Int) (h : ¬ Pl.FirstOk a b c) :
    Calls Try.prog 25 #[.int .i64 a, .int .i64 b, .int .i64 c] w fun r w' => r = .returned (.tuple #[.slice none 0 0, .int .i64 2]) ∧ w = w' := by
  have hc : a < 1 ∨ (¬ a < 1 ∧ 256 < a) ∨ (¬ a < 1 ∧ ¬ 256 < a ∧ b < 1) ∨ (¬ a < 1 ∧ ¬ 256 < a ∧ ¬ b < 1 ∧ 255 < b) ∨ (¬ a < 1 ∧ ¬ 256 < a ∧ ¬ b < 1 ∧ ¬ 255 < b ∧ a < b) ∨ (¬ a < 1 ∧ ¬ 256 < a ∧ ¬ b < 1 ∧ ¬ 255 < b ∧ ¬ a < b ∧ c < 1) ∨ (¬ a < 1 ∧ ¬ 256 < a ∧ ¬ b < 1 ∧ ¬ 255 < b ∧ ¬ a < b ∧ ¬ c < 1 ∧ 1000 < c) := by
    unfold Pl.FirstOk at h
    omega
  clear h
  rcases hc with h1 | ⟨h1, h2⟩ | ⟨h1, h2, h3⟩ | ⟨h1, h2, h3, h4⟩ | ⟨h1, h2, h3, h4, h5⟩ | ⟨h1, h2, h3, h4, h5, h6⟩ | ⟨h1, h2, h3, h4, h5, h6, h7⟩
  all_goals
    go_enter Try.func25, Try.ntmps25
    go_wp2_with (fail)
    refine bodyPost_ret (results_tmp2 rfl _ _ _) rfl ?_
    exact ⟨rfl, rfl⟩

set_option maxRecDepth 100000 in
set_option maxHeartbeats 2000000 in
theorem rFirst_ok (w : World) (a b c : Nat) (h : Pl.FirstOk a b c) :
    Calls Try.prog 25 #[.int .i64 (a : Int), .int .i64 (b : Int), .int .i64 (c : Int)] w fun r w' => ∃ v, r = .returned (.tuple #[v, .int .i64 0]) ∧ NewPs w w' v (Pl.first a b c) := by
  obtain ⟨i0, hi0, hz0, hz1, hz2⟩ := info_parts int_info
  obtain ⟨i1, hi1, hy0, hy1, hy2⟩ := info_parts place_info
  obtain ⟨h1, h2, h3, h4, h5, h6, h7⟩ := h
  have t1 : ¬ (a : Int) < 1 := by omega
  have t2 : ¬ 256 < (a : Int) := by omega
  have t3 : ¬ (b : Int) < 1 := by omega
  have t4 : ¬ (a : Int) < (b : Int) := by omega
  have t5 : ¬ 255 < (b : Int) := by omega
  have t6 : ¬ (c : Int) < 1 := by omega
  have t7 : ¬ 1000 < (c : Int) := by omega
  go_enter Try.func25, Try.ntmps25
  go_wp2_with (fail)
  clear t1 t2 t3 t4 t5 t6 t7
  go_loopw [8, 9] (fun s8 s9 wr => ∃ k : Nat, k ≤ c ∧ s9 = .int .i64 k ∧ OwnPs True w.heap.size wr s8 (.slice none 0 0) (Pl.first a b k) ∧ Ext w wr) (fun _ s9 _ => c - (intOf s9).toNat)
  case atStart => exact ⟨0, by omega, rfl, OwnPs.nil _ _ _ _, Ext.refl w⟩
  case round =>
    obtain ⟨k, hk, rfl, hown, hx⟩ := hrel
    by_cases hlt : k < c
    · have q1 : (k : Int) < c := by omega
      have hk1 : k < 1000 := by omega
      obtain ⟨wo, hwo⟩ : ∃ wo : World, wo = wr := ⟨_, rfl⟩
      subst hwo
      have HW := Lib.hid hown
      have HX := Lib.hid hx
      clear hown hx
      go_wp2_with (fail)
      go_loopw [10, 11] (fun s10 s11 wr => ∃ j : Nat, j ≤ b ∧ s11 = .int .i64 j ∧ wr.ownsRow wo.heap.size 3 1 s10 j (icells (Pl.firstNodes a j k)) ∧ RowKit.Hid (Ext wo wr)) (fun _ s11 _ => b - (intOf s11).toNat)
      case atStart => exact ⟨0, by omega, rfl, World.ownsRow_nil _ _ _ _, Lib.hid (Ext.refl wo)⟩
      case round =>
        obtain ⟨j, hj, rfl, own, XI⟩ := hrel
        by_cases hlt2 : j < b
        · have q2 : (j : Int) < b := by omega
          have hmod := tmod_small k j a
          have hmod2 : ((k : Int) + (j : Int)) % (a : Int) = (((k + j) % a : Nat) : Int) := by rw [← hmod, Int.tmod_eq_emod_of_nonneg (by omega)]
          have ha0 : ¬ a = 0 := by omega
          have s1 : (j + 1) * 8 ≤ 140737488355328 := by omega
          have s2 : j + 1 ≤ maxLen := by unfold maxLen; omega
          have s3 := XI.out.size
          generalize hr : (k + j) % a = r at *
          have HR := Lib.hid hr
          clear hr
          go_wp2_with (
            at_builtin
            refine wpList_append_rd _ rfl (.tmp 49) (.tmp 55) 28 rfl wo.heap.size 3 i0 _ 1 8 Try.underlying28 hi0 hz0 hz1 hz2 rfl (by omega) u10 j (icells (Pl.firstNodes a j k)) rfl (ownsRow_ext own (Ext.alloc _ _)) (some ⟨wr.heap.size, 0, none⟩) 1 1 [.int .i64 (r : Int)] rfl (Rd.lit _ _ _) (by simp [Value.oneCell']) s1 s2 (by simp; omega) ?_
            intro v1 w1 hown hg hat)
          refine ⟨⟨j + 1, by omega, by go_num, ?_, Lib.hid (Ext.ofGrown (XI.out.thenAlloc _) hg (fun q hq => own_row own q hq))⟩, by simp [intOf]; omega⟩
          rw [prefix_succ, HR.out, icells_append]
          exact hown
        · have q2 : ¬ (j : Int) < b := by omega
          obtain rfl : j = b := by omega
          obtain ⟨D, dd, rfl, _, _⟩ := ownsRow_slice own
          obtain ⟨gd, rfl, e1, e2⟩ := own_addr own (by omega)
          have hpl := HW.out.ext (XI.out.thenAlloc (.cells #[.int .i64 1, .slice (some ⟨gd, 0, none⟩) j dd] 33))
          obtain ⟨cs, o1, o2⟩ := hpl.cells
          have hnodes : Is (wr.alloc (.cells #[.int .i64 1, .slice (some ⟨gd, 0, none⟩) j dd] 33)) (some ⟨gd, 0, none⟩) j dd (Pl.firstNodes a j k) := (Own.mk (base := wo.heap.size) (e := 3) own).ints.ext (Ext.alloc _ _)
          have hoff : Off (wr.alloc (.cells #[.int .i64 1, .slice (some ⟨gd, 0, none⟩) j dd] 33)) u8 (some ⟨gd, 0, none⟩) j := by
            intro _ q hq
            injection hq with hq
            obtain ⟨cs0, o0, _⟩ := HW.out.cells
            have hq' : gd = q := hq
            refine ⟨by simp; omega, fun e => ?_⟩
            have := (o0.lt q e).2
            omega
          have hrd : Rd (wr.alloc (.cells #[.int .i64 1, .slice (some ⟨gd, 0, none⟩) j dd] 33)) 2 (some ⟨wr.heap.size, 0, none⟩) 1 [.int .i64 1, .slice (some ⟨gd, 0, none⟩) j dd] := Rd.lit2 wr _ _ _
          have hbase : w.heap.size ≤ (wr.alloc (.cells #[.int .i64 1, .slice (some ⟨gd, 0, none⟩) j dd] 33)).heap.size := by
            have := HX.out.size
            have := XI.out.size
            simp; omega
          have HFREE := Lib.hid (((Free.of_own (base' := w.heap.size) own (by have := HX.out.size; omega)).ext (Ext.alloc wr (.cells #[.int .i64 1, .slice (some ⟨gd, 0, none⟩) j dd] 33))))
          have hlen := o1.1
          rw [Pl.first_length] at o1 hlen
          have HB := Lib.hid hbase
          have HL := Lib.hid hlen
          clear hpl own hbase hlen
          go_wp2_with (
            at_builtin
            refine wpList_append_rd _ rfl (.tmp 57) (.tmp 60) 24 rfl w.heap.size 33 i1 _ 2 32 Try.underlying24 hi1 hy0 hy1 hy2 rfl (by omega) u8 k cs rfl o1
              (some ⟨wr.heap.size, 0, none⟩) 1 1 [.int .i64 1, .slice (some ⟨gd, 0, none⟩) j dd] rfl hrd (by simp [Value.oneCell']) (by omega) (by unfold maxLen; omega) HB.out ?_
            intro v1 w1 ho hg hat)
          refine ⟨⟨k + 1, by omega, by go_num, ?_, ?_⟩, by simp [intOf]; omega⟩
          · rw [first_succ]
            exact OwnPs.push o2 (by rw [Pl.first_length]; exact HL.out) hnodes hoff hoff.none (fun _ => HFREE.out) (by rw [Pl.first_length]; exact ho) hg hat
          · exact (HX.out.trans (XI.out.thenAlloc _)).ofGrown hg (own_row o1)
    · have q1 : ¬ (k : Int) < c := by omega
      obtain rfl : k = c := by omega
      go_wp2_with (fail)
      go_ret2
      exact ⟨_, rfl, hown, hx⟩

set_option maxRecDepth 100000 in
set_option maxHeartbeats 2000000 in
theorem rBytes_no (w : World) (A : Option Addr) (n c : Nat) (l : List Pl.P) (hl : Ps w A n c l) (h : ¬ Pl.All l) : Calls Try.prog 27 #[.slice A n c] w fun r w' => r = .returned (.tuple #[.slice none 0 0, .int .i64 100]) ∧ Ext w w' := by
  have ha := rAll_any w A n c l hl
  rw [decide_eq_false h] at ha
  go_enter Try.func27, Try.ntmps27
  go_wp2_with (fail)
  with_reducible refine ha.mono ?_
  rintro e w1 ⟨rfl, x1⟩
  go_wp2_with (fail)
  refine bodyPost_ret (results_tmp2 rfl _ _ _) rfl ?_
  exact ⟨rfl, x1⟩
set_option maxRecDepth 100000 in
set_option maxHeartbeats 2000000 in
theorem rBytes_ok (w : World) (A : Option Addr) (n c : Nat) (l : List Pl.P) (hl : Ps w A n c l) (h : Pl.All l) : Calls Try.prog 27 #[.slice A n c] w fun r w' => ∃ B m d, r = .returned (.tuple #[.slice B m d, .int .i64 0]) ∧ Bs w' B m d (Pl.encL l) ∧ Ext w w' := by
  have ha := rAll_any w A n c l hl
  rw [decide_eq_true h] at ha
  have hm := hl.max
  have hle := hl.le
  have L := Lib.hid hl.len
  have AL := Lib.hid h
  have HL := Lib.hid hl
  have hn : n ≤ 1000 := by have := h.2.1; have := hl.len; omega
  clear hl h
  have hwn : IntKind.u64.wrap (n : Int) = (n : Int) := IntWalk.u64_in _ (by omega)
  go_enter Try.func27, Try.ntmps27
  go_wp2_with (fail)
  with_reducible refine ha.mono ?_
  rintro e w1 ⟨rfl, x1⟩
  have hu := varint_any w1 n (by omega)
  clear ha
  go_wp2_with (fail)
  with_reducible refine hu.mono ?_
  rintro e w2 ⟨v2, rfl, hv⟩
  obtain ⟨C2, d2, rfl, b2⟩ := hv.bs
  have X2 := Lib.hid (x1.trans hv.ext)
  have e0 : Pl.enc n = Pl.encTo l 0 := by unfold Pl.encTo; rw [L.out]; simp [Pl.encPs]
  rw [e0] at b2 ⊢
  have B2 := Lib.hid b2
  clear e0 hu x1 hv b2 hwn
  go_wp2_with (fail)
  go_loopw [4, 5] (fun s4 s5 wr => ∃ (k : Nat) (B : Option Addr) (m d : Nat), k ≤ n ∧ s5 = .int .i64 k ∧ s4 = .slice B m d ∧ RowKit.Hid (Bs wr B m d (Pl.encTo l k)) ∧ RowKit.Hid (Ext w wr)) (fun _ s5 _ => n - (intOf s5).toNat)
  case atStart => exact ⟨0, _, _, _, Nat.zero_le _, rfl, rfl, B2, X2⟩
  case round =>
    obtain ⟨k, B, m, d, hk, rfl, rfl, HB, HX⟩ := hrel
    clear B2 X2
    obtain ⟨w4, hw⟩ : ∃ w4, w4 = wr := ⟨_, rfl⟩
    subst hw
    by_cases hlt : k < n
    · have i1 : (k : Int) < n := by omega
      obtain ⟨b, off, A1, m1, c1, rfl, q1, q2, hi⟩ := HL.out.rd k hlt
      have hrt : Pl.Right (Pl.pget l k) 256 := AL.out.2.2 _ (Pl.pget_mem (by rw [L.out]; exact hlt))
      have hr1 := hrt.1
      have hil := hi.len
      have him := hi.max
      have hic := hi.le
      obtain ⟨en, hen⟩ : ∃ en : Nat, (Pl.pget l k).1 = (en : Int) := ⟨(Pl.pget l k).1.toNat, by omega⟩
      rw [hen] at q1
      have ENB := Lib.hid (show en < 2 ^ 63 by omega)
      have hm255 : m1 ≤ 255 := by omega
      have hel := Pl.encTo_len AL.out k
      have hbl := HB.out.len
      have hm4 : m ≤ 2570010 := by omega
      have Q1 := Lib.hid q1
      have Q2 := Lib.hid q2
      have HI := Lib.hid hi
      have EN := Lib.hid hen
      have HRT := Lib.hid hrt
      have HIL := Lib.hid hil
      have hwe : IntKind.u64.wrap (en : Int) = (en : Int) := IntWalk.u64_in _ (by have := ENB.out; omega)
      have hwm : IntKind.u64.wrap (m1 : Int) = (m1 : Int) := IntWalk.u64_in _ (by omega)
      have hu1 := rUint_any w4 B m d (Pl.encTo l k) HB.out en ENB.out (by omega)
      have p1 := HX.out.cell Q1.out
      have p2 := HX.out.cell Q2.out
      have HBL := Lib.hid (show (Pl.encTo l k ++ Pl.enc en).length ≤ 2570020 by have := Pl.enc10 en (by omega); rw [List.length_append]; omega)
      have HBL2 := Lib.hid (show (Pl.encTo l k ++ Pl.enc en ++ Pl.enc m1).length ≤ 2570030 by have := Pl.enc10 en (by omega); have := Pl.enc10 m1 (by omega); rw [List.length_append, List.length_append]; omega)
      clear hrt hel hr1 hil hi hen q1 q2 hbl
      go_wp2_with (fail)
      with_reducible refine hu1.mono ?_
      rintro e w5 ⟨B5, d5, rfl, b5, x5⟩
      have X5 := Lib.hid (HX.out.trans x5)
      have hu2 := rUint_any w5 B5 _ d5 _ b5 m1 (by omega) (by have := HBL.out; omega)
      clear hu1 p1 p2 x5 b5
      have p1 := X5.out.cell Q1.out
      have p2 := X5.out.cell Q2.out
      obtain ⟨l5, hl5⟩ : ∃ l5, (Pl.encTo l k ++ Pl.enc en).length = l5 := ⟨_, rfl⟩
      rw [hl5] at hu2 ⊢
      clear hl5
      obtain ⟨LB, hLB⟩ : ∃ LB, Pl.encTo l k ++ Pl.enc en ++ Pl.enc m1 = LB := ⟨_, rfl⟩
      rw [hLB] at hu2 HBL2
      have EB := Lib.hid hLB
      clear hLB
      go_wp2_with (fail)
      with_reducible refine hu2.mono ?_
      rintro e w6 ⟨B6, d6, rfl, b6, x6⟩
      have X6 := Lib.hid (X5.out.trans x6)
      have BB6 := Lib.hid b6
      clear hu2 p1 p2 x6 b6
      go_wp2_with (fail)
      go_loopw [4, 6] (fun s4 s6 wr => ∃ (j : Nat) (B : Option Addr) (m d : Nat), j ≤ m1 ∧ s6 = .int .i64 j ∧ s4 = .slice B m d ∧ RowKit.Hid (Bs wr B m d (LB ++ Pl.encN ((Pl.pget l k).2.take j))) ∧ RowKit.Hid (Ext w wr)) (fun _ s6 _ => m1 - (intOf s6).toNat)
      case atStart =>
        refine ⟨0, _, _, _, Nat.zero_le _, rfl, rfl, ?_, X6⟩
        have e : LB ++ Pl.encN ((Pl.pget l k).2.take 0) = LB := by simp [Pl.encN]
        rw [e]
        exact BB6
      case round =>
        obtain ⟨j, B, m, d, hj, rfl, rfl, HB8, HX8⟩ := hrel
        obtain ⟨w8, hw⟩ : ∃ w8, w8 = wr := ⟨_, rfl⟩
        subst hw
        have p2 := HX8.out.cell Q2.out
        by_cases hlt2 : j < m1
        · have i2 : (j : Int) < m1 := by omega
          have hi8 := HI.out.ext HX8.out
          obtain ⟨b2, o2, rfl, hc⟩ := hi8.rd.intAt hlt2
          have hx := Pl.right_in HRT.out (Il.get (Pl.pget l k).2 j) (Il.get_mem (by rw [HIL.out]; exact hlt2))
          obtain ⟨x, hx'⟩ : ∃ x : Nat, Il.get (Pl.pget l k).2 j = (x : Int) := ⟨(Il.get (Pl.pget l k).2 j).toNat, by omega⟩
          have e1 : Pl.encN ((Pl.pget l k).2.take (j + 1)) = Pl.encN ((Pl.pget l k).2.take j) ++ Pl.enc x := by
            rw [Pl.encN_succ (by rw [HIL.out]; exact hlt2), hx', Int.toNat_natCast]
          have hx2 : x < 256 := by omega
          have hsz : m + 10 ≤ 140737488355328 := by
            have h1 := Pl.encN_len ((Pl.pget l k).2.take j) (fun y hy => Pl.right_in HRT.out y (List.mem_of_mem_take hy))
            have h2 := HBL2.out
            have h3 := HB8.out.len
            rw [List.length_take] at h1
            rw [List.length_append] at h3
            have := HIL.out
            omega
          have hu := rUint_any w8 B m d _ HB8.out x (by omega) hsz
          rw [List.append_assoc, ← e1] at hu
          rw [hx'] at hc
          have hwx : IntKind.u64.wrap (x : Int) = (x : Int) := IntWalk.u64_in _ (by omega)
          obtain ⟨l9, hl9⟩ : ∃ l9, (LB ++ Pl.encN ((Pl.pget l k).2.take (j + 1))).length = l9 := ⟨_, rfl⟩
          rw [hl9] at hu
          have HU := Lib.hid hu
          clear hx hx' e1 hsz hu hi8 hl9
          go_wp2_with (fail)
          with_reducible refine HU.out.mono ?_
          rintro e w9 ⟨B9, d9, rfl, b9, x9⟩
          go_wp2_with (fail)
          exact ⟨⟨j + 1, _, _, _, by omega, by go_num, rfl, Lib.hid b9, Lib.hid (HX8.out.trans x9)⟩, by simp [intOf]; omega⟩
        · have i2 : ¬ (j : Int) < m1 := by omega
          have e9 : LB ++ Pl.encN ((Pl.pget l k).2.take j) = Pl.encTo l (k + 1) := by
            have hlen := HIL.out
            rw [List.take_of_length_le (by omega), ← EB.out]
            unfold Pl.encTo
            rw [Pl.encPs_succ (by rw [L.out]; exact hlt)]
            unfold Pl.encP
            rw [EN.out, Int.toNat_natCast, hlen]
            simp only [List.append_assoc]
          rw [e9] at HB8
          go_wp2_with (fail)
          exact ⟨⟨k + 1, _, _, _, by omega, by go_num, rfl, HB8, HX8⟩, by simp [intOf]; omega⟩
    · have i1 : ¬ (k : Int) < n := by omega
      obtain rfl : k = n := by omega
      have e9 : Pl.encTo l k = Pl.encL l := by
        unfold Pl.encTo Pl.encL
        rw [List.take_of_length_le (by rw [L.out]; exact Nat.le_refl _)]
      rw [e9] at HB
      go_wp2_with (fail)
      refine bodyPost_ret (results_tmp2 rfl _ _ _) rfl ?_
      exact ⟨_, _, _, rfl, HB.out, HX.out⟩
end Go.Proofs.Ytkanlbkfbkkknaa
