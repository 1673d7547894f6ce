/- A disk that New did not make: the contracts of all methods; DiskNone's walk. -/
import Derived.Test.YtbfbiofndipaaaaDiskAwake
import Derived.Test.YtbfbiofndipaaaaHold
namespace Go.Proofs.Ytbfbiofndipaaaa
open Go.RowKit Go.Maps Go.Sort Go.Shelf

/-- No disk: a nil pointer, or a box of noughts. -/
def Nd (w : World) (p : Value) : Prop := p = .pointer none ∨ ∃ g, p = dptr g ∧ w.heap[g]? = some (.cells #[.slice none 0 0, .map none, .int .i64 0, .bool false] 67 (0, 0))
theorem Nd.ext {w w' : World} {p : Value} (h : Nd w p) (hx : Ext w w') : Nd w' p := by
  rcases h with h | ⟨g, h, hb⟩
  · exact .inl h
  · exact .inr ⟨g, h, (hx.block g (Array.getElem?_eq_some_iff.1 hb).1).trans hb⟩
set_option maxRecDepth 100000 in
theorem nd_none (w : World) (p : Value) (h : Nd w p) : Calls Try.prog 39 #[p] w fun e w' => e = .returned (.bool true) ∧ Ext w w' := by
  rcases h with rfl | ⟨g, rfl, hb⟩
  · exact dkNone_nil w
  · have k1 : w.cell? ⟨g, 1, none⟩ = some (.map none) := by rw [cell_of_row w _ _ _ _ _ hb]; rfl
    go_enter Try.func39, Try.ntmps39
    go_wp2_with (fail)
    rename_i hK
    refine hK _ _ ?_
    go_wp2_with (fail)
    go_ret
    exact ⟨rfl, Ext.refl _⟩
set_option maxRecDepth 100000 in
theorem nd_there (w : World) (p : Value) (h : Nd w p) (i : Int) : Calls Try.prog 37 #[p, .int .i64 i] w fun e w' => e = .returned (.int .i64 1) ∧ Ext w w' := by
  have hN := nd_none w p h
  clear h
  go_enter Try.func37, Try.ntmps37
  go_wp2_with (fail)
  with_reducible refine hN.mono ?_
  rintro e w1 ⟨rfl, x1⟩
  go_wp2_with (fail)
  go_ret
  exact ⟨rfl, x1⟩
set_option maxRecDepth 100000 in
theorem nd_arm (w : World) (p : Value) (h : Nd w p) (n : Int) : Calls Try.prog 16 #[p, .int .i64 n] w fun e w' => e = .returned (.tuple #[]) ∧ Ext w w' := by
  have hN := nd_none w p h
  clear h
  go_enter Try.func16, Try.ntmps16
  go_wp2_with (fail)
  with_reducible refine hN.mono ?_
  rintro e w1 ⟨rfl, x1⟩
  go_wp2_with (fail)
  refine bodyPost_end (results_none rfl _ _ _) rfl ?_
  exact ⟨rfl, x1⟩
set_option maxRecDepth 100000 in
theorem nd_crash (w : World) (p : Value) (h : Nd w p) (B : Option Addr) (n c : Nat) : Calls Try.prog 17 #[p, .slice B n c] w fun e w' => e = .returned (.tuple #[]) ∧ Ext w w' := by
  have hN := nd_none w p h
  clear h
  go_enter Try.func17, Try.ntmps17
  go_wp2_with (fail)
  with_reducible refine hN.mono ?_
  rintro e w1 ⟨rfl, x1⟩
  go_wp2_with (fail)
  first | (refine bodyPost_end (results_none rfl _ _ _) rfl ?_) | (refine bodyPost_ret (results_none rfl _ _ _) rfl ?_)
  exact ⟨rfl, x1⟩
set_option maxRecDepth 100000 in
theorem nd_read (w : World) (p : Value) (h : Nd w p) (i : Int) : Calls Try.prog 24 #[p, .int .i64 i] w fun e w' => e = .returned (.tuple #[.slice none 0 0, .int .i64 1]) ∧ Ext w w' := by
  have hN := nd_there w p h i
  clear h
  go_enter Try.func24, Try.ntmps24
  go_wp2_with (fail)
  with_reducible refine hN.mono ?_
  rintro e w1 ⟨rfl, x1⟩
  go_wp2_with (fail)
  refine bodyPost_ret (results_tmp2 rfl _ _ _) rfl ?_
  exact ⟨rfl, x1⟩
set_option maxRecDepth 100000 in
theorem nd_write (w : World) (p : Value) (h : Nd w p) (i : Int) (B : Option Addr) (n c : Nat) : Calls Try.prog 13 #[p, .int .i64 i, .slice B n c] w fun e w' => e = .returned (.int .i64 1) ∧ Ext w w' := by
  have hN := nd_there w p h i
  clear h
  go_enter Try.func13, Try.ntmps13
  go_wp2_with (fail)
  with_reducible refine hN.mono ?_
  rintro e w1 ⟨rfl, x1⟩
  go_wp2_with (fail)
  go_ret
  exact ⟨rfl, x1⟩
set_option maxRecDepth 100000 in
theorem nd_flush (w : World) (p : Value) (h : Nd w p) : Calls Try.prog 15 #[p] w fun e w' => e = .returned (.int .i64 1) ∧ Ext w w' := by
  have hN := nd_there w p h 0
  clear h
  go_enter Try.func15, Try.ntmps15
  go_wp2_with (fail)
  with_reducible refine hN.mono ?_
  rintro e w1 ⟨rfl, x1⟩
  go_wp2_with (fail)
  go_ret
  exact ⟨rfl, x1⟩
set_option maxRecDepth 100000 in
theorem nd_spoil (w : World) (p : Value) (h : Nd w p) (i k t : Int) : Calls Try.prog 23 #[p, .int .i64 i, .int .i64 k, .int .u8 t] w fun e w' => e = .returned (.int .i64 1) ∧ Ext w w' := by
  have hN := nd_none w p h
  clear h
  go_enter Try.func23, Try.ntmps23
  go_wp2_with (fail)
  with_reducible refine hN.mono ?_
  rintro e w1 ⟨rfl, x1⟩
  go_wp2_with (fail)
  go_ret
  exact ⟨rfl, x1⟩
set_option maxRecDepth 100000 in
theorem nd_down (w : World) (p : Value) (h : Nd w p) : Calls Try.prog 19 #[p] w fun e w' => e = .returned (.bool false) ∧ Ext w w' := by
  have hN := nd_none w p h
  clear h
  go_enter Try.func19, Try.ntmps19
  go_wp2_with (fail)
  with_reducible refine hN.mono ?_
  rintro e w1 ⟨rfl, x1⟩
  go_wp2_with (fail)
  go_ret
  exact ⟨rfl, x1⟩
set_option maxRecDepth 100000 in
theorem nd_size (w : World) (p : Value) (h : Nd w p) : Calls Try.prog 26 #[p] w fun e w' => e = .returned (.int .i64 0) ∧ Ext w w' := by
  have hN := nd_none w p h
  clear h
  go_enter Try.func26, Try.ntmps26
  go_wp2_with (fail)
  with_reducible refine hN.mono ?_
  rintro e w1 ⟨rfl, x1⟩
  go_wp2_with (fail)
  go_ret
  exact ⟨rfl, x1⟩
set_option maxRecDepth 100000 in
theorem nd_cached (w : World) (p : Value) (h : Nd w p) : Calls Try.prog 22 #[p] w fun e w' => e = .returned (.slice none 0 0) ∧ Ext w w' := by
  have hN := nd_none w p h
  clear h
  go_enter Try.func22, Try.ntmps22
  go_wp2_with (fail)
  with_reducible refine hN.mono ?_
  rintro e w1 ⟨rfl, x1⟩
  go_wp2_with (fail)
  go_ret
  exact ⟨rfl, x1⟩
set_option maxRecDepth 100000 in
set_option maxHeartbeats 4000000 in
theorem none_any (w : World) (i n : Int) (b : UInt8) : Calls Try.prog 8 #[.int .i64 i, .int .i64 n, .int .u8 (b.toNat : Int)] w fun e w' => e = .returned (.bool true) ∧ Ext w w' := by
  go_enter Try.func8, Try.ntmps8
  go_wp2_with (fail)
  obtain ⟨g, hg⟩ : ∃ g, w.heap.size = g := ⟨_, rfl⟩
  obtain ⟨w0, hw0⟩ : ∃ w0, (w.alloc (.cells #[.slice none 0 0, .map none, .int .i64 0, .bool false] 67)).alloc (.cells #[.pointer none, .pointer (some ⟨w.heap.size, 0, none⟩)] 23) = w0 := ⟨_, rfl⟩
  have x0 : Ext w w0 := by rw [← hw0]; exact (Ext.alloc _ _).thenAlloc _
  have hb : w0.heap[g]? = some (.cells #[.slice none 0 0, .map none, .int .i64 0, .bool false] 67 (0, 0)) := by
    rw [← hw0, ← hg]
    exact ((Ext.alloc _ _).block _ (by simp)).trans (heap_alloc_new w _)
  have hs : w0.heap[g + 1]? = some (.cells #[.pointer none, .pointer (some ⟨g, 0, none⟩)] 23 (0, 0)) := by
    rw [← hw0, ← hg]
    have := heap_alloc_new (w.alloc (.cells #[.slice none 0 0, .map none, .int .i64 0, .bool false] 67)) (.cells #[.pointer none, .pointer (some ⟨w.heap.size, 0, none⟩)] 23)
    simpa using this
  rw [hw0]
  rw [hg]
  have c0 : w0.cell? ⟨g + 1, 0, none⟩ = some (.pointer none) := by rw [cell_of_row w0 _ _ _ _ _ hs]; rfl
  have c1 : w0.cell? ⟨g + 1, 1, none⟩ = some (dptr g) := by rw [cell_of_row w0 _ _ _ _ _ hs]; rfl
  have C0 := Lib.hid c0
  have C1 := Lib.hid c1
  have X0 := Lib.hid x0
  have N1 := Lib.hid (show Nd w0 (dptr g) from .inr ⟨g, rfl, hb⟩)
  have N0 := Lib.hid (show Nd w0 (.pointer none) from .inl rfl)
  clear c0 c1 hs hb x0 hw0
  go_loopw [17] (fun i wr => ∃ k : Nat, k ≤ 2 ∧ i = .int .i64 k ∧ Hid (Ext w0 wr)) (fun i _ => 2 - (intOf i).toNat)
  case atStart => exact ⟨0, by omega, rfl, Lib.hid (Ext.refl w0)⟩
  case round =>
    obtain ⟨k, hk, rfl, HX⟩ := hrel
    by_cases hlt : k < 2
    · have i1 : (k : Int) < 2 := by omega
      obtain ⟨p, hc, hp⟩ : ∃ p, wr.cell? ⟨g + 1, k, none⟩ = some p ∧ Nd w0 p := by
        obtain rfl | rfl : k = 0 ∨ k = 1 := by omega
        · exact ⟨_, HX.out.cell C0.out, N0.out⟩
        · exact ⟨_, HX.out.cell C1.out, N1.out⟩
      have P := Lib.hid hp
      have HX0 := HX
      clear hp HX
      obtain ⟨w100, hw⟩ : ∃ w100, w100 = wr := ⟨_, rfl⟩
      subst hw
      go_wp2_with (fail)
      have hc0 := nd_arm w100 p (P.out.ext HX0.out) n
      with_reducible refine hc0.mono ?_
      rintro e w101 ⟨rfl, x0⟩
      have HX1 := Lib.hid (HX0.out.trans x0)
      clear x0 hc0 hc
      go_wp2_with (fail)
      have hc1 := nd_crash (w101.alloc (.cells #[.bool true] 4)) p ((P.out.ext HX1.out).ext (Ext.alloc _ _)) (some ⟨w101.heap.size, 0, none⟩) 1 1
      with_reducible refine hc1.mono ?_
      rintro e w102 ⟨rfl, x1⟩
      have HX2 := Lib.hid ((HX1.out.thenAlloc _).trans x1)
      clear x1 hc1
      go_wp2_with (fail)
      have hc2 := nd_read w102 p (P.out.ext HX2.out) i
      with_reducible refine hc2.mono ?_
      rintro e w103 ⟨rfl, x2⟩
      have HX3 := Lib.hid (HX2.out.trans x2)
      clear x2 hc2
      go_wp2_with (fail)
      have hc3 := of_any5 w103 b
      with_reducible refine hc3.mono ?_
      rintro e w104 ⟨p9, rfl, x3⟩
      have HX4 := Lib.hid (HX3.out.trans x3.ext)
      clear x3 hc3
      go_wp2_with (fail)
      have hc4 := nd_write w104 p (P.out.ext HX4.out) i (some ⟨p9, 0, none⟩) 64 64
      with_reducible refine hc4.mono ?_
      rintro e w105 ⟨rfl, x4⟩
      have HX5 := Lib.hid (HX4.out.trans x4)
      clear x4 hc4
      go_wp2_with (fail)
      have hc5 := nd_flush w105 p (P.out.ext HX5.out)
      with_reducible refine hc5.mono ?_
      rintro e w106 ⟨rfl, x5⟩
      have HX6 := Lib.hid (HX5.out.trans x5)
      clear x5 hc5
      go_wp2_with (fail)
      have hc6 := nd_spoil w106 p (P.out.ext HX6.out) i n (b.toNat : Int)
      with_reducible refine hc6.mono ?_
      rintro e w107 ⟨rfl, x6⟩
      have HX7 := Lib.hid (HX6.out.trans x6)
      clear x6 hc6
      go_wp2_with (fail)
      have hc7 := nd_down w107 p (P.out.ext HX7.out)
      with_reducible refine hc7.mono ?_
      rintro e w108 ⟨rfl, x7⟩
      have HX8 := Lib.hid (HX7.out.trans x7)
      clear x7 hc7
      go_wp2_with (fail)
      have hc8 := nd_size w108 p (P.out.ext HX8.out)
      with_reducible refine hc8.mono ?_
      rintro e w109 ⟨rfl, x8⟩
      have HX9 := Lib.hid (HX8.out.trans x8)
      clear x8 hc8
      go_wp2_with (fail)
      have hc9 := nd_cached w109 p (P.out.ext HX9.out)
      with_reducible refine hc9.mono ?_
      rintro e w110 ⟨rfl, x9⟩
      have HX10 := Lib.hid (HX9.out.trans x9)
      clear x9 hc9
      go_wp2_with (fail)
      exact ⟨⟨k + 1, by omega, by go_num, HX10⟩, by simp [intOf]; omega⟩
    · have ek : k = 2 := by omega
      subst ek
      go_wp2_with (fail)
      have hc := awake_any5 wr
      with_reducible refine hc.mono ?_
      rintro e w9 ⟨rfl, x9⟩
      go_wp2_with (fail)
      go_ret
      exact ⟨rfl, (X0.out.trans HX.out).trans x9⟩
theorem diskNone.walk (w : World) (a0 a1 a2 : Int) (w0 : (Lit.int .i64 a0).wf = true) (w1 : (Lit.int .i64 a1).wf = true) (w2 : (Lit.int .u8 a2).wf = true) :
    Calls Try.prog 8 #[.int .i64 a0, .int .i64 a1, .int .u8 a2] w fun e w' => e = .returned (.bool true) ∧ Below w.heap.size w w' := by
  obtain ⟨x, rfl⟩ := wf_u8 w2
  exact none_any w a0 a1 x
end Go.Proofs.Ytbfbiofndipaaaa
