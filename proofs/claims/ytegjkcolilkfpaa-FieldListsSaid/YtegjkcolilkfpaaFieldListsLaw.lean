/- FieldLists: Dot goes into sums, and through a factor; Lay is what Dot and Add make of each place; laid twice it is as it was: the law returns true. No conditions. -/
import Derived.Test.YtegjkcolilkfpaaAwake
import Derived.Test.YtegjkcolilkfpaaHold
import Derived.Deep.OwnRows
namespace Go.Proofs.Ytegjkcolilkfpaa
open Go.ChangeShapes Go.WideShapes Go.ChangeAt Go.RowKit

theorem Bs.made (w : World) (n : Nat) (hn : n ≤ 1000) : Bs (w.alloc (.cells (madeCells #[Value.int IntKind.u8 0] n) 5)) (some ⟨w.heap.size, 0, none⟩) n n (List.replicate n 0) := by
  have h : (madeCells #[Value.int IntKind.u8 0] n).toList = bcells (List.replicate n 0) := by
    rw [toList_madeCells_one]; simp [bcells]
  have hs : (madeCells #[Value.int IntKind.u8 0] n).size = n := by rw [← Array.length_toList, h, bcells_length, List.length_replicate]
  refine ⟨List.length_replicate, Nat.le_refl _, by omega, ?_⟩
  have := Rd.lit w (madeCells #[Value.int IntKind.u8 0] n) 5
  rwa [h, hs] at this

theorem fieldLists_long (w : World) (x y : UInt8) (A B : Option Addr) (n c m d : Nat) (_hn : n ≤ c) (_hc : c ≤ 9223372036854775807) (_hm : m ≤ d) (_hd : d ≤ 9223372036854775807) (h : 200 < n ∨ 200 < m) :
    Calls Try.prog 9 #[.slice A n c, .slice B m d, .int .u8 (x.toNat : Int), .int .u8 (y.toNat : Int)] w fun e w' => e = .returned (.bool true) ∧ Ext w w' := by
  by_cases h1 : 200 < n
  · clear h
    go_enter Try.func9, Try.ntmps9
    go_wp2_with (fail)
    refine (awake_any _).mono ?_
    rintro e w2 ⟨rfl, hx2⟩
    go_wp2_with (fail)
    go_ret
    exact ⟨rfl, hx2⟩
  · have h2 : 200 < m := by omega
    clear h
    go_enter Try.func9, Try.ntmps9
    go_wp2_with (fail)
    refine (awake_any _).mono ?_
    rintro e w2 ⟨rfl, hx2⟩
    go_wp2_with (fail)
    go_ret
    exact ⟨rfl, hx2⟩

set_option maxRecDepth 100000 in
set_option maxHeartbeats 2000000 in
theorem fieldLists_lt (w : World) (s t : UInt8) (A B : Option Addr) (n c m d : Nat) (X Y : List UInt8) (hX : Bs w A n c X) (hY : Bs w B m d Y) (hn : n ≤ 200) (hm : m ≤ 200) (hle : m < n) :
    Calls Try.prog 9 #[.slice A n c, .slice B m d, .int .u8 (s.toNat : Int), .int .u8 (t.toNat : Int)] w fun e w' => e = .returned (.bool true) ∧ Ext w w' := by
  have n1 : ¬ 200 < n := by omega
  have n2 : ¬ 200 < m := by omega
  have n5 := hX.le
  have n6 := hY.le
  have n7 := hX.max
  have n8 := hY.max
  have n9 : (m : Int) ≤ c := by omega
  have n10 : (m : Int) ≤ d := by omega
  have hmk := fun W => run_make_row' (P := Try.prog) 33 5 (.int .u8 0) 1 Try.underlying33 u8_info rfl .i64 .i64 m (by omega) (by omega) W
  have hXN := hX.take (k := m) (by omega)
  have hYN := hY.take (k := m) (by omega)
  have lX := hXN.len
  have lY := hYN.len
  have g1 : Gf.dot (Gf.lay (X.take m) 1 (Y.take m)) (X.take m) = Gf.add (Gf.dot (X.take m) (X.take m)) (Gf.dot (Y.take m) (X.take m)) := Gf.dot_sum (by rw [lX, lY])
  have g2 : Gf.dot (Y.take m) (X.take m) = Gf.dot (X.take m) (Y.take m) := Gf.dot_comm _ _
  have g3 : Gf.dot (Gf.lay (List.replicate m 0) s (X.take m)) (Y.take m) = Gf.mul s (Gf.dot (X.take m) (Y.take m)) := Gf.dot_scaled s lX lY
  have g4 := Gf.lay_back X s Y
  have g5 := Gf.lay_twice X s t Y
  have g6 := Gf.lay_zero X Y
  generalize X.take m = XN at *
  generalize Y.take m = YN at *
  have LX := Lib.hid lX
  have LY := Lib.hid lY
  have LX0 := Lib.hid hX.len
  clear lX lY
  go_enter Try.func9, Try.ntmps9
  try dsimp only [List.append]
  go_wp2_with (fail)
  refine (new_any _).mono ?_
  rintro e w1 ⟨rfl, hf, x1⟩
  generalize hb : w.heap.size = b at *
  clear hb
  go_wp2_with (fail)
  go_quiet (fail)
  have x0 : Ext w (w1.drewN nq) := x1.thenDrewN nq
  replace hf := hf.ext (Ext.drewN w1 nq)
  replace hX := hX.ext x0
  replace hY := hY.ext x0
  replace hXN := hXN.ext x0
  replace hYN := hYN.ext x0
  clear x1
  go_wp2_with (fail)
  refine (lay_any b _ A B m c m d XN YN 1 hf hXN hYN (by omega)).mono ?_
  rintro e v1 ⟨v, rfl, hv⟩
  have y0 := hv.ext
  replace hf := hf.ext y0
  replace hX := hX.ext y0
  replace hY := hY.ext y0
  replace hXN := hXN.ext y0
  replace hYN := hYN.ext y0
  replace x0 := Ext.trans x0 y0
  clear y0
  obtain ⟨S, cs, rfl, hS⟩ := hv.bs
  rw [Gf.lay_length, LX.out] at hS ⊢
  clear hv
  go_wp2_with (fail)
  refine (dot_any b _ S A m cs m c _ _ hf hS hXN).mono ?_
  rintro e v2 ⟨rfl, hd⟩
  have y0 := Dr.ext hd
  replace hf := hf.ext y0
  replace hX := hX.ext y0
  replace hY := hY.ext y0
  replace hXN := hXN.ext y0
  replace hYN := hYN.ext y0
  replace hS := hS.ext y0
  replace x0 := Ext.trans x0 y0
  clear y0
  clear hd
  go_wp2_with (fail)
  refine (dot_any b _ A A m c m c _ _ hf hXN hXN).mono ?_
  rintro e v3 ⟨rfl, hd⟩
  have y0 := Dr.ext hd
  replace hf := hf.ext y0
  replace hX := hX.ext y0
  replace hY := hY.ext y0
  replace hXN := hXN.ext y0
  replace hYN := hYN.ext y0
  replace hS := hS.ext y0
  replace x0 := Ext.trans x0 y0
  clear y0
  clear hd
  go_wp2_with (fail)
  refine (dot_any b _ B A m d m c _ _ hf hYN hXN).mono ?_
  rintro e v4 ⟨rfl, hd⟩
  have y0 := Dr.ext hd
  replace hf := hf.ext y0
  replace hX := hX.ext y0
  replace hY := hY.ext y0
  replace hXN := hXN.ext y0
  replace hYN := hYN.ext y0
  replace hS := hS.ext y0
  replace x0 := Ext.trans x0 y0
  clear y0
  clear hd
  go_wp2_with (fail)
  refine (add_any b _ _ _ hf).mono ?_
  rintro e w' ⟨rfl, rfl⟩
  clear hS
  go_wp2_with (fail)
  refine (dot_any b _ A B m c m d _ _ hf hXN hYN).mono ?_
  rintro e v5 ⟨rfl, hd⟩
  have y0 := Dr.ext hd
  replace hf := hf.ext y0
  replace hX := hX.ext y0
  replace hY := hY.ext y0
  replace hXN := hXN.ext y0
  replace hYN := hYN.ext y0
  replace x0 := Ext.trans x0 y0
  clear y0
  clear hd
  go_wp2_with (fail)
  refine (dot_any b _ B A m d m c _ _ hf hYN hXN).mono ?_
  rintro e v6 ⟨rfl, hd⟩
  have y0 := Dr.ext hd
  replace hf := hf.ext y0
  replace hX := hX.ext y0
  replace hY := hY.ext y0
  replace hXN := hXN.ext y0
  replace hYN := hYN.ext y0
  replace x0 := Ext.trans x0 y0
  clear y0
  clear hd
  go_wp2_with (fail)
  have y0 := Ext.alloc v6 (.cells (madeCells #[Value.int IntKind.u8 0] m) 5)
  have hZ := Bs.made v6 m (by omega)
  replace hf := hf.ext y0
  replace hX := hX.ext y0
  replace hY := hY.ext y0
  replace hXN := hXN.ext y0
  replace hYN := hYN.ext y0
  replace x0 := Ext.trans x0 y0
  clear y0
  go_wp2_with (fail)
  refine (lay_any b _ _ A m m m c _ XN s hf hZ hXN (by omega)).mono ?_
  rintro e v7 ⟨v, rfl, hv⟩
  have y0 := hv.ext
  replace hf := hf.ext y0
  replace hX := hX.ext y0
  replace hY := hY.ext y0
  replace hXN := hXN.ext y0
  replace hYN := hYN.ext y0
  replace hZ := hZ.ext y0
  replace x0 := Ext.trans x0 y0
  clear y0
  obtain ⟨U, cu, rfl, hU⟩ := hv.bs
  rw [Gf.lay_length, List.length_replicate] at hU ⊢
  clear hv
  go_wp2_with (fail)
  refine (dot_any b _ U B m cu m d _ _ hf hU hYN).mono ?_
  rintro e v8 ⟨rfl, hd⟩
  have y0 := Dr.ext hd
  replace hf := hf.ext y0
  replace hX := hX.ext y0
  replace hY := hY.ext y0
  replace hXN := hXN.ext y0
  replace hYN := hYN.ext y0
  replace hZ := hZ.ext y0
  replace hU := hU.ext y0
  replace x0 := Ext.trans x0 y0
  clear y0
  clear hd
  go_wp2_with (fail)
  refine (dot_any b _ A B m c m d _ _ hf hXN hYN).mono ?_
  rintro e v9 ⟨rfl, hd⟩
  have y0 := Dr.ext hd
  replace hf := hf.ext y0
  replace hX := hX.ext y0
  replace hY := hY.ext y0
  replace hXN := hXN.ext y0
  replace hYN := hYN.ext y0
  replace hZ := hZ.ext y0
  replace hU := hU.ext y0
  replace x0 := Ext.trans x0 y0
  clear y0
  clear hd
  go_wp2_with (fail)
  refine (mul_any b _ s (Gf.dot XN YN) hf).mono ?_
  rintro e v10 ⟨rfl, hd⟩
  have y0 := Dr.ext hd
  replace hf := hf.ext y0
  replace hX := hX.ext y0
  replace hY := hY.ext y0
  replace hXN := hXN.ext y0
  replace hYN := hYN.ext y0
  replace hZ := hZ.ext y0
  replace hU := hU.ext y0
  replace x0 := Ext.trans x0 y0
  clear y0
  clear hd
  clear hU hZ hXN hYN
  go_wp2_with (fail)
  refine (lay_any b _ A B n c m d X Y s hf hX hY (by omega)).mono ?_
  rintro e v11 ⟨v, rfl, hv⟩
  have y0 := hv.ext
  replace hf := hf.ext y0
  replace hX := hX.ext y0
  replace hY := hY.ext y0
  replace x0 := Ext.trans x0 y0
  clear y0
  obtain ⟨O, co, rfl, hO⟩ := hv.bs
  rw [Gf.lay_length, LX0.out] at hO ⊢
  clear hv
  go_wp2_with (fail)
  refine (lay_any b _ O B n co m d (Gf.lay X s Y) Y s hf hO hY (by omega)).mono ?_
  rintro e v12 ⟨v, rfl, hv⟩
  have y0 := hv.ext
  replace hf := hf.ext y0
  replace hX := hX.ext y0
  replace hY := hY.ext y0
  replace hO := hO.ext y0
  replace x0 := Ext.trans x0 y0
  clear y0
  obtain ⟨P, cp, rfl, hP⟩ := hv.bs
  rw [Gf.lay_length, Gf.lay_length, LX0.out] at hP ⊢
  clear hv
  go_wp2_with (fail)
  refine (sameBytes_any _ P A n cp n c _ _ hP hX).mono ?_
  rintro e w' ⟨rfl, rfl⟩
  clear hP
  go_wp2_with (fail)
  refine (lay_any b _ O B n co m d (Gf.lay X s Y) Y t hf hO hY (by omega)).mono ?_
  rintro e v13 ⟨v, rfl, hv⟩
  have y0 := hv.ext
  replace hf := hf.ext y0
  replace hX := hX.ext y0
  replace hY := hY.ext y0
  replace hO := hO.ext y0
  replace x0 := Ext.trans x0 y0
  clear y0
  obtain ⟨P1, cp1, rfl, hP1⟩ := hv.bs
  rw [Gf.lay_length, Gf.lay_length, LX0.out] at hP1 ⊢
  clear hv
  go_wp2_with (fail)
  refine (add_any b _ s t hf).mono ?_
  rintro e w' ⟨rfl, rfl⟩
  go_wp2_with (fail)
  refine (lay_any b _ A B n c m d X Y (Gf.add s t) hf hX hY (by omega)).mono ?_
  rintro e v14 ⟨v, rfl, hv⟩
  have y0 := hv.ext
  replace hf := hf.ext y0
  replace hX := hX.ext y0
  replace hY := hY.ext y0
  replace hO := hO.ext y0
  replace hP1 := hP1.ext y0
  replace x0 := Ext.trans x0 y0
  clear y0
  obtain ⟨P2, cp2, rfl, hP2⟩ := hv.bs
  rw [Gf.lay_length, LX0.out] at hP2 ⊢
  clear hv
  go_wp2_with (fail)
  refine (sameBytes_any _ P1 P2 n cp1 n cp2 _ _ hP1 hP2).mono ?_
  rintro e w' ⟨rfl, rfl⟩
  clear hP1 hP2
  go_wp2_with (fail)
  refine (lay_any b _ A B n c m d X Y 0 hf hX hY (by omega)).mono ?_
  rintro e v15 ⟨v, rfl, hv⟩
  have y0 := hv.ext
  replace hf := hf.ext y0
  replace hX := hX.ext y0
  replace hY := hY.ext y0
  replace hO := hO.ext y0
  replace x0 := Ext.trans x0 y0
  clear y0
  obtain ⟨P3, cp3, rfl, hP3⟩ := hv.bs
  rw [Gf.lay_length, LX0.out] at hP3 ⊢
  clear hv
  go_wp2_with (fail)
  refine (sameBytes_any _ P3 A n cp3 n c _ _ hP3 hX).mono ?_
  rintro e w' ⟨rfl, rfl⟩
  go_wp2_with (fail)
  refine (awake_any _).mono ?_
  rintro e v16 ⟨rfl, hx0⟩
  have y0 := hx0
  replace hf := hf.ext y0
  replace hX := hX.ext y0
  replace hY := hY.ext y0
  replace hO := hO.ext y0
  replace hP3 := hP3.ext y0
  replace x0 := Ext.trans x0 y0
  clear y0
  clear hx0
  go_wp2_with (fail)
  go_ret
  exact ⟨rfl, x0⟩

set_option maxRecDepth 100000 in
set_option maxHeartbeats 2000000 in
theorem fieldLists_ge (w : World) (s t : UInt8) (A B : Option Addr) (n c m d : Nat) (X Y : List UInt8) (hX : Bs w A n c X) (hY : Bs w B m d Y) (hn : n ≤ 200) (hm : m ≤ 200) (hle : n ≤ m) :
    Calls Try.prog 9 #[.slice A n c, .slice B m d, .int .u8 (s.toNat : Int), .int .u8 (t.toNat : Int)] w fun e w' => e = .returned (.bool true) ∧ Ext w w' := by
  have n1 : ¬ 200 < n := by omega
  have n2 : ¬ 200 < m := by omega
  have n5 := hX.le
  have n6 := hY.le
  have n7 := hX.max
  have n8 := hY.max
  have n9 : (n : Int) ≤ c := by omega
  have n10 : (n : Int) ≤ d := by omega
  have hmk := fun W => run_make_row' (P := Try.prog) 33 5 (.int .u8 0) 1 Try.underlying33 u8_info rfl .i64 .i64 n (by omega) (by omega) W
  have hXN := hX.take (k := n) (by omega)
  have hYN := hY.take (k := n) (by omega)
  have lX := hXN.len
  have lY := hYN.len
  have g1 : Gf.dot (Gf.lay (X.take n) 1 (Y.take n)) (X.take n) = Gf.add (Gf.dot (X.take n) (X.take n)) (Gf.dot (Y.take n) (X.take n)) := Gf.dot_sum (by rw [lX, lY])
  have g2 : Gf.dot (Y.take n) (X.take n) = Gf.dot (X.take n) (Y.take n) := Gf.dot_comm _ _
  have g3 : Gf.dot (Gf.lay (List.replicate n 0) s (X.take n)) (Y.take n) = Gf.mul s (Gf.dot (X.take n) (Y.take n)) := Gf.dot_scaled s lX lY
  have g4 := Gf.lay_back X s Y
  have g5 := Gf.lay_twice X s t Y
  have g6 := Gf.lay_zero X Y
  generalize X.take n = XN at *
  generalize Y.take n = YN at *
  have LX := Lib.hid lX
  have LY := Lib.hid lY
  have LX0 := Lib.hid hX.len
  clear lX lY
  go_enter Try.func9, Try.ntmps9
  try dsimp only [List.append]
  go_wp2_with (fail)
  refine (new_any _).mono ?_
  rintro e w1 ⟨rfl, hf, x1⟩
  generalize hb : w.heap.size = b at *
  clear hb
  go_wp2_with (fail)
  go_quiet (fail)
  have x0 : Ext w (w1.drewN nq) := x1.thenDrewN nq
  replace hf := hf.ext (Ext.drewN w1 nq)
  replace hX := hX.ext x0
  replace hY := hY.ext x0
  replace hXN := hXN.ext x0
  replace hYN := hYN.ext x0
  clear x1
  go_wp2_with (fail)
  refine (lay_any b _ A B n c n d XN YN 1 hf hXN hYN (by omega)).mono ?_
  rintro e v1 ⟨v, rfl, hv⟩
  have y0 := hv.ext
  replace hf := hf.ext y0
  replace hX := hX.ext y0
  replace hY := hY.ext y0
  replace hXN := hXN.ext y0
  replace hYN := hYN.ext y0
  replace x0 := Ext.trans x0 y0
  clear y0
  obtain ⟨S, cs, rfl, hS⟩ := hv.bs
  rw [Gf.lay_length, LX.out] at hS ⊢
  clear hv
  go_wp2_with (fail)
  refine (dot_any b _ S A n cs n c _ _ hf hS hXN).mono ?_
  rintro e v2 ⟨rfl, hd⟩
  have y0 := Dr.ext hd
  replace hf := hf.ext y0
  replace hX := hX.ext y0
  replace hY := hY.ext y0
  replace hXN := hXN.ext y0
  replace hYN := hYN.ext y0
  replace hS := hS.ext y0
  replace x0 := Ext.trans x0 y0
  clear y0
  clear hd
  go_wp2_with (fail)
  refine (dot_any b _ A A n c n c _ _ hf hXN hXN).mono ?_
  rintro e v3 ⟨rfl, hd⟩
  have y0 := Dr.ext hd
  replace hf := hf.ext y0
  replace hX := hX.ext y0
  replace hY := hY.ext y0
  replace hXN := hXN.ext y0
  replace hYN := hYN.ext y0
  replace hS := hS.ext y0
  replace x0 := Ext.trans x0 y0
  clear y0
  clear hd
  go_wp2_with (fail)
  refine (dot_any b _ B A n d n c _ _ hf hYN hXN).mono ?_
  rintro e v4 ⟨rfl, hd⟩
  have y0 := Dr.ext hd
  replace hf := hf.ext y0
  replace hX := hX.ext y0
  replace hY := hY.ext y0
  replace hXN := hXN.ext y0
  replace hYN := hYN.ext y0
  replace hS := hS.ext y0
  replace x0 := Ext.trans x0 y0
  clear y0
  clear hd
  go_wp2_with (fail)
  refine (add_any b _ _ _ hf).mono ?_
  rintro e w' ⟨rfl, rfl⟩
  clear hS
  go_wp2_with (fail)
  refine (dot_any b _ A B n c n d _ _ hf hXN hYN).mono ?_
  rintro e v5 ⟨rfl, hd⟩
  have y0 := Dr.ext hd
  replace hf := hf.ext y0
  replace hX := hX.ext y0
  replace hY := hY.ext y0
  replace hXN := hXN.ext y0
  replace hYN := hYN.ext y0
  replace x0 := Ext.trans x0 y0
  clear y0
  clear hd
  go_wp2_with (fail)
  refine (dot_any b _ B A n d n c _ _ hf hYN hXN).mono ?_
  rintro e v6 ⟨rfl, hd⟩
  have y0 := Dr.ext hd
  replace hf := hf.ext y0
  replace hX := hX.ext y0
  replace hY := hY.ext y0
  replace hXN := hXN.ext y0
  replace hYN := hYN.ext y0
  replace x0 := Ext.trans x0 y0
  clear y0
  clear hd
  go_wp2_with (fail)
  have y0 := Ext.alloc v6 (.cells (madeCells #[Value.int IntKind.u8 0] n) 5)
  have hZ := Bs.made v6 n (by omega)
  replace hf := hf.ext y0
  replace hX := hX.ext y0
  replace hY := hY.ext y0
  replace hXN := hXN.ext y0
  replace hYN := hYN.ext y0
  replace x0 := Ext.trans x0 y0
  clear y0
  go_wp2_with (fail)
  refine (lay_any b _ _ A n n n c _ XN s hf hZ hXN (by omega)).mono ?_
  rintro e v7 ⟨v, rfl, hv⟩
  have y0 := hv.ext
  replace hf := hf.ext y0
  replace hX := hX.ext y0
  replace hY := hY.ext y0
  replace hXN := hXN.ext y0
  replace hYN := hYN.ext y0
  replace hZ := hZ.ext y0
  replace x0 := Ext.trans x0 y0
  clear y0
  obtain ⟨U, cu, rfl, hU⟩ := hv.bs
  rw [Gf.lay_length, List.length_replicate] at hU ⊢
  clear hv
  go_wp2_with (fail)
  refine (dot_any b _ U B n cu n d _ _ hf hU hYN).mono ?_
  rintro e v8 ⟨rfl, hd⟩
  have y0 := Dr.ext hd
  replace hf := hf.ext y0
  replace hX := hX.ext y0
  replace hY := hY.ext y0
  replace hXN := hXN.ext y0
  replace hYN := hYN.ext y0
  replace hZ := hZ.ext y0
  replace hU := hU.ext y0
  replace x0 := Ext.trans x0 y0
  clear y0
  clear hd
  go_wp2_with (fail)
  refine (dot_any b _ A B n c n d _ _ hf hXN hYN).mono ?_
  rintro e v9 ⟨rfl, hd⟩
  have y0 := Dr.ext hd
  replace hf := hf.ext y0
  replace hX := hX.ext y0
  replace hY := hY.ext y0
  replace hXN := hXN.ext y0
  replace hYN := hYN.ext y0
  replace hZ := hZ.ext y0
  replace hU := hU.ext y0
  replace x0 := Ext.trans x0 y0
  clear y0
  clear hd
  go_wp2_with (fail)
  refine (mul_any b _ s (Gf.dot XN YN) hf).mono ?_
  rintro e v10 ⟨rfl, hd⟩
  have y0 := Dr.ext hd
  replace hf := hf.ext y0
  replace hX := hX.ext y0
  replace hY := hY.ext y0
  replace hXN := hXN.ext y0
  replace hYN := hYN.ext y0
  replace hZ := hZ.ext y0
  replace hU := hU.ext y0
  replace x0 := Ext.trans x0 y0
  clear y0
  clear hd
  clear hU hZ hXN hYN
  go_wp2_with (fail)
  refine (lay_any b _ A B n c m d X Y s hf hX hY (by omega)).mono ?_
  rintro e v11 ⟨v, rfl, hv⟩
  have y0 := hv.ext
  replace hf := hf.ext y0
  replace hX := hX.ext y0
  replace hY := hY.ext y0
  replace x0 := Ext.trans x0 y0
  clear y0
  obtain ⟨O, co, rfl, hO⟩ := hv.bs
  rw [Gf.lay_length, LX0.out] at hO ⊢
  clear hv
  go_wp2_with (fail)
  refine (lay_any b _ O B n co m d (Gf.lay X s Y) Y s hf hO hY (by omega)).mono ?_
  rintro e v12 ⟨v, rfl, hv⟩
  have y0 := hv.ext
  replace hf := hf.ext y0
  replace hX := hX.ext y0
  replace hY := hY.ext y0
  replace hO := hO.ext y0
  replace x0 := Ext.trans x0 y0
  clear y0
  obtain ⟨P, cp, rfl, hP⟩ := hv.bs
  rw [Gf.lay_length, Gf.lay_length, LX0.out] at hP ⊢
  clear hv
  go_wp2_with (fail)
  refine (sameBytes_any _ P A n cp n c _ _ hP hX).mono ?_
  rintro e w' ⟨rfl, rfl⟩
  clear hP
  go_wp2_with (fail)
  refine (lay_any b _ O B n co m d (Gf.lay X s Y) Y t hf hO hY (by omega)).mono ?_
  rintro e v13 ⟨v, rfl, hv⟩
  have y0 := hv.ext
  replace hf := hf.ext y0
  replace hX := hX.ext y0
  replace hY := hY.ext y0
  replace hO := hO.ext y0
  replace x0 := Ext.trans x0 y0
  clear y0
  obtain ⟨P1, cp1, rfl, hP1⟩ := hv.bs
  rw [Gf.lay_length, Gf.lay_length, LX0.out] at hP1 ⊢
  clear hv
  go_wp2_with (fail)
  refine (add_any b _ s t hf).mono ?_
  rintro e w' ⟨rfl, rfl⟩
  go_wp2_with (fail)
  refine (lay_any b _ A B n c m d X Y (Gf.add s t) hf hX hY (by omega)).mono ?_
  rintro e v14 ⟨v, rfl, hv⟩
  have y0 := hv.ext
  replace hf := hf.ext y0
  replace hX := hX.ext y0
  replace hY := hY.ext y0
  replace hO := hO.ext y0
  replace hP1 := hP1.ext y0
  replace x0 := Ext.trans x0 y0
  clear y0
  obtain ⟨P2, cp2, rfl, hP2⟩ := hv.bs
  rw [Gf.lay_length, LX0.out] at hP2 ⊢
  clear hv
  go_wp2_with (fail)
  refine (sameBytes_any _ P1 P2 n cp1 n cp2 _ _ hP1 hP2).mono ?_
  rintro e w' ⟨rfl, rfl⟩
  clear hP1 hP2
  go_wp2_with (fail)
  refine (lay_any b _ A B n c m d X Y 0 hf hX hY (by omega)).mono ?_
  rintro e v15 ⟨v, rfl, hv⟩
  have y0 := hv.ext
  replace hf := hf.ext y0
  replace hX := hX.ext y0
  replace hY := hY.ext y0
  replace hO := hO.ext y0
  replace x0 := Ext.trans x0 y0
  clear y0
  obtain ⟨P3, cp3, rfl, hP3⟩ := hv.bs
  rw [Gf.lay_length, LX0.out] at hP3 ⊢
  clear hv
  go_wp2_with (fail)
  refine (sameBytes_any _ P3 A n cp3 n c _ _ hP3 hX).mono ?_
  rintro e w' ⟨rfl, rfl⟩
  go_wp2_with (fail)
  refine (awake_any _).mono ?_
  rintro e v16 ⟨rfl, hx0⟩
  have y0 := hx0
  replace hf := hf.ext y0
  replace hX := hX.ext y0
  replace hY := hY.ext y0
  replace hO := hO.ext y0
  replace hP3 := hP3.ext y0
  replace x0 := Ext.trans x0 y0
  clear y0
  clear hx0
  go_wp2_with (fail)
  go_ret
  exact ⟨rfl, x0⟩

namespace fieldLists
theorem walk (w : World) (a0 : Option Addr) (len0 cap0 : Nat) (z0 : List Int) (a1 : Option Addr) (len1 cap1 : Nat) (z1 : List Int) (a2 a3 : Int) (w0 : IsRow .u8 w a0 len0 cap0 z0) (w1 : IsRow .u8 w a1 len1 cap1 z1) (w2 : (Lit.int .u8 a2).wf = true) (w3 : (Lit.int .u8 a3).wf = true) :
    Calls Try.prog 9 #[.slice a0 len0 cap0, .slice a1 len1 cap1, .int .u8 a2, .int .u8 a3] w fun e w' => e = .returned (.bool true) ∧ Below w.heap.size w w' := by
  obtain ⟨x, rfl⟩ := wf_u8 w2
  obtain ⟨y, rfl⟩ := wf_u8 w3
  obtain ⟨X, hX⟩ := w0.bytes
  obtain ⟨Y, hY⟩ := w1.bytes
  by_cases h : 200 < len0 ∨ 200 < len1
  · exact fieldLists_long w x y a0 a1 len0 cap0 len1 cap1 hX.le hX.max hY.le hY.max h
  · by_cases hlt : len1 < len0
    · exact fieldLists_lt w x y a0 a1 len0 cap0 len1 cap1 X Y hX hY (by omega) (by omega) hlt
    · exact fieldLists_ge w x y a0 a1 len0 cap0 len1 cap1 X Y hX hY (by omega) (by omega) (by omega)
end fieldLists

/-! From the walk to the statement. -/
namespace fieldLists
theorem own : ownKnob Try.prog.godebug = none := by kernel_rfl
theorem laidOut : laidOutB Try.prog = true := by kernel_rfl

set_option maxRecDepth 100000 in
theorem lifted (os : Os) (started : os.Started) (H : Type) (enc : TypeId × Value → H) :
    ReturnsInHanded {} Try.checked os 9 .any (Rows.fieldListsSpec.pre6 enc Try.prog Try.f9 Rows.fieldListsRow.domain false) (Rows.fieldListsSpec.post enc Try.prog Try.f9 false true false false) := by
  refine returnsInHanded_of_change (C := Try.checked) own started (by kernel_rfl) Try.func9
    (ChangeSpec.witness6 (enc := enc) (C := Try.checked) false ⟨#[], #[.slice none 0 0, .slice none 0 0, .int .u8 0, .int .u8 0], []⟩ 8 (by kernel_rfl) (by kernel_rfl) (by kernel_rfl) (by kernel_rfl)) ?_
  intro W base args ds gs before hval0 hW hcnd _
  have hval : ∀ (j : Nat) t v, Try.f9.params[j]? = some t → args[j]? = some v → Value.okWide Try.prog W .any base t v := hval0
  have hW' := hW
  obtain ⟨p, q, hA0, hV, rfl, hfz, hnd⟩ := hW
  have hA : DataW.TrodAll enc Try.prog W 0 (fun _ => true) true Try.f9.params.toList args.toList ds p := hA0
  rw [Try.params9] at hA hval
  obtain ⟨v0, vs0, d0, ds0, p0, q0, hargs, rfl, rfl, h0, r0⟩ := trodAll_cons hA
  obtain ⟨v1, vs1, d1, ds1, p1, q1, rfl, rfl, rfl, h1, r1⟩ := trodAll_cons r0
  obtain ⟨v2, vs2, d2, ds2, p2, q2, rfl, rfl, rfl, h2, r2⟩ := trodAll_cons r1
  obtain ⟨v3, vs3, d3, ds3, p3, q3, rfl, rfl, rfl, h3, r3⟩ := trodAll_cons r2
  obtain ⟨rfl, rfl, rfl⟩ := trodAll_nil r3
  obtain rfl : args = #[v0, v1, v2, v3] := by cases args; simp_all
  obtain ⟨rfl, rfl⟩ := trodVars_none hV
  obtain ⟨a0, len0, cap0, rfl⟩ := okWide_slice Try.underlying33 (hval 0 33 v0 rfl rfl)
  have k0 := h0
  have lt0 : ∀ x ∈ p0, x.block < W.heap.size := by obtain ⟨m, hm⟩ := k0; exact DataW.trod_lt m _ _ _ hm
  obtain ⟨z0, w0⟩ : ∃ zs, IsRow .u8 W a0 len0 cap0 zs := IsRow.of_trod Try.underlying33 Try.underlying5 (by kernel_rfl) h0
  obtain ⟨a1, len1, cap1, rfl⟩ := okWide_slice Try.underlying33 (hval 1 33 v1 rfl rfl)
  have k1 := h1
  have lt1 : ∀ x ∈ p1, x.block < W.heap.size := by obtain ⟨m, hm⟩ := k1; exact DataW.trod_lt m _ _ _ hm
  obtain ⟨z1, w1⟩ : ∃ zs, IsRow .u8 W a1 len1 cap1 zs := IsRow.of_trod Try.underlying33 Try.underlying5 (by kernel_rfl) h1
  obtain ⟨a2, rfl, rfl, rfl, w2⟩ := open_int Try.underlying5 (hval 2 5 v2 rfl rfl) h2
  obtain ⟨a3, rfl, rfl, rfl, w3⟩ := open_int Try.underlying5 (hval 3 5 v3 rfl rfl) h3
  clear hA0 hval0
  refine (walk W a0 len0 cap0 z0 a1 len1 cap1 z1 a2 a3 w0 w1 w2 w3).mono fun e W' ⟨he, bel⟩ => ?_
  subst he
  exact ⟨_, rfl, _, _, _, [], _, [], hW', trodAll_mk1 (shut_bool Try.underlying4 _), (trodAll_cons_mk (Below.trod laidOut (by kernel_rfl) (of_decide_eq_true (by kernel_rfl)) k0 bel lt0) (trodAll_cons_mk (Below.trod laidOut (by kernel_rfl) (of_decide_eq_true (by kernel_rfl)) k1 bel lt1) (trodAll_cons_mk (shut_int Try.underlying5 w2) (trodAll_cons_mk (shut_int Try.underlying5 w3) trodAll_mk0)))), rfl, bel.frame _, fun h => by cases h⟩

theorem over : Rows.fieldListsRow.holds Try.pinned (OpenSpec.ofChange Rows.fieldListsSpec) :=
  OpenClaim.holds_of_wide 9 Try.f9 rfl rfl rfl rfl rfl rfl rfl ⟨rfl, rfl, rfl, rfl, rfl⟩ rfl rfl rfl rfl rfl (by kernel_rfl) Try.func9 (by kernel_rfl)
    (of_decide_eq_true (by kernel_rfl)) (by unfold Func.isWrapper; first | (rw [if_pos (by decide +kernel)]; kernel_rfl) | (rw [if_neg (by decide +kernel)]; exact ⟨rfl, rfl⟩))
    (fun os started H enc _ => lifted os started H enc)
end fieldLists

/-- The statement. -/
theorem fieldLists_holds : Rows.FieldListsSaid := fieldLists.over
#print axioms fieldLists_holds
end Go.Proofs.Ytegjkcolilkfpaa
