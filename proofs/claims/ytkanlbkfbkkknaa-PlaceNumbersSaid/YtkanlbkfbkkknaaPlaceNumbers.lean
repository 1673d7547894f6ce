/- PlaceNumbers' walk. -/
import Derived.Test.YtkanlbkfbkkknaaPlaceNil
import Derived.Test.YtkanlbkfbkkknaaPlaceAwake
import Derived.Test.YtkanlbkfbkkknaaPlaceMoveAny
import Derived.Test.YtkanlbkfbkkknaaThree
import Derived.Deep.DeepCutAuto
namespace Go.Proofs.Ytkanlbkfbkkknaa
open Go.RowKit

theorem pn_right : decide (Pl.Right (Pl.pget (Pl.first 256 255 1000) 999) 256) = true := by
  rw [Pl.first_get (by omega)]
  exact decide_eq_true (Pl.firstNodes_right (by omega) (by omega) (by omega) (by omega) (by omega))
def pone : Pl.P := (1099511627776, [7, 3])
theorem pn_bad0 : decide (Pl.Right (0, []) 5) = false := by decide
theorem pn_bad1 : decide (Pl.Right (1, []) 5) = false := by decide
theorem pn_bad2 : decide (Pl.Right (0, [0]) 5) = false := by decide
theorem pn_bad3 : decide (Pl.Right (1099511627777, [0]) 5) = false := by decide
theorem pn_bad4 : decide (Pl.Right (1, [0, 0]) 5) = false := by decide
theorem pn_bad5 : decide (Pl.Right (1, [5]) 5) = false := by decide
theorem pn_bad6 : decide (Pl.Right (1, [-1]) 5) = false := by decide
theorem pn_bad7 : decide (Pl.Right (1, List.replicate 256 0) 5) = false := by
  refine decide_eq_false (fun h => ?_)
  have := h.1.2.2.2.2.2
  rw [List.length_replicate] at this
  omega
theorem pn_r8 : decide (Pl.Right pone 8) = true := by decide
theorem pn_r7 : decide (Pl.Right pone 7) = false := by decide
theorem pn_r257 : decide (Pl.Right pone 257) = false := by decide
theorem pn_r0 : decide (Pl.Right pone 0) = false := by decide
theorem pn_b : Pl.moveE [] 1 2 = 2 := by decide +kernel
theorem pn_c : Pl.moveE [(0, [])] 1 2 = 2 := by decide +kernel
theorem pn_d : Pl.moveE [pone] 7 2 = 100 := by decide +kernel
theorem pn_e : Pl.moveE [pone] 9 2 = 0 := by decide +kernel
theorem pn_f : Pl.moveE [pone] 9 9 = 100 := by decide +kernel
theorem pn_g : Pl.moveE [pone] (-1) 2 = 100 := by decide +kernel
theorem pn_h : Pl.moveE [pone] 9 256 = 100 := by decide +kernel
theorem pn_l : (Pl.moveL [pone] 9 2).length = 1 := by decide +kernel
theorem pn_n : (Pl.moveG [pone] 9 2).length = 0 := by decide +kernel
theorem pn_s : hasB (Pl.moveL [pone] 9 2) [1099511627776] [[7, 3]] = true := by decide +kernel
theorem pn_i : Il.idx [7, 3] 4 = -1 := by decide
theorem ps_one (W : World) (e : Int) (A : Option Addr) (n c : Nat) (l : List Int) (hi : Is W A n c l) : Ps (W.alloc (.cells #[.int .i64 e, .slice A n c] 33)) (some ⟨W.heap.size, 0, none⟩) 1 1 [(e, l)] := by
  have hb := heap_alloc_new W (.cells #[.int .i64 e, .slice A n c] 33)
  refine ⟨rfl, Nat.le_refl _, by omega, fun k hk => ⟨W.heap.size, 0, A, n, c, rfl, ?_, ?_, ?_⟩⟩
  · obtain rfl : k = 0 := by omega
    rw [cell_of_row _ _ _ _ _ _ hb]; rfl
  · obtain rfl : k = 0 := by omega
    rw [cell_of_row _ _ _ _ _ _ hb]; rfl
  · obtain rfl : k = 0 := by omega
    exact hi.up _
set_option maxRecDepth 100000 in
set_option maxHeartbeats 16000000 in
theorem placeNumbers.walk (w : World) : Calls Try.prog 7 #[] w fun e w' => e = .returned (.bool true) ∧ Below w.heap.size w w' := by
  have hmk := run_make_256
  have HMK := Lib.hid hmk
  clear hmk
  go_enter Try.func7, Try.ntmps7
  try dsimp only [List.append]
  go_wp2_with (fail)
  obtain ⟨g, hg⟩ : ∃ g, w.heap.size = g := ⟨_, rfl⟩
  have hb := heap_alloc_new w (.cells #[.int .i64 0, .int .i64 1, .int .i64 1, .int .i64 257, .int .i64 1, .int .i64 1, .int .i64 3, .int .i64 4, .int .i64 1, .int .i64 3, .int .i64 0, .int .i64 1, .int .i64 256, .int .i64 256, .int .i64 1, .int .i64 3, .int .i64 1, .int .i64 0, .int .i64 3, .int .i64 1, .int .i64 1001, .int .i64 (-1), .int .i64 (-1), .int .i64 (-1)] 48)
  have hx := Ext.alloc w (.cells #[.int .i64 0, .int .i64 1, .int .i64 1, .int .i64 257, .int .i64 1, .int .i64 1, .int .i64 3, .int .i64 4, .int .i64 1, .int .i64 3, .int .i64 0, .int .i64 1, .int .i64 256, .int .i64 256, .int .i64 1, .int .i64 3, .int .i64 1, .int .i64 0, .int .i64 3, .int .i64 1, .int .i64 1001, .int .i64 (-1), .int .i64 (-1), .int .i64 (-1)] 48)
  rw [hg] at hb
  rw [hg]
  generalize w.alloc (.cells #[.int .i64 0, .int .i64 1, .int .i64 1, .int .i64 257, .int .i64 1, .int .i64 1, .int .i64 3, .int .i64 4, .int .i64 1, .int .i64 3, .int .i64 0, .int .i64 1, .int .i64 256, .int .i64 256, .int .i64 1, .int .i64 3, .int .i64 1, .int .i64 0, .int .i64 3, .int .i64 1, .int .i64 1001, .int .i64 (-1), .int .i64 (-1), .int .i64 (-1)] 48) = w0 at *
  have c0 : w0.cell? ⟨g, 0, none⟩ = some (.int .i64 0) := by rw [cell_of_row w0 _ _ _ _ _ hb]; rfl
  have c1 : w0.cell? ⟨g, 1, none⟩ = some (.int .i64 1) := by rw [cell_of_row w0 _ _ _ _ _ hb]; rfl
  have c2 : w0.cell? ⟨g, 2, none⟩ = some (.int .i64 1) := by rw [cell_of_row w0 _ _ _ _ _ hb]; rfl
  have c3 : w0.cell? ⟨g, 3, none⟩ = some (.int .i64 257) := by rw [cell_of_row w0 _ _ _ _ _ hb]; rfl
  have c4 : w0.cell? ⟨g, 4, none⟩ = some (.int .i64 1) := by rw [cell_of_row w0 _ _ _ _ _ hb]; rfl
  have c5 : w0.cell? ⟨g, 5, none⟩ = some (.int .i64 1) := by rw [cell_of_row w0 _ _ _ _ _ hb]; rfl
  have c6 : w0.cell? ⟨g, 6, none⟩ = some (.int .i64 3) := by rw [cell_of_row w0 _ _ _ _ _ hb]; rfl
  have c7 : w0.cell? ⟨g, 7, none⟩ = some (.int .i64 4) := by rw [cell_of_row w0 _ _ _ _ _ hb]; rfl
  have c8 : w0.cell? ⟨g, 8, none⟩ = some (.int .i64 1) := by rw [cell_of_row w0 _ _ _ _ _ hb]; rfl
  have c9 : w0.cell? ⟨g, 9, none⟩ = some (.int .i64 3) := by rw [cell_of_row w0 _ _ _ _ _ hb]; rfl
  have c10 : w0.cell? ⟨g, 10, none⟩ = some (.int .i64 0) := by rw [cell_of_row w0 _ _ _ _ _ hb]; rfl
  have c11 : w0.cell? ⟨g, 11, none⟩ = some (.int .i64 1) := by rw [cell_of_row w0 _ _ _ _ _ hb]; rfl
  have c12 : w0.cell? ⟨g, 12, none⟩ = some (.int .i64 256) := by rw [cell_of_row w0 _ _ _ _ _ hb]; rfl
  have c13 : w0.cell? ⟨g, 13, none⟩ = some (.int .i64 256) := by rw [cell_of_row w0 _ _ _ _ _ hb]; rfl
  have c14 : w0.cell? ⟨g, 14, none⟩ = some (.int .i64 1) := by rw [cell_of_row w0 _ _ _ _ _ hb]; rfl
  have c15 : w0.cell? ⟨g, 15, none⟩ = some (.int .i64 3) := by rw [cell_of_row w0 _ _ _ _ _ hb]; rfl
  have c16 : w0.cell? ⟨g, 16, none⟩ = some (.int .i64 1) := by rw [cell_of_row w0 _ _ _ _ _ hb]; rfl
  have c17 : w0.cell? ⟨g, 17, none⟩ = some (.int .i64 0) := by rw [cell_of_row w0 _ _ _ _ _ hb]; rfl
  have c18 : w0.cell? ⟨g, 18, none⟩ = some (.int .i64 3) := by rw [cell_of_row w0 _ _ _ _ _ hb]; rfl
  have c19 : w0.cell? ⟨g, 19, none⟩ = some (.int .i64 1) := by rw [cell_of_row w0 _ _ _ _ _ hb]; rfl
  have c20 : w0.cell? ⟨g, 20, none⟩ = some (.int .i64 1001) := by rw [cell_of_row w0 _ _ _ _ _ hb]; rfl
  have c21 : w0.cell? ⟨g, 21, none⟩ = some (.int .i64 (-1)) := by rw [cell_of_row w0 _ _ _ _ _ hb]; rfl
  have c22 : w0.cell? ⟨g, 22, none⟩ = some (.int .i64 (-1)) := by rw [cell_of_row w0 _ _ _ _ _ hb]; rfl
  have c23 : w0.cell? ⟨g, 23, none⟩ = some (.int .i64 (-1)) := by rw [cell_of_row w0 _ _ _ _ _ hb]; rfl
  have C0 := Lib.hid c0
  have C1 := Lib.hid c1
  have C2 := Lib.hid c2
  have C3 := Lib.hid c3
  have C4 := Lib.hid c4
  have C5 := Lib.hid c5
  have C6 := Lib.hid c6
  have C7 := Lib.hid c7
  have C8 := Lib.hid c8
  have C9 := Lib.hid c9
  have C10 := Lib.hid c10
  have C11 := Lib.hid c11
  have C12 := Lib.hid c12
  have C13 := Lib.hid c13
  have C14 := Lib.hid c14
  have C15 := Lib.hid c15
  have C16 := Lib.hid c16
  have C17 := Lib.hid c17
  have C18 := Lib.hid c18
  have C19 := Lib.hid c19
  have C20 := Lib.hid c20
  have C21 := Lib.hid c21
  have C22 := Lib.hid c22
  have C23 := Lib.hid c23
  have X0 := Lib.hid hx
  clear hb hx c0 c1 c2 c3 c4 c5 c6 c7 c8 c9 c10 c11 c12 c13 c14 c15 c16 c17 c18 c19 c20 c21 c22 c23
  go_loopw [49] (fun i wr => ∃ k : Nat, k ≤ 8 ∧ i = .int .i64 k ∧ Hid (Ext w0 wr)) (fun i _ => 8 - (intOf i).toNat)
  case atStart => exact ⟨0, by omega, rfl, Lib.hid (Ext.refl w0)⟩
  case round =>
    obtain ⟨k, hk, rfl, HX⟩ := hrel
    obtain ⟨w1, hw⟩ : ∃ w1, w1 = wr := ⟨_, rfl⟩
    subst hw
    by_cases hlt : k < 8
    · obtain rfl | rfl | rfl | rfl | rfl | rfl | rfl | rfl : k = 0 ∨ k = 1 ∨ k = 2 ∨ k = 3 ∨ k = 4 ∨ k = 5 ∨ k = 6 ∨ k = 7 := by omega
      · have e0 := HX.out.cell C0.out
        have e1 := HX.out.cell C1.out
        have e2 := HX.out.cell C2.out
        obtain ⟨w2, hs, f0, f1, f2, x2⟩ := three_copy w1 (0) (1) (1)
        obtain ⟨p, hp⟩ : ∃ p, w1.heap.size = p := ⟨_, rfl⟩
        rw [hp] at hs f0 f1 f2
        have HP := Lib.hid hp
        have HS := Lib.hid hs
        have HX2 := Lib.hid (HX.out.trans x2)
        have hn := first_no0 w2
        clear hp hs x2
        go_wp2_with (first
          | ((with_reducible refine opIs ⟨some 2, .alloc 48, _, _, _, _⟩ ?_); refine wpList_allocR rfl 48 rfl _ (run_alloc_three _) ?_; rw [HP.out])
          | ((with_reducible refine opIs ⟨none, .store 48 (.tmp 2) (.tmp 53), _, _, _, _⟩ ?_); refine wpList_storeR rfl 48 (.tmp 2) (.tmp 53) rfl rfl rfl HS.out ?_))
        with_reducible refine hn.mono ?_
        rintro e wz ⟨rfl, rfl⟩
        go_wp2_with (fail)
        exact ⟨⟨1, by omega, rfl, HX2⟩, by simp [intOf]⟩
      · have e0 := HX.out.cell C3.out
        have e1 := HX.out.cell C4.out
        have e2 := HX.out.cell C5.out
        obtain ⟨w2, hs, f0, f1, f2, x2⟩ := three_copy w1 (257) (1) (1)
        obtain ⟨p, hp⟩ : ∃ p, w1.heap.size = p := ⟨_, rfl⟩
        rw [hp] at hs f0 f1 f2
        have HP := Lib.hid hp
        have HS := Lib.hid hs
        have HX2 := Lib.hid (HX.out.trans x2)
        have hn := first_no1 w2
        clear hp hs x2
        go_wp2_with (first
          | ((with_reducible refine opIs ⟨some 2, .alloc 48, _, _, _, _⟩ ?_); refine wpList_allocR rfl 48 rfl _ (run_alloc_three _) ?_; rw [HP.out])
          | ((with_reducible refine opIs ⟨none, .store 48 (.tmp 2) (.tmp 53), _, _, _, _⟩ ?_); refine wpList_storeR rfl 48 (.tmp 2) (.tmp 53) rfl rfl rfl HS.out ?_))
        with_reducible refine hn.mono ?_
        rintro e wz ⟨rfl, rfl⟩
        go_wp2_with (fail)
        exact ⟨⟨2, by omega, rfl, HX2⟩, by simp [intOf]⟩
      · have e0 := HX.out.cell C6.out
        have e1 := HX.out.cell C7.out
        have e2 := HX.out.cell C8.out
        obtain ⟨w2, hs, f0, f1, f2, x2⟩ := three_copy w1 (3) (4) (1)
        obtain ⟨p, hp⟩ : ∃ p, w1.heap.size = p := ⟨_, rfl⟩
        rw [hp] at hs f0 f1 f2
        have HP := Lib.hid hp
        have HS := Lib.hid hs
        have HX2 := Lib.hid (HX.out.trans x2)
        have hn := first_no2 w2
        clear hp hs x2
        go_wp2_with (first
          | ((with_reducible refine opIs ⟨some 2, .alloc 48, _, _, _, _⟩ ?_); refine wpList_allocR rfl 48 rfl _ (run_alloc_three _) ?_; rw [HP.out])
          | ((with_reducible refine opIs ⟨none, .store 48 (.tmp 2) (.tmp 53), _, _, _, _⟩ ?_); refine wpList_storeR rfl 48 (.tmp 2) (.tmp 53) rfl rfl rfl HS.out ?_))
        with_reducible refine hn.mono ?_
        rintro e wz ⟨rfl, rfl⟩
        go_wp2_with (fail)
        exact ⟨⟨3, by omega, rfl, HX2⟩, by simp [intOf]⟩
      · have e0 := HX.out.cell C9.out
        have e1 := HX.out.cell C10.out
        have e2 := HX.out.cell C11.out
        obtain ⟨w2, hs, f0, f1, f2, x2⟩ := three_copy w1 (3) (0) (1)
        obtain ⟨p, hp⟩ : ∃ p, w1.heap.size = p := ⟨_, rfl⟩
        rw [hp] at hs f0 f1 f2
        have HP := Lib.hid hp
        have HS := Lib.hid hs
        have HX2 := Lib.hid (HX.out.trans x2)
        have hn := first_no3 w2
        clear hp hs x2
        go_wp2_with (first
          | ((with_reducible refine opIs ⟨some 2, .alloc 48, _, _, _, _⟩ ?_); refine wpList_allocR rfl 48 rfl _ (run_alloc_three _) ?_; rw [HP.out])
          | ((with_reducible refine opIs ⟨none, .store 48 (.tmp 2) (.tmp 53), _, _, _, _⟩ ?_); refine wpList_storeR rfl 48 (.tmp 2) (.tmp 53) rfl rfl rfl HS.out ?_))
        with_reducible refine hn.mono ?_
        rintro e wz ⟨rfl, rfl⟩
        go_wp2_with (fail)
        exact ⟨⟨4, by omega, rfl, HX2⟩, by simp [intOf]⟩
      · have e0 := HX.out.cell C12.out
        have e1 := HX.out.cell C13.out
        have e2 := HX.out.cell C14.out
        obtain ⟨w2, hs, f0, f1, f2, x2⟩ := three_copy w1 (256) (256) (1)
        obtain ⟨p, hp⟩ : ∃ p, w1.heap.size = p := ⟨_, rfl⟩
        rw [hp] at hs f0 f1 f2
        have HP := Lib.hid hp
        have HS := Lib.hid hs
        have HX2 := Lib.hid (HX.out.trans x2)
        have hn := first_no4 w2
        clear hp hs x2
        go_wp2_with (first
          | ((with_reducible refine opIs ⟨some 2, .alloc 48, _, _, _, _⟩ ?_); refine wpList_allocR rfl 48 rfl _ (run_alloc_three _) ?_; rw [HP.out])
          | ((with_reducible refine opIs ⟨none, .store 48 (.tmp 2) (.tmp 53), _, _, _, _⟩ ?_); refine wpList_storeR rfl 48 (.tmp 2) (.tmp 53) rfl rfl rfl HS.out ?_))
        with_reducible refine hn.mono ?_
        rintro e wz ⟨rfl, rfl⟩
        go_wp2_with (fail)
        exact ⟨⟨5, by omega, rfl, HX2⟩, by simp [intOf]⟩
      · have e0 := HX.out.cell C15.out
        have e1 := HX.out.cell C16.out
        have e2 := HX.out.cell C17.out
        obtain ⟨w2, hs, f0, f1, f2, x2⟩ := three_copy w1 (3) (1) (0)
        obtain ⟨p, hp⟩ : ∃ p, w1.heap.size = p := ⟨_, rfl⟩
        rw [hp] at hs f0 f1 f2
        have HP := Lib.hid hp
        have HS := Lib.hid hs
        have HX2 := Lib.hid (HX.out.trans x2)
        have hn := first_no5 w2
        clear hp hs x2
        go_wp2_with (first
          | ((with_reducible refine opIs ⟨some 2, .alloc 48, _, _, _, _⟩ ?_); refine wpList_allocR rfl 48 rfl _ (run_alloc_three _) ?_; rw [HP.out])
          | ((with_reducible refine opIs ⟨none, .store 48 (.tmp 2) (.tmp 53), _, _, _, _⟩ ?_); refine wpList_storeR rfl 48 (.tmp 2) (.tmp 53) rfl rfl rfl HS.out ?_))
        with_reducible refine hn.mono ?_
        rintro e wz ⟨rfl, rfl⟩
        go_wp2_with (fail)
        exact ⟨⟨6, by omega, rfl, HX2⟩, by simp [intOf]⟩
      · have e0 := HX.out.cell C18.out
        have e1 := HX.out.cell C19.out
        have e2 := HX.out.cell C20.out
        obtain ⟨w2, hs, f0, f1, f2, x2⟩ := three_copy w1 (3) (1) (1001)
        obtain ⟨p, hp⟩ : ∃ p, w1.heap.size = p := ⟨_, rfl⟩
        rw [hp] at hs f0 f1 f2
        have HP := Lib.hid hp
        have HS := Lib.hid hs
        have HX2 := Lib.hid (HX.out.trans x2)
        have hn := first_no6 w2
        clear hp hs x2
        go_wp2_with (first
          | ((with_reducible refine opIs ⟨some 2, .alloc 48, _, _, _, _⟩ ?_); refine wpList_allocR rfl 48 rfl _ (run_alloc_three _) ?_; rw [HP.out])
          | ((with_reducible refine opIs ⟨none, .store 48 (.tmp 2) (.tmp 53), _, _, _, _⟩ ?_); refine wpList_storeR rfl 48 (.tmp 2) (.tmp 53) rfl rfl rfl HS.out ?_))
        with_reducible refine hn.mono ?_
        rintro e wz ⟨rfl, rfl⟩
        go_wp2_with (fail)
        exact ⟨⟨7, by omega, rfl, HX2⟩, by simp [intOf]⟩
      · have e0 := HX.out.cell C21.out
        have e1 := HX.out.cell C22.out
        have e2 := HX.out.cell C23.out
        obtain ⟨w2, hs, f0, f1, f2, x2⟩ := three_copy w1 (-1) (-1) (-1)
        obtain ⟨p, hp⟩ : ∃ p, w1.heap.size = p := ⟨_, rfl⟩
        rw [hp] at hs f0 f1 f2
        have HP := Lib.hid hp
        have HS := Lib.hid hs
        have HX2 := Lib.hid (HX.out.trans x2)
        have hn := first_no7 w2
        clear hp hs x2
        go_wp2_with (first
          | ((with_reducible refine opIs ⟨some 2, .alloc 48, _, _, _, _⟩ ?_); refine wpList_allocR rfl 48 rfl _ (run_alloc_three _) ?_; rw [HP.out])
          | ((with_reducible refine opIs ⟨none, .store 48 (.tmp 2) (.tmp 53), _, _, _, _⟩ ?_); refine wpList_storeR rfl 48 (.tmp 2) (.tmp 53) rfl rfl rfl HS.out ?_))
        with_reducible refine hn.mono ?_
        rintro e wz ⟨rfl, rfl⟩
        go_wp2_with (fail)
        exact ⟨⟨8, by omega, rfl, HX2⟩, by simp [intOf]⟩
    · obtain rfl : k = 8 := by omega
      have hf := (show Calls Try.prog 15 #[.int .i64 256, .int .i64 255, .int .i64 1000] w1 _ from first_ok w1 256 255 1000 (by decide))
      have XA := Lib.hid (X0.out.trans HX.out)
      clear C0 C1 C2 C3 C4 C5 C6 C7 C8 C9 C10 C11 C12 C13 C14 C15 C16 C17 C18 C19 C20 C21 C22 C23 HX X0
      go_wp2_with (fail)
      with_reducible refine hf.mono ?_
      rintro e w2 ⟨v, rfl, hv⟩
      obtain ⟨A1, c1, rfl, hp⟩ := hv.ps
      have XB := Lib.hid (XA.out.trans hv.ext)
      rw [Pl.first_length] at hp ⊢
      have PR := Lib.hid pn_right
      obtain ⟨GL, hGL⟩ : ∃ GL, Pl.first 256 255 1000 = GL := ⟨_, rfl⟩
      rw [hGL] at hp PR
      have HPS := Lib.hid hp
      have hmk := HMK.out
      clear hv hp hGL hf XA
      go_wp2_with (fail)
      obtain ⟨g2, hg2⟩ : ∃ g2, w2.heap.size = g2 := ⟨_, rfl⟩
      have i0 := Is.lit w2 (g2) (by exact hg2) [0] #[.int .i64 0] 3 1 rfl rfl (by omega)
      have i1 := Is.lit (w2.alloc (.cells #[.int .i64 0] 3)) (g2 + 1) (by rw [← hg2]; simp) [0] #[.int .i64 0] 3 1 rfl rfl (by omega)
      have i2 := Is.lit ((w2.alloc (.cells #[.int .i64 0] 3)).alloc (.cells #[.int .i64 0] 3)) (g2 + 2) (by rw [← hg2]; simp) [0, 0] #[.int .i64 0, .int .i64 0] 3 2 rfl rfl (by omega)
      have i3 := Is.lit (((w2.alloc (.cells #[.int .i64 0] 3)).alloc (.cells #[.int .i64 0] 3)).alloc (.cells #[.int .i64 0, .int .i64 0] 3)) (g2 + 3) (by rw [← hg2]; simp) [5] #[.int .i64 5] 3 1 rfl rfl (by omega)
      have i4 := Is.lit ((((w2.alloc (.cells #[.int .i64 0] 3)).alloc (.cells #[.int .i64 0] 3)).alloc (.cells #[.int .i64 0, .int .i64 0] 3)).alloc (.cells #[.int .i64 5] 3)) (g2 + 4) (by rw [← hg2]; simp) [-1] #[.int .i64 (-1)] 3 1 rfl rfl (by omega)
      have i5 := is_256 (((((w2.alloc (.cells #[.int .i64 0] 3)).alloc (.cells #[.int .i64 0] 3)).alloc (.cells #[.int .i64 0, .int .i64 0] 3)).alloc (.cells #[.int .i64 5] 3)).alloc (.cells #[.int .i64 (-1)] 3)) (g := g2 + 5) (by rw [← hg2]; simp)
      have j0 : Is (((((((w2.alloc (.cells #[.int .i64 0] 3)).alloc (.cells #[.int .i64 0] 3)).alloc (.cells #[.int .i64 0, .int .i64 0] 3)).alloc (.cells #[.int .i64 5] 3)).alloc (.cells #[.int .i64 (-1)] 3)).alloc (.cells z256 3)).alloc (.cells #[.int .i64 0, .slice none 0 0, .int .i64 1, .slice none 0 0, .int .i64 0, .slice (some ⟨g2, 0, none⟩) 1 1, .int .i64 1099511627777, .slice (some ⟨g2 + 1, 0, none⟩) 1 1, .int .i64 1, .slice (some ⟨g2 + 2, 0, none⟩) 2 2, .int .i64 1, .slice (some ⟨g2 + 3, 0, none⟩) 1 1, .int .i64 1, .slice (some ⟨g2 + 4, 0, none⟩) 1 1, .int .i64 1, .slice (some ⟨g2 + 5, 0, none⟩) 256 256] 33)) (some ⟨g2, 0, none⟩) 1 1 ([0]) := (((((i0.up _).up _).up _).up _).up _).up _
      have j1 : Is (((((((w2.alloc (.cells #[.int .i64 0] 3)).alloc (.cells #[.int .i64 0] 3)).alloc (.cells #[.int .i64 0, .int .i64 0] 3)).alloc (.cells #[.int .i64 5] 3)).alloc (.cells #[.int .i64 (-1)] 3)).alloc (.cells z256 3)).alloc (.cells #[.int .i64 0, .slice none 0 0, .int .i64 1, .slice none 0 0, .int .i64 0, .slice (some ⟨g2, 0, none⟩) 1 1, .int .i64 1099511627777, .slice (some ⟨g2 + 1, 0, none⟩) 1 1, .int .i64 1, .slice (some ⟨g2 + 2, 0, none⟩) 2 2, .int .i64 1, .slice (some ⟨g2 + 3, 0, none⟩) 1 1, .int .i64 1, .slice (some ⟨g2 + 4, 0, none⟩) 1 1, .int .i64 1, .slice (some ⟨g2 + 5, 0, none⟩) 256 256] 33)) (some ⟨g2 + 1, 0, none⟩) 1 1 ([0]) := ((((i1.up _).up _).up _).up _).up _
      have j2 : Is (((((((w2.alloc (.cells #[.int .i64 0] 3)).alloc (.cells #[.int .i64 0] 3)).alloc (.cells #[.int .i64 0, .int .i64 0] 3)).alloc (.cells #[.int .i64 5] 3)).alloc (.cells #[.int .i64 (-1)] 3)).alloc (.cells z256 3)).alloc (.cells #[.int .i64 0, .slice none 0 0, .int .i64 1, .slice none 0 0, .int .i64 0, .slice (some ⟨g2, 0, none⟩) 1 1, .int .i64 1099511627777, .slice (some ⟨g2 + 1, 0, none⟩) 1 1, .int .i64 1, .slice (some ⟨g2 + 2, 0, none⟩) 2 2, .int .i64 1, .slice (some ⟨g2 + 3, 0, none⟩) 1 1, .int .i64 1, .slice (some ⟨g2 + 4, 0, none⟩) 1 1, .int .i64 1, .slice (some ⟨g2 + 5, 0, none⟩) 256 256] 33)) (some ⟨g2 + 2, 0, none⟩) 2 2 ([0, 0]) := (((i2.up _).up _).up _).up _
      have j3 : Is (((((((w2.alloc (.cells #[.int .i64 0] 3)).alloc (.cells #[.int .i64 0] 3)).alloc (.cells #[.int .i64 0, .int .i64 0] 3)).alloc (.cells #[.int .i64 5] 3)).alloc (.cells #[.int .i64 (-1)] 3)).alloc (.cells z256 3)).alloc (.cells #[.int .i64 0, .slice none 0 0, .int .i64 1, .slice none 0 0, .int .i64 0, .slice (some ⟨g2, 0, none⟩) 1 1, .int .i64 1099511627777, .slice (some ⟨g2 + 1, 0, none⟩) 1 1, .int .i64 1, .slice (some ⟨g2 + 2, 0, none⟩) 2 2, .int .i64 1, .slice (some ⟨g2 + 3, 0, none⟩) 1 1, .int .i64 1, .slice (some ⟨g2 + 4, 0, none⟩) 1 1, .int .i64 1, .slice (some ⟨g2 + 5, 0, none⟩) 256 256] 33)) (some ⟨g2 + 3, 0, none⟩) 1 1 ([5]) := ((i3.up _).up _).up _
      have j4 : Is (((((((w2.alloc (.cells #[.int .i64 0] 3)).alloc (.cells #[.int .i64 0] 3)).alloc (.cells #[.int .i64 0, .int .i64 0] 3)).alloc (.cells #[.int .i64 5] 3)).alloc (.cells #[.int .i64 (-1)] 3)).alloc (.cells z256 3)).alloc (.cells #[.int .i64 0, .slice none 0 0, .int .i64 1, .slice none 0 0, .int .i64 0, .slice (some ⟨g2, 0, none⟩) 1 1, .int .i64 1099511627777, .slice (some ⟨g2 + 1, 0, none⟩) 1 1, .int .i64 1, .slice (some ⟨g2 + 2, 0, none⟩) 2 2, .int .i64 1, .slice (some ⟨g2 + 3, 0, none⟩) 1 1, .int .i64 1, .slice (some ⟨g2 + 4, 0, none⟩) 1 1, .int .i64 1, .slice (some ⟨g2 + 5, 0, none⟩) 256 256] 33)) (some ⟨g2 + 4, 0, none⟩) 1 1 ([-1]) := (i4.up _).up _
      have j5 : Is (((((((w2.alloc (.cells #[.int .i64 0] 3)).alloc (.cells #[.int .i64 0] 3)).alloc (.cells #[.int .i64 0, .int .i64 0] 3)).alloc (.cells #[.int .i64 5] 3)).alloc (.cells #[.int .i64 (-1)] 3)).alloc (.cells z256 3)).alloc (.cells #[.int .i64 0, .slice none 0 0, .int .i64 1, .slice none 0 0, .int .i64 0, .slice (some ⟨g2, 0, none⟩) 1 1, .int .i64 1099511627777, .slice (some ⟨g2 + 1, 0, none⟩) 1 1, .int .i64 1, .slice (some ⟨g2 + 2, 0, none⟩) 2 2, .int .i64 1, .slice (some ⟨g2 + 3, 0, none⟩) 1 1, .int .i64 1, .slice (some ⟨g2 + 4, 0, none⟩) 1 1, .int .i64 1, .slice (some ⟨g2 + 5, 0, none⟩) 256 256] 33)) (some ⟨g2 + 5, 0, none⟩) 256 256 (List.replicate 256 0) := i5.up _
      have hb := heap_alloc_new ((((((w2.alloc (.cells #[.int .i64 0] 3)).alloc (.cells #[.int .i64 0] 3)).alloc (.cells #[.int .i64 0, .int .i64 0] 3)).alloc (.cells #[.int .i64 5] 3)).alloc (.cells #[.int .i64 (-1)] 3)).alloc (.cells z256 3)) (.cells #[.int .i64 0, .slice none 0 0, .int .i64 1, .slice none 0 0, .int .i64 0, .slice (some ⟨g2, 0, none⟩) 1 1, .int .i64 1099511627777, .slice (some ⟨g2 + 1, 0, none⟩) 1 1, .int .i64 1, .slice (some ⟨g2 + 2, 0, none⟩) 2 2, .int .i64 1, .slice (some ⟨g2 + 3, 0, none⟩) 1 1, .int .i64 1, .slice (some ⟨g2 + 4, 0, none⟩) 1 1, .int .i64 1, .slice (some ⟨g2 + 5, 0, none⟩) 256 256] 33)
      have hz : ((((((w2.alloc (.cells #[.int .i64 0] 3)).alloc (.cells #[.int .i64 0] 3)).alloc (.cells #[.int .i64 0, .int .i64 0] 3)).alloc (.cells #[.int .i64 5] 3)).alloc (.cells #[.int .i64 (-1)] 3)).alloc (.cells z256 3)).heap.size = g2 + 6 := by rw [← hg2]; simp
      rw [hz] at hb
      have hx := ((((((Ext.alloc w2 (.cells #[.int .i64 0] 3)).thenAlloc (.cells #[.int .i64 0] 3)).thenAlloc (.cells #[.int .i64 0, .int .i64 0] 3)).thenAlloc (.cells #[.int .i64 5] 3)).thenAlloc (.cells #[.int .i64 (-1)] 3)).thenAlloc (.cells z256 3)).thenAlloc (.cells #[.int .i64 0, .slice none 0 0, .int .i64 1, .slice none 0 0, .int .i64 0, .slice (some ⟨g2, 0, none⟩) 1 1, .int .i64 1099511627777, .slice (some ⟨g2 + 1, 0, none⟩) 1 1, .int .i64 1, .slice (some ⟨g2 + 2, 0, none⟩) 2 2, .int .i64 1, .slice (some ⟨g2 + 3, 0, none⟩) 1 1, .int .i64 1, .slice (some ⟨g2 + 4, 0, none⟩) 1 1, .int .i64 1, .slice (some ⟨g2 + 5, 0, none⟩) 256 256] 33)
      rw [hg2]
      simp only [show g2 + 1 + 1 = g2 + 2 from rfl, show g2 + 2 + 1 = g2 + 3 from rfl, show g2 + 3 + 1 = g2 + 4 from rfl, show g2 + 4 + 1 = g2 + 5 from rfl, show g2 + 5 + 1 = g2 + 6 from rfl]
      generalize ((((((w2.alloc (.cells #[.int .i64 0] 3)).alloc (.cells #[.int .i64 0] 3)).alloc (.cells #[.int .i64 0, .int .i64 0] 3)).alloc (.cells #[.int .i64 5] 3)).alloc (.cells #[.int .i64 (-1)] 3)).alloc (.cells z256 3)).alloc (.cells #[.int .i64 0, .slice none 0 0, .int .i64 1, .slice none 0 0, .int .i64 0, .slice (some ⟨g2, 0, none⟩) 1 1, .int .i64 1099511627777, .slice (some ⟨g2 + 1, 0, none⟩) 1 1, .int .i64 1, .slice (some ⟨g2 + 2, 0, none⟩) 2 2, .int .i64 1, .slice (some ⟨g2 + 3, 0, none⟩) 1 1, .int .i64 1, .slice (some ⟨g2 + 4, 0, none⟩) 1 1, .int .i64 1, .slice (some ⟨g2 + 5, 0, none⟩) 256 256] 33) = w3 at *
      have a0 : w3.cell? ⟨g2 + 6, 0, none⟩ = some (.int .i64 0) := by rw [cell_of_row w3 _ _ _ _ _ hb]; rfl
      have b0 : w3.cell? ⟨g2 + 6, 1, none⟩ = some (.slice none 0 0) := by rw [cell_of_row w3 _ _ _ _ _ hb]; rfl
      have CA0 := Lib.hid a0
      have CB0 := Lib.hid b0
      have a1 : w3.cell? ⟨g2 + 6, 2, none⟩ = some (.int .i64 1) := by rw [cell_of_row w3 _ _ _ _ _ hb]; rfl
      have b1 : w3.cell? ⟨g2 + 6, 3, none⟩ = some (.slice none 0 0) := by rw [cell_of_row w3 _ _ _ _ _ hb]; rfl
      have CA1 := Lib.hid a1
      have CB1 := Lib.hid b1
      have a2 : w3.cell? ⟨g2 + 6, 4, none⟩ = some (.int .i64 0) := by rw [cell_of_row w3 _ _ _ _ _ hb]; rfl
      have b2 : w3.cell? ⟨g2 + 6, 5, none⟩ = some (.slice (some ⟨g2, 0, none⟩) 1 1) := by rw [cell_of_row w3 _ _ _ _ _ hb]; rfl
      have CA2 := Lib.hid a2
      have CB2 := Lib.hid b2
      have a3 : w3.cell? ⟨g2 + 6, 6, none⟩ = some (.int .i64 1099511627777) := by rw [cell_of_row w3 _ _ _ _ _ hb]; rfl
      have b3 : w3.cell? ⟨g2 + 6, 7, none⟩ = some (.slice (some ⟨g2 + 1, 0, none⟩) 1 1) := by rw [cell_of_row w3 _ _ _ _ _ hb]; rfl
      have CA3 := Lib.hid a3
      have CB3 := Lib.hid b3
      have a4 : w3.cell? ⟨g2 + 6, 8, none⟩ = some (.int .i64 1) := by rw [cell_of_row w3 _ _ _ _ _ hb]; rfl
      have b4 : w3.cell? ⟨g2 + 6, 9, none⟩ = some (.slice (some ⟨g2 + 2, 0, none⟩) 2 2) := by rw [cell_of_row w3 _ _ _ _ _ hb]; rfl
      have CA4 := Lib.hid a4
      have CB4 := Lib.hid b4
      have a5 : w3.cell? ⟨g2 + 6, 10, none⟩ = some (.int .i64 1) := by rw [cell_of_row w3 _ _ _ _ _ hb]; rfl
      have b5 : w3.cell? ⟨g2 + 6, 11, none⟩ = some (.slice (some ⟨g2 + 3, 0, none⟩) 1 1) := by rw [cell_of_row w3 _ _ _ _ _ hb]; rfl
      have CA5 := Lib.hid a5
      have CB5 := Lib.hid b5
      have a6 : w3.cell? ⟨g2 + 6, 12, none⟩ = some (.int .i64 1) := by rw [cell_of_row w3 _ _ _ _ _ hb]; rfl
      have b6 : w3.cell? ⟨g2 + 6, 13, none⟩ = some (.slice (some ⟨g2 + 4, 0, none⟩) 1 1) := by rw [cell_of_row w3 _ _ _ _ _ hb]; rfl
      have CA6 := Lib.hid a6
      have CB6 := Lib.hid b6
      have a7 : w3.cell? ⟨g2 + 6, 14, none⟩ = some (.int .i64 1) := by rw [cell_of_row w3 _ _ _ _ _ hb]; rfl
      have b7 : w3.cell? ⟨g2 + 6, 15, none⟩ = some (.slice (some ⟨g2 + 5, 0, none⟩) 256 256) := by rw [cell_of_row w3 _ _ _ _ _ hb]; rfl
      have CA7 := Lib.hid a7
      have CB7 := Lib.hid b7
      have J0 := Lib.hid j0
      have J1 := Lib.hid j1
      have J2 := Lib.hid j2
      have J3 := Lib.hid j3
      have J4 := Lib.hid j4
      have J5 := Lib.hid j5
      have XC := Lib.hid (XB.out.trans hx)
      have HPS3 := Lib.hid (HPS.out.ext hx)
      clear hb hx hz hmk a0 b0 a1 b1 a2 b2 a3 b3 a4 b4 a5 b5 a6 b6 a7 b7 i0 j0 i1 j1 i2 j2 i3 j3 i4 j4 i5 j5
      go_loopw [94] (fun i wr => ∃ k : Nat, k ≤ 8 ∧ i = .int .i64 k ∧ Hid (Ext w3 wr)) (fun i _ => 8 - (intOf i).toNat)
      case atStart => exact ⟨0, by omega, rfl, Lib.hid (Ext.refl w3)⟩
      case round =>
        obtain ⟨k, hk, rfl, HX⟩ := hrel
        obtain ⟨w4, hw⟩ : ∃ w4, w4 = wr := ⟨_, rfl⟩
        subst hw
        by_cases hlt : k < 8
        · obtain rfl | rfl | rfl | rfl | rfl | rfl | rfl | rfl : k = 0 ∨ k = 1 ∨ k = 2 ∨ k = 3 ∨ k = 4 ∨ k = 5 ∨ k = 6 ∨ k = 7 := by omega
          · have e0 := HX.out.cell CA0.out
            have e1 := HX.out.cell CB0.out
            obtain ⟨w5, hs, f0, f1, x2⟩ := place_copy w4 (0) none 0 0
            obtain ⟨p, hp⟩ : ∃ p, w4.heap.size = p := ⟨_, rfl⟩
            rw [hp] at hs f0 f1
            have HP := Lib.hid hp
            have HS := Lib.hid hs
            have HX2 := Lib.hid (HX.out.trans x2)
            have hr := right_any w5 (0) none 0 0 ([]) 5 (Is.none w5)
            rw [pn_bad0] at hr
            have HR := Lib.hid hr
            clear hp hs x2 hr
            go_wp2_with (first
              | ((with_reducible refine opIs ⟨some 8, .alloc 33, _, _, _, _⟩ ?_); refine wpList_allocR rfl 33 rfl _ (run_alloc_place _) ?_; rw [HP.out])
              | ((with_reducible refine opIs ⟨none, .store 33 (.tmp 8) (.tmp 98), _, _, _, _⟩ ?_); refine wpList_storeR rfl 33 (.tmp 8) (.tmp 98) rfl rfl rfl HS.out ?_))
            with_reducible refine HR.out.mono ?_
            rintro e wz ⟨rfl, xz⟩
            have HX3 := Lib.hid (HX2.out.trans xz)
            clear xz
            go_wp2_with (fail)
            exact ⟨⟨1, by omega, rfl, HX3⟩, by simp [intOf]⟩
          · have e0 := HX.out.cell CA1.out
            have e1 := HX.out.cell CB1.out
            obtain ⟨w5, hs, f0, f1, x2⟩ := place_copy w4 (1) none 0 0
            obtain ⟨p, hp⟩ : ∃ p, w4.heap.size = p := ⟨_, rfl⟩
            rw [hp] at hs f0 f1
            have HP := Lib.hid hp
            have HS := Lib.hid hs
            have HX2 := Lib.hid (HX.out.trans x2)
            have hr := right_any w5 (1) none 0 0 ([]) 5 (Is.none w5)
            rw [pn_bad1] at hr
            have HR := Lib.hid hr
            clear hp hs x2 hr
            go_wp2_with (first
              | ((with_reducible refine opIs ⟨some 8, .alloc 33, _, _, _, _⟩ ?_); refine wpList_allocR rfl 33 rfl _ (run_alloc_place _) ?_; rw [HP.out])
              | ((with_reducible refine opIs ⟨none, .store 33 (.tmp 8) (.tmp 98), _, _, _, _⟩ ?_); refine wpList_storeR rfl 33 (.tmp 8) (.tmp 98) rfl rfl rfl HS.out ?_))
            with_reducible refine HR.out.mono ?_
            rintro e wz ⟨rfl, xz⟩
            have HX3 := Lib.hid (HX2.out.trans xz)
            clear xz
            go_wp2_with (fail)
            exact ⟨⟨2, by omega, rfl, HX3⟩, by simp [intOf]⟩
          · have e0 := HX.out.cell CA2.out
            have e1 := HX.out.cell CB2.out
            obtain ⟨w5, hs, f0, f1, x2⟩ := place_copy w4 (0) (some ⟨g2, 0, none⟩) 1 1
            obtain ⟨p, hp⟩ : ∃ p, w4.heap.size = p := ⟨_, rfl⟩
            rw [hp] at hs f0 f1
            have HP := Lib.hid hp
            have HS := Lib.hid hs
            have HX2 := Lib.hid (HX.out.trans x2)
            have hr := right_any w5 (0) (some ⟨g2, 0, none⟩) 1 1 ([0]) 5 (J0.out.ext HX2.out)
            rw [pn_bad2] at hr
            have HR := Lib.hid hr
            clear hp hs x2 hr
            go_wp2_with (first
              | ((with_reducible refine opIs ⟨some 8, .alloc 33, _, _, _, _⟩ ?_); refine wpList_allocR rfl 33 rfl _ (run_alloc_place _) ?_; rw [HP.out])
              | ((with_reducible refine opIs ⟨none, .store 33 (.tmp 8) (.tmp 98), _, _, _, _⟩ ?_); refine wpList_storeR rfl 33 (.tmp 8) (.tmp 98) rfl rfl rfl HS.out ?_))
            with_reducible refine HR.out.mono ?_
            rintro e wz ⟨rfl, xz⟩
            have HX3 := Lib.hid (HX2.out.trans xz)
            clear xz
            go_wp2_with (fail)
            exact ⟨⟨3, by omega, rfl, HX3⟩, by simp [intOf]⟩
          · have e0 := HX.out.cell CA3.out
            have e1 := HX.out.cell CB3.out
            obtain ⟨w5, hs, f0, f1, x2⟩ := place_copy w4 (1099511627777) (some ⟨g2 + 1, 0, none⟩) 1 1
            obtain ⟨p, hp⟩ : ∃ p, w4.heap.size = p := ⟨_, rfl⟩
            rw [hp] at hs f0 f1
            have HP := Lib.hid hp
            have HS := Lib.hid hs
            have HX2 := Lib.hid (HX.out.trans x2)
            have hr := right_any w5 (1099511627777) (some ⟨g2 + 1, 0, none⟩) 1 1 ([0]) 5 (J1.out.ext HX2.out)
            rw [pn_bad3] at hr
            have HR := Lib.hid hr
            clear hp hs x2 hr
            go_wp2_with (first
              | ((with_reducible refine opIs ⟨some 8, .alloc 33, _, _, _, _⟩ ?_); refine wpList_allocR rfl 33 rfl _ (run_alloc_place _) ?_; rw [HP.out])
              | ((with_reducible refine opIs ⟨none, .store 33 (.tmp 8) (.tmp 98), _, _, _, _⟩ ?_); refine wpList_storeR rfl 33 (.tmp 8) (.tmp 98) rfl rfl rfl HS.out ?_))
            with_reducible refine HR.out.mono ?_
            rintro e wz ⟨rfl, xz⟩
            have HX3 := Lib.hid (HX2.out.trans xz)
            clear xz
            go_wp2_with (fail)
            exact ⟨⟨4, by omega, rfl, HX3⟩, by simp [intOf]⟩
          · have e0 := HX.out.cell CA4.out
            have e1 := HX.out.cell CB4.out
            obtain ⟨w5, hs, f0, f1, x2⟩ := place_copy w4 (1) (some ⟨g2 + 2, 0, none⟩) 2 2
            obtain ⟨p, hp⟩ : ∃ p, w4.heap.size = p := ⟨_, rfl⟩
            rw [hp] at hs f0 f1
            have HP := Lib.hid hp
            have HS := Lib.hid hs
            have HX2 := Lib.hid (HX.out.trans x2)
            have hr := right_any w5 (1) (some ⟨g2 + 2, 0, none⟩) 2 2 ([0, 0]) 5 (J2.out.ext HX2.out)
            rw [pn_bad4] at hr
            have HR := Lib.hid hr
            clear hp hs x2 hr
            go_wp2_with (first
              | ((with_reducible refine opIs ⟨some 8, .alloc 33, _, _, _, _⟩ ?_); refine wpList_allocR rfl 33 rfl _ (run_alloc_place _) ?_; rw [HP.out])
              | ((with_reducible refine opIs ⟨none, .store 33 (.tmp 8) (.tmp 98), _, _, _, _⟩ ?_); refine wpList_storeR rfl 33 (.tmp 8) (.tmp 98) rfl rfl rfl HS.out ?_))
            with_reducible refine HR.out.mono ?_
            rintro e wz ⟨rfl, xz⟩
            have HX3 := Lib.hid (HX2.out.trans xz)
            clear xz
            go_wp2_with (fail)
            exact ⟨⟨5, by omega, rfl, HX3⟩, by simp [intOf]⟩
          · have e0 := HX.out.cell CA5.out
            have e1 := HX.out.cell CB5.out
            obtain ⟨w5, hs, f0, f1, x2⟩ := place_copy w4 (1) (some ⟨g2 + 3, 0, none⟩) 1 1
            obtain ⟨p, hp⟩ : ∃ p, w4.heap.size = p := ⟨_, rfl⟩
            rw [hp] at hs f0 f1
            have HP := Lib.hid hp
            have HS := Lib.hid hs
            have HX2 := Lib.hid (HX.out.trans x2)
            have hr := right_any w5 (1) (some ⟨g2 + 3, 0, none⟩) 1 1 ([5]) 5 (J3.out.ext HX2.out)
            rw [pn_bad5] at hr
            have HR := Lib.hid hr
            clear hp hs x2 hr
            go_wp2_with (first
              | ((with_reducible refine opIs ⟨some 8, .alloc 33, _, _, _, _⟩ ?_); refine wpList_allocR rfl 33 rfl _ (run_alloc_place _) ?_; rw [HP.out])
              | ((with_reducible refine opIs ⟨none, .store 33 (.tmp 8) (.tmp 98), _, _, _, _⟩ ?_); refine wpList_storeR rfl 33 (.tmp 8) (.tmp 98) rfl rfl rfl HS.out ?_))
            with_reducible refine HR.out.mono ?_
            rintro e wz ⟨rfl, xz⟩
            have HX3 := Lib.hid (HX2.out.trans xz)
            clear xz
            go_wp2_with (fail)
            exact ⟨⟨6, by omega, rfl, HX3⟩, by simp [intOf]⟩
          · have e0 := HX.out.cell CA6.out
            have e1 := HX.out.cell CB6.out
            obtain ⟨w5, hs, f0, f1, x2⟩ := place_copy w4 (1) (some ⟨g2 + 4, 0, none⟩) 1 1
            obtain ⟨p, hp⟩ : ∃ p, w4.heap.size = p := ⟨_, rfl⟩
            rw [hp] at hs f0 f1
            have HP := Lib.hid hp
            have HS := Lib.hid hs
            have HX2 := Lib.hid (HX.out.trans x2)
            have hr := right_any w5 (1) (some ⟨g2 + 4, 0, none⟩) 1 1 ([-1]) 5 (J4.out.ext HX2.out)
            rw [pn_bad6] at hr
            have HR := Lib.hid hr
            clear hp hs x2 hr
            go_wp2_with (first
              | ((with_reducible refine opIs ⟨some 8, .alloc 33, _, _, _, _⟩ ?_); refine wpList_allocR rfl 33 rfl _ (run_alloc_place _) ?_; rw [HP.out])
              | ((with_reducible refine opIs ⟨none, .store 33 (.tmp 8) (.tmp 98), _, _, _, _⟩ ?_); refine wpList_storeR rfl 33 (.tmp 8) (.tmp 98) rfl rfl rfl HS.out ?_))
            with_reducible refine HR.out.mono ?_
            rintro e wz ⟨rfl, xz⟩
            have HX3 := Lib.hid (HX2.out.trans xz)
            clear xz
            go_wp2_with (fail)
            exact ⟨⟨7, by omega, rfl, HX3⟩, by simp [intOf]⟩
          · have e0 := HX.out.cell CA7.out
            have e1 := HX.out.cell CB7.out
            obtain ⟨w5, hs, f0, f1, x2⟩ := place_copy w4 (1) (some ⟨g2 + 5, 0, none⟩) 256 256
            obtain ⟨p, hp⟩ : ∃ p, w4.heap.size = p := ⟨_, rfl⟩
            rw [hp] at hs f0 f1
            have HP := Lib.hid hp
            have HS := Lib.hid hs
            have HX2 := Lib.hid (HX.out.trans x2)
            have hr := right_any w5 (1) (some ⟨g2 + 5, 0, none⟩) 256 256 (List.replicate 256 0) 5 (J5.out.ext HX2.out)
            rw [pn_bad7] at hr
            have HR := Lib.hid hr
            clear hp hs x2 hr
            go_wp2_with (first
              | ((with_reducible refine opIs ⟨some 8, .alloc 33, _, _, _, _⟩ ?_); refine wpList_allocR rfl 33 rfl _ (run_alloc_place _) ?_; rw [HP.out])
              | ((with_reducible refine opIs ⟨none, .store 33 (.tmp 8) (.tmp 98), _, _, _, _⟩ ?_); refine wpList_storeR rfl 33 (.tmp 8) (.tmp 98) rfl rfl rfl HS.out ?_))
            with_reducible refine HR.out.mono ?_
            rintro e wz ⟨rfl, xz⟩
            have HX3 := Lib.hid (HX2.out.trans xz)
            clear xz
            go_wp2_with (fail)
            exact ⟨⟨8, by omega, rfl, HX3⟩, by simp [intOf]⟩
        · obtain rfl : k = 8 := by omega
          have XD := Lib.hid (XC.out.trans HX.out)
          have HPS4 := Lib.hid (HPS3.out.ext HX.out)
          clear CA0 CB0 CA1 CB1 CA2 CB2 CA3 CB3 CA4 CB4 CA5 CB5 CA6 CB6 CA7 CB7 J0 J1 J2 J3 J4 J5 HX XC HPS3 HPS XB
          obtain ⟨g4, hg4⟩ : ∃ g4, w4.heap.size = g4 := ⟨_, rfl⟩
          have hi := Is.lit w4 g4 hg4 [7, 3] #[.int .i64 7, .int .i64 3] 3 2 rfl rfl (by omega)
          obtain ⟨w5, hw5⟩ : ∃ w5, w4.alloc (.cells #[.int .i64 7, .int .i64 3] 3) = w5 := ⟨_, rfl⟩
          have x5 : Ext w4 w5 := by rw [← hw5]; exact Ext.alloc _ _
          have hz5 : w5.heap.size = g4 + 1 := by rw [← hw5, ← hg4]; simp
          rw [hw5] at hi
          obtain ⟨w6, hs, f0, f1, x6⟩ := place_copy w5 1099511627776 (some ⟨g4, 0, none⟩) 2 2
          rw [hz5] at hs f0 f1
          have HS := Lib.hid hs
          have HZ5 := Lib.hid hz5
          have HW5 := Lib.hid hw5
          have HG4 := Lib.hid hg4
          have I6 := Lib.hid (hi.ext x6)
          have F06 := Lib.hid f0
          have F16 := Lib.hid f1
          have X6 := Lib.hid (XD.out.trans (x5.trans x6))
          have P6 := Lib.hid (HPS4.out.ext (x5.trans x6))
          have hc := move_any w6 none 0 0 [] (ps_nil w6) 1 2
          rw [pn_b] at hc
          have HC := Lib.hid hc
          clear hg4 hi hw5 x5 hz5 hs f0 f1 x6 hc XD HPS4
          go_wp2_with (first
            | ((with_reducible refine opIs ⟨some 9, .alloc 33, _, _, _, _⟩ ?_); rw [HG4.out, HW5.out]; refine wpList_allocR rfl 33 rfl _ (run_alloc_place _) ?_; rw [HZ5.out])
            | ((with_reducible refine opIs ⟨none, .store 33 (.tmp 9) (.tmp 105), _, _, _, _⟩ ?_); refine wpList_storeR rfl 33 (.tmp 9) (.tmp 105) rfl rfl rfl HS.out ?_))
          with_reducible refine HC.out.mono ?_
          rintro e w7 ⟨v1, s1, rfl, hv, hn⟩
          have x := hv.ext
          clear HC
          have I7 := Lib.hid (I6.out.ext (show Ext _ _ from x))
          have F07 := Lib.hid (((show Ext _ _ from x)).cell F06.out)
          have F17 := Lib.hid (((show Ext _ _ from x)).cell F16.out)
          have X7 := Lib.hid (X6.out.trans (show Ext _ _ from x))
          have P7 := Lib.hid (P6.out.ext (show Ext _ _ from x))
          clear x hv hn I6 F06 F16 X6 P6
          have e0 := F07.out
          have e1 := F17.out
          have hc := move_any (w7.alloc (.cells #[.int .i64 0, .slice none 0 0] 33)) (some ⟨w7.heap.size, 0, none⟩) 1 1 [(0, [])] (ps_one w7 0 none 0 0 [] (Is.none _)) (1) (2)
          rw [pn_c] at hc
          have HC := Lib.hid hc
          clear hc
          go_wp2_with (fail)
          with_reducible refine HC.out.mono ?_
          rintro e w8 ⟨v7, s7, rfl, hv, hn⟩
          have x := (show Ext w7 w8 from (Ext.alloc _ _).trans hv.ext)
          clear HC e0 e1
          have I8 := Lib.hid (I7.out.ext x)
          have F08 := Lib.hid ((x).cell F07.out)
          have F18 := Lib.hid ((x).cell F17.out)
          have X8 := Lib.hid (X7.out.trans x)
          have P8 := Lib.hid (P7.out.ext x)
          clear x hv hn I7 F07 F17 X7 P7
          have e0 := F08.out
          have e1 := F18.out
          have hc := move_any (w8.alloc (.cells #[.int .i64 1099511627776, .slice (some ⟨g4, 0, none⟩) 2 2] 33)) (some ⟨w8.heap.size, 0, none⟩) 1 1 [pone] (ps_one w8 1099511627776 (some ⟨g4, 0, none⟩) 2 2 [7, 3] I8.out) (7) (2)
          rw [pn_d] at hc
          have HC := Lib.hid hc
          clear hc
          go_wp2_with (fail)
          with_reducible refine HC.out.mono ?_
          rintro e w9 ⟨v8, s8, rfl, hv, hn⟩
          have x := (show Ext w8 w9 from (Ext.alloc _ _).trans hv.ext)
          clear HC e0 e1
          have I9 := Lib.hid (I8.out.ext x)
          have F09 := Lib.hid ((x).cell F08.out)
          have F19 := Lib.hid ((x).cell F18.out)
          have X9 := Lib.hid (X8.out.trans x)
          have P9 := Lib.hid (P8.out.ext x)
          clear x hv hn I8 F08 F18 X8 P8
          have e0 := F09.out
          have e1 := F19.out
          have hc := move_any (w9.alloc (.cells #[.int .i64 1099511627776, .slice (some ⟨g4, 0, none⟩) 2 2] 33)) (some ⟨w9.heap.size, 0, none⟩) 1 1 [pone] (ps_one w9 1099511627776 (some ⟨g4, 0, none⟩) 2 2 [7, 3] I9.out) (9) (2)
          rw [pn_e] at hc
          have HC := Lib.hid hc
          clear hc
          go_wp2_with (fail)
          with_reducible refine HC.out.mono ?_
          rintro e w10 ⟨v9, s9, rfl, hv, hn⟩
          have x := (show Ext w9 w10 from (Ext.alloc _ _).trans hv.ext)
          clear HC e0 e1
          obtain ⟨As, cs, rfl, hps⟩ := hv.ps
          obtain ⟨Ag, cg, rfl, hpg⟩ := hn.is
          rw [pn_l] at hps ⊢
          rw [pn_n] at hpg ⊢
          have HSM := Lib.hid hps
          have hgm := hpg.max
          clear hps hpg
          have I10 := Lib.hid (I9.out.ext x)
          have F010 := Lib.hid ((x).cell F09.out)
          have F110 := Lib.hid ((x).cell F19.out)
          have X10 := Lib.hid (X9.out.trans x)
          have P10 := Lib.hid (P9.out.ext x)
          clear x hv hn I9 F09 F19 X9 P9
          have e0 := F010.out
          have e1 := F110.out
          have hc := move_any (w10.alloc (.cells #[.int .i64 1099511627776, .slice (some ⟨g4, 0, none⟩) 2 2] 33)) (some ⟨w10.heap.size, 0, none⟩) 1 1 [pone] (ps_one w10 1099511627776 (some ⟨g4, 0, none⟩) 2 2 [7, 3] I10.out) (9) (9)
          rw [pn_f] at hc
          have HC := Lib.hid hc
          clear hc
          go_wp2_with (fail)
          with_reducible refine HC.out.mono ?_
          rintro e w11 ⟨v10, s10, rfl, hv, hn⟩
          have x := (show Ext w10 w11 from (Ext.alloc _ _).trans hv.ext)
          clear HC e0 e1
          have I11 := Lib.hid (I10.out.ext x)
          have F011 := Lib.hid ((x).cell F010.out)
          have F111 := Lib.hid ((x).cell F110.out)
          have X11 := Lib.hid (X10.out.trans x)
          have P11 := Lib.hid (P10.out.ext x)
          replace HSM := Lib.hid (HSM.out.ext x)
          clear x hv hn I10 F010 F110 X10 P10
          have e0 := F011.out
          have e1 := F111.out
          have hc := move_any (w11.alloc (.cells #[.int .i64 1099511627776, .slice (some ⟨g4, 0, none⟩) 2 2] 33)) (some ⟨w11.heap.size, 0, none⟩) 1 1 [pone] (ps_one w11 1099511627776 (some ⟨g4, 0, none⟩) 2 2 [7, 3] I11.out) (-1) (2)
          rw [pn_g] at hc
          have HC := Lib.hid hc
          clear hc
          go_wp2_with (fail)
          with_reducible refine HC.out.mono ?_
          rintro e w12 ⟨v11, s11, rfl, hv, hn⟩
          have x := (show Ext w11 w12 from (Ext.alloc _ _).trans hv.ext)
          clear HC e0 e1
          have I12 := Lib.hid (I11.out.ext x)
          have F012 := Lib.hid ((x).cell F011.out)
          have F112 := Lib.hid ((x).cell F111.out)
          have X12 := Lib.hid (X11.out.trans x)
          have P12 := Lib.hid (P11.out.ext x)
          replace HSM := Lib.hid (HSM.out.ext x)
          clear x hv hn I11 F011 F111 X11 P11
          have e0 := F012.out
          have e1 := F112.out
          have hc := move_any (w12.alloc (.cells #[.int .i64 1099511627776, .slice (some ⟨g4, 0, none⟩) 2 2] 33)) (some ⟨w12.heap.size, 0, none⟩) 1 1 [pone] (ps_one w12 1099511627776 (some ⟨g4, 0, none⟩) 2 2 [7, 3] I12.out) (9) (256)
          rw [pn_h] at hc
          have HC := Lib.hid hc
          clear hc
          go_wp2_with (fail)
          with_reducible refine HC.out.mono ?_
          rintro e w13 ⟨v12, s12, rfl, hv, hn⟩
          have x := (show Ext w12 w13 from (Ext.alloc _ _).trans hv.ext)
          clear HC e0 e1
          have I13 := Lib.hid (I12.out.ext x)
          have F013 := Lib.hid ((x).cell F012.out)
          have F113 := Lib.hid ((x).cell F112.out)
          have X13 := Lib.hid (X12.out.trans x)
          have P13 := Lib.hid (P12.out.ext x)
          replace HSM := Lib.hid (HSM.out.ext x)
          clear x hv hn I12 F012 F112 X12 P12
          have hc := bytes_nil w13
          go_wp2_with (fail)
          with_reducible refine hc.mono ?_
          rintro e w14 ⟨rfl, x⟩
          clear hc
          have I14 := Lib.hid (I13.out.ext x)
          have F014 := Lib.hid ((x).cell F013.out)
          have F114 := Lib.hid ((x).cell F113.out)
          have X14 := Lib.hid (X13.out.trans x)
          have P14 := Lib.hid (P13.out.ext x)
          replace HSM := Lib.hid (HSM.out.ext x)
          clear x I13 F013 F113 X13 P13
          have hc := read_nil w14
          go_wp2_with (fail)
          with_reducible refine hc.mono ?_
          rintro e w15 ⟨rfl, x⟩
          clear hc
          have I15 := Lib.hid (I14.out.ext x)
          have F015 := Lib.hid ((x).cell F014.out)
          have F115 := Lib.hid ((x).cell F114.out)
          have X15 := Lib.hid (X14.out.trans x)
          have P15 := Lib.hid (P14.out.ext x)
          replace HSM := Lib.hid (HSM.out.ext x)
          clear x I14 F014 F114 X14 P14
          have hc := of_bad w15 none 0 0 1 (.inl rfl) (by omega)
          go_wp2_with (fail)
          with_reducible refine hc.mono ?_
          rintro e w16 ⟨rfl, x⟩
          clear hc
          have I16 := Lib.hid (I15.out.ext x)
          have F016 := Lib.hid ((x).cell F015.out)
          have F116 := Lib.hid ((x).cell F115.out)
          have X16 := Lib.hid (X15.out.trans x)
          have P16 := Lib.hid (P15.out.ext x)
          replace HSM := Lib.hid (HSM.out.ext x)
          clear x I15 F015 F115 X15 P15
          obtain ⟨w17, hs, _, _, x⟩ := place_copy w16 0 none 0 0
          obtain ⟨p16, hp⟩ : ∃ p, w16.heap.size = p := ⟨_, rfl⟩
          rw [hp] at hs
          have HP16 := Lib.hid hp
          have HS16 := Lib.hid hs
          clear hp hs
          have I17 := Lib.hid (I16.out.ext x)
          have F017 := Lib.hid ((x).cell F016.out)
          have F117 := Lib.hid ((x).cell F116.out)
          have X17 := Lib.hid (X16.out.trans x)
          have P17 := Lib.hid (P16.out.ext x)
          replace HSM := Lib.hid (HSM.out.ext x)
          clear x I16 F016 F116 X16 P16
          have hc := of_bad w17 A1 1000 c1 (-1) (.inr (by omega)) (by omega)
          have hm1 := P17.out.max
          go_wp2_with (first
            | ((with_reducible refine opIs ⟨some 35, .alloc 33, _, _, _, _⟩ ?_); refine wpList_allocR rfl 33 rfl _ (run_alloc_place _) ?_; rw [HP16.out])
            | ((with_reducible refine opIs ⟨none, .store 33 (.tmp 35) (.tmp 163), _, _, _, _⟩ ?_); refine wpList_storeR rfl 33 (.tmp 35) (.tmp 163) rfl rfl rfl HS16.out ?_))
          with_reducible refine hc.mono ?_
          rintro e w18 ⟨rfl, x⟩
          clear hc
          have I18 := Lib.hid (I17.out.ext x)
          have F018 := Lib.hid ((x).cell F017.out)
          have F118 := Lib.hid ((x).cell F117.out)
          have X18 := Lib.hid (X17.out.trans x)
          have P18 := Lib.hid (P17.out.ext x)
          replace HSM := Lib.hid (HSM.out.ext x)
          clear x I17 F017 F117 X17 P17
          obtain ⟨w19, hs, _, _, x⟩ := place_copy w18 0 none 0 0
          obtain ⟨p18, hp⟩ : ∃ p, w18.heap.size = p := ⟨_, rfl⟩
          rw [hp] at hs
          have HP18 := Lib.hid hp
          have HS18 := Lib.hid hs
          clear hp hs
          have I19 := Lib.hid (I18.out.ext x)
          have F019 := Lib.hid ((x).cell F018.out)
          have F119 := Lib.hid ((x).cell F118.out)
          have X19 := Lib.hid (X18.out.trans x)
          have P19 := Lib.hid (P18.out.ext x)
          replace HSM := Lib.hid (HSM.out.ext x)
          clear x I18 F018 F118 X18 P18
          obtain ⟨b9, o9, A9, n9, c9, rfl, h91, h92, h93⟩ := P19.out.rd 999 (by omega)
          replace h91 : w19.cell? ⟨b9, o9 + 1998, none⟩ = _ := h91
          replace h92 : w19.cell? ⟨b9, o9 + 1999, none⟩ = _ := h92
          have hr : Calls Try.prog 16 #[.agg #[.int .i64 (Pl.pget GL 999).1, .slice A9 n9 c9], .int .i64 256] w19 fun r w' => r = .returned (.bool true) ∧ Ext w19 w' := by
            have := right_any w19 (Pl.pget GL 999).1 A9 n9 c9 (Pl.pget GL 999).2 256 h93
            rw [show decide (Pl.Right ((Pl.pget GL 999).1, (Pl.pget GL 999).2) 256) = true from PR.out] at this
            exact this
          have HR := Lib.hid hr
          clear hr h93
          go_wp2_with (first
            | ((with_reducible refine opIs ⟨some 37, .alloc 33, _, _, _, _⟩ ?_); refine wpList_allocR rfl 33 rfl _ (run_alloc_place _) ?_; rw [HP18.out])
            | ((with_reducible refine opIs ⟨none, .store 33 (.tmp 37) (.tmp 168), _, _, _, _⟩ ?_); refine wpList_storeR rfl 33 (.tmp 37) (.tmp 168) rfl rfl rfl HS18.out ?_))
          with_reducible refine HR.out.mono ?_
          rintro e w20 ⟨rfl, x⟩
          clear HR h91 h92
          have I20 := Lib.hid (I19.out.ext x)
          have F020 := Lib.hid ((x).cell F019.out)
          have F120 := Lib.hid ((x).cell F119.out)
          have X20 := Lib.hid (X19.out.trans x)
          have P20 := Lib.hid (P19.out.ext x)
          replace HSM := Lib.hid (HSM.out.ext x)
          clear x I19 F019 F119 X19 P19
          have e0 := F020.out
          have e1 := F120.out
          have hr := right_any w20 1099511627776 (some ⟨g4, 0, none⟩) 2 2 [7, 3] 8 I20.out
          rw [show decide (Pl.Right (1099511627776, [7, 3]) 8) = true from pn_r8] at hr
          have HR := Lib.hid hr
          clear hr
          go_wp2_with (fail)
          with_reducible refine HR.out.mono ?_
          rintro e w21 ⟨rfl, x⟩
          clear HR e0 e1
          have I21 := Lib.hid (I20.out.ext x)
          have F021 := Lib.hid ((x).cell F020.out)
          have F121 := Lib.hid ((x).cell F120.out)
          have X21 := Lib.hid (X20.out.trans x)
          have P21 := Lib.hid (P20.out.ext x)
          replace HSM := Lib.hid (HSM.out.ext x)
          clear x I20 F020 F120 X20 P20
          have e0 := F021.out
          have e1 := F121.out
          have hr := right_any w21 1099511627776 (some ⟨g4, 0, none⟩) 2 2 [7, 3] 7 I21.out
          rw [show decide (Pl.Right (1099511627776, [7, 3]) 7) = false from pn_r7] at hr
          have HR := Lib.hid hr
          clear hr
          go_wp2_with (fail)
          with_reducible refine HR.out.mono ?_
          rintro e w22 ⟨rfl, x⟩
          clear HR e0 e1
          have I22 := Lib.hid (I21.out.ext x)
          have F022 := Lib.hid ((x).cell F021.out)
          have F122 := Lib.hid ((x).cell F121.out)
          have X22 := Lib.hid (X21.out.trans x)
          have P22 := Lib.hid (P21.out.ext x)
          replace HSM := Lib.hid (HSM.out.ext x)
          clear x I21 F021 F121 X21 P21
          have e0 := F022.out
          have e1 := F122.out
          have hr := right_any w22 1099511627776 (some ⟨g4, 0, none⟩) 2 2 [7, 3] 257 I22.out
          rw [show decide (Pl.Right (1099511627776, [7, 3]) 257) = false from pn_r257] at hr
          have HR := Lib.hid hr
          clear hr
          go_wp2_with (fail)
          with_reducible refine HR.out.mono ?_
          rintro e w23 ⟨rfl, x⟩
          clear HR e0 e1
          have I23 := Lib.hid (I22.out.ext x)
          have F023 := Lib.hid ((x).cell F022.out)
          have F123 := Lib.hid ((x).cell F122.out)
          have X23 := Lib.hid (X22.out.trans x)
          have P23 := Lib.hid (P22.out.ext x)
          replace HSM := Lib.hid (HSM.out.ext x)
          clear x I22 F022 F122 X22 P22
          have e0 := F023.out
          have e1 := F123.out
          have hr := right_any w23 1099511627776 (some ⟨g4, 0, none⟩) 2 2 [7, 3] 0 I23.out
          rw [show decide (Pl.Right (1099511627776, [7, 3]) 0) = false from pn_r0] at hr
          have HR := Lib.hid hr
          clear hr
          go_wp2_with (fail)
          with_reducible refine HR.out.mono ?_
          rintro e w24 ⟨rfl, x⟩
          clear HR e0 e1
          have I24 := Lib.hid (I23.out.ext x)
          have F024 := Lib.hid ((x).cell F023.out)
          have F124 := Lib.hid ((x).cell F123.out)
          have X24 := Lib.hid (X23.out.trans x)
          have P24 := Lib.hid (P23.out.ext x)
          replace HSM := Lib.hid (HSM.out.ext x)
          clear x I23 F023 F123 X23 P23
          have he := Is.lit w24 w24.heap.size rfl [1099511627776] #[.int .i64 1099511627776] 3 1 rfl rfl (by omega)
          have hi7 := Is.lit (w24.alloc (.cells #[.int .i64 1099511627776] 3)) (w24.heap.size + 1) (by simp) [7, 3] #[.int .i64 7, .int .i64 3] 3 2 rfl rfl (by omega)
          have hss := Iss.lit ((w24.alloc (.cells #[.int .i64 1099511627776] 3)).alloc (.cells #[.int .i64 7, .int .i64 3] 3)) (w24.heap.size + 1 + 1) (by simp) [[7, 3]] #[.slice (some ⟨w24.heap.size + 1, 0, none⟩) 2 2] 28 1 rfl ⟨⟨_, _, _, rfl, hi7⟩, trivial⟩ (by omega)
          have hh := has_any _ As _ _ 1 cs 1 1 1 1 (Pl.moveL [pone] 9 2) [1099511627776] [[7, 3]] (HSM.out.ext (((Ext.alloc _ _).thenAlloc _).thenAlloc _)) ((he.up _).up _) hss
          rw [pn_s] at hh
          have HH := Lib.hid hh
          have hsm := HSM.out.max
          clear he hi7 hss hh
          go_wp2_with (fail)
          with_reducible refine HH.out.mono ?_
          rintro e w25 ⟨rfl, hd⟩
          have x := (show Ext w24 w25 from (((Ext.alloc _ _).thenAlloc _).thenAlloc _).trans (Dr.ext hd))
          clear HH hd hsm
          have I25 := Lib.hid (I24.out.ext x)
          have F025 := Lib.hid ((x).cell F024.out)
          have F125 := Lib.hid ((x).cell F124.out)
          have X25 := Lib.hid (X24.out.trans x)
          have P25 := Lib.hid (P24.out.ext x)
          replace HSM := Lib.hid (HSM.out.ext x)
          clear x I24 F024 F124 X24 P24
          have e0 := F025.out
          have e1 := F125.out
          have hr := pIndex_any w25 1099511627776 (some ⟨g4, 0, none⟩) 2 2 [7, 3] 4 I25.out
          rw [pn_i] at hr
          have HR := Lib.hid hr
          clear hr
          go_wp2_with (fail)
          with_reducible refine HR.out.mono ?_
          rintro e w26 ⟨rfl, x⟩
          clear HR e0 e1
          have I26 := Lib.hid (I25.out.ext x)
          have F026 := Lib.hid ((x).cell F025.out)
          have F126 := Lib.hid ((x).cell F125.out)
          have X26 := Lib.hid (X25.out.trans x)
          have P26 := Lib.hid (P25.out.ext x)
          replace HSM := Lib.hid (HSM.out.ext x)
          clear x I25 F025 F125 X25 P25
          have hr := awake_any w26
          have HR := Lib.hid hr
          clear hr
          go_wp2_with (fail)
          with_reducible refine HR.out.mono ?_
          rintro e w27 ⟨rfl, x⟩
          go_wp2_with (fail)
          go_ret
          exact ⟨rfl, Ext.trans X26.out x⟩
end Go.Proofs.Ytkanlbkfbkkknaa
