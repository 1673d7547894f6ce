/- The contract of the document's Cauchy. -/
import Derived.Test.YtiianhlppkocgaaRef3Right
import Derived.Test.YtiianhlppkocgaaMatCauchy
namespace Go.Proofs.Ytiianhlppkocgaa
open Go.RowKit

theorem pow_254 (x : UInt8) : Gf.pow x 254 = Gf.inv x := by
  by_cases h : x = 0
  · rw [h, Gf.pow_zero_base _ (by omega)]; rfl
  · have h1 : Gf.mul (Gf.pow x 254) x = 1 := by rw [← Gf.pow_255 h]; rfl
    calc Gf.pow x 254 = Gf.mul (Gf.pow x 254) 1 := (Gf.mul_one _).symm
      _ = Gf.mul (Gf.pow x 254) (Gf.mul x (Gf.inv x)) := by rw [Gf.mul_inv h]
      _ = Gf.mul (Gf.mul (Gf.pow x 254) x) (Gf.inv x) := by rw [Gf.mul_assoc]
      _ = Gf.inv x := by rw [h1, Gf.one_mul]
theorem take_get {l : List UInt8} {j : Nat} (h : j < l.length) : l.take (j + 1) = l.take j ++ [Gf.get l j] := by
  rw [List.take_succ_eq_append_getElem h]
  simp [Gf.get, h]
theorem take_row {m : Gm.L} {j : Nat} (h : j < m.length) : m.take (j + 1) = m.take j ++ [Gm.row m j] := by
  rw [List.take_succ_eq_append_getElem h, Gm.row_of_lt h]
set_option maxRecDepth 100000 in
set_option maxHeartbeats 1000000 in
theorem ref3Cauchy_no (w : World) (r c : Int) (h : r < 1 ∨ c < 1 ∨ 256 < r ∨ 256 - r < c) :
    Calls Try.prog 29 #[.int .i64 r, .int .i64 c] w (GivesQE [] 2 w) := by
  by_cases h1 : r < 1
  · go_enter Try.func29, Try.ntmps29
    go_wp2_with (fail)
    go_ret2
    exact GivesQE.none 2 (Ext.refl w)
  · by_cases h2 : c < 1
    · go_enter Try.func29, Try.ntmps29
      go_wp2_with (fail)
      go_ret2
      exact GivesQE.none 2 (Ext.refl w)
    · by_cases h3 : 256 < r
      · go_enter Try.func29, Try.ntmps29
        go_wp2_with (fail)
        go_ret2
        exact GivesQE.none 2 (Ext.refl w)
      · by_cases h4 : 256 < c
        · go_enter Try.func29, Try.ntmps29
          go_wp2_with (fail)
          go_ret2
          exact GivesQE.none 2 (Ext.refl w)
        · have h5 : 256 < r + c := by omega
          clear h
          go_enter Try.func29, Try.ntmps29
          go_wp2_with (fail)
          go_ret2
          exact GivesQE.none 2 (Ext.refl w)
set_option maxRecDepth 100000 in
set_option maxHeartbeats 4000000 in
theorem ref3Cauchy_ok (w : World) (r c : Nat) (h1 : 1 ≤ r) (h2 : 1 ≤ c) (h3 : r + c ≤ 256) :
    Calls Try.prog 29 #[.int .i64 (r : Int), .int .i64 (c : Int)] w (GivesQE (Gm.cauchy r c) 0 w) := by
  obtain ⟨i0, hi0, hz0, hz1, hz2⟩ := info_parts bytes_info
  obtain ⟨j1, hj1, hy0, hy1, hy2⟩ := info_parts u8_info
  have g1 : ¬ (r : Int) < 1 := by omega
  have g2 : ¬ (c : Int) < 1 := by omega
  have g3 : ¬ (256 : Int) < r := by omega
  have g4 : ¬ (256 : Int) < c := by omega
  have g5 : ¬ (256 : Int) < (r : Int) + c := by omega
  have hul : (Gm.cauchy r c).length = r := (Gm.cauchy_rect r c).len
  have hat : ∀ i, i < r → ∀ j, j < c → Gf.get (Gm.row (Gm.cauchy r c) i) j = Gf.inv (UInt8.ofNat (c + i) ^^^ UInt8.ofNat j) := fun i hi j hj => Gm.at_cauchy hi hj
  have hwid : ∀ i, i < r → (Gm.row (Gm.cauchy r c) i).length = c := fun i hi => (Gm.cauchy_rect r c).wid i hi
  have HU := Lib.hid hul
  have HAT := Lib.hid hat
  have HWID := Lib.hid hwid
  obtain ⟨N2, hN2⟩ : ∃ N2, w.heap.size = N2 := ⟨_, rfl⟩
  have HN2 := Lib.hid hN2
  have hsz0 : N2 ≤ w.heap.size := by omega
  clear hN2 hul hat hwid
  generalize Gm.cauchy r c = M at *
  go_enter Try.func29, Try.ntmps29
  go_wp2_with (fail)
  go_loopw [6, 7, 8, 9] (fun v s _ _ wr => ∃ (t : Nat) (cs : List Value), t ≤ r ∧ s = .int .i64 t ∧ Mq wr N2 (Hot N2 v) v t cs (M.take t) ∧ Ext w wr ∧ N2 ≤ wr.heap.size) (fun _ s _ _ _ => r - (intOf s).toNat)
  case atStart => exact ⟨0, [], by omega, rfl, by rw [List.take_zero]; exact Mq.nil _ _ _, Ext.refl w, hsz0⟩
  case round =>
    obtain ⟨i, cs, hi, rfl, hQ, hx, hsz⟩ := hrel
    clear hsz0
    by_cases hlt : i < r
    · have q1 : (i : Int) < r := by omega
      obtain ⟨wo, rfl⟩ : ∃ wo : World, wo = wr := ⟨_, rfl⟩
      have hF := HAT.out i hlt
      have hl := HWID.out i hlt
      have hsn := take_row (m := M) (j := i) (by rw [HU.out]; exact hlt)
      generalize Gm.row M i = F at *
      have HSN := Lib.hid hsn
      have HF := Lib.hid hF
      have HL := Lib.hid hl
      have HQ := Lib.hid hQ
      clear hF hl hsn hQ
      go_wp2_with (fail)
      go_loopw [8, 9] (fun v s wr => ∃ j : Nat, j ≤ c ∧ s = .int .i64 j ∧ wr.ownsRow wo.heap.size 5 1 v j (bcells (F.take j)) ∧ Ext wo wr) (fun _ s _ => c - (intOf s).toNat)
      case atStart => exact ⟨0, by omega, rfl, World.ownsRow_nil _ _ _ _, Ext.refl wo⟩
      case round =>
        obtain ⟨j, hj, rfl, hown, hxj⟩ := hrel
        by_cases hjc : j < c
        · have q2 : (j : Int) < c := by omega
          have e1 : ((c : Int) + (i : Int)) = ((UInt8.ofNat (c + i)).toNat : Int) := by rw [u8_cast (by omega)]; omega
          have e2 : (j : Int) = ((UInt8.ofNat j).toNat : Int) := by rw [u8_cast (by omega)]
          have hi := inverse_any wr (UInt8.ofNat (c + i) ^^^ UInt8.ofNat j)
          rw [pow_254, ← HF.out j hjc, ← xor_u8, ← e1, ← e2] at hi
          have hsn := take_get (l := F) (j := j) (by rw [HL.out]; exact hjc)
          generalize Gf.get F j = y at *
          have HI := Lib.hid hi
          have HS := Lib.hid hsn
          have HO := Lib.hid (hown.alloc (.cells #[.int .u8 (y.toNat : Int)] 5))
          have HB := Lib.hid (own_row hown)
          have hsj := hxj.size
          clear e1 e2 hi hsn hown
          go_wp2_with (fail)
          refine HI.out.mono ?_
          rintro e w4 ⟨rfl, rfl⟩
          go_wp2_with (at_builtin; refine wpList_append_rd _ rfl (.tmp 40) (.tmp 49) 26 rfl wo.heap.size 5 j1 _ 1 1 Try.underlying26 hj1 hy0 hy1 hy2 rfl (by omega) u8 j (bcells (F.take j)) rfl HO.out (some ⟨wr.heap.size, 0, none⟩) 1 1 [.int .u8 (y.toNat : Int)] rfl (Rd.lit wr #[_] _) (by simp [Value.oneCell']) (by omega) (by unfold maxLen; omega) (by simp; omega) ?_; intro v5 w5 hown hgr hat)
          refine ⟨⟨j + 1, by omega, by go_num, ?_, (hxj.thenAlloc _).ofGrown hgr HB.out⟩, by simp [intOf]; omega⟩
          rw [HS.out, bcells_append]
          exact hown
        · have q2 : ¬ (j : Int) < c := by omega
          obtain rfl : c = j := by omega
          rw [List.take_of_length_le (by rw [HL.out]; exact Nat.le_refl _)] at hown
          obtain ⟨A4, c4, rfl, hz4, hz5⟩ := ownsRow_slice hown
          have ow4 := Lib.hid (ownsRow_ext (ownsRow_ext HQ.out.own hxj) (Ext.alloc wr (.cells #[.slice A4 c c4] 26)))
          have OW := Lib.hid hown
          have X4 := Lib.hid hxj
          have hs4 := hxj.size
          clear hown hxj
          go_wp2_with (at_builtin; refine wpList_append_rd _ rfl (.tmp 51) (.tmp 53) 25 rfl N2 26 i0 _ 1 24 Try.underlying25 hi0 hz0 hz1 hz2 rfl (by omega) u6 i cs rfl ow4.out (some ⟨wr.heap.size, 0, none⟩) 1 1 [.slice A4 c c4] rfl (Rd.lit _ #[.slice A4 c c4] _) (by simp [Value.oneCell']) (by omega) (by unfold maxLen; omega) (by simp; omega) ?_; intro v5 w5 hown hgr hat)
          have hsn2 := HQ.out.snoc X4.out (r := F) (A := A4) (c := c4) (by rw [HL.out]; exact OW.out) (Nat.le_refl _) hsz (Ext.alloc wr (.cells #[.slice A4 c c4] 26)) (by rw [HL.out]; exact hown) hgr hat
          rw [HL.out] at hsn2
          have hne : ∀ q, u6.ownBlock = some q → N2 ≤ q := own_row HQ.out.own
          refine ⟨⟨i + 1, cs ++ [.slice A4 c c4], by omega, by go_num, ?_, ?_, ?_⟩, by simp [intOf]; omega⟩
          · rw [HSN.out]; exact hsn2
          · exact ((hx.trans X4.out).thenAlloc _).ofGrown hgr (fun q hq => by have := hne q hq; have := HN2.out; omega)
          · have := hgr.size; simp at this; omega
    · have q1 : ¬ (i : Int) < r := by omega
      obtain rfl : i = r := by omega
      rw [List.take_of_length_le (by rw [HU.out]; exact Nat.le_refl _)] at hQ
      go_wp2_with (fail)
      go_ret2
      refine ⟨_, cs, rfl, ?_, hx⟩
      rw [HU.out, HN2.out]
      exact hQ
end Go.Proofs.Ytiianhlppkocgaa
