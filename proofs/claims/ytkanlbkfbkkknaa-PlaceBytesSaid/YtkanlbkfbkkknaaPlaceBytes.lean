/- PlaceBytes' walk. -/
import Derived.Test.YtkanlbkfbkkknaaPlaceOpen
import Derived.Test.YtkanlbkfbkkknaaPlaceAwake
import Derived.Test.YtkanlbkfbkkknaaPlBytes
import Derived.Test.YtkanlbkfbkkknaaPlRead
namespace Go.Proofs.Ytkanlbkfbkkknaa
open Go.ChangeShapes Go.WideShapes Go.ChangeAt Go.RowKit

namespace placeBytes
theorem u8_of_cut (s : Nat) : IntKind.u8.wrap (s : Int) = ((UInt8.ofNat s).toNat : Int) := wrap_u8_nat s

set_option maxRecDepth 100000 in
set_option maxHeartbeats 4000000 in
theorem main_any (w : World) (x y z : UInt8) (A : Option Addr) (n c : Nat) (ms : List (UInt8 × UInt8)) (hm : Ms w A n c ms) (s : Nat) (hs : s < 65536) (A3 : Option Addr) (n3 c3 : Nat) (lb : List UInt8) (hb : Bs w A3 n3 c3 lb) :
    Calls Try.prog 9 #[.agg #[.int .u8 (x.toNat : Int), .int .u8 (y.toNat : Int), .int .u8 (z.toNat : Int)], .slice A n c, .int .u16 (s : Int), .slice A3 n3 c3] w fun e w' => e = .returned (.bool true) ∧ Ext w w' := by
  obtain ⟨i0, hi0, hz0, hz1, hz2⟩ := info_parts u8_infoB
  obtain ⟨hall, hlow, hlen⟩ := Pl.placedTo_facts x y z ms 8 (Nat.le_refl _)
  have HALL := Lib.hid (show Pl.All (Pl.placed x y z ms) from hall)
  clear hall hlow hlen
  have HB := Lib.hid hb
  have hb1 := hb.le
  have hb2 := hb.max
  clear hb
  by_cases hbig : 1000 < n3
  · have i1 : (1000 : Int) < (n3 : Int) := by omega
    go_enter Try.func9, Try.ntmps9
    try dsimp only [List.append]
    go_wp2_with (fail)
    with_reducible refine (placed_any _ x y z A n c ms (hm.ext (Ext.alloc _ _))).mono ?_
    rintro r w1 ⟨B, m, d, rfl, hp, x1⟩
    have X1 := Lib.hid ((Ext.alloc w _).trans x1)
    clear x1 hp hm
    go_wp2_with (fail)
    with_reducible refine (awake_any _).mono ?_
    rintro r w2 ⟨rfl, x2⟩
    go_wp2_with (fail)
    go_ret
    exact ⟨rfl, X1.out.trans x2⟩
  · have i1 : ¬ (1000 : Int) < (n3 : Int) := by omega
    go_enter Try.func9, Try.ntmps9
    try dsimp only [List.append]
    go_wp2_with (fail)
    with_reducible refine (placed_any _ x y z A n c ms (hm.ext (Ext.alloc _ _))).mono ?_
    rintro r w1 ⟨B, m, d, rfl, hp, x1⟩
    have X1 := Lib.hid ((Ext.alloc w _).trans x1)
    have HP := Lib.hid hp
    clear x1 hm
    generalize Pl.placed x y z ms = l at *
    have hc := plBytes_ok w1 B m d l hp HALL.out
    clear hp
    go_wp2_with (fail)
    with_reducible refine hc.mono ?_
    rintro r w2 ⟨v, rfl, hv⟩
    obtain ⟨C, cC, rfl, bsC⟩ := hv.bs
    have hpos := Pl.encL_pos l
    have hlenC : (Pl.encL l).length ≤ 2570010 := by
      have h1 := Pl.encTo_len HALL.out l.length
      unfold Pl.encTo at h1
      rw [List.take_of_length_le (Nat.le_refl _)] at h1
      exact h1
    obtain ⟨E, hE⟩ : ∃ E, Pl.encL l = E := ⟨_, rfl⟩
    rw [hE] at bsC hpos hlenC
    rw [hE]
    have EE := Lib.hid hE
    have C2 := Lib.hid bsC
    have hC1 := bsC.le
    have hC2 := bsC.max
    have P2 := Lib.hid (HP.out.ext hv.ext)
    have X2 := Lib.hid (X1.out.trans hv.ext)
    have hr := plRead_any w2 C E.length cC E bsC
    have e1 : Pl.readE E = 0 := by rw [← hE]; exact Pl.readE_enc HALL.out
    have e2 : Pl.readL E = l := by rw [← hE]; exact Pl.readL_enc HALL.out
    rw [e1, e2] at hr
    clear hc hv bsC hE e1 e2
    go_wp2_with (fail)
    with_reducible refine hr.mono ?_
    rintro r w3 ⟨v, rfl, hv⟩
    obtain ⟨D, cD, rfl, psD⟩ := hv.ps
    have C3 := Lib.hid (C2.out.ext hv.ext)
    have P3 := Lib.hid (P2.out.ext hv.ext)
    have X3 := Lib.hid (X2.out.trans hv.ext)
    have hsame := samePlaces_any w3 _ _ _ _ _ _ _ _ psD P3.out
    rw [decide_eq_true rfl] at hsame
    have q0 : ((E.length : Int) == 0) = false := beq_eq_false_iff_ne.2 (by omega)
    clear hr hv psD
    go_wp2_with (fail)
    with_reducible refine hsame.mono ?_
    rintro r w4 ⟨rfl, x4⟩
    replace x4 := x4.ext
    have C4 := Lib.hid (C3.out.ext x4)
    have X4 := Lib.hid (X3.out.trans x4)
    clear hsame x4
    obtain ⟨t, ht, ht1⟩ : ∃ t : Nat, (s : Int) % (E.length : Int) = (t : Int) ∧ t < E.length := ⟨s % E.length, by omega, Nat.mod_lt _ (by omega)⟩
    have q1 : ((E.length : Int) == 0) = false := q0
    have htm : (s : Int).tmod (E.length : Int) = (t : Int) := by rw [Int.tmod_eq_emod_of_nonneg (by omega)]; exact ht
    have ht2 : (t : Int) ≤ (cC : Int) := by omega
    have hcut := plRead_any w4 C t cC (E.take t) (C4.out.take (by omega))
    have e3 : Pl.readE (E.take t) = 100 := by rw [← EE.out]; exact Pl.readE_cut HALL.out (by rw [EE.out]; exact ht1)
    rw [e3] at hcut
    clear e3
    go_wp2_with (fail)
    with_reducible refine hcut.mono ?_
    rintro r w5 ⟨v5, rfl, hv⟩
    have C5 := Lib.hid (C4.out.ext hv.ext)
    have X5 := Lib.hid (X4.out.trans hv.ext)
    clear hcut hv
    have hcp := copyBytesB w5 C E.length cC E C5.out (by omega)
    have hw8 := u8_of_cut s
    go_wp2_with (fail)
    with_reducible refine hcp.mono ?_
    rintro r w6 ⟨v6, rfl, hv⟩
    have O6 := Lib.hid hv.own
    have X6 := Lib.hid (X5.out.trans hv.ext)
    have S56 := hv.ext.size
    have S5 := X5.out.size
    have hsz1 : (E.length + 1) * 1 ≤ 140737488355328 := by omega
    have hsz2 : E.length + 1 ≤ maxLen := by unfold maxLen; omega
    have HX56 := Lib.hid hv.ext
    have hmr := Pl.readE_more HALL.out (UInt8.ofNat s)
    rw [EE.out] at hmr
    have HMR := Lib.hid hmr
    clear hcp hv hmr
    go_wp2_with (
      at_builtin
      refine wpList_append_rd _ rfl (.tmp 80) (.tmp 83) 50 rfl w5.heap.size 5 i0 _ 1 1 Try.underlying50 hi0 hz0 hz1 hz2 rfl (by omega) v6 E.length (bcells E) rfl (ownsRow_ext O6.out (Ext.alloc _ _)) (some ⟨w6.heap.size, 0, none⟩) 1 1 [.int .u8 ((UInt8.ofNat s).toNat : Int)] rfl (Rd.lit _ _ _) (by simp [Value.oneCell']) hsz1 hsz2 (by simp; omega) ?_
      intro v7 w7 hown hgr hat
      have x57 : Ext w5 w7 := Ext.ofGrown (HX56.out.thenAlloc _) hgr (fun q hq => own_row O6.out q hq)
      replace hown : w7.ownsRow w5.heap.size 5 1 v7 (E.length + 1) (bcells (E ++ [UInt8.ofNat s])) := by rw [bcells_append]; exact hown
      obtain ⟨V, cV, rfl, _, _⟩ := ownsRow_slice hown
      have bs7 := (Own.mk (base := w5.heap.size) (e := 5) hown).bs
      have X7 := Lib.hid (X5.out.trans x57)
      have C7 := Lib.hid (C5.out.ext x57)
      clear hgr hat hown x57)
    have hmore := plRead_any w7 V (E.length + 1) cV (E ++ [UInt8.ofNat s]) bs7
    rw [HMR.out] at hmore
    with_reducible refine hmore.mono ?_
    rintro r w8 ⟨v8, rfl, hv⟩
    have X8 := Lib.hid (X7.out.trans hv.ext)
    clear hmore hv bs7
    obtain ⟨er, her⟩ : ∃ er, Pl.readE lb = er := ⟨_, rfl⟩
    have hrb := plRead_any w8 A3 n3 c3 lb (HB.out.ext X8.out)
    rw [her] at hrb
    go_wp2_with (fail)
    with_reducible refine hrb.mono ?_
    rintro r w9 ⟨v9, rfl, hv⟩
    have X9 := Lib.hid (X8.out.trans hv.ext)
    by_cases hg : Pl.Good lb
    · have e0 : er = 0 := by rw [← her]; exact if_pos hg
      have e1 : Pl.readL lb = Pl.gotL lb := if_pos hg
      have e2 := Pl.enc_read hg
      have hA := hg.2.2
      subst e0
      rw [e1] at hv
      obtain ⟨G, cG, rfl, psG⟩ := hv.ps
      have hby := plBytes_ok w9 G _ cG _ psG hA
      rw [e2] at hby
      clear hrb hv psG e1 e2 hA hg her
      go_wp2_with (fail)
      with_reducible refine hby.mono ?_
      rintro r w10 ⟨v10, rfl, hv⟩
      obtain ⟨F, cF, rfl, bsF⟩ := hv.bs
      have X10 := Lib.hid (X9.out.trans hv.ext)
      have hsb := sameBytesB w10 F A3 lb.length cF n3 c3 lb lb bsF (HB.out.ext X10.out)
      rw [beq_self_eq_true] at hsb
      clear hby hv bsF
      go_wp2_with (fail)
      with_reducible refine hsb.mono ?_
      rintro r w11 ⟨rfl, rfl⟩
      clear hsb
      go_wp2_with (fail)
      with_reducible refine (awake_any _).mono ?_
      rintro r w12 ⟨rfl, x12⟩
      go_wp2_with (fail)
      go_ret
      exact ⟨rfl, X10.out.trans x12⟩
    · have e0 : er = 100 := by rw [← her]; exact if_neg hg
      subst e0
      clear hrb hv hg her
      go_wp2_with (fail)
      with_reducible refine (awake_any _).mono ?_
      rintro r w12 ⟨rfl, x12⟩
      go_wp2_with (fail)
      go_ret
      exact ⟨rfl, X9.out.trans x12⟩
theorem walk {H : Type} {enc : TypeId × Value → H} {base : Nat} (w : World) (v0 : Value) (d0 : DataW H) (p0 : List MemPlace) (v1 : Value) (d1 : DataW H) (p1 : List MemPlace) (a2 : Int) (a3 : Option Addr) (len3 cap3 : Nat) (z3 : List Int)
    (o0 : Value.okWide Try.prog w .any base 22 v0) (h0 : DataW.Trod enc Try.prog w 0 (fun _ => true) true 22 v0 d0 p0)
    (o1 : Value.okWide Try.prog w .any base 23 v1) (h1 : DataW.Trod enc Try.prog w 0 (fun _ => true) true 23 v1 d1 p1)
    (w2 : (Lit.int .u16 a2).wf = true) (w3 : IsRow .u8 w a3 len3 cap3 z3) :
    Calls Try.prog 9 #[v0, v1, .int .u16 a2, .slice a3 len3 cap3] w fun e w' => e = .returned (.bool true) ∧ Ext w w' := by
  obtain ⟨x, y, z, rfl⟩ := open_u8x3 Try.underlying22 Try.underlying5 (by kernel_rfl) (by kernel_rfl) o0 h0
  obtain ⟨A, n, c, rfl⟩ := okWide_slice Try.underlying23 o1
  obtain ⟨ms, hm⟩ := Ms.of_trod Try.underlying23 Try.underlying61 Try.underlying5 (by kernel_rfl) (by kernel_rfl) h1
  obtain ⟨s, rfl, hs⟩ : ∃ s : Nat, a2 = (s : Int) ∧ s < 65536 := by
    have := bounds_u16 w2
    exact ⟨a2.toNat, by omega, by omega⟩
  obtain ⟨lb, hb⟩ := w3.bytes
  exact main_any w x y z A n c ms hm s hs a3 len3 cap3 lb hb
end placeBytes
end Go.Proofs.Ytkanlbkfbkkknaa
