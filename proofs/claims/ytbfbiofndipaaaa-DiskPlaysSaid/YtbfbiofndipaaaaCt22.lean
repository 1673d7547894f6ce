/- Several texts in one: DiskKeeps' walk. The document's disk of chapter 05 as a value and in memory; the contracts of its own, Arm, operation, Read. No statement of the seat is proved here. -/
import Derived.Test.YtbfbiofndipaaaaCt21
import Derived.Deep.CutBlock
import Derived.Laws.ResultCell
namespace Go.Proofs.Ytbfbiofndipaaaa
open Go.ChangeShapes Go.WideShapes Go.ChangeAt Go.RowKit Go.Maps Go.Sort Go.Shelf

/-- What a round knows. -/
structure Ks (w wr : World) (r g m b N : Nat) (d : Disks.D) (S L : List UInt8) (O : List Bool) : Prop where
  ext : Ext w wr
  km : Km wr r S L O
  ds : Ds wr g m b N d
  h8 : Disks.Hold8 d S L O
theorem Ks.ext' {w wr wr' : World} {r g m b N : Nat} {d : Disks.D} {S L : List UInt8} {O : List Bool} (h : Ks w wr r g m b N d S L O) (hx : Ext wr wr') : Ks w wr' r g m b N d S L O := ⟨h.ext.trans hx, h.km.ext hx, h.ds.ext hx, h.h8⟩
theorem Ks.mono {w wr : World} {r g m b N N' : Nat} {d : Disks.D} {S L : List UInt8} {O : List Bool} (h : Ks w wr r g m b N d S L O) (hN : N ≤ N') : Ks w wr r g m b N' d S L O := ⟨h.ext, h.km, h.ds.mono hN, h.h8⟩
/-- Where the blocks lie. -/
structure Lie (w : World) (r g m b : Nat) : Prop where
  low : w.heap.size ≤ g ∧ w.heap.size ≤ m ∧ w.heap.size ≤ b
  up : g < r ∧ m < r ∧ b < r
theorem Ds.turn {w w' : World} {g m b N : Nat} {d : Disks.D} (h : Ds w g m b N d) {p : Nat} (hg : w.grownBy w' (some p)) (hp : g ≠ p ∧ m ≠ p ∧ b ≠ p) : Ds w' g m b N d := by
  obtain ⟨n, D, hn, hd⟩ := h.ex
  exact ⟨⟨n, D, hn, hd.kept hg (fun e => hp.1 (by injection e with e; exact e.symm)) (fun e => hp.2.1 (by injection e with e; exact e.symm)) (fun e => hp.2.2 (by injection e with e; exact e.symm))⟩, h.ok⟩
set_option maxRecDepth 100000 in
set_option maxHeartbeats 16000000 in
theorem keeps_any (w : World) (A : Option Addr) (n c : Nat) (o : Nat → Op05) (ho : Os05 w A n c o) :
    Calls Try.prog 3 #[.slice A n c] w fun e w' => e = .returned (.bool true) ∧ Ext w w' := by
  have q1 := ho.le
  have q2 := ho.max
  have OS := Lib.hid ho
  clear ho
  go_enter Try.func3, Try.ntmps3
  have hc := (show Calls Try.prog 11 #[.int .i64 8] w _ from dsNew w 8 (by omega) (by omega))
  go_wp2_with (fail)
  with_reducible refine hc.mono ?_
  rintro e w1 ⟨g, rfl, m, b, d1, x1, g1, m1, b1⟩
  clear hc
  go_wp2_with (fail)
  obtain ⟨r, hr⟩ : ∃ r, w1.heap.size = r := ⟨_, rfl⟩
  have hlt := d1.lts
  have LIE := Lib.hid (show Lie w r g m b from ⟨⟨g1, m1, b1⟩, by omega⟩)
  have hz8 : (#[.int .u8 0, .int .u8 0, .int .u8 0, .int .u8 0, .int .u8 0, .int .u8 0, .int .u8 0, .int .u8 0] : Array Value) = (bcells Disks.noughts).toArray := rfl
  have hk : Km (((w1.alloc (.cells #[.int .u8 0, .int .u8 0, .int .u8 0, .int .u8 0, .int .u8 0, .int .u8 0, .int .u8 0, .int .u8 0] 27)).alloc (.cells #[.int .u8 0, .int .u8 0, .int .u8 0, .int .u8 0, .int .u8 0, .int .u8 0, .int .u8 0, .int .u8 0] 27)).alloc (.cells #[.bool false, .bool false, .bool false, .bool false, .bool false, .bool false, .bool false, .bool false] 28)) r Disks.noughts Disks.noughts Disks.shut8 := by
    have e1 := heap_alloc_new w1 (.cells #[.int .u8 0, .int .u8 0, .int .u8 0, .int .u8 0, .int .u8 0, .int .u8 0, .int .u8 0, .int .u8 0] 27)
    have e2 := heap_alloc_new (w1.alloc (.cells #[.int .u8 0, .int .u8 0, .int .u8 0, .int .u8 0, .int .u8 0, .int .u8 0, .int .u8 0, .int .u8 0] 27)) (.cells #[.int .u8 0, .int .u8 0, .int .u8 0, .int .u8 0, .int .u8 0, .int .u8 0, .int .u8 0, .int .u8 0] 27)
    have e3 := heap_alloc_new ((w1.alloc (.cells #[.int .u8 0, .int .u8 0, .int .u8 0, .int .u8 0, .int .u8 0, .int .u8 0, .int .u8 0, .int .u8 0] 27)).alloc (.cells #[.int .u8 0, .int .u8 0, .int .u8 0, .int .u8 0, .int .u8 0, .int .u8 0, .int .u8 0, .int .u8 0] 27)) (.cells #[.bool false, .bool false, .bool false, .bool false, .bool false, .bool false, .bool false, .bool false] 28)
    have z1 : (w1.alloc (.cells #[.int .u8 0, .int .u8 0, .int .u8 0, .int .u8 0, .int .u8 0, .int .u8 0, .int .u8 0, .int .u8 0] 27)).heap.size = r + 1 := by rw [← hr]; simp
    have z2 : ((w1.alloc (.cells #[.int .u8 0, .int .u8 0, .int .u8 0, .int .u8 0, .int .u8 0, .int .u8 0, .int .u8 0, .int .u8 0] 27)).alloc (.cells #[.int .u8 0, .int .u8 0, .int .u8 0, .int .u8 0, .int .u8 0, .int .u8 0, .int .u8 0, .int .u8 0] 27)).heap.size = r + 2 := by rw [← hr]; simp
    rw [hr] at e1
    rw [z1] at e2
    rw [z2] at e3
    refine ⟨?_, ?_, e3⟩
    · exact (((Ext.alloc _ _).thenAlloc _).block r (by rw [z1]; omega)).trans e1
    · exact ((Ext.alloc _ _).block (r + 1) (by rw [z2]; omega)).trans e2
  have hx2 := ((Ext.alloc w1 (.cells #[.int .u8 0, .int .u8 0, .int .u8 0, .int .u8 0, .int .u8 0, .int .u8 0, .int .u8 0, .int .u8 0] 27)).thenAlloc (.cells #[.int .u8 0, .int .u8 0, .int .u8 0, .int .u8 0, .int .u8 0, .int .u8 0, .int .u8 0, .int .u8 0] 27)).thenAlloc (.cells #[.bool false, .bool false, .bool false, .bool false, .bool false, .bool false, .bool false, .bool false] 28)
  generalize ((w1.alloc (.cells #[.int .u8 0, .int .u8 0, .int .u8 0, .int .u8 0, .int .u8 0, .int .u8 0, .int .u8 0, .int .u8 0] 27)).alloc (.cells #[.int .u8 0, .int .u8 0, .int .u8 0, .int .u8 0, .int .u8 0, .int .u8 0, .int .u8 0, .int .u8 0] 27)).alloc (.cells #[.bool false, .bool false, .bool false, .bool false, .bool false, .bool false, .bool false, .bool false] 28) = w2 at *
  rw [hr, show r + 1 + 1 = r + 2 from rfl]
  have START : Hid (∃ d S L O, Ks w w2 r g m b 0 d S L O) := Lib.hid ⟨_, _, _, _, x1.trans hx2, hk, d1.ext hx2, Disks.Hold8.start⟩
  clear hk hx2 d1 x1 g1 m1 b1 hlt hz8
  go_loopw [8] (fun i wr => ∃ k : Nat, k ≤ n ∧ k ≤ 80 ∧ i = .int .i64 k ∧ Hid (∃ d S L O, Ks w wr r g m b k d S L O)) (fun i _ => n - (intOf i).toNat)
  case atStart => exact ⟨0, by omega, by omega, rfl, START⟩
  case round =>
    obtain ⟨k, hkn, hk80, rfl, HR⟩ := hrel
    obtain ⟨w100, hw⟩ : ∃ w100, w100 = wr := ⟨_, rfl⟩
    subst hw
    clear START
    obtain ⟨d, S, L, O, hK⟩ := HR.out
    have K100 := Lib.hid hK
    clear HR hK
    by_cases h80 : k < 80
    · by_cases hlt : k < n
      · have i1 : (k : Int) < n := by omega
        have i2 : (k : Int) < 80 := by omega
        obtain ⟨z, off, rfl, hl⟩ := (OS.out.ext K100.out.ext).load hlt
        have HB0 := Lib.hid (OS.out.bls hlt)
        obtain ⟨q, hoo⟩ : ∃ oo, o k = oo := ⟨_, rfl⟩
        rw [hoo] at hl HB0
        obtain ⟨w101, hs, ob, xb⟩ := op_copy w100 q
        obtain ⟨OV, hOV⟩ : ∃ OV, oval q = OV := ⟨_, rfl⟩
        rw [hOV] at hl hs
        have HL := Lib.hid hl
        obtain ⟨p, hp⟩ : ∃ p, w100.heap.size = p := ⟨_, rfl⟩
        rw [hp] at hs ob
        have HSP := Lib.hid hs
        have PP := Lib.hid (show p ≠ g ∧ p ≠ m ∧ p ≠ b from by have := K100.out.ds.lts; omega)
        have LU := LIE.out.up
        have LL := LIE.out.low
        have PR := Lib.hid (show r + 2 < p from by have := (Array.getElem?_eq_some_iff.1 K100.out.km.o).1; omega)
        have HPP := Lib.hid hp
        have OB101 := Lib.hid ob
        have K101 := Lib.hid (K100.out.ext' xb)
        have k1 := ob.c1
        have k0 := ob.c0
        clear hl hs hOV hoo ob xb hp
        go_wp2_with (first
          | ((with_reducible refine opIs ⟨some 33, .load 31 (.tmp 32), _, _, _, _⟩ ?_); refine wpList_loadR rfl 31 (.tmp 32) rfl rfl HL.out ?_)
          | ((with_reducible refine opIs ⟨some 9, .alloc 31, _, _, _, _⟩ ?_); refine wpList_allocR rfl 31 rfl _ (run_alloc_op _) ?_; rw [HPP.out])
          | ((with_reducible refine opIs ⟨none, .store 31 (.tmp 9) (.tmp 33), _, _, _, _⟩ ?_); refine wpList_storeR rfl 31 (.tmp 9) (.tmp 33) rfl rfl rfl HSP.out ?_))
        have hpk := (show Calls Try.prog 12 #[.int .i64 q.i, .int .i64 8] w101 _ from pick_any w101 q.i 8 (by omega))
        with_reducible refine hpk.mono ?_
        rintro e w102 ⟨rfl, rfl⟩
        obtain ⟨j, hj, hj8⟩ : ∃ j : Nat, pick q.i 8 = (j : Int) ∧ j < 8 := ⟨(pick q.i 8).toNat, by have := pick_range q.i 8 (by omega); omega, by have := pick_range q.i 8 (by omega); omega⟩
        rw [hj]
        clear hj hpk
        go_upto_block 2 with (fail)
        go_cut [] (fun wx => ∃ wv : World, wv = wx ∧ ∃ d S L O, RowKit.Hid (Ks w wx r g m b (k + 1) d S L O))
        case first =>
          rcases (show (q.kind = 1 ∨ q.kind = 2 ∨ q.kind = 3 ∨ q.kind = 4) ∨ (q.kind = 5 ∨ q.kind = 6) ∨ q.kind = 9 ∨ (q.kind = 10 ∨ q.kind = 11) ∨ (q.kind ≠ 1 ∧ q.kind ≠ 2 ∧ q.kind ≠ 3 ∧ q.kind ≠ 4 ∧ q.kind ≠ 5 ∧ q.kind ≠ 6 ∧ q.kind ≠ 9 ∧ q.kind ≠ 10 ∧ q.kind ≠ 11) by omega) with (hk | hk | hk | hk) | (hk | hk) | hk | (hk | hk) | hk
          · clear k0
            have t1 : (q.kind == 1) = true := by rw [hk]; rfl
            clear k1 hk
            have k4 := OB101.out.c4
            go_wp2_with (fail)
            have hc := of_any5 w101 q.b
            with_reducible refine hc.mono ?_
            rintro e w102 ⟨pa, rfl, oa⟩
            have OA := Lib.hid oa
            have AW := Lib.hid (Awy.fresh (o := 0) K101.out.ds oa.le)
            have K102 := Lib.hid (K101.out.ext' oa.ext)
            have OB102 := Lib.hid (OB101.out.ext oa.ext)
            clear oa hc k4
            by_cases hE : Disks.writeE d j (rep q.b) = 0
            · have hc := K102.out.ds.write (by unfold maxLen; omega) j _ _ _ (rep q.b) (OA.out.bs (by rw [rep_len]; omega) (rep_len _)) AW.out hE rfl
              go_wp2_with (fail)
              with_reducible refine hc.mono ?_
              rintro e w103 ⟨rfl, d3, k3⟩
              have OB103 := Lib.hid (OB102.out.kp k3 PP.out.1 PP.out.2.1 PP.out.2.2)
              have K103 := Lib.hid (show Ks w w103 r g m b (k + 1) (Disks.writeD d j (rep q.b)) S (L.set j q.b) (O.set j true) → True from fun _ => trivial)
              have KM := Lib.hid (K102.out.km.kp k3 (.inr LIE.out.up))
              have X3 := Lib.hid (K102.out.ext.kp k3 LIE.out.low.1 LIE.out.low.2.1 LIE.out.low.2.2)
              have D3 := Lib.hid d3
              have H3 := Lib.hid (K102.out.h8.writeOk hj8 hE)
              clear d3 k3 hc K103
              have k4 := OB103.out.c4
              have e1 := KM.out.cl (j := j) (by rw [K102.out.h8.ll]; exact hj8)
              have e2 := KM.out.fl j
              have e3 := KM.out.co (j := j) (by rw [K102.out.h8.ol]; exact hj8)
              have e4 := KM.out.fo j
              have KE : Hid (Ks w ((w103.setCell ⟨r + 1, j, none⟩ (.int .u8 (q.b.toNat : Int))).setCell ⟨r + 2, j, none⟩ (.bool true)) r g m b (k + 1) (Disks.writeD d j (rep q.b)) S (L.set j q.b) (O.set j true)) := Lib.hid ⟨Below.setCell (Below.setCell X3.out (p := ⟨r + 1, j, none⟩) (by show w.heap.size ≤ r + 1; omega) _) (p := ⟨r + 2, j, none⟩) (by show w.heap.size ≤ r + 2; omega) _, (KM.out.setL j q.b).setO j true, (D3.out.farC (p := ⟨r + 1, j, none⟩) (by show r + 1 ≠ g; omega) (by show r + 1 ≠ m; omega) (by show r + 1 ≠ b; omega) _).farC (p := ⟨r + 2, j, none⟩) (by show r + 2 ≠ g; omega) (by show r + 2 ≠ m; omega) (by show r + 2 ≠ b; omega) _, H3.out⟩
              go_wp2_with (fail)
              go_meet
              exact ⟨_, rfl, _, _, _, _, KE⟩
            · obtain ⟨er, her⟩ : ∃ er, Disks.writeE d j (rep q.b) = er := ⟨_, rfl⟩
              have hc := K102.out.ds.write (by unfold maxLen; omega) j _ _ _ (rep q.b) (OA.out.bs (by rw [rep_len]; omega) (rep_len _)) AW.out her rfl
              have H3 := Lib.hid (K102.out.h8.writeNo hE)
              rw [her] at hE
              have n0 : (er == 0) = false := beq_eq_false_iff_ne.2 hE
              clear her
              go_wp2_with (fail)
              with_reducible refine hc.mono ?_
              rintro e w103 ⟨rfl, d3, k3⟩
              have KE : Hid (Ks w w103 r g m b (k + 1) (Disks.writeD d j (rep q.b)) S L O) := Lib.hid ⟨K102.out.ext.kp k3 LIE.out.low.1 LIE.out.low.2.1 LIE.out.low.2.2, K102.out.km.kp k3 (.inr LIE.out.up), d3, H3.out⟩
              clear d3 k3 hc
              go_wp2_with (fail)
              go_meet
              exact ⟨_, rfl, _, _, _, _, KE⟩
          · clear k0
            have t1 : (q.kind == 1) = false := by rw [hk]; rfl
            have t2 : (q.kind == 2) = true := by rw [hk]; rfl
            clear k1 hk
            have k4 := OB101.out.c4
            go_wp2_with (fail)
            have hc := of_any5 w101 q.b
            with_reducible refine hc.mono ?_
            rintro e w102 ⟨pa, rfl, oa⟩
            have OA := Lib.hid oa
            have AW := Lib.hid (Awy.fresh (o := 0) K101.out.ds oa.le)
            have K102 := Lib.hid (K101.out.ext' oa.ext)
            have OB102 := Lib.hid (OB101.out.ext oa.ext)
            clear oa hc k4
            by_cases hE : Disks.writeE d j (rep q.b) = 0
            · have hc := K102.out.ds.write (by unfold maxLen; omega) j _ _ _ (rep q.b) (OA.out.bs (by rw [rep_len]; omega) (rep_len _)) AW.out hE rfl
              go_wp2_with (fail)
              with_reducible refine hc.mono ?_
              rintro e w103 ⟨rfl, d3, k3⟩
              have OB103 := Lib.hid (OB102.out.kp k3 PP.out.1 PP.out.2.1 PP.out.2.2)
              have K103 := Lib.hid (show Ks w w103 r g m b (k + 1) (Disks.writeD d j (rep q.b)) S (L.set j q.b) (O.set j true) → True from fun _ => trivial)
              have KM := Lib.hid (K102.out.km.kp k3 (.inr LIE.out.up))
              have X3 := Lib.hid (K102.out.ext.kp k3 LIE.out.low.1 LIE.out.low.2.1 LIE.out.low.2.2)
              have D3 := Lib.hid d3
              have H3 := Lib.hid (K102.out.h8.writeOk hj8 hE)
              clear d3 k3 hc K103
              have k4 := OB103.out.c4
              have e1 := KM.out.cl (j := j) (by rw [K102.out.h8.ll]; exact hj8)
              have e2 := KM.out.fl j
              have e3 := KM.out.co (j := j) (by rw [K102.out.h8.ol]; exact hj8)
              have e4 := KM.out.fo j
              have KE : Hid (Ks w ((w103.setCell ⟨r + 1, j, none⟩ (.int .u8 (q.b.toNat : Int))).setCell ⟨r + 2, j, none⟩ (.bool true)) r g m b (k + 1) (Disks.writeD d j (rep q.b)) S (L.set j q.b) (O.set j true)) := Lib.hid ⟨Below.setCell (Below.setCell X3.out (p := ⟨r + 1, j, none⟩) (by show w.heap.size ≤ r + 1; omega) _) (p := ⟨r + 2, j, none⟩) (by show w.heap.size ≤ r + 2; omega) _, (KM.out.setL j q.b).setO j true, (D3.out.farC (p := ⟨r + 1, j, none⟩) (by show r + 1 ≠ g; omega) (by show r + 1 ≠ m; omega) (by show r + 1 ≠ b; omega) _).farC (p := ⟨r + 2, j, none⟩) (by show r + 2 ≠ g; omega) (by show r + 2 ≠ m; omega) (by show r + 2 ≠ b; omega) _, H3.out⟩
              go_wp2_with (fail)
              go_meet
              exact ⟨_, rfl, _, _, _, _, KE⟩
            · obtain ⟨er, her⟩ : ∃ er, Disks.writeE d j (rep q.b) = er := ⟨_, rfl⟩
              have hc := K102.out.ds.write (by unfold maxLen; omega) j _ _ _ (rep q.b) (OA.out.bs (by rw [rep_len]; omega) (rep_len _)) AW.out her rfl
              have H3 := Lib.hid (K102.out.h8.writeNo hE)
              rw [her] at hE
              have n0 : (er == 0) = false := beq_eq_false_iff_ne.2 hE
              clear her
              go_wp2_with (fail)
              with_reducible refine hc.mono ?_
              rintro e w103 ⟨rfl, d3, k3⟩
              have KE : Hid (Ks w w103 r g m b (k + 1) (Disks.writeD d j (rep q.b)) S L O) := Lib.hid ⟨K102.out.ext.kp k3 LIE.out.low.1 LIE.out.low.2.1 LIE.out.low.2.2, K102.out.km.kp k3 (.inr LIE.out.up), d3, H3.out⟩
              clear d3 k3 hc
              go_wp2_with (fail)
              go_meet
              exact ⟨_, rfl, _, _, _, _, KE⟩
          · clear k0
            have t1 : (q.kind == 1) = false := by rw [hk]; rfl
            have t2 : (q.kind == 2) = false := by rw [hk]; rfl
            have t3 : (q.kind == 3) = true := by rw [hk]; rfl
            clear k1 hk
            have k4 := OB101.out.c4
            go_wp2_with (fail)
            have hc := of_any5 w101 q.b
            with_reducible refine hc.mono ?_
            rintro e w102 ⟨pa, rfl, oa⟩
            have OA := Lib.hid oa
            have AW := Lib.hid (Awy.fresh (o := 0) K101.out.ds oa.le)
            have K102 := Lib.hid (K101.out.ext' oa.ext)
            have OB102 := Lib.hid (OB101.out.ext oa.ext)
            clear oa hc k4
            by_cases hE : Disks.writeE d j (rep q.b) = 0
            · have hc := K102.out.ds.write (by unfold maxLen; omega) j _ _ _ (rep q.b) (OA.out.bs (by rw [rep_len]; omega) (rep_len _)) AW.out hE rfl
              go_wp2_with (fail)
              with_reducible refine hc.mono ?_
              rintro e w103 ⟨rfl, d3, k3⟩
              have OB103 := Lib.hid (OB102.out.kp k3 PP.out.1 PP.out.2.1 PP.out.2.2)
              have K103 := Lib.hid (show Ks w w103 r g m b (k + 1) (Disks.writeD d j (rep q.b)) S (L.set j q.b) (O.set j true) → True from fun _ => trivial)
              have KM := Lib.hid (K102.out.km.kp k3 (.inr LIE.out.up))
              have X3 := Lib.hid (K102.out.ext.kp k3 LIE.out.low.1 LIE.out.low.2.1 LIE.out.low.2.2)
              have D3 := Lib.hid d3
              have H3 := Lib.hid (K102.out.h8.writeOk hj8 hE)
              clear d3 k3 hc K103
              have k4 := OB103.out.c4
              have e1 := KM.out.cl (j := j) (by rw [K102.out.h8.ll]; exact hj8)
              have e2 := KM.out.fl j
              have e3 := KM.out.co (j := j) (by rw [K102.out.h8.ol]; exact hj8)
              have e4 := KM.out.fo j
              have KE : Hid (Ks w ((w103.setCell ⟨r + 1, j, none⟩ (.int .u8 (q.b.toNat : Int))).setCell ⟨r + 2, j, none⟩ (.bool true)) r g m b (k + 1) (Disks.writeD d j (rep q.b)) S (L.set j q.b) (O.set j true)) := Lib.hid ⟨Below.setCell (Below.setCell X3.out (p := ⟨r + 1, j, none⟩) (by show w.heap.size ≤ r + 1; omega) _) (p := ⟨r + 2, j, none⟩) (by show w.heap.size ≤ r + 2; omega) _, (KM.out.setL j q.b).setO j true, (D3.out.farC (p := ⟨r + 1, j, none⟩) (by show r + 1 ≠ g; omega) (by show r + 1 ≠ m; omega) (by show r + 1 ≠ b; omega) _).farC (p := ⟨r + 2, j, none⟩) (by show r + 2 ≠ g; omega) (by show r + 2 ≠ m; omega) (by show r + 2 ≠ b; omega) _, H3.out⟩
              go_wp2_with (fail)
              go_meet
              exact ⟨_, rfl, _, _, _, _, KE⟩
            · obtain ⟨er, her⟩ : ∃ er, Disks.writeE d j (rep q.b) = er := ⟨_, rfl⟩
              have hc := K102.out.ds.write (by unfold maxLen; omega) j _ _ _ (rep q.b) (OA.out.bs (by rw [rep_len]; omega) (rep_len _)) AW.out her rfl
              have H3 := Lib.hid (K102.out.h8.writeNo hE)
              rw [her] at hE
              have n0 : (er == 0) = false := beq_eq_false_iff_ne.2 hE
              clear her
              go_wp2_with (fail)
              with_reducible refine hc.mono ?_
              rintro e w103 ⟨rfl, d3, k3⟩
              have KE : Hid (Ks w w103 r g m b (k + 1) (Disks.writeD d j (rep q.b)) S L O) := Lib.hid ⟨K102.out.ext.kp k3 LIE.out.low.1 LIE.out.low.2.1 LIE.out.low.2.2, K102.out.km.kp k3 (.inr LIE.out.up), d3, H3.out⟩
              clear d3 k3 hc
              go_wp2_with (fail)
              go_meet
              exact ⟨_, rfl, _, _, _, _, KE⟩
          · clear k0
            have t1 : (q.kind == 1) = false := by rw [hk]; rfl
            have t2 : (q.kind == 2) = false := by rw [hk]; rfl
            have t3 : (q.kind == 3) = false := by rw [hk]; rfl
            have t4 : (q.kind == 4) = true := by rw [hk]; rfl
            clear k1 hk
            have k4 := OB101.out.c4
            go_wp2_with (fail)
            have hc := of_any5 w101 q.b
            with_reducible refine hc.mono ?_
            rintro e w102 ⟨pa, rfl, oa⟩
            have OA := Lib.hid oa
            have AW := Lib.hid (Awy.fresh (o := 0) K101.out.ds oa.le)
            have K102 := Lib.hid (K101.out.ext' oa.ext)
            have OB102 := Lib.hid (OB101.out.ext oa.ext)
            clear oa hc k4
            by_cases hE : Disks.writeE d j (rep q.b) = 0
            · have hc := K102.out.ds.write (by unfold maxLen; omega) j _ _ _ (rep q.b) (OA.out.bs (by rw [rep_len]; omega) (rep_len _)) AW.out hE rfl
              go_wp2_with (fail)
              with_reducible refine hc.mono ?_
              rintro e w103 ⟨rfl, d3, k3⟩
              have OB103 := Lib.hid (OB102.out.kp k3 PP.out.1 PP.out.2.1 PP.out.2.2)
              have K103 := Lib.hid (show Ks w w103 r g m b (k + 1) (Disks.writeD d j (rep q.b)) S (L.set j q.b) (O.set j true) → True from fun _ => trivial)
              have KM := Lib.hid (K102.out.km.kp k3 (.inr LIE.out.up))
              have X3 := Lib.hid (K102.out.ext.kp k3 LIE.out.low.1 LIE.out.low.2.1 LIE.out.low.2.2)
              have D3 := Lib.hid d3
              have H3 := Lib.hid (K102.out.h8.writeOk hj8 hE)
              clear d3 k3 hc K103
              have k4 := OB103.out.c4
              have e1 := KM.out.cl (j := j) (by rw [K102.out.h8.ll]; exact hj8)
              have e2 := KM.out.fl j
              have e3 := KM.out.co (j := j) (by rw [K102.out.h8.ol]; exact hj8)
              have e4 := KM.out.fo j
              have KE : Hid (Ks w ((w103.setCell ⟨r + 1, j, none⟩ (.int .u8 (q.b.toNat : Int))).setCell ⟨r + 2, j, none⟩ (.bool true)) r g m b (k + 1) (Disks.writeD d j (rep q.b)) S (L.set j q.b) (O.set j true)) := Lib.hid ⟨Below.setCell (Below.setCell X3.out (p := ⟨r + 1, j, none⟩) (by show w.heap.size ≤ r + 1; omega) _) (p := ⟨r + 2, j, none⟩) (by show w.heap.size ≤ r + 2; omega) _, (KM.out.setL j q.b).setO j true, (D3.out.farC (p := ⟨r + 1, j, none⟩) (by show r + 1 ≠ g; omega) (by show r + 1 ≠ m; omega) (by show r + 1 ≠ b; omega) _).farC (p := ⟨r + 2, j, none⟩) (by show r + 2 ≠ g; omega) (by show r + 2 ≠ m; omega) (by show r + 2 ≠ b; omega) _, H3.out⟩
              go_wp2_with (fail)
              go_meet
              exact ⟨_, rfl, _, _, _, _, KE⟩
            · obtain ⟨er, her⟩ : ∃ er, Disks.writeE d j (rep q.b) = er := ⟨_, rfl⟩
              have hc := K102.out.ds.write (by unfold maxLen; omega) j _ _ _ (rep q.b) (OA.out.bs (by rw [rep_len]; omega) (rep_len _)) AW.out her rfl
              have H3 := Lib.hid (K102.out.h8.writeNo hE)
              rw [her] at hE
              have n0 : (er == 0) = false := beq_eq_false_iff_ne.2 hE
              clear her
              go_wp2_with (fail)
              with_reducible refine hc.mono ?_
              rintro e w103 ⟨rfl, d3, k3⟩
              have KE : Hid (Ks w w103 r g m b (k + 1) (Disks.writeD d j (rep q.b)) S L O) := Lib.hid ⟨K102.out.ext.kp k3 LIE.out.low.1 LIE.out.low.2.1 LIE.out.low.2.2, K102.out.km.kp k3 (.inr LIE.out.up), d3, H3.out⟩
              clear d3 k3 hc
              go_wp2_with (fail)
              go_meet
              exact ⟨_, rfl, _, _, _, _, KE⟩
          · clear k0
            have t1 : (q.kind == 1) = false := by rw [hk]; rfl
            have t2 : (q.kind == 2) = false := by rw [hk]; rfl
            have t3 : (q.kind == 3) = false := by rw [hk]; rfl
            have t4 : (q.kind == 4) = false := by rw [hk]; rfl
            have t5 : (q.kind == 5) = true := by rw [hk]; rfl
            clear k1 hk
            by_cases hE : Disks.flushE d = 0
            · have hc := K101.out.ds.flush hE rfl
              go_wp2_with (fail)
              with_reducible refine hc.mono ?_
              rintro e w103 ⟨rfl, d3, k3⟩
              have KM := Lib.hid (K101.out.km.kp k3 (.inr LIE.out.up))
              have X3 := Lib.hid (K101.out.ext.kp k3 LIE.out.low.1 LIE.out.low.2.1 LIE.out.low.2.2)
              have D3 := Lib.hid d3
              have H3 := Lib.hid (K101.out.h8.flushOk hE)
              clear d3 k3 hc
              have l1 := Lib.hid (row_load KM.out.l K101.out.h8.ll)
              obtain ⟨w104, w105, r4, r5, km5, g4, g5⟩ := KM.out.lay K101.out.h8.sl K101.out.h8.ll K101.out.h8.ol
              have R4 := Lib.hid r4
              have R5 := Lib.hid r5
              have KE : Hid (Ks w w105 r g m b (k + 1) (Disks.flushD d) L L Disks.shut8) := Lib.hid ⟨(X3.out.ofGrown g4 (fun k e => by injection e with e; omega)).ofGrown g5 (fun k e => by injection e with e; omega), km5, ((D3.out.turn g4 (by omega)).turn g5 (by omega)).mono (by omega), H3.out⟩
              clear r4 r5 km5 g4 g5
              go_wp2_with (first
                | ((with_reducible refine opIs ⟨some 63, .load 27 (.tmp 6), _, _, _, _⟩ ?_); refine wpList_loadR rfl 27 (.tmp 6) rfl rfl l1.out ?_)
                | ((with_reducible refine opIs ⟨none, .store 27 (.tmp 5) (.tmp 63), _, _, _, _⟩ ?_); refine wpList_storeR rfl 27 (.tmp 5) (.tmp 63) rfl rfl rfl R4.out ?_)
                | ((with_reducible refine opIs ⟨none, .store 28 (.tmp 7) (.tmp 64), _, _, _, _⟩ ?_); refine wpList_storeR rfl 28 (.tmp 7) (.tmp 64) rfl rfl rfl R5.out ?_))
              go_meet
              exact ⟨_, rfl, _, _, _, _, KE⟩
            · obtain ⟨er, her⟩ : ∃ er, Disks.flushE d = er := ⟨_, rfl⟩
              have hc := K101.out.ds.flush her rfl
              have H3 := Lib.hid (K101.out.h8.flushNo hE)
              rw [her] at hE
              have n0 : (er == 0) = false := beq_eq_false_iff_ne.2 hE
              clear her
              go_wp2_with (fail)
              with_reducible refine hc.mono ?_
              rintro e w103 ⟨rfl, d3, k3⟩
              have KE : Hid (Ks w w103 r g m b (k + 1) (Disks.flushD d) S L O) := Lib.hid ⟨K101.out.ext.kp k3 LIE.out.low.1 LIE.out.low.2.1 LIE.out.low.2.2, K101.out.km.kp k3 (.inr LIE.out.up), d3.mono (by omega), H3.out⟩
              clear d3 k3 hc
              go_wp2_with (fail)
              go_meet
              exact ⟨_, rfl, _, _, _, _, KE⟩
          · clear k0
            have t1 : (q.kind == 1) = false := by rw [hk]; rfl
            have t2 : (q.kind == 2) = false := by rw [hk]; rfl
            have t3 : (q.kind == 3) = false := by rw [hk]; rfl
            have t4 : (q.kind == 4) = false := by rw [hk]; rfl
            have t5 : (q.kind == 5) = false := by rw [hk]; rfl
            have t6 : (q.kind == 6) = true := by rw [hk]; rfl
            clear k1 hk
            by_cases hE : Disks.flushE d = 0
            · have hc := K101.out.ds.flush hE rfl
              go_wp2_with (fail)
              with_reducible refine hc.mono ?_
              rintro e w103 ⟨rfl, d3, k3⟩
              have KM := Lib.hid (K101.out.km.kp k3 (.inr LIE.out.up))
              have X3 := Lib.hid (K101.out.ext.kp k3 LIE.out.low.1 LIE.out.low.2.1 LIE.out.low.2.2)
              have D3 := Lib.hid d3
              have H3 := Lib.hid (K101.out.h8.flushOk hE)
              clear d3 k3 hc
              have l1 := Lib.hid (row_load KM.out.l K101.out.h8.ll)
              obtain ⟨w104, w105, r4, r5, km5, g4, g5⟩ := KM.out.lay K101.out.h8.sl K101.out.h8.ll K101.out.h8.ol
              have R4 := Lib.hid r4
              have R5 := Lib.hid r5
              have KE : Hid (Ks w w105 r g m b (k + 1) (Disks.flushD d) L L Disks.shut8) := Lib.hid ⟨(X3.out.ofGrown g4 (fun k e => by injection e with e; omega)).ofGrown g5 (fun k e => by injection e with e; omega), km5, ((D3.out.turn g4 (by omega)).turn g5 (by omega)).mono (by omega), H3.out⟩
              clear r4 r5 km5 g4 g5
              go_wp2_with (first
                | ((with_reducible refine opIs ⟨some 63, .load 27 (.tmp 6), _, _, _, _⟩ ?_); refine wpList_loadR rfl 27 (.tmp 6) rfl rfl l1.out ?_)
                | ((with_reducible refine opIs ⟨none, .store 27 (.tmp 5) (.tmp 63), _, _, _, _⟩ ?_); refine wpList_storeR rfl 27 (.tmp 5) (.tmp 63) rfl rfl rfl R4.out ?_)
                | ((with_reducible refine opIs ⟨none, .store 28 (.tmp 7) (.tmp 64), _, _, _, _⟩ ?_); refine wpList_storeR rfl 28 (.tmp 7) (.tmp 64) rfl rfl rfl R5.out ?_))
              go_meet
              exact ⟨_, rfl, _, _, _, _, KE⟩
            · obtain ⟨er, her⟩ : ∃ er, Disks.flushE d = er := ⟨_, rfl⟩
              have hc := K101.out.ds.flush her rfl
              have H3 := Lib.hid (K101.out.h8.flushNo hE)
              rw [her] at hE
              have n0 : (er == 0) = false := beq_eq_false_iff_ne.2 hE
              clear her
              go_wp2_with (fail)
              with_reducible refine hc.mono ?_
              rintro e w103 ⟨rfl, d3, k3⟩
              have KE : Hid (Ks w w103 r g m b (k + 1) (Disks.flushD d) S L O) := Lib.hid ⟨K101.out.ext.kp k3 LIE.out.low.1 LIE.out.low.2.1 LIE.out.low.2.2, K101.out.km.kp k3 (.inr LIE.out.up), d3.mono (by omega), H3.out⟩
              clear d3 k3 hc
              go_wp2_with (fail)
              go_meet
              exact ⟨_, rfl, _, _, _, _, KE⟩
          · clear k0
            have t1 : (q.kind == 1) = false := by rw [hk]; rfl
            have t2 : (q.kind == 2) = false := by rw [hk]; rfl
            have t3 : (q.kind == 3) = false := by rw [hk]; rfl
            have t4 : (q.kind == 4) = false := by rw [hk]; rfl
            have t5 : (q.kind == 5) = false := by rw [hk]; rfl
            have t6 : (q.kind == 6) = false := by rw [hk]; rfl
            have t9 : (q.kind == 9) = true := by rw [hk]; rfl
            clear k1 hk
            have k3 := OB101.out.c3
            have hc := K101.out.ds.arm q.n (wf_top HB0.out.2.n) rfl
            go_wp2_with (fail)
            with_reducible refine hc.mono ?_
            rintro e w103 ⟨rfl, d3, k3'⟩
            have KE : Hid (Ks w w103 r g m b (k + 1) (Disks.armD d q.n) S L O) := Lib.hid ⟨K101.out.ext.kp k3' LIE.out.low.1 LIE.out.low.2.1 LIE.out.low.2.2, K101.out.km.kp k3' (.inr LIE.out.up), d3.mono (by omega), K101.out.h8.arm _⟩
            clear d3 k3' hc k3
            go_wp2_with (fail)
            go_meet
            exact ⟨_, rfl, _, _, _, _, KE⟩
          · clear k0
            have t1 : (q.kind == 1) = false := by rw [hk]; rfl
            have t2 : (q.kind == 2) = false := by rw [hk]; rfl
            have t3 : (q.kind == 3) = false := by rw [hk]; rfl
            have t4 : (q.kind == 4) = false := by rw [hk]; rfl
            have t5 : (q.kind == 5) = false := by rw [hk]; rfl
            have t6 : (q.kind == 6) = false := by rw [hk]; rfl
            have t9 : (q.kind == 9) = false := by rw [hk]; rfl
            have t10 : (q.kind == 10) = true := by rw [hk]; rfl
            clear k1 hk
            have k5 := OB101.out.c5
            have hc := K101.out.ds.crash' q.A q.m q.c q.l (HB0.out.1.ext K101.out.ext) (Bls.awy HB0.out.1 LIE.out.low) rfl
            have m1 := HB0.out.1.le
            have m2 := HB0.out.1.max
            have m3 := HB0.out.1.len
            go_wp2_with (fail)
            with_reducible refine hc.mono ?_
            rintro e w103 ⟨rfl, d3, k3⟩
            have OB103 := Lib.hid (OB101.out.kp k3 PP.out.1 PP.out.2.1 PP.out.2.2)
            have KM := Lib.hid (K101.out.km.kp k3 (.inr LIE.out.up))
            have X3 := Lib.hid (K101.out.ext.kp k3 LIE.out.low.1 LIE.out.low.2.1 LIE.out.low.2.2)
            have D3 := Lib.hid (d3.mono (Nat.le_succ k))
            have HC := Lib.hid (K101.out.h8.crash q.l)
            have H8 := Lib.hid K101.out.h8
            clear d3 k3 hc k5 K101 K100
            go_wp2_with (fail)
            have ST : Hid (Km w103 r (Disks.mix d S L O q.l 0) L O ∧ Ds w103 g m b (k + 1) (Disks.crashD d q.l) ∧ Ext w w103 ∧ Ob5 w103 p q) := Lib.hid ⟨by rw [Disks.mix_zero H8.out]; exact KM.out, D3.out, X3.out, OB103.out⟩
            clear KM D3 X3 OB103 OB101
            go_loopw [11, 12] (fun s11 s12 wr => ∃ t : Nat, t ≤ 8 ∧ s12 = .int .i64 t ∧ s11 = .int .i64 ((Disks.upto d.cac t).length : Int) ∧ Hid (Km wr r (Disks.mix d S L O q.l t) L O ∧ Ds wr g m b (k + 1) (Disks.crashD d q.l) ∧ Ext w wr ∧ Ob5 wr p q)) (fun _ i _ => 8 - (intOf i).toNat)
            case atStart => exact ⟨0, by omega, rfl, rfl, ST⟩
            case round =>
              obtain ⟨t, ht, rfl, rfl, HR⟩ := hrel
              obtain ⟨w120, hw⟩ : ∃ w120, w120 = wr := ⟨_, rfl⟩
              subst hw
              clear ST
              by_cases ht8 : t < 8
              · have j1 : (t : Int) < 8 := by omega
                have hcnt := H8.out.count ht8
                have e3 := HR.out.1.co (j := t) (by rw [H8.out.ol]; exact ht8)
                have hrd := Lib.hid (HC.out.reads rfl ht8)
                have hget : Gf.get (Disks.mix d S L O q.l (t + 1)) t = Gf.get (Disks.mix d S L O q.l 8) t := by
                  rw [Disks.mix_get _ _ _ _ _ _ ht8, Disks.mix_get _ _ _ _ _ _ ht8]
                  by_cases z : Disks.stays d O q.l t = true
                  · rw [if_pos ⟨by omega, z⟩, if_pos ⟨by omega, z⟩]
                  · rw [if_neg (fun y => z y.2), if_neg (fun y => z y.2)]
                rw [← hget] at hrd
                clear hget
                obtain ⟨P0, hP0⟩ : ∃ P0, (Disks.upto d.cac t).length = P0 := ⟨_, rfl⟩
                have hP8 : P0 ≤ 8 := by rw [← hP0]; exact Nat.le_trans (Disks.upto_len _ _) ht
                by_cases hO : Disks.kept O t = true
                · rw [hO] at e3
                  rw [if_pos hO] at hcnt
                  by_cases hk2 : P0 < q.m ∧ Disks.kept q.l P0 = true
                  · obtain ⟨l1, l2⟩ := hk2
                    have hst : Disks.stays d O q.l t = true := by unfold Disks.stays; rw [hO, hP0, l2]; rfl
                    obtain ⟨z2, o2, hz2, hc2⟩ := (HB0.out.1.ext HR.out.2.2.1).rd P0 l1
                    have l3 : bget q.l P0 = true := l2
                    rw [l3] at hc2
                    have k5 := HR.out.2.2.2.c5
                    rw [hz2] at k5
                    clear hz2
                    have e1 := HR.out.1.cl (j := t) (by rw [H8.out.ll]; exact ht8)
                    have e5 := HR.out.1.cs (j := t) (by rw [Disks.mix_len]; exact ht8)
                    have e6 := HR.out.1.fs t
                    have HN : Hid (Km (w120.setCell ⟨r, t, none⟩ (.int .u8 ((Gf.get L t).toNat : Int))) r (Disks.mix d S L O q.l (t + 1)) L O ∧ Ds (w120.setCell ⟨r, t, none⟩ (.int .u8 ((Gf.get L t).toNat : Int))) g m b (k + 1) (Disks.crashD d q.l) ∧ Ext w (w120.setCell ⟨r, t, none⟩ (.int .u8 ((Gf.get L t).toNat : Int))) ∧ Ob5 (w120.setCell ⟨r, t, none⟩ (.int .u8 ((Gf.get L t).toNat : Int))) p q) := Lib.hid ⟨by rw [← Disks.mix_yes ht8 hst]; exact HR.out.1.setS t _, HR.out.2.1.farC (p := ⟨r, t, none⟩) (by show r ≠ g; omega) (by show r ≠ m; omega) (by show r ≠ b; omega) _, Below.setCell HR.out.2.2.1 (p := ⟨r, t, none⟩) (by show w.heap.size ≤ r; omega) _, HR.out.2.2.2.same (heap_setCell_other _ ⟨r, t, none⟩ p _ (by show p ≠ r; have := PR.out; omega))⟩
                    have l4 : (P0 : Int) < q.m := by omega
                    have hst := u8_store w120 r t (Gf.get L t) e5 e6
                    obtain ⟨w121, hw1⟩ : ∃ w121, w120.setCell ⟨r, t, none⟩ (.int .u8 ((Gf.get L t).toNat : Int)) = w121 := ⟨_, rfl⟩
                    rw [hw1] at HN hst
                    have HST := Lib.hid hst
                    clear hw1 hst e5 e6
                    have e7 := HN.out.1.cs (j := t) (by rw [Disks.mix_len]; exact ht8)
                    have hc := reads_any _ g m b _ _ HN.out.2.1 t _ hrd.out
                    rw [hP0]
                    clear l1 l2 l3 hO
                    go_wp2_with (first | ((with_reducible refine opIs ⟨none, .store 5 (.tmp 101) (.tmp 100), _, _, _, _⟩ ?_); refine wpList_storeR rfl 5 (.tmp 101) (.tmp 100) rfl rfl rfl HST.out ?_))
                    with_reducible refine hc.mono ?_
                    rintro e w122 ⟨rfl, x2⟩
                    have HN2 := Lib.hid (show Km w122 r (Disks.mix d S L O q.l (t + 1)) L O ∧ Ds w122 g m b (k + 1) (Disks.crashD d q.l) ∧ Ext w w122 ∧ Ob5 w122 p q from ⟨HN.out.1.ext x2, HN.out.2.1.ext x2, HN.out.2.2.1.trans x2, HN.out.2.2.2.ext x2⟩)
                    clear x2 hc e7
                    go_wp2_with (fail)
                    exact ⟨⟨t + 1, by omega, by go_num, by rw [hcnt, hP0]; go_num, HN2⟩, by simp [intOf]; omega⟩
                  · have hst : Disks.stays d O q.l t = false := by
                      unfold Disks.stays
                      rw [hO, hP0]
                      by_cases z : P0 < q.m
                      · have : Disks.kept q.l P0 = false := by
                          by_cases y : Disks.kept q.l P0 = true
                          · exact absurd ⟨z, y⟩ hk2
                          · simpa using y
                        rw [this]; rfl
                      · have : Disks.kept q.l P0 = false := by unfold Disks.kept; rw [List.getD_eq_getElem?_getD, List.getElem?_eq_none (by omega)]; rfl
                        rw [this]; rfl
                    by_cases l1 : P0 < q.m
                    · obtain ⟨z2, o2, hz2, hc2⟩ := (HB0.out.1.ext HR.out.2.2.1).rd P0 l1
                      have l3 : bget q.l P0 = false := by
                        by_cases y : bget q.l P0 = true
                        · exact absurd ⟨l1, y⟩ hk2
                        · simpa using y
                      rw [l3] at hc2
                      have k5 := HR.out.2.2.2.c5
                      rw [hz2] at k5
                      clear hz2
                      have l4 : (P0 : Int) < q.m := by omega
                      have HN : Hid (Km w120 r (Disks.mix d S L O q.l (t + 1)) L O) := Lib.hid (by rw [← Disks.mix_no hst]; exact HR.out.1)
                      have e7 := HN.out.cs (j := t) (by rw [Disks.mix_len]; exact ht8)
                      have hc := reads_any w120 g m b _ _ HR.out.2.1 t _ hrd.out
                      rw [hP0]
                      clear l1 l3 hO hst hk2
                      go_wp2_with (fail)
                      with_reducible refine hc.mono ?_
                      rintro e w122 ⟨rfl, x2⟩
                      have HN2 := Lib.hid (show Km w122 r (Disks.mix d S L O q.l (t + 1)) L O ∧ Ds w122 g m b (k + 1) (Disks.crashD d q.l) ∧ Ext w w122 ∧ Ob5 w122 p q from ⟨HN.out.ext x2, HR.out.2.1.ext x2, HR.out.2.2.1.trans x2, HR.out.2.2.2.ext x2⟩)
                      clear x2 hc e7
                      go_wp2_with (fail)
                      exact ⟨⟨t + 1, by omega, by go_num, by rw [hcnt, hP0]; go_num, HN2⟩, by simp [intOf]; omega⟩
                    · have l4 : ¬ (P0 : Int) < q.m := by omega
                      have k5 := HR.out.2.2.2.c5
                      have HN : Hid (Km w120 r (Disks.mix d S L O q.l (t + 1)) L O) := Lib.hid (by rw [← Disks.mix_no hst]; exact HR.out.1)
                      have e7 := HN.out.cs (j := t) (by rw [Disks.mix_len]; exact ht8)
                      have hc := reads_any w120 g m b _ _ HR.out.2.1 t _ hrd.out
                      rw [hP0]
                      clear l1 hO hst hk2
                      go_wp2_with (fail)
                      with_reducible refine hc.mono ?_
                      rintro e w122 ⟨rfl, x2⟩
                      have HN2 := Lib.hid (show Km w122 r (Disks.mix d S L O q.l (t + 1)) L O ∧ Ds w122 g m b (k + 1) (Disks.crashD d q.l) ∧ Ext w w122 ∧ Ob5 w122 p q from ⟨HN.out.ext x2, HR.out.2.1.ext x2, HR.out.2.2.1.trans x2, HR.out.2.2.2.ext x2⟩)
                      clear x2 hc e7
                      go_wp2_with (fail)
                      exact ⟨⟨t + 1, by omega, by go_num, by rw [hcnt, hP0]; go_num, HN2⟩, by simp [intOf]; omega⟩
                · have hO' : Disks.kept O t = false := by simpa using hO
                  rw [hO'] at e3
                  rw [if_neg hO] at hcnt
                  have hst : Disks.stays d O q.l t = false := by unfold Disks.stays; rw [hO']; rfl
                  have HN : Hid (Km w120 r (Disks.mix d S L O q.l (t + 1)) L O) := Lib.hid (by rw [← Disks.mix_no hst]; exact HR.out.1)
                  have e7 := HN.out.cs (j := t) (by rw [Disks.mix_len]; exact ht8)
                  have hc := reads_any w120 g m b _ _ HR.out.2.1 t _ hrd.out
                  rw [hP0]
                  clear hO hO' hst
                  go_wp2_with (fail)
                  with_reducible refine hc.mono ?_
                  rintro e w122 ⟨rfl, x2⟩
                  have HN2 := Lib.hid (show Km w122 r (Disks.mix d S L O q.l (t + 1)) L O ∧ Ds w122 g m b (k + 1) (Disks.crashD d q.l) ∧ Ext w w122 ∧ Ob5 w122 p q from ⟨HN.out.ext x2, HR.out.2.1.ext x2, HR.out.2.2.1.trans x2, HR.out.2.2.2.ext x2⟩)
                  clear x2 hc e7
                  go_wp2_with (fail)
                  exact ⟨⟨t + 1, by omega, by go_num, by rw [hcnt, hP0]; rfl, HN2⟩, by simp [intOf]; omega⟩
              · have et : t = 8 := by omega
                subst et
                obtain ⟨M, hM⟩ : ∃ M, Disks.mix d S L O q.l 8 = M := ⟨_, rfl⟩
                have hM8 : M.length = 8 := by rw [← hM]; exact Disks.mix_len ..
                rw [hM] at HR HC
                have l1 := Lib.hid (row_load HR.out.1.s hM8)
                obtain ⟨w104, w105, r4, r5, km5, g4, g5⟩ := HR.out.1.lay' hM8 H8.out.ll H8.out.ol
                have R4 := Lib.hid r4
                have R5 := Lib.hid r5
                have KE : Hid (Ks w w105 r g m b (k + 1) (Disks.crashD d q.l) M M Disks.shut8) := Lib.hid ⟨(HR.out.2.2.1.ofGrown g4 (fun k e => by injection e with e; omega)).ofGrown g5 (fun k e => by injection e with e; omega), km5, (HR.out.2.1.turn g4 (by omega)).turn g5 (by omega), HC.out⟩
                clear r4 r5 km5 g4 g5 hM
                go_wp2_with (first
                  | ((with_reducible refine opIs ⟨some 111, .load 27 (.tmp 5), _, _, _, _⟩ ?_); refine wpList_loadR rfl 27 (.tmp 5) rfl rfl l1.out ?_)
                  | ((with_reducible refine opIs ⟨none, .store 27 (.tmp 6) (.tmp 111), _, _, _, _⟩ ?_); refine wpList_storeR rfl 27 (.tmp 6) (.tmp 111) rfl rfl rfl R4.out ?_)
                  | ((with_reducible refine opIs ⟨none, .store 28 (.tmp 7) (.tmp 112), _, _, _, _⟩ ?_); refine wpList_storeR rfl 28 (.tmp 7) (.tmp 112) rfl rfl rfl R5.out ?_))
                go_meet
                exact ⟨_, rfl, _, _, _, _, KE⟩
          · clear k0
            have t1 : (q.kind == 1) = false := by rw [hk]; rfl
            have t2 : (q.kind == 2) = false := by rw [hk]; rfl
            have t3 : (q.kind == 3) = false := by rw [hk]; rfl
            have t4 : (q.kind == 4) = false := by rw [hk]; rfl
            have t5 : (q.kind == 5) = false := by rw [hk]; rfl
            have t6 : (q.kind == 6) = false := by rw [hk]; rfl
            have t9 : (q.kind == 9) = false := by rw [hk]; rfl
            have t10 : (q.kind == 10) = false := by rw [hk]; rfl
            have t11 : (q.kind == 11) = true := by rw [hk]; rfl
            clear k1 hk
            have k5 := OB101.out.c5
            have hc := K101.out.ds.crash' q.A q.m q.c q.l (HB0.out.1.ext K101.out.ext) (Bls.awy HB0.out.1 LIE.out.low) rfl
            have m1 := HB0.out.1.le
            have m2 := HB0.out.1.max
            have m3 := HB0.out.1.len
            go_wp2_with (fail)
            with_reducible refine hc.mono ?_
            rintro e w103 ⟨rfl, d3, k3⟩
            have OB103 := Lib.hid (OB101.out.kp k3 PP.out.1 PP.out.2.1 PP.out.2.2)
            have KM := Lib.hid (K101.out.km.kp k3 (.inr LIE.out.up))
            have X3 := Lib.hid (K101.out.ext.kp k3 LIE.out.low.1 LIE.out.low.2.1 LIE.out.low.2.2)
            have D3 := Lib.hid (d3.mono (Nat.le_succ k))
            have HC := Lib.hid (K101.out.h8.crash q.l)
            have H8 := Lib.hid K101.out.h8
            clear d3 k3 hc k5 K101 K100
            go_wp2_with (fail)
            have ST : Hid (Km w103 r (Disks.mix d S L O q.l 0) L O ∧ Ds w103 g m b (k + 1) (Disks.crashD d q.l) ∧ Ext w w103 ∧ Ob5 w103 p q) := Lib.hid ⟨by rw [Disks.mix_zero H8.out]; exact KM.out, D3.out, X3.out, OB103.out⟩
            clear KM D3 X3 OB103 OB101
            go_loopw [11, 12] (fun s11 s12 wr => ∃ t : Nat, t ≤ 8 ∧ s12 = .int .i64 t ∧ s11 = .int .i64 ((Disks.upto d.cac t).length : Int) ∧ Hid (Km wr r (Disks.mix d S L O q.l t) L O ∧ Ds wr g m b (k + 1) (Disks.crashD d q.l) ∧ Ext w wr ∧ Ob5 wr p q)) (fun _ i _ => 8 - (intOf i).toNat)
            case atStart => exact ⟨0, by omega, rfl, rfl, ST⟩
            case round =>
              obtain ⟨t, ht, rfl, rfl, HR⟩ := hrel
              obtain ⟨w120, hw⟩ : ∃ w120, w120 = wr := ⟨_, rfl⟩
              subst hw
              clear ST
              by_cases ht8 : t < 8
              · have j1 : (t : Int) < 8 := by omega
                have hcnt := H8.out.count ht8
                have e3 := HR.out.1.co (j := t) (by rw [H8.out.ol]; exact ht8)
                have hrd := Lib.hid (HC.out.reads rfl ht8)
                have hget : Gf.get (Disks.mix d S L O q.l (t + 1)) t = Gf.get (Disks.mix d S L O q.l 8) t := by
                  rw [Disks.mix_get _ _ _ _ _ _ ht8, Disks.mix_get _ _ _ _ _ _ ht8]
                  by_cases z : Disks.stays d O q.l t = true
                  · rw [if_pos ⟨by omega, z⟩, if_pos ⟨by omega, z⟩]
                  · rw [if_neg (fun y => z y.2), if_neg (fun y => z y.2)]
                rw [← hget] at hrd
                clear hget
                obtain ⟨P0, hP0⟩ : ∃ P0, (Disks.upto d.cac t).length = P0 := ⟨_, rfl⟩
                have hP8 : P0 ≤ 8 := by rw [← hP0]; exact Nat.le_trans (Disks.upto_len _ _) ht
                by_cases hO : Disks.kept O t = true
                · rw [hO] at e3
                  rw [if_pos hO] at hcnt
                  by_cases hk2 : P0 < q.m ∧ Disks.kept q.l P0 = true
                  · obtain ⟨l1, l2⟩ := hk2
                    have hst : Disks.stays d O q.l t = true := by unfold Disks.stays; rw [hO, hP0, l2]; rfl
                    obtain ⟨z2, o2, hz2, hc2⟩ := (HB0.out.1.ext HR.out.2.2.1).rd P0 l1
                    have l3 : bget q.l P0 = true := l2
                    rw [l3] at hc2
                    have k5 := HR.out.2.2.2.c5
                    rw [hz2] at k5
                    clear hz2
                    have e1 := HR.out.1.cl (j := t) (by rw [H8.out.ll]; exact ht8)
                    have e5 := HR.out.1.cs (j := t) (by rw [Disks.mix_len]; exact ht8)
                    have e6 := HR.out.1.fs t
                    have HN : Hid (Km (w120.setCell ⟨r, t, none⟩ (.int .u8 ((Gf.get L t).toNat : Int))) r (Disks.mix d S L O q.l (t + 1)) L O ∧ Ds (w120.setCell ⟨r, t, none⟩ (.int .u8 ((Gf.get L t).toNat : Int))) g m b (k + 1) (Disks.crashD d q.l) ∧ Ext w (w120.setCell ⟨r, t, none⟩ (.int .u8 ((Gf.get L t).toNat : Int))) ∧ Ob5 (w120.setCell ⟨r, t, none⟩ (.int .u8 ((Gf.get L t).toNat : Int))) p q) := Lib.hid ⟨by rw [← Disks.mix_yes ht8 hst]; exact HR.out.1.setS t _, HR.out.2.1.farC (p := ⟨r, t, none⟩) (by show r ≠ g; omega) (by show r ≠ m; omega) (by show r ≠ b; omega) _, Below.setCell HR.out.2.2.1 (p := ⟨r, t, none⟩) (by show w.heap.size ≤ r; omega) _, HR.out.2.2.2.same (heap_setCell_other _ ⟨r, t, none⟩ p _ (by show p ≠ r; have := PR.out; omega))⟩
                    have l4 : (P0 : Int) < q.m := by omega
                    have hst := u8_store w120 r t (Gf.get L t) e5 e6
                    obtain ⟨w121, hw1⟩ : ∃ w121, w120.setCell ⟨r, t, none⟩ (.int .u8 ((Gf.get L t).toNat : Int)) = w121 := ⟨_, rfl⟩
                    rw [hw1] at HN hst
                    have HST := Lib.hid hst
                    clear hw1 hst e5 e6
                    have e7 := HN.out.1.cs (j := t) (by rw [Disks.mix_len]; exact ht8)
                    have hc := reads_any _ g m b _ _ HN.out.2.1 t _ hrd.out
                    rw [hP0]
                    clear l1 l2 l3 hO
                    go_wp2_with (first | ((with_reducible refine opIs ⟨none, .store 5 (.tmp 101) (.tmp 100), _, _, _, _⟩ ?_); refine wpList_storeR rfl 5 (.tmp 101) (.tmp 100) rfl rfl rfl HST.out ?_))
                    with_reducible refine hc.mono ?_
                    rintro e w122 ⟨rfl, x2⟩
                    have HN2 := Lib.hid (show Km w122 r (Disks.mix d S L O q.l (t + 1)) L O ∧ Ds w122 g m b (k + 1) (Disks.crashD d q.l) ∧ Ext w w122 ∧ Ob5 w122 p q from ⟨HN.out.1.ext x2, HN.out.2.1.ext x2, HN.out.2.2.1.trans x2, HN.out.2.2.2.ext x2⟩)
                    clear x2 hc e7
                    go_wp2_with (fail)
                    exact ⟨⟨t + 1, by omega, by go_num, by rw [hcnt, hP0]; go_num, HN2⟩, by simp [intOf]; omega⟩
                  · have hst : Disks.stays d O q.l t = false := by
                      unfold Disks.stays
                      rw [hO, hP0]
                      by_cases z : P0 < q.m
                      · have : Disks.kept q.l P0 = false := by
                          by_cases y : Disks.kept q.l P0 = true
                          · exact absurd ⟨z, y⟩ hk2
                          · simpa using y
                        rw [this]; rfl
                      · have : Disks.kept q.l P0 = false := by unfold Disks.kept; rw [List.getD_eq_getElem?_getD, List.getElem?_eq_none (by omega)]; rfl
                        rw [this]; rfl
                    by_cases l1 : P0 < q.m
                    · obtain ⟨z2, o2, hz2, hc2⟩ := (HB0.out.1.ext HR.out.2.2.1).rd P0 l1
                      have l3 : bget q.l P0 = false := by
                        by_cases y : bget q.l P0 = true
                        · exact absurd ⟨l1, y⟩ hk2
                        · simpa using y
                      rw [l3] at hc2
                      have k5 := HR.out.2.2.2.c5
                      rw [hz2] at k5
                      clear hz2
                      have l4 : (P0 : Int) < q.m := by omega
                      have HN : Hid (Km w120 r (Disks.mix d S L O q.l (t + 1)) L O) := Lib.hid (by rw [← Disks.mix_no hst]; exact HR.out.1)
                      have e7 := HN.out.cs (j := t) (by rw [Disks.mix_len]; exact ht8)
                      have hc := reads_any w120 g m b _ _ HR.out.2.1 t _ hrd.out
                      rw [hP0]
                      clear l1 l3 hO hst hk2
                      go_wp2_with (fail)
                      with_reducible refine hc.mono ?_
                      rintro e w122 ⟨rfl, x2⟩
                      have HN2 := Lib.hid (show Km w122 r (Disks.mix d S L O q.l (t + 1)) L O ∧ Ds w122 g m b (k + 1) (Disks.crashD d q.l) ∧ Ext w w122 ∧ Ob5 w122 p q from ⟨HN.out.ext x2, HR.out.2.1.ext x2, HR.out.2.2.1.trans x2, HR.out.2.2.2.ext x2⟩)
                      clear x2 hc e7
                      go_wp2_with (fail)
                      exact ⟨⟨t + 1, by omega, by go_num, by rw [hcnt, hP0]; go_num, HN2⟩, by simp [intOf]; omega⟩
                    · have l4 : ¬ (P0 : Int) < q.m := by omega
                      have k5 := HR.out.2.2.2.c5
                      have HN : Hid (Km w120 r (Disks.mix d S L O q.l (t + 1)) L O) := Lib.hid (by rw [← Disks.mix_no hst]; exact HR.out.1)
                      have e7 := HN.out.cs (j := t) (by rw [Disks.mix_len]; exact ht8)
                      have hc := reads_any w120 g m b _ _ HR.out.2.1 t _ hrd.out
                      rw [hP0]
                      clear l1 hO hst hk2
                      go_wp2_with (fail)
                      with_reducible refine hc.mono ?_
                      rintro e w122 ⟨rfl, x2⟩
                      have HN2 := Lib.hid (show Km w122 r (Disks.mix d S L O q.l (t + 1)) L O ∧ Ds w122 g m b (k + 1) (Disks.crashD d q.l) ∧ Ext w w122 ∧ Ob5 w122 p q from ⟨HN.out.ext x2, HR.out.2.1.ext x2, HR.out.2.2.1.trans x2, HR.out.2.2.2.ext x2⟩)
                      clear x2 hc e7
                      go_wp2_with (fail)
                      exact ⟨⟨t + 1, by omega, by go_num, by rw [hcnt, hP0]; go_num, HN2⟩, by simp [intOf]; omega⟩
                · have hO' : Disks.kept O t = false := by simpa using hO
                  rw [hO'] at e3
                  rw [if_neg hO] at hcnt
                  have hst : Disks.stays d O q.l t = false := by unfold Disks.stays; rw [hO']; rfl
                  have HN : Hid (Km w120 r (Disks.mix d S L O q.l (t + 1)) L O) := Lib.hid (by rw [← Disks.mix_no hst]; exact HR.out.1)
                  have e7 := HN.out.cs (j := t) (by rw [Disks.mix_len]; exact ht8)
                  have hc := reads_any w120 g m b _ _ HR.out.2.1 t _ hrd.out
                  rw [hP0]
                  clear hO hO' hst
                  go_wp2_with (fail)
                  with_reducible refine hc.mono ?_
                  rintro e w122 ⟨rfl, x2⟩
                  have HN2 := Lib.hid (show Km w122 r (Disks.mix d S L O q.l (t + 1)) L O ∧ Ds w122 g m b (k + 1) (Disks.crashD d q.l) ∧ Ext w w122 ∧ Ob5 w122 p q from ⟨HN.out.ext x2, HR.out.2.1.ext x2, HR.out.2.2.1.trans x2, HR.out.2.2.2.ext x2⟩)
                  clear x2 hc e7
                  go_wp2_with (fail)
                  exact ⟨⟨t + 1, by omega, by go_num, by rw [hcnt, hP0]; rfl, HN2⟩, by simp [intOf]; omega⟩
              · have et : t = 8 := by omega
                subst et
                obtain ⟨M, hM⟩ : ∃ M, Disks.mix d S L O q.l 8 = M := ⟨_, rfl⟩
                have hM8 : M.length = 8 := by rw [← hM]; exact Disks.mix_len ..
                rw [hM] at HR HC
                have l1 := Lib.hid (row_load HR.out.1.s hM8)
                obtain ⟨w104, w105, r4, r5, km5, g4, g5⟩ := HR.out.1.lay' hM8 H8.out.ll H8.out.ol
                have R4 := Lib.hid r4
                have R5 := Lib.hid r5
                have KE : Hid (Ks w w105 r g m b (k + 1) (Disks.crashD d q.l) M M Disks.shut8) := Lib.hid ⟨(HR.out.2.2.1.ofGrown g4 (fun k e => by injection e with e; omega)).ofGrown g5 (fun k e => by injection e with e; omega), km5, (HR.out.2.1.turn g4 (by omega)).turn g5 (by omega), HC.out⟩
                clear r4 r5 km5 g4 g5 hM
                go_wp2_with (first
                  | ((with_reducible refine opIs ⟨some 111, .load 27 (.tmp 5), _, _, _, _⟩ ?_); refine wpList_loadR rfl 27 (.tmp 5) rfl rfl l1.out ?_)
                  | ((with_reducible refine opIs ⟨none, .store 27 (.tmp 6) (.tmp 111), _, _, _, _⟩ ?_); refine wpList_storeR rfl 27 (.tmp 6) (.tmp 111) rfl rfl rfl R4.out ?_)
                  | ((with_reducible refine opIs ⟨none, .store 28 (.tmp 7) (.tmp 112), _, _, _, _⟩ ?_); refine wpList_storeR rfl 28 (.tmp 7) (.tmp 112) rfl rfl rfl R5.out ?_))
                go_meet
                exact ⟨_, rfl, _, _, _, _, KE⟩
          · obtain ⟨n1, n2, n3, n4, n5, n6, n9, n10, n11⟩ := hk
            replace n1 : (q.kind == 1) = false := beq_eq_false_iff_ne.2 n1
            replace n2 : (q.kind == 2) = false := beq_eq_false_iff_ne.2 n2
            replace n3 : (q.kind == 3) = false := beq_eq_false_iff_ne.2 n3
            replace n4 : (q.kind == 4) = false := beq_eq_false_iff_ne.2 n4
            replace n5 : (q.kind == 5) = false := beq_eq_false_iff_ne.2 n5
            replace n6 : (q.kind == 6) = false := beq_eq_false_iff_ne.2 n6
            replace n9 : (q.kind == 9) = false := beq_eq_false_iff_ne.2 n9
            replace n10 : (q.kind == 10) = false := beq_eq_false_iff_ne.2 n10
            replace n11 : (q.kind == 11) = false := beq_eq_false_iff_ne.2 n11
            have KE := Lib.hid (K101.out.mono (Nat.le_succ k))
            go_wp2_with (fail)
            go_meet
            exact ⟨_, rfl, _, _, _, _, KE⟩
        case rest =>
          obtain ⟨w110, rfl, d, S, L, O, K110⟩ := hcut
          cases hdn : d.down
          · have hc := K110.out.ds.down hdn
            have DN := Lib.hid hdn
            clear hdn
            go_wp2_with (fail)
            with_reducible refine hc.mono ?_
            rintro e w111 ⟨rfl, x1⟩
            have K111 := Lib.hid (K110.out.ext' x1)
            clear x1 hc K110
            go_wp2_with (fail)
            go_loopw [13] (fun s13 wr => ∃ t : Nat, t ≤ 8 ∧ s13 = .int .i64 t ∧ Hid (Ks w wr r g m b (k + 1) d S L O)) (fun i _ => 8 - (intOf i).toNat)
            case atStart => exact ⟨0, by omega, rfl, K111⟩
            case round =>
              obtain ⟨t, ht, rfl, HR⟩ := hrel
              by_cases ht8 : t < 8
              · have j1 : (t : Int) < 8 := by omega
                have e5 := HR.out.km.cl (j := t) (by rw [HR.out.h8.ll]; exact ht8)
                have hc := reads_any _ g m b _ _ HR.out.ds t _ (HR.out.h8.reads DN.out ht8)
                go_wp2_with (fail)
                with_reducible refine hc.mono ?_
                rintro e w122 ⟨rfl, x2⟩
                have HN := Lib.hid (HR.out.ext' x2)
                clear x2 hc
                go_wp2_with (fail)
                exact ⟨⟨t + 1, by omega, by go_num, HN⟩, by simp [intOf]; omega⟩
              · have et : t = 8 := by omega
                subst et
                go_wp2_with (fail)
                exact ⟨⟨k + 1, by omega, by omega, by go_num, Lib.hid ⟨_, _, _, _, HR.out⟩⟩, by simp [intOf]; omega⟩
          · have hc := K110.out.ds.down hdn
            clear hdn
            go_wp2_with (fail)
            with_reducible refine hc.mono ?_
            rintro e w111 ⟨rfl, x1⟩
            have K111 := Lib.hid (K110.out.ext' x1)
            clear x1 hc K110
            go_wp2_with (fail)
            exact ⟨⟨k + 1, by omega, by omega, by go_num, Lib.hid ⟨_, _, _, _, K111.out⟩⟩, by simp [intOf]; omega⟩
      · have ek : k = n := by omega
        subst ek
        have hc := awake_any5 w100
        go_wp2_with (fail)
        with_reducible refine hc.mono ?_
        rintro e w111 ⟨rfl, x1⟩
        go_wp2_with (fail)
        go_ret
        exact ⟨rfl, K100.out.ext.trans x1⟩
    · have ek : k = 80 := by omega
      subst ek
      have hc := awake_any5 w100
      by_cases hlt : 80 < n
      · have i1 : (80 : Int) < n := by omega
        go_wp2_with (fail)
        with_reducible refine hc.mono ?_
        rintro e w111 ⟨rfl, x1⟩
        go_wp2_with (fail)
        go_ret
        exact ⟨rfl, K100.out.ext.trans x1⟩
      · have i1 : n = 80 := by omega
        subst i1
        go_wp2_with (fail)
        with_reducible refine hc.mono ?_
        rintro e w111 ⟨rfl, x1⟩
        go_wp2_with (fail)
        go_ret
        exact ⟨rfl, K100.out.ext.trans x1⟩
set_option maxRecDepth 100000 in
theorem diskKeeps.walk {H : Type} {enc : TypeId × Value → H} {base : Nat} (w : World) (v0 : Value) (d0 : DataW H) (p0 : List MemPlace) (o0 : Value.okWide Try.prog w .any base 22 v0) (h0 : DataW.Trod enc Try.prog w 0 (fun _ => true) true 22 v0 d0 p0) :
    Calls Try.prog 3 #[v0] w fun e w' => e = .returned (.bool true) ∧ Below w.heap.size w w' := by
  obtain ⟨A, n, c, o, rfl, ho⟩ := os05_open o0 h0
  exact keeps_any w A n c o ho
end Go.Proofs.Ytbfbiofndipaaaa
namespace Go.Proofs.Ytbfbiofndipaaaa
open Go.ChangeShapes Go.WideShapes Go.ChangeAt Go.RowKit Go.Maps Go.Sort Go.Shelf

/-- What is cached of a sector: no bytes where nothing is. -/
def cbytes (d : Disks.D) (i : Nat) : List UInt8 := (Disks.cget d.cac i).getD []
/-- The document's disk, as a value. -/
abbrev rval (A : Option Addr) (n c : Nat) (d : Disks.D) : Value := .agg #[.slice A n c, .int .i64 d.arm, .bool d.down]
/-- Its cells, away from the blocks g, m, b. -/
structure Rf (w : World) (g m b : Nat) (A : Option Addr) (n c : Nat) (d : Disks.D) : Prop where
  len : d.med.length = n
  le : n ≤ c
  max : c ≤ 9223372036854775807
  awy : Awy g m b A
  at_ : ∀ i, i < n → ∃ k off M mn mc C cn cc, A = some ⟨k, off, none⟩ ∧ w.cell? ⟨k, off + i * 2, none⟩ = some (.slice M mn mc) ∧ w.cell? ⟨k, off + i * 2 + 1, none⟩ = some (.slice C cn cc) ∧ Bs w M mn mc (Gm.row d.med i) ∧ Bs w C cn cc (cbytes d i) ∧ Awy g m b M ∧ Awy g m b C
theorem Rf.ext {w w' : World} {g m b : Nat} {A : Option Addr} {n c : Nat} {d : Disks.D} (h : Rf w g m b A n c d) (hx : Ext w w') : Rf w' g m b A n c d :=
  ⟨h.len, h.le, h.max, h.awy, fun i hi => by
    obtain ⟨k, off, M, mn, mc, C, cn, cc, e, c1, c2, b1, b2, a1, a2⟩ := h.at_ i hi
    exact ⟨k, off, M, mn, mc, C, cn, cc, e, hx.cell c1, hx.cell c2, b1.ext hx, b2.ext hx, a1, a2⟩⟩
theorem Rf.kp {w w' : World} {g m b : Nat} {A : Option Addr} {n c : Nat} {d : Disks.D} (h : Rf w g m b A n c d) (hk : Kp g m b w w') : Rf w' g m b A n c d :=
  ⟨h.len, h.le, h.max, h.awy, fun i hi => by
    obtain ⟨k, off, M, mn, mc, C, cn, cc, e, c1, c2, b1, b2, a1, a2⟩ := h.at_ i hi
    obtain ⟨q1, q2, q3⟩ := h.awy _ e
    have cell : ∀ j v, w.cell? ⟨k, j, none⟩ = some v → w'.cell? ⟨k, j, none⟩ = some v := fun j v hv => by
      rw [← hv]
      exact World.cell?_of_block (hk.block k (World.block_lt_of_cell? _ _ hv) q1 q2 q3)
    exact ⟨k, off, M, mn, mc, C, cn, cc, e, cell _ _ c1, cell _ _ c2, b1.kp hk a1, b2.kp hk a2, a1, a2⟩⟩
/-- Only what is on the medium and in the cache counts. -/
theorem Rf.like {w : World} {g m b : Nat} {A : Option Addr} {n c : Nat} {d e : Disks.D} (h : Rf w g m b A n c d) (hm : e.med = d.med) (hc : e.cac = d.cac) : Rf w g m b A n c e :=
  ⟨by rw [hm]; exact h.len, h.le, h.max, h.awy, fun i hi => by
    obtain ⟨k, off, M, mn, mc, C, cn, cc, e', c1, c2, b1, b2, a1, a2⟩ := h.at_ i hi
    exact ⟨k, off, M, mn, mc, C, cn, cc, e', c1, c2, by rw [hm]; exact b1, by unfold cbytes; rw [hc]; exact b2, a1, a2⟩⟩
/-- A variable that holds the document's disk. -/
structure Vd (w : World) (p : Nat) (A : Option Addr) (n c : Nat) (arm : Int) (down : Bool) : Prop where
  blk : w.heap[p]? = some (.cells #[.slice A n c, .int .i64 arm, .bool down] 54 (0, 0))
section
variable {w w' : World} {p : Nat} {A : Option Addr} {n c : Nat} {arm : Int} {down : Bool}
theorem Vd.lt (h : Vd w p A n c arm down) : p < w.heap.size := (Array.getElem?_eq_some_iff.1 h.blk).1
theorem Vd.c0 (h : Vd w p A n c arm down) : w.cell? ⟨p, 0, none⟩ = some (.slice A n c) := by rw [cell_of_row w _ _ _ _ _ h.blk]; rfl
theorem Vd.c1 (h : Vd w p A n c arm down) : w.cell? ⟨p, 1, none⟩ = some (.int .i64 arm) := by rw [cell_of_row w _ _ _ _ _ h.blk]; rfl
theorem Vd.c2 (h : Vd w p A n c arm down) : w.cell? ⟨p, 2, none⟩ = some (.bool down) := by rw [cell_of_row w _ _ _ _ _ h.blk]; rfl
theorem Vd.fz (h : Vd w p A n c arm down) (j : Nat) : w.frozen? ⟨p, j, none⟩ = false := frozen_of_row w _ _ _ _ h.blk
theorem Vd.ext (h : Vd w p A n c arm down) (hx : Ext w w') : Vd w' p A n c arm down := ⟨(hx.block p h.lt).trans h.blk⟩
theorem Vd.far (h : Vd w p A n c arm down) {q : Addr} (hq : q.block ≠ p) (u : Value) : Vd (w.setCell q u) p A n c arm down := ⟨(heap_setCell_other w q p u (fun e => hq e.symm)).trans h.blk⟩
theorem Vd.new (w : World) (A : Option Addr) (n c : Nat) (arm : Int) (down : Bool) : Vd (w.alloc (.cells #[.slice A n c, .int .i64 arm, .bool down] 54)) w.heap.size A n c arm down := ⟨heap_alloc_new w _⟩
theorem Vd.res (h : Vd w p A n c arm down) : (loadVar 54 ⟨p, 0, none⟩).run Try.prog w = .ok (.agg #[.slice A n c, .int .i64 arm, .bool down]) w := by
  simp [go_sem, h.c0, h.c1, h.c2]
theorem Vd.set (h : Vd w p A n c arm down) (A' : Option Addr) (n' c' : Nat) (arm' : Int) (down' : Bool) : Vd (((w.setCell ⟨p, 0, none⟩ (.slice A' n' c')).setCell ⟨p, 1, none⟩ (.int .i64 arm')).setCell ⟨p, 2, none⟩ (.bool down')) p A' n' c' arm' down' := by
  have h1 := heap_setCell_same w p 0 _ _ (.slice A' n' c') h.blk
  have h2 := heap_setCell_same _ p 1 _ _ (.int .i64 arm') h1
  have h3 := heap_setCell_same _ p 2 _ _ (.bool down') h2
  exact ⟨h3⟩
theorem Vd.set1 (h : Vd w p A n c arm down) (arm' : Int) : Vd (w.setCell ⟨p, 1, none⟩ (.int .i64 arm')) p A n c arm' down := ⟨heap_setCell_same w p 1 _ _ (.int .i64 arm') h.blk⟩
theorem Vd.set2 (h : Vd w p A n c arm down) (down' : Bool) : Vd (w.setCell ⟨p, 2, none⟩ (.bool down')) p A n c arm down' := ⟨heap_setCell_same w p 2 _ _ (.bool down') h.blk⟩
end
set_option maxRecDepth 100000 in
theorem ref5Own (w : World) (A : Option Addr) (n c : Nat) (l : List UInt8) (hl : Bs w A n c l) (hn : n ≤ 1000000) :
    Calls Try.prog 44 #[.slice A n c] w fun e w' => ∃ v, e = .returned v ∧ w'.ownsRow w.heap.size 5 1 v l.length (bcells l) ∧ Ext w w' := by
  obtain ⟨i0, hi0, hz0, hz1, hz2⟩ := info_parts u8_info5
  have hm := hl.max
  have hle := hl.le
  go_enter Try.func44, Try.ntmps44
  go_wp2_with (
    at_builtin
    refine wpList_append_rd _ rfl (.tmp 4) (.tmp 5) 34 rfl w.heap.size 5 i0 _ 1 1 Try.underlying34 hi0 hz0 hz1 hz2 rfl (by omega) (.slice none 0 0) 0 [] rfl (World.ownsRow_nil _ _ _ _) A n c (bcells l) rfl hl.rd (bcells_one l) (by omega) (by unfold maxLen; omega) (Nat.le_refl _) ?_
    intro v1 w1 hown hg hat)
  go_ret
  refine ⟨v1, rfl, ?_, ?_⟩
  · rw [hl.len]; simpa using hown
  · exact (Ext.refl w).ofGrown hg (by simp [Value.ownBlock])
/-- The world in which a method has its box p and its result's box p + 1. -/
def rworld (w : World) (A : Option Addr) (n c : Nat) (arm : Int) (down : Bool) : World := (w.alloc (.cells #[.slice A n c, .int .i64 arm, .bool down] 54)).alloc (.cells #[.slice none 0 0, .int .i64 0, .bool false] 54)
theorem rworld_facts (w : World) (A : Option Addr) (n c : Nat) (arm : Int) (down : Bool) : Vd (rworld w A n c arm down) w.heap.size A n c arm down ∧ Vd (rworld w A n c arm down) (w.heap.size + 1) none 0 0 0 false ∧ Ext w (rworld w A n c arm down) := by
  refine ⟨(Vd.new w A n c arm down).ext (Ext.alloc _ _), ?_, (Ext.alloc _ _).thenAlloc _⟩
  have := Vd.new (w.alloc (.cells #[.slice A n c, .int .i64 arm, .bool down] 54)) none 0 0 0 false
  unfold rworld
  simpa using this
theorem Ext.set3 {w W : World} {q : Nat} (h : Ext w W) (hq : w.heap.size ≤ q) (a b c : Value) : Ext w (((W.setCell ⟨q, 0, none⟩ a).setCell ⟨q, 1, none⟩ b).setCell ⟨q, 2, none⟩ c) :=
  Below.setCell (Below.setCell (Below.setCell h (p := ⟨q, 0, none⟩) hq _) (p := ⟨q, 1, none⟩) hq _) (p := ⟨q, 2, none⟩) hq _
theorem results_cell15 {fn : Func} {p : Tmp} {ty : TypeId} (h : fn.results = #[.cell p ty]) (tmps : Array Value) (P : Program) (w : World) :
    (results fn tmps).run P w = ((asAddr (tmps.getD p undef)).run P w).andThen fun a w1 => (loadVar ty a).run P w1 := by
  simp only [results, h]
  simp [Sem.run_bind, Result.andThen]
theorem results_cell25 {fn : Func} {p u : Tmp} {ty : TypeId} (h : fn.results = #[.cell p ty, .tmp u]) (tmps : Array Value) (P : Program) (w : World) :
    (results fn tmps).run P w = ((asAddr (tmps.getD p undef)).run P w).andThen fun a w1 => ((loadVar ty a).run P w1).andThen fun x w2 => .ok (.tuple #[x, tmps.getD u undef]) w2 := by
  simp only [results, h]
  simp [Sem.run_bind, Result.andThen]
set_option maxRecDepth 100000 in
set_option maxHeartbeats 1000000 in
theorem ref5Arm (w : World) (A : Option Addr) (n c : Nat) (d : Disks.D) (x : Int) :
    Calls Try.prog 32 #[rval A n c d, .int .i64 x] w fun e w' => e = .returned (rval A n c (Disks.armD d x)) ∧ Ext w w' := by
  obtain ⟨p, hp⟩ : ∃ p, w.heap.size = p := ⟨_, rfl⟩
  obtain ⟨am, ham⟩ : ∃ am, d.arm = am := ⟨_, rfl⟩
  obtain ⟨v0, v1, x0⟩ := rworld_facts w A n c am d.down
  rw [hp] at v0 v1
  obtain ⟨W, hW⟩ : ∃ W, rworld w A n c am d.down = W := ⟨_, rfl⟩
  rw [hW] at v0 v1 x0
  unfold rworld at hW
  have V1 := Lib.hid v1
  have V0 := Lib.hid v0
  have X0 := Lib.hid x0
  have HP := Lib.hid (show w.heap.size ≤ p from by omega)
  have k0 := v0.c0
  have k1 := v0.c1
  have k2 := v0.c2
  have z0 := v1.c0
  have z1 := v1.c1
  have z2 := v1.c2
  have y0 := v1.fz 0
  have y1 := v1.fz 1
  have y2 := v1.fz 2
  have u1 := v0.fz 1
  cases hd : d.down
  · have e1 : Disks.armD d x = { d with arm := max x 0 } := if_neg (by rw [hd]; decide)
    rw [e1]
    unfold rval
    simp only
    rw [ham, hd]
    rw [hd] at hW k2
    have HW := Lib.hid hW
    obtain ⟨y, hy⟩ : ∃ y, max x 0 = y := ⟨_, rfl⟩
    rw [hy]
    clear e1 v0 v1 x0 hW hd
    by_cases hx : x < 0
    · have ey : y = 0 := by omega
      subst ey
      clear hy
      go_enter Try.func32, Try.ntmps32
      go_upto_region 1 with (fail)
      rw [HW.out]
      clear hp
      go_wp2_with (fail)
      refine bodyPost_ret (v := .agg #[.slice A n c, .int .i64 0, .bool false]) ?_ rfl ⟨rfl, Ext.set3 (Below.setCell (Below.setCell X0.out (p := ⟨p, 1, none⟩) HP.out _) (p := ⟨p, 1, none⟩) HP.out _) (by have := HP.out; omega) _ _ _⟩
      have hr := (((V1.out.far (q := ⟨p, 1, none⟩) (by show p ≠ p + 1; omega) (.int .i64 x)).far (q := ⟨p, 1, none⟩) (by show p ≠ p + 1; omega) (.int .i64 0)).set A n c 0 false).res
      rw [results_cell15 rfl]
      simp [asAddr, Result.andThen, hr]
    · have ey : y = x := by omega
      subst ey
      clear hy
      go_enter Try.func32, Try.ntmps32
      go_upto_region 1 with (fail)
      rw [HW.out]
      clear hp
      go_wp2_with (fail)
      refine bodyPost_ret (v := .agg #[.slice A n c, .int .i64 y, .bool false]) ?_ rfl ⟨rfl, Ext.set3 (Below.setCell X0.out (p := ⟨p, 1, none⟩) HP.out _) (by have := HP.out; omega) _ _ _⟩
      have hr := ((V1.out.far (q := ⟨p, 1, none⟩) (by show p ≠ p + 1; omega) (.int .i64 y)).set A n c y false).res
      rw [results_cell15 rfl]
      simp [asAddr, Result.andThen, hr]
  · have e1 : Disks.armD d x = d := if_pos hd
    rw [e1]
    unfold rval
    rw [ham, hd]
    rw [hd] at hW k2
    have HW := Lib.hid hW
    clear e1 v0 v1 x0 hW hd
    go_enter Try.func32, Try.ntmps32
    go_upto_region 1 with (fail)
    rw [HW.out]
    clear hp
    go_wp2_with (fail)
    refine bodyPost_ret (v := .agg #[.slice A n c, .int .i64 am, .bool true]) ?_ rfl ⟨rfl, X0.out.set3 (by have := HP.out; omega) _ _ _⟩
    have hr := (V1.out.set A n c am true).res
    rw [results_cell15 rfl]
    simp [asAddr, Result.andThen, hr]
set_option maxRecDepth 100000 in
set_option maxHeartbeats 1000000 in
theorem ref5Op (w : World) (A : Option Addr) (n c : Nat) (d : Disks.D) (h1 : -1 ≤ d.arm) (h2 : d.arm < 2 ^ 63) :
    Calls Try.prog 42 #[rval A n c d] w fun e w' => e = .returned (.tuple #[rval A n c (Disks.op d), .bool (!decide (d.arm = 0))]) ∧ Ext w w' := by
  obtain ⟨p, hp⟩ : ∃ p, w.heap.size = p := ⟨_, rfl⟩
  obtain ⟨am, ham⟩ : ∃ am, d.arm = am := ⟨_, rfl⟩
  obtain ⟨dn, hdn⟩ : ∃ dn, d.down = dn := ⟨_, rfl⟩
  obtain ⟨v0, v1, x0⟩ := rworld_facts w A n c am dn
  rw [hp] at v0 v1
  obtain ⟨W, hW⟩ : ∃ W, rworld w A n c am dn = W := ⟨_, rfl⟩
  rw [hW] at v0 v1 x0
  unfold rworld at hW
  have HW := Lib.hid hW
  have V1 := Lib.hid v1
  have V0 := Lib.hid v0
  have X0 := Lib.hid x0
  have HP := Lib.hid (show w.heap.size ≤ p from by omega)
  have k0 := v0.c0
  have k1 := v0.c1
  have k2 := v0.c2
  have z0 := v1.c0
  have z1 := v1.c1
  have z2 := v1.c2
  have y0 := v1.fz 0
  have y1 := v1.fz 1
  have y2 := v1.fz 2
  have u1 := v0.fz 1
  have u2 := v0.fz 2
  clear v0 v1 x0 hW
  rcases (show am = 0 ∨ 0 < am ∨ am = -1 by omega) with h | h | h
  · have e1 : Disks.op d = { { d with down := true } with arm := -1 } := if_pos (by omega)
    rw [e1, ham, h]
    unfold rval
    simp only
    rw [ham, hdn, h]
    rw [h] at HW k1
    clear e1 ham hdn
    subst h
    go_enter Try.func42, Try.ntmps42
    go_upto_region 1 with (fail)
    rw [HW.out]
    clear hp
    go_wp2_with (fail)
    refine bodyPost_ret (v := .tuple #[.agg #[.slice A n c, .int .i64 (-1), .bool true], .bool false]) ?_ rfl ⟨rfl, Ext.set3 (Below.setCell (Below.setCell X0.out (p := ⟨p, 1, none⟩) HP.out _) (p := ⟨p, 2, none⟩) HP.out _) (by have := HP.out; omega) _ _ _⟩
    have hr := (((V1.out.far (q := ⟨p, 1, none⟩) (by show p ≠ p + 1; omega) (.int .i64 (-1))).far (q := ⟨p, 2, none⟩) (by show p ≠ p + 1; omega) (.bool true)).set A n c (-1) true).res
    rw [results_cell25 rfl]
    simp [asAddr, Result.andThen, hr]
  · have e1 : Disks.op d = { d with arm := am - 1 } := by
      unfold Disks.op
      rw [if_neg (by omega), ham, show max (am - 1) (-1) = am - 1 by omega]
    rw [e1, ham, decide_eq_false (by omega)]
    unfold rval
    simp only
    rw [ham, hdn]
    have n0 : (am == 0) = false := beq_eq_false_iff_ne.2 (by omega)
    clear e1 hdn h1
    rw [ham] at h2
    clear ham
    go_enter Try.func42, Try.ntmps42
    go_upto_region 1 with (fail)
    rw [HW.out]
    clear hp
    go_wp2_with (fail)
    refine bodyPost_ret (v := .tuple #[.agg #[.slice A n c, .int .i64 (am - 1), .bool dn], .bool true]) ?_ rfl ⟨rfl, Ext.set3 (Below.setCell X0.out (p := ⟨p, 1, none⟩) HP.out _) (by have := HP.out; omega) _ _ _⟩
    have hr := ((V1.out.far (q := ⟨p, 1, none⟩) (by show p ≠ p + 1; omega) (.int .i64 (am - 1))).set A n c (am - 1) dn).res
    rw [results_cell25 rfl]
    simp [asAddr, Result.andThen, hr]
  · have e1 : Disks.op d = { d with arm := -1 } := by
      unfold Disks.op
      rw [if_neg (by omega), ham, h]
      rfl
    rw [e1, ham, decide_eq_false (by omega)]
    unfold rval
    simp only
    rw [ham, hdn, h]
    rw [h] at HW k1
    clear e1 hdn h1 h2 ham
    subst h
    go_enter Try.func42, Try.ntmps42
    go_upto_region 1 with (fail)
    rw [HW.out]
    clear hp
    go_wp2_with (fail)
    refine bodyPost_ret (v := .tuple #[.agg #[.slice A n c, .int .i64 (-1), .bool dn], .bool true]) ?_ rfl ⟨rfl, Ext.set3 X0.out (by have := HP.out; omega) _ _ _⟩
    have hr := (V1.out.set A n c (-1) dn).res
    rw [results_cell25 rfl]
    simp [asAddr, Result.andThen, hr]
end Go.Proofs.Ytbfbiofndipaaaa
