/- Several texts in one: The contract of the laws' told: a find behind answers. The contracts of matrix.blank, matrix.own and matrix.Unit. The contract of matrix.Unit. -/
import Derived.Test.YtfpglkacjecoeaaGreatCt13
import Derived.Test.YtfpglkacjecoeaaGreatCt14
import Derived.Test.YtfpglkacjecoeaaGreatCt11
import Derived.Test.YtfpglkacjecoeaaGreatCt9
import Derived.StillTailTactics
namespace Go.Proofs.YtfpglkacjecoeaaGreat
open Go.RowKit

/-- A find behind the first k answers. -/
def tolds (f : Finds.F) (o : Nat → Op13) : Nat → Finds.F
  | 0 => f
  | k + 1 => Finds.toldF (tolds f o k) (o k).index (o k).e (o k).b
theorem tolds_right {f : Finds.F} (h : Finds.right f) (o : Nat → Op13) (k : Nat) : Finds.right (tolds f o k) ∧ (tolds f o k).marks.length = f.marks.length := by
  induction k with
  | zero => exact ⟨h, rfl⟩
  | succ k ih => exact ⟨Finds.right_told ih.1 _ _ _, by show (Finds.toldF _ _ _ _).marks.length = _; rw [Finds.toldF_marks_length]; exact ih.2⟩
/-- A find is handed back, and that none erred. -/
def GivesT13 (f : Finds.F) (w : World) (e : Ending) (w' : World) : Prop := ∃ A n c B m d C k e9, e = .returned (.tuple #[fval f.stripe f.version f.need f.phase (.slice A n c) (.slice B m d) (.slice C k e9), .bool true]) ∧ Fd w' f A n c B m d C k e9 ∧ Ext w w'
theorem fTold_ok {w : World} {f : Finds.F} {A : Option Addr} {n c : Nat} {B : Option Addr} {m d : Nat} {C : Option Addr} {k e : Nat} (h : Fd w f A n c B m d C k e) (hr : Finds.right f) {i er : Int} (h0 : 0 ≤ i) (h1 : i < f.marks.length) {D : Option Addr} {q c9 : Nat} {b : List UInt8} (hb : Bs w D q c9 b) :
    Calls Tryz.prog 14 #[fval f.stripe f.version f.need f.phase (.slice A n c) (.slice B m d) (.slice C k e), .int .i64 i, .int .i64 er, .slice D q c9] w fun r w' => ∃ A n c B m d C k e, r = .returned (.tuple #[fval (Finds.toldF f i er b).stripe (Finds.toldF f i er b).version (Finds.toldF f i er b).need (Finds.toldF f i er b).phase (.slice A n c) (.slice B m d) (.slice C k e), .int .i64 0]) ∧ Ext w w' ∧ Fo w' w.heap.size (Finds.toldF f i er b) (.slice A n c) (.slice B m d) (.slice C k e) := by
  have hl := Finds.right_len hr
  have hw := Finds.which_len hr
  have hc := Finds.cnt_le f.marks 1
  have h2 := h.u.len
  have h3 := h.v.len
  have hE : Finds.toldE f i = 0 := if_pos ⟨hr, h0, h1⟩
  refine (fTold_any w f A n c B m d C k e h (by omega) (by omega) i er D q c9 b hb).mono ?_
  rintro r w' ⟨U, V, S, rfl, ⟨A, n, c, B, m, d, C, k, e, rfl, rfl, rfl, _⟩, hx, ho⟩
  exact ⟨A, n, c, B, m, d, C, k, e, by rw [hE], hx, ho hE⟩
set_option maxRecDepth 100000 in
set_option maxHeartbeats 4000000 in
theorem told13_any (w : World) (f : Finds.F) (A : Option Addr) (n c : Nat) (B : Option Addr) (m d : Nat) (C : Option Addr) (k e : Nat) (h : Fd w f A n c B m d C k e) (hr : Finds.right f) (D : Option Addr) (q c9 : Nat) (o : Nat → Op13) (ho : Os13 w D q c9 o) (hin : ∀ i, i < q → 0 ≤ (o i).index ∧ (o i).index < f.marks.length) :
    Calls Tryz.prog 29 #[fval f.stripe f.version f.need f.phase (.slice A n c) (.slice B m d) (.slice C k e), .slice D q c9] w (GivesT13 (tolds f o q) w) := by
  have q1 := ho.max
  have q2 := ho.le
  obtain ⟨g, hg⟩ : ∃ g, w.heap.size = g := ⟨_, rfl⟩
  have s1 := Fb.new w f.stripe f.version f.need f.phase (.slice A n c) (.slice B m d) (.slice C k e) hg
  have xA := Ext.alloc w (.cells #[.int .i64 f.stripe, .int .i64 f.version, .int .i64 f.need, .int .i64 f.phase, .slice A n c, .slice B m d, .slice C k e] 25)
  obtain ⟨W1, hW1⟩ : ∃ W1, w.alloc (.cells #[.int .i64 f.stripe, .int .i64 f.version, .int .i64 f.need, .int .i64 f.phase, .slice A n c, .slice B m d, .slice C k e] 25) = W1 := ⟨_, rfl⟩
  have z1 : W1.heap.size = g + 1 := by rw [← hW1, ← hg]; simp
  rw [hW1] at s1 xA
  have s2 := Fb.new W1 0 0 0 0 (.slice none 0 0) (.slice none 0 0) (.slice none 0 0) z1
  have xB := Ext.alloc W1 (.cells #[.int .i64 0, .int .i64 0, .int .i64 0, .int .i64 0, .slice none 0 0, .slice none 0 0, .slice none 0 0] 25)
  obtain ⟨W0, hW0⟩ : ∃ W0, W1.alloc (.cells #[.int .i64 0, .int .i64 0, .int .i64 0, .int .i64 0, .slice none 0 0, .slice none 0 0, .slice none 0 0] 25) = W0 := ⟨_, rfl⟩
  rw [hW0] at s2 xB
  have z0 : W0.heap.size = g + 1 + 1 := by rw [← hW0]; simp [z1]
  have H := Lib.hid h
  have HO := Lib.hid ho
  have y1 := h.u.max
  have y2 := h.u.le
  have y3 := h.v.max
  have y4 := h.v.le
  have y5 := h.s.max
  have y6 := h.s.le
  have XA := Lib.hid (xA.trans xB)
  have FH := Lib.hid (Fh.ext (show Fh W1 g (g + 1 + 1) g f by rw [← hW1]; exact Fh.new (h.x (Ext.refl w) (by omega)) hg) xB)
  have SZ := Lib.hid s2
  have HG := Lib.hid hg
  have Z0 := Lib.hid z0
  have HW1 := Lib.hid hW1
  have HW0 := Lib.hid hW0
  have HR := Lib.hid hr
  have HIN := Lib.hid hin
  clear h ho hr hin xA xB s1 s2 z0 z1 hW1 hW0
  go_enter Tryz.func29, Tryz.ntmps29
  try dsimp only [List.append]
  go_upto_block 0 with (fail)
  rw [HW1.out, HW0.out]
  go_wp2_with (fail)
  go_loopw [6, 8, 9, 12] (fun s6 _ _ s wr => ∃ i : Nat, i ≤ q ∧ s = .int .i64 (i : Int) ∧ s6 = .bool true ∧ RowKit.Hid (Fh wr g (g + 1 + 1) g (tolds f o i)) ∧ RowKit.Hid (Fb wr (g + 1) 0 0 0 0 (.slice none 0 0) (.slice none 0 0) (.slice none 0 0)) ∧ RowKit.Hid (Ext w wr)) (fun _ _ _ s _ => q - (intOf s).toNat)
  case atStart => exact ⟨0, by omega, rfl, rfl, FH, SZ, XA⟩
  case round =>
    obtain ⟨i, hi, rfl, rfl, HF, HZ, HX⟩ := hrel
    by_cases hlt : i < q
    · have r1 : (i : Int) < q := by omega
      obtain ⟨bo, oo, rfl, ho0, ho1, ho2, ho3, hob⟩ := (HO.out.ext HX.out).at_ i hlt
      obtain ⟨A1, n1, c1, B1, m1, d1, C1, kk1, e1, sb, fx⟩ := HF.out
      have fd := fx.fd
      have hsn : tolds f o (i + 1) = Finds.toldF (tolds f o i) (o i).index (o i).e (o i).b := rfl
      have hrt := tolds_right HR.out o i
      have hii := HIN.out i hlt
      rw [← hrt.2] at hii
      have HSN := Lib.hid hsn
      have HRT := Lib.hid hrt.1
      clear hsn hrt
      generalize hF : tolds f o i = F at *
      generalize o i = oi at *
      obtain ⟨lo, ix, er, Ao, mo, co, bb⟩ := oi
      simp only at ho0 ho1 ho2 ho3 hob HSN hii
      have HT := Lib.hid (fun (W : World) (hW : Ext wr W) => fTold_ok (er := er) (fd.ext hW) HRT.out hii.1 hii.2 (hob.ext hW))
      have p1 := fd.u.max
      have p2 := fd.u.le
      have p3 := fd.v.max
      have p4 := fd.v.le
      have p5 := fd.s.max
      have p6 := fd.s.le
      have p7 := hob.max
      have p8 := hob.le
      have HX3 := Lib.hid (Ext.alloc wr (.cells #[.bool lo, .int .i64 ix, .int .i64 er, .slice Ao mo co] 48))
      have k0 := (sb.ext HX3.out).c0
      have k1 := (sb.ext HX3.out).c1
      have k2 := (sb.ext HX3.out).c2
      have k3 := (sb.ext HX3.out).c3
      have k4 := (sb.ext HX3.out).c4
      have k5 := (sb.ext HX3.out).c5
      have k6 := (sb.ext HX3.out).c6
      have HF3 := Lib.hid (HF.out.ext HX3.out)
      have SB := Lib.hid sb
      have HGL := Lib.hid (show g + 1 < wr.heap.size from HZ.out.lt)
      clear hF fd fx sb hob hii
      go_wp2_with (fail)
      with_reducible refine (HT.out _ HX3.out).mono ?_
      rintro e w4 ⟨A4, n4, c4, B4, m4, d4, C4, k4', e4, rfl, hx4, ho4⟩
      rename_i hKK
      have hfd4 := ho4.fdOf
      have p9 := hfd4.u.max
      have p10 := hfd4.u.le
      have p11 := hfd4.v.max
      have p12 := hfd4.v.le
      have p13 := hfd4.s.max
      have p14 := hfd4.s.le
      obtain ⟨F2, hF2⟩ : ∃ F2, Finds.toldF F ix er bb = F2 := ⟨_, rfl⟩
      rw [hF2] at ho4 HSN ⊢
      have HX4 := Lib.hid hx4
      have HO4 := Lib.hid ho4
      refine hKK _ _ ?_
      clear hKK hF2 hfd4 ho4 hx4
      have bb4 := (SB.out.ext (HX3.out.trans HX4.out)).blk
      refine wpList_val rfl (.tuple #[fval F2.stripe F2.version F2.need F2.phase (.slice A4 n4 c4) (.slice B4 m4 d4) (.slice C4 k4' e4), .int .i64 0]) (by rfl) ?_
      refine wpList_val rfl (fval F2.stripe F2.version F2.need F2.phase (.slice A4 n4 c4) (.slice B4 m4 d4) (.slice C4 k4' e4)) (by rfl) ?_
      refine wpList_val rfl (.int .i64 0) (by rfl) ?_
      refine wpList_store_row rfl 25 (.tmp 2) (.tmp 25) rfl g (frow F2.stripe F2.version F2.need F2.phase (.slice A4 n4 c4) (.slice B4 m4 d4) (.slice C4 k4' e4)) rfl rfl 25 _ bb4 (by kernel_rfl) rfl (by simp [Value.oneCell']) ?_
      have hgl := HGL.out
      have hz3 : (wr.alloc (.cells #[.bool lo, .int .i64 ix, .int .i64 er, .slice Ao mo co] 48)).heap.size = wr.heap.size + 1 := by simp
      have hgb : w.heap.size ≤ g := by rw [HG.out]; exact Nat.le_refl _
      have HP := Lib.hid ((HF3.out.ext HX4.out).put (HO4.out.x (by omega)) (Nat.le_refl _) (by omega))
      have HX5 := Lib.hid ((HX.out.trans (HX3.out.trans HX4.out)).row hgb (frow F2.stripe F2.version F2.need F2.phase (.slice A4 n4 c4) (.slice B4 m4 d4) (.slice C4 k4' e4)))
      have HZ5 := Lib.hid (show Fb (w4.setRow g (frow F2.stripe F2.version F2.need F2.phase (.slice A4 n4 c4) (.slice B4 m4 d4) (.slice C4 k4' e4))) (g + 1) 0 0 0 0 (.slice none 0 0) (.slice none 0 0) (.slice none 0 0) from ⟨(setRow_other w4 g (g + 1) _ (by omega)).trans (HZ.out.ext (HX3.out.trans HX4.out)).blk⟩)
      clear bb4 hgl hgb hz3 k0 k1 k2 k3 k4 k5 k6 ho0 ho1 ho2 ho3
      go_wp2_with (fail)
      exact ⟨⟨i + 1, by omega, by go_num, by trivial, by rw [HSN.out]; exact HP, HZ5, HX5⟩, by simp [intOf]; omega⟩
    · have r1 : ¬ (i : Int) < q := by omega
      obtain rfl : i = q := by omega
      generalize tolds f o i = F at *
      obtain ⟨A1, n1, c1, B1, m1, d1, C1, kk1, e1, sb, fx⟩ := HF.out
      have fd := fx.fd
      have p1 := fd.u.max
      have p2 := fd.u.le
      have p3 := fd.v.max
      have p4 := fd.v.le
      have p5 := fd.s.max
      have p6 := fd.s.le
      have SB := Lib.hid sb
      have FX := Lib.hid fx
      clear sb fd fx
      go_upto_region 9 with (fail)
      have ab := SB.out.blk
      have zb := HZ.out.blk
      refine wp_region_lit ?_
      refine wpList_load_row rfl 25 (.tmp 2) rfl g rfl 25 _ (0, 0) _ ab Tryz.underlying25 rfl (by kernel_rfl) ?_
      refine wpList_val rfl (.bool true) (by rfl) ?_
      refine wpList_store_row rfl 25 (.tmp 4) (.tmp 33) rfl (g + 1) (frow F.stripe F.version F.need F.phase (.slice A1 n1 c1) (.slice B1 m1 d1) (.slice C1 kk1 e1)) rfl rfl 25 _ zb (by kernel_rfl) rfl (by simp [Value.oneCell']) ?_
      clear ab zb
      go_wp2_with (fail)
      have hz := (HZ.out.row F.stripe F.version F.need F.phase (.slice A1 n1 c1) (.slice B1 m1 d1) (.slice C1 kk1 e1)).res
      refine bodyPost_ret (v := .tuple #[fval F.stripe F.version F.need F.phase (.slice A1 n1 c1) (.slice B1 m1 d1) (.slice C1 kk1 e1), .bool true]) ?_ rfl ⟨_, _, _, _, _, _, _, _, _, rfl, FX.out _ (.row wr (by omega) (by omega) _), HX.out.row (by rw [HG.out]; omega) _⟩
      rw [results_cell_tmp rfl]
      simp [asAddr, Result.andThen, hz]
end Go.Proofs.YtfpglkacjecoeaaGreat
namespace Go.Proofs.YtfpglkacjecoeaaGreat
open Go.RowKit

/-- A matrix of one's own is handed back. -/
def GivesQ (m : Gm.L) (w : World) (e : Ending) (w' : World) : Prop := ∃ v cs, e = .returned v ∧ Mq w' w.heap.size (Hot w.heap.size v) v m.length cs m ∧ Ext w w'
def GivesQE (m : Gm.L) (err : Int) (w : World) (e : Ending) (w' : World) : Prop := ∃ v cs, e = .returned (.tuple #[v, .int .i64 err]) ∧ Mq w' w.heap.size (Hot w.heap.size v) v m.length cs m ∧ Ext w w'
theorem GivesQE.none (err : Int) {w w' : World} (hx : Ext w w') : GivesQE [] err w (.returned (.tuple #[.slice none 0 0, .int .i64 err])) w' := ⟨_, [], rfl, Mq.nil _ _ _, hx⟩

def zeros (c : Nat) : List UInt8 := List.replicate c 0
theorem Mq.made0 (w : World) (r : Nat) (hr : r ≤ 1000) : Mq (w.alloc (.cells (made r (.slice none 0 0)) 46)) w.heap.size (Hot w.heap.size (.slice (some ⟨w.heap.size, 0, none⟩) r r)) (.slice (some ⟨w.heap.size, 0, none⟩) r r) r (List.replicate r (.slice none 0 0)) (List.replicate r []) := by
  have rw_ : ∀ i, i < r → Gm.row (List.replicate r []) i = [] := fun i hi => by simp [Gm.row, hi]
  have cell : ∀ (i : Nat) (u : Value), (List.replicate r (Value.slice none 0 0))[i]? = some u → u = .slice none 0 0 := fun i u hu => by
    rw [List.getElem?_replicate] at hu
    split at hu
    · injection hu with hu; exact hu.symm
    · cases hu
  refine ⟨by simp, ownsRow_made w _ _ r rfl hr (Nat.le_refl _), fun i hi => ?_, fun i u b hu hb => ?_, fun b hb => .inl hb, fun i j u u' b _ hu _ hb => ?_⟩
  · rw [rw_ i hi]
    exact ⟨none, 0, by simp [hi], World.ownsRow_nil _ _ _ _⟩
  · rw [cell i u hu] at hb; cases hb
  · rw [cell i u hu] at hb; cases hb
/-- The first k rows are done. -/
def mixed (m : Gm.L) (k : Nat) : Gm.L := m.take k ++ List.replicate (m.length - k) []
theorem mixed_zero (m : Gm.L) : mixed m 0 = List.replicate m.length [] := by simp [mixed]
theorem mixed_full {m : Gm.L} {k : Nat} (h : k = m.length) : mixed m k = m := by subst h; simp [mixed]
theorem mixed_length {m : Gm.L} {k : Nat} (h : k ≤ m.length) : (mixed m k).length = m.length := by simp [mixed]; omega
theorem mixed_set {m : Gm.L} {k : Nat} (h : k < m.length) : (mixed m k).set k (Gm.row m k) = mixed m (k + 1) := by
  unfold mixed
  rw [List.set_append_right _ _ (by simp; omega), show m.length - k = (m.length - (k + 1)) + 1 by omega, List.replicate_succ]
  rw [show k - (m.take k).length = 0 by simp; omega, List.set_cons_zero, List.take_succ_eq_append_getElem h, Gm.row_of_lt h, List.append_assoc]
  rfl
theorem row_replicate {r i : Nat} (x : List UInt8) (h : i < r) : Gm.row (List.replicate r x) i = x := by simp [Gm.row, h]

set_option maxRecDepth 100000 in
set_option maxHeartbeats 1000000 in
theorem blank_any (w : World) (r c : Nat) (hr : r ≤ 1000) (hc : c ≤ 1000) :
    Calls Tryz.prog 52 #[.int .i64 (r : Int), .int .i64 (c : Int)] w (GivesQ (List.replicate r (zeros c)) w) := by
  have hm1 := fun W => run_make_rows W r hr
  have hm2 := fun W => run_make_bytes W c hc
  have hq := Mq.made0 w r hr
  have hx0 : Ext w (w.alloc (.cells (made r (.slice none 0 0)) 46)) := Ext.alloc _ _
  have HQ := Lib.hid hq
  have HX := Lib.hid hx0
  clear hq hx0
  go_enter Tryz.func52, Tryz.ntmps52
  go_wp2_with (fail)
  have hq := HQ.out
  have hx0 := HX.out
  have hsz : w.heap.size < (w.alloc (.cells (made r (.slice none 0 0)) 46)).heap.size := by simp
  generalize (w.alloc (.cells (made r (.slice none 0 0)) 46)) = W0 at *
  generalize hg : w.heap.size = g at *
  have HG := Lib.hid hg
  clear hg HQ HX
  have hstart : List.replicate r ([] : List UInt8) = mixed (List.replicate r (zeros c)) 0 := by rw [mixed_zero, List.length_replicate]
  rw [hstart] at hq
  clear hstart
  go_loopw [6, 11] (fun _ s wr => ∃ (k : Nat) (cs : List Value), k ≤ r ∧ s = .int .i64 k ∧ Mq wr g (Hot g (.slice (some ⟨g, 0, none⟩) r r)) (.slice (some ⟨g, 0, none⟩) r r) r cs (mixed (List.replicate r (zeros c)) k) ∧ Ext w wr ∧ g < wr.heap.size) (fun _ s _ => r - (intOf s).toNat)
  case atStart => exact ⟨0, _, by omega, rfl, hq, hx0, hsz⟩
  case round =>
    obtain ⟨k, cs, hk, rfl, hQ, hx, hs⟩ := hrel
    clear hq hx0 hsz
    by_cases hlt : k < r
    · have q1 : (k : Int) < r := by omega
      obtain ⟨A0, c0, _, hcl, hfz, _⟩ := hQ.cellAt hlt
      have hal : Ext wr (wr.alloc (.cells (made c (.int .u8 0)) 5)) := Ext.alloc _ _
      have hro : (wr.alloc (.cells (made c (.int .u8 0)) 5)).ownsRow wr.heap.size 5 1 (.slice (some ⟨wr.heap.size, 0, none⟩) (zeros c).length c) (zeros c).length (bcells (zeros c)) := by
        unfold zeros
        rw [bcells_zeros, List.length_replicate]
        exact ownsRow_made wr _ _ c rfl hc (Nat.le_refl _)
      have hzl : (zeros c).length = c := by simp [zeros]
      have hput := (hQ.ext hal).put hlt hro (by omega) (fun b hb => by
        have hf := hQ.fresh hro (Nat.le_refl _) (hot_lt hs (by omega)) b hb
        exact ⟨hf.1, fun j u _ hu => hf.2 j u hu⟩)
      have hxs := (hx.trans hal).set_ (p := ⟨g, k, none⟩) (by rw [HG.out]; exact Nat.le_refl _) (.slice (some ⟨wr.heap.size, 0, none⟩) (zeros c).length c)
      rw [hzl] at hput hxs
      have hms : (mixed (List.replicate r (zeros c)) k).set k (zeros c) = mixed (List.replicate r (zeros c)) (k + 1) := by
        rw [← mixed_set (by simpa using hlt), row_replicate _ hlt]
      rw [hms] at hput
      have HP := Lib.hid hput
      have HXS := Lib.hid hxs
      clear hput hxs hro hal hzl hQ hms
      go_wp2_with (fail)
      rw [← World.setCell_alloc_past _ _ _ _ hs]
      exact ⟨⟨k + 1, _, by omega, by go_num, HP.out, HXS.out, by simp; omega⟩, by simp [intOf]; omega⟩
    · have q1 : ¬ (k : Int) < r := by omega
      obtain rfl : k = r := by omega
      rw [mixed_full (by simp)] at hQ
      go_wp2_with (fail)
      go_ret
      refine ⟨_, cs, rfl, ?_, hx⟩
      rw [HG.out, List.length_replicate]
      exact hQ

set_option maxRecDepth 100000 in
set_option maxHeartbeats 1000000 in
theorem own_any (w : World) (A : Option Addr) (n c : Nat) (m : Gm.L) (hm : Mx w A n c m) (hn : n ≤ 1000) (hw : ∀ i, i < n → (Gm.row m i).length ≤ 1000) :
    Calls Tryz.prog 88 #[.slice A n c] w (GivesQ m w) := by
  have hm1 := fun W => run_make_rows W n hn
  have hq := Mq.made0 w n hn
  have hx0 : Ext w (w.alloc (.cells (made n (.slice none 0 0)) 46)) := Ext.alloc _ _
  have hmx := hm.max
  have hle := hm.le
  have HQ := Lib.hid hq
  have HX := Lib.hid hx0
  have L := Lib.hid hm.len
  clear hq hx0
  go_enter Tryz.func88, Tryz.ntmps88
  go_wp2_with (fail)
  have hq := HQ.out
  have hx0 := HX.out
  have hsz : w.heap.size < (w.alloc (.cells (made n (.slice none 0 0)) 46)).heap.size := by simp
  generalize (w.alloc (.cells (made n (.slice none 0 0)) 46)) = W0 at *
  generalize hg : w.heap.size = g at *
  have HG := Lib.hid hg
  clear hg HQ HX
  have hstart : List.replicate n ([] : List UInt8) = mixed m 0 := by rw [mixed_zero, L.out]
  rw [hstart] at hq
  clear hstart
  go_loopw [4, 10] (fun _ s wr => ∃ (k : Nat) (cs : List Value), k ≤ n ∧ s = .int .i64 k ∧ Mq wr g (Hot g (.slice (some ⟨g, 0, none⟩) n n)) (.slice (some ⟨g, 0, none⟩) n n) n cs (mixed m k) ∧ Ext w wr ∧ g < wr.heap.size) (fun _ s _ => n - (intOf s).toNat)
  case atStart => exact ⟨0, _, by omega, rfl, hq, hx0, hsz⟩
  case round =>
    obtain ⟨k, cs, hk, rfl, hQ, hx, hs⟩ := hrel
    clear hq hx0 hsz
    by_cases hlt : k < n
    · have q1 : (k : Int) < n := by omega
      obtain ⟨b, o, Ai, ni, ci, rfl, hce, hbi⟩ := (hm.ext hx).at_ hlt
      have hms : (mixed m k).set k (Gm.row m k) = mixed m (k + 1) := mixed_set (by rw [L.out]; exact hlt)
      have hni := hbi.len
      subst hni
      have hcl := clone_any wr Ai _ ci _ hbi (by have := hw k hlt; omega)
      generalize Gm.row m k = r at *
      have HMS := Lib.hid hms
      have HQ := Lib.hid hQ
      have HC := Lib.hid hcl
      clear hms hQ hcl
      go_wp2_with (fail)
      refine HC.out.mono ?_
      rintro e w1 ⟨v, rfl, hv⟩
      obtain ⟨A1, c1, rfl, hb1⟩ := hv.bs
      have hro := hv.own
      have hQ := HQ.out.ext hv.ext
      have hs1 : g < w1.heap.size := Nat.lt_of_lt_of_le hs hv.ext.size
      have hput := hQ.put hlt hro (by omega) (fun b hb => by
        have hf := HQ.out.fresh hro (Nat.le_refl _) (hot_lt hs (by omega)) b hb
        exact ⟨hf.1, fun j u _ hu => hf.2 j u hu⟩)
      obtain ⟨A0, c0, _, hcl, hfz, _⟩ := hQ.cellAt hlt
      have hxs := (hx.trans hv.ext).set_ (p := ⟨g, k, none⟩) (by rw [HG.out]; exact Nat.le_refl _) (.slice A1 r.length c1)
      rw [HMS.out] at hput
      have HP := Lib.hid hput
      have HXS := Lib.hid hxs
      clear hput hxs hro hQ hv hb1 HC HQ
      go_wp2_with (fail)
      exact ⟨⟨k + 1, _, by omega, by go_num, HP.out, HXS.out, by simp; omega⟩, by simp [intOf]; omega⟩
    · have q1 : ¬ (k : Int) < n := by omega
      obtain rfl : k = n := by omega
      rw [mixed_full L.out.symm] at hQ
      go_wp2_with (fail)
      go_ret
      refine ⟨_, cs, rfl, ?_, hx⟩
      rw [HG.out, L.out]
      exact hQ
end Go.Proofs.YtfpglkacjecoeaaGreat
namespace Go.Proofs.YtfpglkacjecoeaaGreat
open Go.RowKit

/-- The first k rows are another matrix's. -/
def upTo (a b : Gm.L) (k : Nat) : Gm.L := a.take k ++ b.drop k
theorem upTo_zero (a b : Gm.L) : upTo a b 0 = b := by simp [upTo]
theorem upTo_full {a b : Gm.L} {k : Nat} (h : k = a.length) (hb : b.length = a.length) : upTo a b k = a := by
  subst h
  unfold upTo
  rw [List.take_length, ← hb, List.drop_length, List.append_nil]
theorem upTo_length {a b : Gm.L} (hb : b.length = a.length) {k : Nat} (h : k ≤ a.length) : (upTo a b k).length = a.length := by simp [upTo]; omega
theorem upTo_set {a b : Gm.L} {k : Nat} (hb : b.length = a.length) (h : k < a.length) : (upTo a b k).set k (Gm.row a k) = upTo a b (k + 1) := by
  unfold upTo
  rw [List.set_append_right _ _ (by simp; omega), show k - (a.take k).length = 0 by simp; omega, List.drop_eq_getElem_cons (by omega), List.set_cons_zero, List.take_succ_eq_append_getElem h, Gm.row_of_lt h, List.append_assoc]
  rfl
theorem row_upTo {a b : Gm.L} {k i : Nat} (ha : k ≤ a.length) (hk : k ≤ i) : Gm.row (upTo a b k) i = Gm.row b i := by
  unfold upTo Gm.row
  rw [List.getD_eq_getElem?_getD, List.getD_eq_getElem?_getD, List.getElem?_append_right (by simp; omega), List.getElem?_drop]
  congr 2
  simp; omega
theorem set_set (m : Gm.L) (i : Nat) (a b : List UInt8) : (m.set i a).set i b = m.set i b := List.set_set ..
theorem unit_row (n k : Nat) (hk : k < n) : (zeros n).set k 1 = Gm.row (Gm.unit n) k := by
  unfold Gm.unit
  rw [Gm.row_range _ hk]
  refine Gf.ext_get (by simp [zeros]) fun j hj => ?_
  have hj' : j < n := by simpa [zeros] using hj
  rw [Gf.get_set _ (by simp [zeros]; exact hk), Gf.get_map_range _ hj']
  by_cases e : k = j
  · rw [if_pos e, if_pos e]
  · rw [if_neg e, if_neg e]; exact Gf.get_zeros _ _

set_option maxRecDepth 100000 in
set_option maxHeartbeats 1000000 in
theorem unit_ok (w : World) (n : Nat) (h1 : 1 ≤ n) (h2 : n ≤ 255) :
    Calls Tryz.prog 32 #[.int .i64 (n : Int)] w (GivesQE (Gm.unit n) 0 w) := by
  have g1 : ¬ (n : Int) < 1 := by omega
  have g2 : ¬ (255 : Int) < n := by omega
  go_enter Tryz.func32, Tryz.ntmps32
  go_wp2_with (fail)
  refine (blank_any w n n (by omega) (by omega)).mono ?_
  rintro e w1 ⟨v, cs, rfl, hQ, hx⟩
  rw [List.length_replicate] at hQ
  obtain ⟨A, c0, rfl, hc1, hc2⟩ := ownsRow_slice hQ.own
  obtain ⟨g, rfl, hg1, hg2⟩ := own_addr hQ.own (by omega)
  have hul : (Gm.unit n).length = n := (Gm.unit_rect n).len
  have hst : List.replicate n (zeros n) = upTo (Gm.unit n) (List.replicate n (zeros n)) 0 := (upTo_zero _ _).symm
  rw [hst] at hQ
  have HU := Lib.hid hul
  clear hst hul
  go_wp2_with (fail)
  go_loopw [5, 17] (fun _ s wr => ∃ (k : Nat) (cs : List Value), k ≤ n ∧ s = .int .i64 k ∧ Mq wr w.heap.size (Hot w.heap.size (.slice (some ⟨g, 0, none⟩) n c0)) (.slice (some ⟨g, 0, none⟩) n c0) n cs (upTo (Gm.unit n) (List.replicate n (zeros n)) k) ∧ Ext w wr) (fun _ s _ => n - (intOf s).toNat)
  case atStart => exact ⟨0, cs, by omega, rfl, hQ, hx⟩
  case round =>
    obtain ⟨k, cs, hk, rfl, hQ', hx'⟩ := hrel
    clear hQ hx
    by_cases hlt : k < n
    · have q1 : (k : Int) < n := by omega
      obtain ⟨Ai, ci, hcs, hcell, _, ho⟩ := hQ'.cellAt hlt
      have hrow : Gm.row (upTo (Gm.unit n) (List.replicate n (zeros n)) k) k = zeros n := by rw [row_upTo (by rw [HU.out]; omega) (Nat.le_refl _), row_replicate _ hlt]
      have hpk := fun (b : Nat) (hA : Ai = some ⟨b, 0, none⟩) (hv : (Value.slice (some ⟨g, 0, none⟩) n c0).ownBlock ≠ some b) => hQ'.poke hlt (g := b) (c := ci) (by rw [hcs, hA]) k 1 hv
      rw [hrow] at hcs hcell ho hpk
      have hzl : (zeros n).length = n := by simp [zeros]
      rw [hzl] at hcs hcell ho
      obtain ⟨b, rfl, hb1, hb2⟩ := own_addr ho (by omega)
      have hne : (Value.slice (some ⟨g, 0, none⟩) n c0).ownBlock ≠ some b := fun e => hQ'.cool k _ b hcs rfl (.inl e)
      have hp := hpk b rfl hne
      rw [unit_row n k hlt, upTo_set (by rw [HU.out]; simp) (by rw [HU.out]; exact hlt)] at hp
      have hcb : wr.cell? ⟨b, k, none⟩ = some (.int .u8 ((Gf.get (zeros n) k).toNat : Int)) := by rw [ho.cellAt k (by omega), bcells_get (by rw [hzl]; exact hlt)]
      have hfb : wr.frozen? ⟨b, k, none⟩ = false := ho.frozenAt k
      have hxs := hx'.set_ (p := ⟨b, k, none⟩) hb1 (.int .u8 ((1 : UInt8).toNat : Int))
      have h11 : ((1 : UInt8).toNat : Int) = 1 := rfl
      rw [h11] at hp hxs
      have HP := Lib.hid hp
      have HXS := Lib.hid hxs
      clear hp hpk hxs h11 hrow hQ' ho hcs hzl hne
      go_wp2_with (fail)
      exact ⟨⟨k + 1, _, by omega, by go_num, HP.out, HXS.out⟩, by simp [intOf]; omega⟩
    · have q1 : ¬ (k : Int) < n := by omega
      obtain rfl : k = n := by omega
      rw [upTo_full HU.out.symm (by rw [HU.out]; simp)] at hQ'
      go_wp2_with (fail)
      go_ret2
      refine ⟨_, cs, rfl, ?_, hx'⟩
      rw [HU.out]
      exact hQ'
set_option maxHeartbeats 1000000 in
theorem unit_no (w : World) (n : Int) (h : n < 1 ∨ 255 < n) :
    Calls Tryz.prog 32 #[.int .i64 n] w (GivesQE [] 2 w) := by
  rcases h with h | h
  · go_enter Tryz.func32, Tryz.ntmps32
    go_wp2_with (fail)
    go_ret2
    exact GivesQE.none 2 (Ext.refl w)
  · have h' : ¬ n < 1 := by omega
    go_enter Tryz.func32, Tryz.ntmps32
    go_wp2_with (fail)
    go_ret2
    exact GivesQE.none 2 (Ext.refl w)

end Go.Proofs.YtfpglkacjecoeaaGreat
