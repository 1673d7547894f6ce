/- Several texts in one: What the laws of chapter 13 use of finds, in plain words. No program in sight. The contract of the laws' told: a find behind answers. -/
import Derived.Test.YtfpglkacjecoeaaCt3
import Derived.Test.YtfpglkacjecoeaaCt19
import Derived.Test.YtfpglkacjecoeaaCt20
namespace Finds
open Il

theorem right_len {f : F} (h : right f) : 1 ≤ f.marks.length ∧ f.marks.length ≤ 255 := by
  obtain ⟨_, _, h, _⟩ := h.1
  omega
theorem right_need {f : F} (h : right f) : 1 ≤ f.need ∧ f.need ≤ f.marks.length := h.1.2.2.2
theorem toldF_marks_length (f : F) (i e : Int) (b : List UInt8) : (toldF f i e b).marks.length = f.marks.length := by
  unfold toldF
  split
  · rw [(phased_keeps _).1]
    unfold told0
    split <;> simp
  · rfl
theorem toldF_need (f : F) (i e : Int) (b : List UInt8) : (toldF f i e b).need = f.need := by
  unfold toldF
  split
  · rw [(phased_keeps _).2.2.2.1]
    unfold told0
    split <;> rfl
  · rfl
theorem toldF_shut {f : F} {i : Int} (h : ¬ opens f i) (e : Int) (b : List UInt8) : toldF f i e b = f := if_neg fun k => h k.2
theorem toldF_late {f : F} (h : f.phase ≠ 1) (i e : Int) (b : List UInt8) : toldF f i e b = f := toldF_shut (fun k => h k.1) e b
/-- The phase of a right find. -/
theorem phase_done {f : F} (h : right f) : f.phase = 2 ↔ (cnt f.marks 1 : Int) = f.need := by
  rcases h.2.2.2.2.2 with ⟨a, b, c⟩ | ⟨a, b⟩ | ⟨a, b, c⟩ <;> omega
theorem phase_lost {f : F} (h : right f) : f.phase = 3 ↔ (cnt f.marks 1 : Int) < f.need ∧ (f.marks.length : Int) - f.need < cnt f.marks 2 := by
  rcases h.2.2.2.2.2 with ⟨a, b, c⟩ | ⟨a, b⟩ | ⟨a, b, c⟩ <;> omega
theorem asks_some {f : F} (h : right f) (hp : f.phase = 1) : 0 < cnt f.marks 0 := by
  have h2 := h.2.1
  rcases h.2.2.2.2.2 with ⟨a, b, c⟩ | ⟨a, b⟩ | ⟨a, b, c⟩ <;> omega
theorem wants_none {f : F} (h : right f) (hw : wantsL f = []) : f.phase ≠ 1 := by
  intro hp
  have := asks_some h hp
  unfold wantsL at hw
  rw [if_pos ⟨h, hp⟩] at hw
  unfold cnt at this
  rw [hw] at this
  exact absurd this (Nat.lt_irrefl 0)
theorem wants_mem {f : F} {x : Int} (h : x ∈ wantsL f) : right f ∧ f.phase = 1 ∧ 0 ≤ x ∧ x < f.marks.length ∧ get f.marks x.toNat = 0 := by
  unfold wantsL at h
  split at h
  · rename_i hc
    obtain ⟨j, h1, h2, h3⟩ := ofL_mem.1 h
    subst h2
    exact ⟨hc.1, hc.2, by omega, by omega, by simpa using h3⟩
  · cases h
theorem wants_get {f : F} {j : Nat} (h : j < (wantsL f).length) : right f ∧ f.phase = 1 ∧ 0 ≤ get (wantsL f) j ∧ get (wantsL f) j < f.marks.length ∧ get f.marks (get (wantsL f) j).toNat = 0 := by
  rw [get_of_lt h]
  exact wants_mem (List.getElem_mem h)
theorem told_opened {f : F} {i : Int} (hr : right f) (h0 : 0 ≤ i) (h1 : i < f.marks.length) (hp : f.phase = 1) (hm : get f.marks i.toNat = 0) (e : Int) (b : List UInt8) : toldF f i e b = phased (told0 f i.toNat e b) := if_pos ⟨⟨hr, h0, h1⟩, hp, hm⟩
/-- One index fewer is open. -/
theorem told_cnt0 {f : F} {i : Int} (hr : right f) (h0 : 0 ≤ i) (h1 : i < f.marks.length) (hp : f.phase = 1) (hm : get f.marks i.toNat = 0) (e : Int) (b : List UInt8) : cnt (toldF f i e b).marks 0 + 1 = cnt f.marks 0 := by
  rw [told_opened hr h0 h1 hp hm, (phased_keeps _).1]
  unfold told0
  split
  · have := cnt_set (l := f.marks) (i := i.toNat) (by omega) hm (m := 0) (show (0 : Int) ≠ 1 by decide)
    simp at this
    show cnt (f.marks.set i.toNat 1) 0 + 1 = _
    omega
  · have := cnt_set (l := f.marks) (i := i.toNat) (by omega) hm (m := 0) (show (0 : Int) ≠ 2 by decide)
    simp at this
    show cnt (f.marks.set i.toNat 2) 0 + 1 = _
    omega
theorem told_cnt0_le {f : F} (hr : right f) (i e : Int) (b : List UInt8) : cnt (toldF f i e b).marks 0 ≤ cnt f.marks 0 := by
  by_cases h : mayTell f i ∧ opens f i
  · have := told_cnt0 hr h.1.2.1 h.1.2.2 h.2.1 h.2.2 e b
    omega
  · rw [show toldF f i e b = f from if_neg h]
    exact Nat.le_refl _
theorem begun_right {s v n need : Int} (h : named s v n need) : right (beginF s v n need) := by
  unfold beginF
  rw [if_pos h]
  have hn : (n.toNat : Int) = n := by have := h.2.2.1; omega
  have one : ∀ m : Int, m ≠ 0 → ofL (List.replicate n.toNat (0 : Int)) m = [] := fun m hm => by
    apply List.eq_nil_iff_forall_not_mem.2
    intro x hx
    obtain ⟨j, h1, _, h3⟩ := ofL_mem.1 hx
    rw [get_of_lt h1] at h3
    simp at h3
    exact hm h3.symm
  have zero : ∀ k, k ≤ n.toNat → (upto (List.replicate n.toNat (0 : Int)) 0 k).length = k := fun k => by
    induction k with
    | zero => intro _; rfl
    | succ k ih =>
      intro hk
      rw [upto_succ, if_pos (by rw [get_of_lt (by rw [List.length_replicate]; omega)]; simp), List.length_append, ih (by omega)]
      rfl
  have c1 : cnt (List.replicate n.toNat (0 : Int)) 1 = 0 := by unfold cnt; rw [one 1 (by decide)]; rfl
  have c2 : cnt (List.replicate n.toNat (0 : Int)) 2 = 0 := by unfold cnt; rw [one 2 (by decide)]; rfl
  have c0 : cnt (List.replicate n.toNat (0 : Int)) 0 = n.toNat := by unfold cnt ofL; rw [List.length_replicate]; exact zero _ (Nat.le_refl _)
  refine ⟨?_, ?_, ?_, ?_, ?_, ?_⟩
  · show named s v ((List.replicate n.toNat (0 : Int)).length : Nat) need
    rw [List.length_replicate, hn]; exact h
  · show cnt (List.replicate n.toNat (0 : Int)) 0 + cnt (List.replicate n.toNat (0 : Int)) 1 + cnt (List.replicate n.toNat (0 : Int)) 2 = (List.replicate n.toNat (0 : Int)).length
    rw [c0, c1, c2, List.length_replicate]
    rfl
  · show srt [] = ofL (List.replicate n.toNat (0 : Int)) 1
    rw [one 1 (by decide)]
    exact List.eq_nil_of_length_eq_zero (srt_length [])
  · show ([] : List (List UInt8)).length = cnt (List.replicate n.toNat (0 : Int)) 1
    rw [c1]; rfl
  · intro b hb; cases hb
  · show phaseOk 1 (cnt (List.replicate n.toNat (0 : Int)) 1) (cnt (List.replicate n.toNat (0 : Int)) 2) (List.replicate n.toNat (0 : Int)).length need
    rw [c1, c2, List.length_replicate]
    left
    have := h.2.2.2
    exact ⟨rfl, by omega, by omega⟩
/-- What a mark turns into. -/
theorem told_marks {f : F} {i : Int} (hr : right f) (h0 : 0 ≤ i) (h1 : i < f.marks.length) (hp : f.phase = 1) (hm : get f.marks i.toNat = 0) (e : Int) (b : List UInt8) : (toldF f i e b).marks = f.marks.set i.toNat (if gets f e b then 1 else 2) ∧ (toldF f i e b).shards = (if gets f e b then f.shards ++ [b] else f.shards) ∧ (toldF f i e b).which = (if gets f e b then f.which ++ [(i.toNat : Int)] else f.which) := by
  rw [told_opened hr h0 h1 hp hm, (phased_keeps _).1, (phased_keeps _).2.2.1, (phased_keeps _).2.1]
  unfold told0
  split <;> exact ⟨rfl, rfl, rfl⟩
end Finds
namespace Go.Proofs.Ytfpglkacjecoeaa
open Go.RowKit

/-- A find behind the first k answers. -/
def tolds (f : Finds.F) (o : Nat → Op13) : Nat → Finds.F
  | 0 => f
  | k + 1 => Finds.toldF (tolds f o k) (o k).index (o k).e (o k).b
theorem tolds_right {f : Finds.F} (h : Finds.right f) (o : Nat → Op13) (k : Nat) : Finds.right (tolds f o k) ∧ (tolds f o k).marks.length = f.marks.length := by
  induction k with
  | zero => exact ⟨h, rfl⟩
  | succ k ih => exact ⟨Finds.right_told ih.1 _ _ _, by show (Finds.toldF _ _ _ _).marks.length = _; rw [Finds.toldF_marks_length]; exact ih.2⟩
/-- A find is handed back, and that none erred. -/
def GivesT13 (f : Finds.F) (w : World) (e : Ending) (w' : World) : Prop := ∃ A n c B m d C k e9, e = .returned (.tuple #[fval f.stripe f.version f.need f.phase (.slice A n c) (.slice B m d) (.slice C k e9), .bool true]) ∧ Fd w' f A n c B m d C k e9 ∧ Ext w w'
theorem fTold_ok {w : World} {f : Finds.F} {A : Option Addr} {n c : Nat} {B : Option Addr} {m d : Nat} {C : Option Addr} {k e : Nat} (h : Fd w f A n c B m d C k e) (hr : Finds.right f) {i er : Int} (h0 : 0 ≤ i) (h1 : i < f.marks.length) {D : Option Addr} {q c9 : Nat} {b : List UInt8} (hb : Bs w D q c9 b) :
    Calls Try.prog 10 #[fval f.stripe f.version f.need f.phase (.slice A n c) (.slice B m d) (.slice C k e), .int .i64 i, .int .i64 er, .slice D q c9] w fun r w' => ∃ A n c B m d C k e, r = .returned (.tuple #[fval (Finds.toldF f i er b).stripe (Finds.toldF f i er b).version (Finds.toldF f i er b).need (Finds.toldF f i er b).phase (.slice A n c) (.slice B m d) (.slice C k e), .int .i64 0]) ∧ Ext w w' ∧ Fo w' w.heap.size (Finds.toldF f i er b) (.slice A n c) (.slice B m d) (.slice C k e) := by
  have hl := Finds.right_len hr
  have hw := Finds.which_len hr
  have hc := Finds.cnt_le f.marks 1
  have h2 := h.u.len
  have h3 := h.v.len
  have hE : Finds.toldE f i = 0 := if_pos ⟨hr, h0, h1⟩
  refine (fTold_any w f A n c B m d C k e h (by omega) (by omega) i er D q c9 b hb).mono ?_
  rintro r w' ⟨U, V, S, rfl, ⟨A, n, c, B, m, d, C, k, e, rfl, rfl, rfl, _⟩, hx, ho⟩
  exact ⟨A, n, c, B, m, d, C, k, e, by rw [hE], hx, ho hE⟩
set_option maxRecDepth 100000 in
set_option maxHeartbeats 4000000 in
theorem told13_any (w : World) (f : Finds.F) (A : Option Addr) (n c : Nat) (B : Option Addr) (m d : Nat) (C : Option Addr) (k e : Nat) (h : Fd w f A n c B m d C k e) (hr : Finds.right f) (D : Option Addr) (q c9 : Nat) (o : Nat → Op13) (ho : Os13 w D q c9 o) (hin : ∀ i, i < q → 0 ≤ (o i).index ∧ (o i).index < f.marks.length) :
    Calls Try.prog 11 #[fval f.stripe f.version f.need f.phase (.slice A n c) (.slice B m d) (.slice C k e), .slice D q c9] w (GivesT13 (tolds f o q) w) := by
  have q1 := ho.max
  have q2 := ho.le
  obtain ⟨g, hg⟩ : ∃ g, w.heap.size = g := ⟨_, rfl⟩
  have s1 := Fb.new w f.stripe f.version f.need f.phase (.slice A n c) (.slice B m d) (.slice C k e) hg
  have xA := Ext.alloc w (.cells #[.int .i64 f.stripe, .int .i64 f.version, .int .i64 f.need, .int .i64 f.phase, .slice A n c, .slice B m d, .slice C k e] 27)
  obtain ⟨W1, hW1⟩ : ∃ W1, w.alloc (.cells #[.int .i64 f.stripe, .int .i64 f.version, .int .i64 f.need, .int .i64 f.phase, .slice A n c, .slice B m d, .slice C k e] 27) = W1 := ⟨_, rfl⟩
  have z1 : W1.heap.size = g + 1 := by rw [← hW1, ← hg]; simp
  rw [hW1] at s1 xA
  have s2 := Fb.new W1 0 0 0 0 (.slice none 0 0) (.slice none 0 0) (.slice none 0 0) z1
  have xB := Ext.alloc W1 (.cells #[.int .i64 0, .int .i64 0, .int .i64 0, .int .i64 0, .slice none 0 0, .slice none 0 0, .slice none 0 0] 27)
  obtain ⟨W0, hW0⟩ : ∃ W0, W1.alloc (.cells #[.int .i64 0, .int .i64 0, .int .i64 0, .int .i64 0, .slice none 0 0, .slice none 0 0, .slice none 0 0] 27) = W0 := ⟨_, rfl⟩
  rw [hW0] at s2 xB
  have z0 : W0.heap.size = g + 1 + 1 := by rw [← hW0]; simp [z1]
  have H := Lib.hid h
  have HO := Lib.hid ho
  have y1 := h.u.max
  have y2 := h.u.le
  have y3 := h.v.max
  have y4 := h.v.le
  have y5 := h.s.max
  have y6 := h.s.le
  have XA := Lib.hid (xA.trans xB)
  have FH := Lib.hid (Fh.ext (show Fh W1 g (g + 1 + 1) g f by rw [← hW1]; exact Fh.new (h.x (Ext.refl w) (by omega)) hg) xB)
  have SZ := Lib.hid s2
  have HG := Lib.hid hg
  have Z0 := Lib.hid z0
  have HW1 := Lib.hid hW1
  have HW0 := Lib.hid hW0
  have HR := Lib.hid hr
  have HIN := Lib.hid hin
  clear h ho hr hin xA xB s1 s2 z0 z1 hW1 hW0
  go_enter Try.func11, Try.ntmps11
  try dsimp only [List.append]
  go_upto_block 0 with (fail)
  rw [HW1.out, HW0.out]
  go_wp2_with (fail)
  go_loopw [6, 8, 9, 12] (fun s6 _ _ s wr => ∃ i : Nat, i ≤ q ∧ s = .int .i64 (i : Int) ∧ s6 = .bool true ∧ RowKit.Hid (Fh wr g (g + 1 + 1) g (tolds f o i)) ∧ RowKit.Hid (Fb wr (g + 1) 0 0 0 0 (.slice none 0 0) (.slice none 0 0) (.slice none 0 0)) ∧ RowKit.Hid (Ext w wr)) (fun _ _ _ s _ => q - (intOf s).toNat)
  case atStart => exact ⟨0, by omega, rfl, rfl, FH, SZ, XA⟩
  case round =>
    obtain ⟨i, hi, rfl, rfl, HF, HZ, HX⟩ := hrel
    by_cases hlt : i < q
    · have r1 : (i : Int) < q := by omega
      obtain ⟨bo, oo, rfl, ho0, ho1, ho2, ho3, hob⟩ := (HO.out.ext HX.out).at_ i hlt
      obtain ⟨A1, n1, c1, B1, m1, d1, C1, kk1, e1, sb, fx⟩ := HF.out
      have fd := fx.fd
      have hsn : tolds f o (i + 1) = Finds.toldF (tolds f o i) (o i).index (o i).e (o i).b := rfl
      have hrt := tolds_right HR.out o i
      have hii := HIN.out i hlt
      rw [← hrt.2] at hii
      have HSN := Lib.hid hsn
      have HRT := Lib.hid hrt.1
      clear hsn hrt
      generalize hF : tolds f o i = F at *
      generalize o i = oi at *
      obtain ⟨lo, ix, er, Ao, mo, co, bb⟩ := oi
      simp only at ho0 ho1 ho2 ho3 hob HSN hii
      have HT := Lib.hid (fun (W : World) (hW : Ext wr W) => fTold_ok (er := er) (fd.ext hW) HRT.out hii.1 hii.2 (hob.ext hW))
      have p1 := fd.u.max
      have p2 := fd.u.le
      have p3 := fd.v.max
      have p4 := fd.v.le
      have p5 := fd.s.max
      have p6 := fd.s.le
      have p7 := hob.max
      have p8 := hob.le
      have HX3 := Lib.hid (Ext.alloc wr (.cells #[.bool lo, .int .i64 ix, .int .i64 er, .slice Ao mo co] 37))
      have k0 := (sb.ext HX3.out).c0
      have k1 := (sb.ext HX3.out).c1
      have k2 := (sb.ext HX3.out).c2
      have k3 := (sb.ext HX3.out).c3
      have k4 := (sb.ext HX3.out).c4
      have k5 := (sb.ext HX3.out).c5
      have k6 := (sb.ext HX3.out).c6
      have HF3 := Lib.hid (HF.out.ext HX3.out)
      have SB := Lib.hid sb
      have HGL := Lib.hid (show g + 1 < wr.heap.size from HZ.out.lt)
      clear hF fd fx sb hob hii
      go_wp2_with (fail)
      with_reducible refine (HT.out _ HX3.out).mono ?_
      rintro e w4 ⟨A4, n4, c4, B4, m4, d4, C4, k4', e4, rfl, hx4, ho4⟩
      rename_i hKK
      have hfd4 := ho4.fdOf
      have p9 := hfd4.u.max
      have p10 := hfd4.u.le
      have p11 := hfd4.v.max
      have p12 := hfd4.v.le
      have p13 := hfd4.s.max
      have p14 := hfd4.s.le
      obtain ⟨F2, hF2⟩ : ∃ F2, Finds.toldF F ix er bb = F2 := ⟨_, rfl⟩
      rw [hF2] at ho4 HSN ⊢
      have HX4 := Lib.hid hx4
      have HO4 := Lib.hid ho4
      refine hKK _ _ ?_
      clear hKK hF2 hfd4 ho4 hx4
      have bb4 := (SB.out.ext (HX3.out.trans HX4.out)).blk
      refine wpList_val rfl (.tuple #[fval F2.stripe F2.version F2.need F2.phase (.slice A4 n4 c4) (.slice B4 m4 d4) (.slice C4 k4' e4), .int .i64 0]) (by rfl) ?_
      refine wpList_val rfl (fval F2.stripe F2.version F2.need F2.phase (.slice A4 n4 c4) (.slice B4 m4 d4) (.slice C4 k4' e4)) (by rfl) ?_
      refine wpList_val rfl (.int .i64 0) (by rfl) ?_
      refine wpList_store_row rfl 27 (.tmp 2) (.tmp 25) rfl g (frow F2.stripe F2.version F2.need F2.phase (.slice A4 n4 c4) (.slice B4 m4 d4) (.slice C4 k4' e4)) rfl rfl 27 _ bb4 (by kernel_rfl) rfl (by simp [Value.oneCell']) ?_
      have hgl := HGL.out
      have hz3 : (wr.alloc (.cells #[.bool lo, .int .i64 ix, .int .i64 er, .slice Ao mo co] 37)).heap.size = wr.heap.size + 1 := by simp
      have hgb : w.heap.size ≤ g := by rw [HG.out]; exact Nat.le_refl _
      have HP := Lib.hid ((HF3.out.ext HX4.out).put (HO4.out.x (by omega)) (Nat.le_refl _) (by omega))
      have HX5 := Lib.hid ((HX.out.trans (HX3.out.trans HX4.out)).row hgb (frow F2.stripe F2.version F2.need F2.phase (.slice A4 n4 c4) (.slice B4 m4 d4) (.slice C4 k4' e4)))
      have HZ5 := Lib.hid (show Fb (w4.setRow g (frow F2.stripe F2.version F2.need F2.phase (.slice A4 n4 c4) (.slice B4 m4 d4) (.slice C4 k4' e4))) (g + 1) 0 0 0 0 (.slice none 0 0) (.slice none 0 0) (.slice none 0 0) from ⟨(setRow_other w4 g (g + 1) _ (by omega)).trans (HZ.out.ext (HX3.out.trans HX4.out)).blk⟩)
      clear bb4 hgl hgb hz3 k0 k1 k2 k3 k4 k5 k6 ho0 ho1 ho2 ho3
      go_wp2_with (fail)
      exact ⟨⟨i + 1, by omega, by go_num, by trivial, by rw [HSN.out]; exact HP, HZ5, HX5⟩, by simp [intOf]; omega⟩
    · have r1 : ¬ (i : Int) < q := by omega
      obtain rfl : i = q := by omega
      generalize tolds f o i = F at *
      obtain ⟨A1, n1, c1, B1, m1, d1, C1, kk1, e1, sb, fx⟩ := HF.out
      have fd := fx.fd
      have p1 := fd.u.max
      have p2 := fd.u.le
      have p3 := fd.v.max
      have p4 := fd.v.le
      have p5 := fd.s.max
      have p6 := fd.s.le
      have SB := Lib.hid sb
      have FX := Lib.hid fx
      clear sb fd fx
      go_upto_region 9 with (fail)
      have ab := SB.out.blk
      have zb := HZ.out.blk
      refine wp_region_lit ?_
      refine wpList_load_row rfl 27 (.tmp 2) rfl g rfl 27 _ (0, 0) _ ab Try.underlying27 rfl (by kernel_rfl) ?_
      refine wpList_val rfl (.bool true) (by rfl) ?_
      refine wpList_store_row rfl 27 (.tmp 4) (.tmp 33) rfl (g + 1) (frow F.stripe F.version F.need F.phase (.slice A1 n1 c1) (.slice B1 m1 d1) (.slice C1 kk1 e1)) rfl rfl 27 _ zb (by kernel_rfl) rfl (by simp [Value.oneCell']) ?_
      clear ab zb
      go_wp2_with (fail)
      have hz := (HZ.out.row F.stripe F.version F.need F.phase (.slice A1 n1 c1) (.slice B1 m1 d1) (.slice C1 kk1 e1)).res
      refine bodyPost_ret (v := .tuple #[fval F.stripe F.version F.need F.phase (.slice A1 n1 c1) (.slice B1 m1 d1) (.slice C1 kk1 e1), .bool true]) ?_ rfl ⟨_, _, _, _, _, _, _, _, _, rfl, FX.out _ (.row wr (by omega) (by omega) _), HX.out.row (by rw [HG.out]; omega) _⟩
      rw [results_cell_tmp rfl]
      simp [asAddr, Result.andThen, hz]
end Go.Proofs.Ytfpglkacjecoeaa
