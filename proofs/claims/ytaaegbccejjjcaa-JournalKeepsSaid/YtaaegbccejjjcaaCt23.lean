/- Several texts in one: The contracts of a journal's small methods: right, may, Room, Over, Base. The contract of a journal's write: data behind a place, and then what stands there. -/
import Derived.Test.YtaaegbccejjjcaaCt22
import Derived.BigQuiet
import Derived.Laws.CopyOwn
import Derived.Deep.DeepCutAuto
import Derived.Deep.CutBlock
namespace Go.Proofs.Ytaaegbccejjjcaa
open Go.RowKit Go.Maps Go.Sort Go.Shelf

theorem own_of_map {A : Option Addr} {n c q : Nat} (h : (A.map (·.block)) = some q) : (Value.slice A n c).ownBlock = some q := by
  cases A with
  | none => cases h
  | some a => exact h
/-- No journal: a pointer to nothing, or a journal without a disk. -/
def NoJ (w : World) (v : Value) : Prop := v = .pointer none ∨ ∃ p, v = .pointer (some ⟨p, 0, none⟩) ∧ w.cell? ⟨p, 0, none⟩ = some (.pointer none)
theorem NoJ.ext {w w' : World} {v : Value} (h : NoJ w v) (hx : Ext w w') : NoJ w' v := by
  rcases h with h | ⟨p, h, hc⟩
  · exact .inl h
  · exact .inr ⟨p, h, hx.cell hc⟩
section
variable {w : World} {p g m b N : Nat} {o : Option Nat} {j : Jo.J} {over : Bool} {d : Disks.D}
theorem right_any (h : Jn w p g m b N o j over d) : Calls Try.prog 31 #[.pointer (some ⟨p, 0, none⟩)] w fun e w' => e = .returned (.bool true) ∧ w = w' := by
  have k0 := h.c0
  clear h
  go_enter Try.func31, Try.ntmps31
  go_wp2_with (fail)
  go_ret
  exact ⟨rfl, rfl⟩
theorem right_no {v : Value} (h : NoJ w v) : Calls Try.prog 31 #[v] w fun e w' => e = .returned (.bool false) ∧ w = w' := by
  rcases h with rfl | ⟨p, rfl, k0⟩
  · go_enter Try.func31, Try.ntmps31
    go_wp2_with (fail)
    go_ret
    exact ⟨rfl, rfl⟩
  · go_enter Try.func31, Try.ntmps31
    go_wp2_with (fail)
    go_ret
    exact ⟨rfl, rfl⟩
theorem may_any (h : Jn w p g m b N o j false d) : Calls Try.prog 32 #[.pointer (some ⟨p, 0, none⟩)] w fun e w' => e = .returned (.int .i64 0) ∧ w = w' := by
  obtain ⟨A, c, v, hv, _⟩ := h.jv
  have k7 := hv.c7
  have hr := right_any h
  clear h hv
  go_enter Try.func32, Try.ntmps32
  go_wp2_with (fail)
  with_reducible refine hr.mono ?_
  rintro e w1 ⟨rfl, rfl⟩
  go_wp2_with (fail)
  go_ret
  exact ⟨rfl, rfl⟩
theorem may_over (h : Jn w p g m b N o j true d) : Calls Try.prog 32 #[.pointer (some ⟨p, 0, none⟩)] w fun e w' => e = .returned (.int .i64 17) ∧ w = w' := by
  obtain ⟨A, c, v, hv, _⟩ := h.jv
  have k7 := hv.c7
  have hr := right_any h
  clear h hv
  go_enter Try.func32, Try.ntmps32
  go_wp2_with (fail)
  with_reducible refine hr.mono ?_
  rintro e w1 ⟨rfl, rfl⟩
  go_wp2_with (fail)
  go_ret
  exact ⟨rfl, rfl⟩
theorem may_no {v : Value} (h : NoJ w v) : Calls Try.prog 32 #[v] w fun e w' => e = .returned (.int .i64 1) ∧ w = w' := by
  have hr := right_no h
  clear h
  go_enter Try.func32, Try.ntmps32
  go_wp2_with (fail)
  with_reducible refine hr.mono ?_
  rintro e w1 ⟨rfl, rfl⟩
  go_wp2_with (fail)
  go_ret
  exact ⟨rfl, rfl⟩
theorem room_any (h : Jn w p g m b N o j over d) (hh : j.half ≤ 65536) (hf : j.from_ ≤ 65536) (hn : j.next ≤ j.from_ + j.half) : Calls Try.prog 11 #[.pointer (some ⟨p, 0, none⟩)] w fun e w' => e = .returned (.int .i64 ((j.from_ + j.half - j.next : Nat) : Int)) ∧ Ext w w' := by
  obtain ⟨A, c, v, hv, _⟩ := h.jv
  have k1 := hv.c1
  have k2 := hv.c2
  have k3 := hv.c3
  have hr := right_any h
  clear h hv
  go_enter Try.func11, Try.ntmps11
  go_wp2_with (fail)
  with_reducible refine hr.mono ?_
  rintro e w1 ⟨rfl, rfl⟩
  go_wp2_with (fail)
  go_quiet (fail)
  go_wp2_with (fail)
  go_ret
  exact ⟨ret_int (by omega), Ext.drewN _ _⟩
theorem room_no {v : Value} (h : NoJ w v) : Calls Try.prog 11 #[v] w fun e w' => e = .returned (.int .i64 0) ∧ w = w' := by
  have hr := right_no h
  clear h
  go_enter Try.func11, Try.ntmps11
  go_wp2_with (fail)
  with_reducible refine hr.mono ?_
  rintro e w1 ⟨rfl, rfl⟩
  go_wp2_with (fail)
  go_ret
  exact ⟨rfl, rfl⟩
theorem over_any (h : Jn w p g m b N o j over d) : Calls Try.prog 22 #[.pointer (some ⟨p, 0, none⟩)] w fun e w' => e = .returned (.bool over) ∧ w = w' := by
  obtain ⟨A, c, v, hv, _⟩ := h.jv
  have k7 := hv.c7
  have hr := right_any h
  clear h hv
  go_enter Try.func22, Try.ntmps22
  go_wp2_with (fail)
  with_reducible refine hr.mono ?_
  rintro e w1 ⟨rfl, rfl⟩
  go_wp2_with (fail)
  go_ret
  exact ⟨rfl, rfl⟩
theorem over_no {v : Value} (h : NoJ w v) : Calls Try.prog 22 #[v] w fun e w' => e = .returned (.bool false) ∧ w = w' := by
  have hr := right_no h
  clear h
  go_enter Try.func22, Try.ntmps22
  go_wp2_with (fail)
  with_reducible refine hr.mono ?_
  rintro e w1 ⟨rfl, rfl⟩
  go_wp2_with (fail)
  go_ret
  exact ⟨rfl, rfl⟩
theorem base_any (h : Jn w p g m b N o j over d) (hl : j.base.length ≤ 140737488355328) : Calls Try.prog 23 #[.pointer (some ⟨p, 0, none⟩)] w fun e w' => ∃ A c, e = .returned (.slice A j.base.length c) ∧ Bs w' A j.base.length c j.base ∧ Newer w A ∧ Ext w w' := by
  obtain ⟨A, c, v, hv, hb, _⟩ := h.jv
  have k5 := hv.c5
  have hr := right_any h
  have hcl := clone_any w A _ c j.base hb hl
  clear h hv
  go_enter Try.func23, Try.ntmps23
  go_wp2_with (fail)
  with_reducible refine hr.mono ?_
  rintro e w1 ⟨rfl, rfl⟩
  clear hr
  go_wp2_with (fail)
  with_reducible refine hcl.mono ?_
  rintro e w2 ⟨v2, rfl, hn⟩
  obtain ⟨A2, c2, e2, _, _⟩ := ownsRow_slice hn.own
  subst e2
  have HN := Lib.hid hn
  clear hn hcl hb
  go_wp2_with (fail)
  go_ret
  refine ⟨A2, c2, rfl, (Own.mk (base := w.heap.size) (e := 5) HN.out.own).bs, fun q hq => own_row HN.out.own q (own_of_map hq), HN.out.ext⟩
theorem base_no {v : Value} (h : NoJ w v) : Calls Try.prog 23 #[v] w fun e w' => e = .returned (.slice none 0 0) ∧ w = w' := by
  have hr := right_no h
  clear h
  go_enter Try.func23, Try.ntmps23
  go_wp2_with (fail)
  with_reducible refine hr.mono ?_
  rintro e w1 ⟨rfl, rfl⟩
  go_wp2_with (fail)
  go_ret
  exact ⟨rfl, rfl⟩
end
end Go.Proofs.Ytaaegbccejjjcaa
namespace Go.Proofs.Ytaaegbccejjjcaa
open Go.RowKit Go.Maps Go.Sort Go.Shelf
set_option linter.unusedSimpArgs false

def GivesJW (w : World) (p g m b N : Nat) (o : Option Nat) (j : Jo.J) (st : Disks.D × Int) (e : Ending) (w' : World) : Prop :=
  e = .returned (.int .i64 st.2) ∧ Jn w' p g m b N o j (decide (st.2 ≠ 0)) st.1 ∧ Ch (Hot p g m b o) w w'
theorem splice_dsec (ch : List UInt8) (h : ch.length ≤ 63) : splice (bcells ((List.replicate 64 (0 : UInt8)).set 0 3)) 1 (bcells ch) = bcells (Jo.dsec ch) := by
  have e : (List.replicate 64 (0 : UInt8)).set 0 3 = 3 :: List.replicate 63 0 := rfl
  rw [e]
  unfold splice Jo.dsec
  have e1 : (bcells (3 :: List.replicate 63 (0 : UInt8))).take 1 = bcells [3] := rfl
  have e2 : (bcells (3 :: List.replicate 63 (0 : UInt8))).drop (1 + (bcells ch).length) = bcells (List.replicate (63 - ch.length) 0) := by
    rw [bcells_len, Nat.add_comm]
    simp only [bcells, List.map_cons, List.drop_succ_cons, List.map_replicate, List.drop_replicate]
  rw [e1, e2, ← bcells_append, ← bcells_append]
  rfl
/-- The answer is kept, and whether it failed. -/
theorem Jn.ends {w : World} {p g m b N : Nat} {o : Option Nat} {j : Jo.J} {d : Disks.D} (h : Jn w p g m b N o j false d) (z : Bool) : Jn (w.setCell ⟨p, 7, none⟩ (.bool z)) p g m b N o j z d := by
  obtain ⟨A, c, v, hv, hb, hc, ho, hr⟩ := h.jv
  have k : Ch (fun q => q = p) w (w.setCell ⟨p, 7, none⟩ (.bool z)) := Ch.set (Z := fun q => q = p) (Ch.refl _ _) (p := ⟨p, 7, none⟩) (.inl rfl) _
  obtain ⟨s1, s2, s3, s4⟩ := h.sep
  exact ⟨h.ds.farC s1 s2 s3 _, ⟨A, c, v, (hv.s7 z).blk, hb.ch k (hc.mono fun q _ z => .inl z), hc.ch k.size, ho, hr.ch k (fun q z => .inl z) (fun q hq z => (s4 q (ho ▸ hq)).2.2.2 z)⟩, h.sep⟩
theorem made5_bytes : made5 64 (.int .u8 0) = (bcells (List.replicate 64 0)).toArray := by
  apply Array.toList_inj.1
  rw [made5_toList]
  rfl

set_option maxRecDepth 100000 in
set_option maxHeartbeats 4000000 in
theorem jwrite_any (w : World) (p g m b N : Nat) (o : Option Nat) (j : Jo.J) (d : Disks.D) (h : Jn w p g m b N o j false d) (at_ : Nat) (A : Option Addr) (n c : Nat) (l : List UInt8) (hl : Bs w A n c l) (hc : Cold (Hot p g m b o) w A n)
    (Af : Option Addr) (cf : Nat) (first : List UInt8) (hf : Bs w Af 64 cf first) (hcf : Cold (Hot p g m b o) w Af 64) (hat : at_ ≤ 65536) (hn : n ≤ 2 ^ 30) (hN : N + Jo.need n + 1 < maxLen) :
    Calls Try.prog 29 #[.pointer (some ⟨p, 0, none⟩), .int .i64 (at_ : Int), .slice A n c, .slice Af 64 cf] w (GivesJW w p g m b (N + Jo.need n + 1) o j (Jo.wrote d at_ l first)) := by
  have hlen := hl.len
  have hle := hl.le
  have hmx := hl.max
  have HP := Lib.hid h.lt
  have HL := Lib.hid hl
  have HC := Lib.hid hc
  have HF := Lib.hid hf
  have HA := Lib.hid hcf
  have H := Lib.hid h
  have LL := Lib.hid hlen
  clear h hl hc hf hcf hlen
  go_enter Try.func29, Try.ntmps29
  try dsimp only [List.append]
  go_wp2_with (fail)
  obtain ⟨y, hy⟩ : ∃ y, w.heap.size = y := ⟨_, rfl⟩
  obtain ⟨x, hx⟩ : ∃ x, y + 1 = x := ⟨_, rfl⟩
  rw [hy, hx]
  have x2 : Ext w ((w.alloc (.cells #[.pointer (some ⟨p, 0, none⟩)] 27)).alloc (.cells #[.int .i64 0] 24)) := (Ext.alloc w _).thenAlloc _
  have by2 : ((w.alloc (.cells #[.pointer (some ⟨p, 0, none⟩)] 27)).alloc (.cells #[.int .i64 0] 24)).heap[y]? = some (.cells #[.pointer (some ⟨p, 0, none⟩)] 27 (0, 0)) := by
    rw [← hy]
    exact ((Ext.alloc (w.alloc (.cells #[.pointer (some ⟨p, 0, none⟩)] 27)) _).block w.heap.size (by rw [World.size_alloc]; omega)).trans (heap_alloc_new w _)
  have bx2 : ((w.alloc (.cells #[.pointer (some ⟨p, 0, none⟩)] 27)).alloc (.cells #[.int .i64 0] 24)).heap[x]? = some (.cells #[.int .i64 0] 24 (0, 0)) := by
    have := heap_alloc_new (w.alloc (.cells #[.pointer (some ⟨p, 0, none⟩)] 27)) (.cells #[.int .i64 0] 24)
    rw [World.size_alloc, hy, hx] at this
    exact this
  obtain ⟨w2, hw2⟩ : ∃ w2, (w.alloc (.cells #[.pointer (some ⟨p, 0, none⟩)] 27)).alloc (.cells #[.int .i64 0] 24) = w2 := ⟨_, rfl⟩
  rw [hw2] at x2 by2 bx2 ⊢
  have X2 := Lib.hid x2
  have PW2 := Lib.hid (show Pw w w2 x y p g m b N (d, 0) from ⟨Kp.of x2 .., H.out.ds.ext x2, bx2, by2, HP.out p (.inl rfl), H.out.ds.lts.1, H.out.ds.lts.2.1, H.out.ds.lts.2.2, by omega, by omega, by omega⟩)
  have SZ := Lib.hid (show w.heap.size = y from hy)
  clear hw2 x2 by2 bx2 hy hx
  obtain ⟨K, hK⟩ : ∃ K, Jo.need n = K := ⟨_, rfl⟩
  have hnd := need_any w2 n (by omega)
  rw [hK] at hnd hN ⊢
  have hKn : n ≤ 63 * K ∧ 63 * K < n + 63 := by rw [← hK]; unfold Jo.need; omega
  have HK := Lib.hid hK
  clear hK
  with_reducible refine hnd.mono ?_
  rintro e w3 ⟨rfl, rfl⟩
  clear hnd
  go_wp2_with (fail)
  go_loopw [17] (fun s17 wr => ∃ k : Nat, k ≤ K ∧ s17 = .int .i64 (k : Int) ∧ RowKit.Hid (Pw w wr x y p g m b (N + k) (Jo.dataTo d at_ l k))) (fun s17 _ => K - (intOf s17).toNat)
  case atStart => exact ⟨0, Nat.zero_le _, rfl, PW2⟩
  case round =>
    obtain ⟨k, hk, rfl, PR⟩ := hrel
    by_cases hlt : k < K
    · have t1 : (k : Int) < K := by omega
      obtain ⟨q, hq⟩ : ∃ q, wr.heap.size = q := ⟨_, rfl⟩
      have hr6 : (Instr.makeSlice 32 (.int .i64 64) (.int .i64 64)).run Try.prog wr = .ok (.slice (some ⟨wr.heap.size, 0, none⟩) 64 64) (wr.alloc (.cells (made5 64 (.int .u8 0)) 5)) := run_make5 wr 64 (by omega)
      have hz6 := heap_alloc_new wr (.cells (made5 64 (.int .u8 0)) 5)
      rw [made5_bytes] at hr6 hz6
      rw [hq] at hr6 hz6
      have oa0 : Oa 5 wr (wr.alloc (.cells (bcells (List.replicate 64 0)).toArray 5)) q (List.replicate 64 0) := ⟨Ext.alloc _ _, by omega, hz6⟩
      obtain ⟨wm, hwm⟩ : ∃ wm, wr.alloc (.cells (bcells (List.replicate 64 0)).toArray 5) = wm := ⟨_, rfl⟩
      rw [hwm] at hr6 oa0
      have kq : wm.cell? ⟨q, 0, none⟩ = some (.int .u8 0) := oa0.cell (k := 0) (by simp)
      have fq := oa0.fz 0
      have oa1 := oa0.set 0 3
      have HQ := Lib.hid hq
      clear hz6 hwm oa0
      obtain ⟨B0, O0, rfl⟩ : ∃ B0 O0, A = some ⟨B0, O0, none⟩ := by
        obtain ⟨B0, O0, e, _⟩ := HL.out.rd.2 (by omega)
        exact ⟨B0, O0, e⟩
      obtain ⟨lo, hlo⟩ : ∃ lo, 63 * k = lo := ⟨_, rfl⟩
      obtain ⟨k1, hk1⟩ : ∃ k1, k + 1 = k1 := ⟨_, rfl⟩
      obtain ⟨t, ht⟩ : ∃ t, 63 * k1 = t := ⟨_, rfl⟩
      obtain ⟨hi, hhi⟩ : ∃ hi, min t n = hi := ⟨_, rfl⟩
      have KK := Lib.hid (show 63 * k = lo ∧ k + 1 = k1 ∧ t = lo + 63 ∧ min t n = hi ∧ lo < n ∧ k < 65536 * 65536 by omega)
      clear hlo hk1 ht hhi
      have a1 : IntKind.i64.wrap ((k : Int) * 63) = (lo : Int) := by rw [show (k : Int) * 63 = (lo : Int) by have := KK.out; omega]; exact IntWalk.i64_in lo (by have := KK.out; omega)
      have a2 : IntKind.i64.wrap ((k : Int) + 1) = (k1 : Int) := by rw [show (k : Int) + 1 = (k1 : Int) by have := KK.out; omega]; exact IntWalk.i64_in k1 (by have := KK.out; omega)
      have a3 : IntKind.i64.wrap ((k1 : Int) * 63) = (t : Int) := by rw [show (k1 : Int) * 63 = (t : Int) by have := KK.out; omega]; exact IntWalk.i64_in t (by have := KK.out; omega)
      have a4 : min (t : Int) (n : Int) = (hi : Int) := by have := KK.out; omega
      have b1 : lo ≤ hi := by have := KK.out; omega
      have b2 : hi ≤ c := by have := KK.out; omega
      have b3 : (lo : Int) ≤ (hi : Int) := by omega
      have b4 : (hi : Int) ≤ (c : Int) := by omega
      have A14 := Lib.hid (And.intro a1 (And.intro a2 (And.intro a3 (And.intro a4 (And.intro b1 (And.intro b2 (And.intro b3 b4)))))))
      have CHL := Lib.hid (show (Jo.chunk l k).length = hi - lo ∧ hi - lo ≤ 63 from by rw [Jo.chunk_length, LL.out]; have := KK.out; omega)
      have SRC := Lib.hid (show ∀ (i : Nat) (v : Value), (bcells (Jo.chunk l k))[i]? = some v → w.cell? ⟨B0, O0 + lo + i, none⟩ = some v from fun i v hv => by
        obtain ⟨bb, oo, e, hcc⟩ := HL.out.rd.2 (by omega)
        injection e with e
        injection e with e1 e2
        subst e1 e2
        rw [Nat.add_assoc]
        refine hcc _ v ?_
        have hj := (List.getElem?_eq_some_iff.1 hv).1
        rw [bcells_len, CHL.out.1] at hj
        rw [← hv]
        unfold Jo.chunk
        simp only [bcells, List.getElem?_map, List.getElem?_take, List.getElem?_drop]
        rw [if_pos (by have := CHL.out; omega), KK.out.1])
      have DST := Lib.hid oa1
      clear oa1 a1 a2 a3 a4 b1 b2 b3 b4
      go_wp2_with (fail)
      clear hr6 kq fq
      obtain ⟨wf, hwf⟩ : ∃ wf, wm.setCell ⟨q, 0, none⟩ (.int .u8 3) = wf := ⟨_, rfl⟩
      have DS2 : RowKit.Hid (Oa 5 wr wf q ((List.replicate 64 0).set 0 3)) := Lib.hid (by rw [← hwf]; exact DST.out)
      rw [hwf]
      clear hwf DST
      have hS0 : (fun _ : World => True) wf.drew := trivial
      refine wp_region_T (S := (fun _ : World => True)) 12 rfl rfl ?_
      refine takeC [1] (i := 0) (v := ?_) rfl (by kernel_rfl) (by kernel_rfl) (by kernel_rfl) (by kernel_rfl) (by decide) (fun _ _ _ h => h) (by kernel_rfl) (Or.inl ⟨by kernel_rfl, ?_⟩) (by assumption) ?_
      rotate_left
      · (intro W9 hSw; go_simp; (try with_reducible rfl))
      try simp only [Act.put, List.getElem_toArray, List.getElem_cons_succ, List.getElem_cons_zero, List.setIfInBounds_toArray, List.set_cons_zero, List.set_cons_succ]
      refine takeC [] (i := 1) (v := ?_) rfl (by kernel_rfl) (by kernel_rfl) (by kernel_rfl) (by kernel_rfl) (by decide) (fun _ _ _ h => h) (by kernel_rfl) (Or.inl ⟨by kernel_rfl, ?_⟩) (by assumption) ?_
      rotate_left
      · (intro W9 hSw; go_simp; (try with_reducible rfl))
      try simp only [Act.put, List.getElem_toArray, List.getElem_cons_succ, List.getElem_cons_zero, List.setIfInBounds_toArray, List.set_cons_zero, List.set_cons_succ]
      refine takeC [11] (i := 2) (v := ?_) rfl (by kernel_rfl) (by kernel_rfl) (by kernel_rfl) (by kernel_rfl) (by decide) (fun _ _ _ h => h) (by kernel_rfl) (Or.inl ⟨by kernel_rfl, ?_⟩) (by assumption) ?_
      rotate_left
      · (intro W9 hSw; go_simp; (try with_reducible rfl))
      try simp only [Act.put, List.getElem_toArray, List.getElem_cons_succ, List.getElem_cons_zero, List.setIfInBounds_toArray, List.set_cons_zero, List.set_cons_succ]
      refine takeC [11,4] (i := 3) (v := ?_) rfl (by kernel_rfl) (by kernel_rfl) (by kernel_rfl) (by kernel_rfl) (by decide) (fun _ _ _ h => h) (by kernel_rfl) (Or.inl ⟨by kernel_rfl, ?_⟩) (by assumption) ?_
      rotate_left
      · (intro W9 hSw; go_simp; (try with_reducible rfl))
      try simp only [Act.put, List.getElem_toArray, List.getElem_cons_succ, List.getElem_cons_zero, List.setIfInBounds_toArray, List.set_cons_zero, List.set_cons_succ]
      refine takeC [11] (i := 4) (v := ?_) rfl (by kernel_rfl) (by kernel_rfl) (by kernel_rfl) (by kernel_rfl) (by decide) (fun _ _ _ h => h) (by kernel_rfl) (Or.inl ⟨by kernel_rfl, ?_⟩) (by assumption) ?_
      rotate_left
      · (intro W9 hSw; (have a := A14.out.1); go_simp; (try with_reducible rfl))
      try simp only [Act.put, List.getElem_toArray, List.getElem_cons_succ, List.getElem_cons_zero, List.setIfInBounds_toArray, List.set_cons_zero, List.set_cons_succ]
      refine takeC [11,10,7,6] (i := 5) (v := ?_) rfl (by kernel_rfl) (by kernel_rfl) (by kernel_rfl) (by kernel_rfl) (by decide) (fun _ _ _ h => h) (by kernel_rfl) (Or.inl ⟨by kernel_rfl, ?_⟩) (by assumption) ?_
      rotate_left
      · (intro W9 hSw; go_simp; (try with_reducible rfl))
      try simp only [Act.put, List.getElem_toArray, List.getElem_cons_succ, List.getElem_cons_zero, List.setIfInBounds_toArray, List.set_cons_zero, List.set_cons_succ]
      refine takeC [11,10,7] (i := 6) (v := ?_) rfl (by kernel_rfl) (by kernel_rfl) (by kernel_rfl) (by kernel_rfl) (by decide) (fun _ _ _ h => h) (by kernel_rfl) (Or.inl ⟨by kernel_rfl, ?_⟩) (by assumption) ?_
      rotate_left
      · (intro W9 hSw; (have a := A14.out.2.1); go_simp; (try with_reducible rfl))
      try simp only [Act.put, List.getElem_toArray, List.getElem_cons_succ, List.getElem_cons_zero, List.setIfInBounds_toArray, List.set_cons_zero, List.set_cons_succ]
      refine takeC [11,10] (i := 7) (v := ?_) rfl (by kernel_rfl) (by kernel_rfl) (by kernel_rfl) (by kernel_rfl) (by decide) (fun _ _ _ h => h) (by kernel_rfl) (Or.inl ⟨by kernel_rfl, ?_⟩) (by assumption) ?_
      rotate_left
      · (intro W9 hSw; (have a := A14.out.2.2.1); go_simp; (try with_reducible rfl))
      try simp only [Act.put, List.getElem_toArray, List.getElem_cons_succ, List.getElem_cons_zero, List.setIfInBounds_toArray, List.set_cons_zero, List.set_cons_succ]
      refine takeC [11,10,9] (i := 8) (v := ?_) rfl (by kernel_rfl) (by kernel_rfl) (by kernel_rfl) (by kernel_rfl) (by decide) (fun _ _ _ h => h) (by kernel_rfl) (Or.inl ⟨by kernel_rfl, ?_⟩) (by assumption) ?_
      rotate_left
      · (intro W9 hSw; go_simp; (try with_reducible rfl))
      try simp only [Act.put, List.getElem_toArray, List.getElem_cons_succ, List.getElem_cons_zero, List.setIfInBounds_toArray, List.set_cons_zero, List.set_cons_succ]
      refine takeC [11,10] (i := 9) (v := ?_) rfl (by kernel_rfl) (by kernel_rfl) (by kernel_rfl) (by kernel_rfl) (by decide) (fun _ _ _ h => h) (by kernel_rfl) (Or.inl ⟨by kernel_rfl, ?_⟩) (by assumption) ?_
      rotate_left
      · (intro W9 hSw; go_simp; (try with_reducible rfl))
      try simp only [Act.put, List.getElem_toArray, List.getElem_cons_succ, List.getElem_cons_zero, List.setIfInBounds_toArray, List.set_cons_zero, List.set_cons_succ]
      refine takeC [11] (i := 10) (v := ?_) rfl (by kernel_rfl) (by kernel_rfl) (by kernel_rfl) (by kernel_rfl) (by decide) (fun _ _ _ h => h) (by kernel_rfl) (Or.inl ⟨by kernel_rfl, ?_⟩) (by assumption) ?_
      rotate_left
      · (intro W9 hSw; (have a := A14.out.2.2.2.1); go_simp; (try with_reducible rfl))
      try simp only [Act.put, List.getElem_toArray, List.getElem_cons_succ, List.getElem_cons_zero, List.setIfInBounds_toArray, List.set_cons_zero, List.set_cons_succ]
      refine takeC [] (i := 11) (v := ?_) rfl (by kernel_rfl) (by kernel_rfl) (by kernel_rfl) (by kernel_rfl) (by decide) (fun _ _ _ h => h) (by kernel_rfl) (Or.inl ⟨by kernel_rfl, ?_⟩) (by assumption) ?_
      rotate_left
      · (intro W9 hSw; (have a := A14.out.2.2.2.2.1; have b := A14.out.2.2.2.2.2.1; have c1 := A14.out.2.2.2.2.2.2.1; have c2 := A14.out.2.2.2.2.2.2.2; have c3 : ¬ c = lo := (by have := KK.out; omega)); go_simp; (try with_reducible rfl))
      try simp only [Act.put, List.getElem_toArray, List.getElem_cons_succ, List.getElem_cons_zero, List.setIfInBounds_toArray, List.set_cons_zero, List.set_cons_succ]
      refine oneT (i := 12) rfl (by kernel_rfl) (fun K hK => ?_)
      refine step_copy_splice rfl (.tmp 24) (.tmp 34) 32 32 rfl 5 Try.underlying32 (by kernel_rfl) (some ⟨q, 1, none⟩) (some ⟨B0, O0 + lo, none⟩) 63 63 (hi - lo) (c - lo) (by simp [Act.eval, Act.put]) (by simp [Act.eval, Act.put]) q 1 (bcells ((List.replicate 64 0).set 0 3)) 5 ((DS2.out.then (Ext.drew wf)).blk) (bcells (Jo.chunk l k)) (by rw [bcells_len, CHL.out.1]; exact (Nat.min_eq_left CHL.out.2).symm) (fun _ => ⟨rfl, ⟨B0, O0 + lo, none⟩, rfl, fun i v hv => by
        rw [addr_add]
        have hcell := SRC.out i v hv
        have hco := HC.out (by have := KK.out; omega) B0 rfl
        rw [World.cell?_of_block (a := ⟨B0, O0 + lo + i, none⟩) (((DS2.out.then (Ext.drew wf)).ext.block B0 (Nat.lt_of_lt_of_le hco.1 PR.out.kp.size)).trans (PR.out.kp.block B0 hco.1 (fun e => hco.2 (.inr (.inl e))) (fun e => hco.2 (.inr (.inr (.inl e)))) (fun e => hco.2 (.inr (.inr (.inr (.inl e)))))))]
        exact hcell⟩) (by rw [bcells_len, CHL.out.1, bcells_len, List.length_set, List.length_replicate]; have := CHL.out.2; omega) (bcells_one _) wr.heap.size wr (DS2.out.then (Ext.drew wf)).ext DS2.out.le ?_
      intro w4 g4 b4
      refine hK.out _ _ (fun h => absurd (show true = false from h) (by decide)) ?_
      clear hK K
      try simp only [Act.put, List.getElem_toArray, List.getElem_cons_succ, List.getElem_cons_zero, List.setIfInBounds_toArray, List.set_cons_zero, List.set_cons_succ]
      refine doneT (by kernel_rfl) ?_ _
      clear hS0
      generalize goInt _ = v35
      have OA4 := Lib.hid (show Oa 5 wr w4 q (Jo.dsec (Jo.chunk l k)) from ⟨b4, DS2.out.le, by rw [← splice_dsec _ (by rw [CHL.out.1]; exact CHL.out.2)]; exact g4.out⟩)
      clear b4 g4
      have PR4 := Lib.hid (PR.out.ext OA4.out.ext)
      have hp := jput_any w w4 x y p g m b (N + k) _ H.out PR4.out (by omega) (at_ + 1 + k) (some ⟨q, 0, none⟩) 64 (Jo.dsec (Jo.chunk l k)) (OA4.out.bs (by rw [Jo.dsec_length _ (by rw [CHL.out.1]; exact CHL.out.2)]; omega) (Jo.dsec_length _ (by rw [CHL.out.1]; exact CHL.out.2))) (fun z hz => by
        injection hz with hz
        subst hz
        have h1 := OA4.out.le
        obtain ⟨l1, l2, l3⟩ := PR.out.ds.lts
        exact ⟨fun e => by have e : q = g := e; omega, fun e => by have e : q = m := e; omega, fun e => by have e : q = b := e; omega⟩)
      rw [show ((at_ + 1 + k : Nat) : Int) = (at_ : Int) + 1 + (k : Int) by omega] at hp
      have HPP := Lib.hid hp
      clear hp
      have c1 : (at_ : Int) + 1 + (k : Int) < 9223372036854775808 := by have := KK.out; omega
      go_wp2_with (fail)
      with_reducible refine HPP.out.mono ?_
      rintro e w5 ⟨rfl, pw5⟩
      have P5 := Lib.hid pw5
      clear pw5 HPP
      go_wp2_with (fail)
      refine ⟨⟨k + 1, by omega, by go_num, ?_⟩, by simp [intOf]; omega⟩
      exact P5
    · have t1 : ¬ (k : Int) < K := by omega
      obtain rfl : k = K := by omega
      have P1 := PR
      clear PW2 PR
      obtain ⟨st1, hst1⟩ : ∃ st1, Jo.dataTo d at_ l k = st1 := ⟨_, rfl⟩
      have WR : RowKit.Hid (Jo.wrote d at_ l first = Jo.flushS (Jo.putS (Jo.flushS st1) at_ first)) := Lib.hid (by unfold Jo.wrote; rw [LL.out, HK.out, hst1])
      rw [hst1] at P1
      clear hst1
      have kx := P1.out.x0
      obtain ⟨zb, hz⟩ : ∃ zb, (st1.2 == 0) = zb := ⟨_, rfl⟩
      go_upto_if 45 with (fail)
      go_cut [] (fun wx => ∃ wv : World, wv = wx ∧ RowKit.Hid (Pw w wx x y p g m b (N + k) (Jo.flushS st1)))
      case first =>
        cases zb with
        | true =>
          have hw := P1.out.ds.flush (er := Disks.flushE st1.1) (d' := Disks.flushD st1.1) rfl rfl
          have HW := Lib.hid hw
          have ky := P1.out.y0
          have kj := (P1.out.jn H.out).c0
          have HZ := Lib.hid (show st1.2 = 0 by simpa using hz)
          clear hw hz
          go_wp2_with (fail)
          with_reducible refine HW.out.mono ?_
          rintro e w7 ⟨rfl, hd, hk⟩
          have ht := P1.out.turn (e := Disks.flushE st1.1) hk hd
          have hxx := (hk.block x (Array.getElem?_eq_some_iff.1 P1.out.bad).1 (by have := P1.out.lo; omega) (by have := P1.out.lo; omega) (by have := P1.out.lo; omega)).trans P1.out.bad
          have kx7 : w7.cell? ⟨x, 0, none⟩ = some (.int .i64 st1.2) := by rw [cell_of_row w7 _ _ _ _ _ hxx]; rfl
          have fx7 : w7.frozen? ⟨x, 0, none⟩ = false := frozen_of_row w7 _ _ _ _ hxx
          have HT := Lib.hid ht
          clear ht hd hk kx ky kj hxx
          go_wp2_with (fail)
          go_meet
          refine ⟨_, rfl, Lib.hid ?_⟩
          rw [show Jo.flushS st1 = (Disks.flushD st1.1, Disks.flushE st1.1) from if_pos HZ.out]
          exact HT.out
        | false =>
          have HZ := Lib.hid (show ¬ st1.2 = 0 by simpa using hz)
          clear hz
          go_wp2_with (fail)
          go_meet
          refine ⟨_, rfl, Lib.hid ?_⟩
          rw [show Jo.flushS st1 = st1 from if_neg HZ.out]
          exact P1.out
      case rest =>
        clear kx hz
        obtain ⟨wv, rfl, P2⟩ := hcut
        obtain ⟨st2, hst2⟩ : ∃ st2, Jo.flushS st1 = st2 := ⟨_, rfl⟩
        rw [hst2] at P2 WR
        clear hst2 P1
        have hF2 := HF.out.ch (Ch.kp (Z := Hot p g m b o) P2.out.kp (Hot.disk ..)) HA.out
        have hp := jput_any w wv x y p g m b (N + k) _ H.out P2.out (by omega) at_ Af cf first hF2 (Cold.awy HA.out (by omega))
        have HPP := Lib.hid hp
        clear hp hF2
        go_wp2_with (fail)
        with_reducible refine HPP.out.mono ?_
        rintro e w6 ⟨rfl, pw6⟩
        have P3 := Lib.hid pw6
        clear pw6 HPP
        obtain ⟨st3, hst3⟩ : ∃ st3, Jo.putS st2 at_ first = st3 := ⟨_, rfl⟩
        rw [hst3] at P3 WR
        clear hst3 P2
        have kx := P3.out.x0
        obtain ⟨zb, hz⟩ : ∃ zb, (st3.2 == 0) = zb := ⟨_, rfl⟩
        go_upto_if 56 with (fail)
        go_cut [] (fun wx => ∃ wv : World, wv = wx ∧ RowKit.Hid (Pw w wx x y p g m b (N + k + 1) (Jo.flushS st3)))
        case first =>
          cases zb with
          | true =>
            have hw := P3.out.ds.flush (er := Disks.flushE st3.1) (d' := Disks.flushD st3.1) rfl rfl
            have HW := Lib.hid hw
            have ky := P3.out.y0
            have kj := (P3.out.jn H.out).c0
            have HZ := Lib.hid (show st3.2 = 0 by simpa using hz)
            clear hw hz
            go_wp2_with (fail)
            with_reducible refine HW.out.mono ?_
            rintro e w7 ⟨rfl, hd, hk⟩
            have ht := P3.out.turn (e := Disks.flushE st3.1) hk hd
            have hxx := (hk.block x (Array.getElem?_eq_some_iff.1 P3.out.bad).1 (by have := P3.out.lo; omega) (by have := P3.out.lo; omega) (by have := P3.out.lo; omega)).trans P3.out.bad
            have kx7 : w7.cell? ⟨x, 0, none⟩ = some (.int .i64 st3.2) := by rw [cell_of_row w7 _ _ _ _ _ hxx]; rfl
            have fx7 : w7.frozen? ⟨x, 0, none⟩ = false := frozen_of_row w7 _ _ _ _ hxx
            have HT := Lib.hid ht
            clear ht hd hk kx ky kj hxx
            go_wp2_with (fail)
            go_meet
            refine ⟨_, rfl, Lib.hid ?_⟩
            rw [show Jo.flushS st3 = (Disks.flushD st3.1, Disks.flushE st3.1) from if_pos HZ.out]
            exact HT.out
          | false =>
            have HZ := Lib.hid (show ¬ st3.2 = 0 by simpa using hz)
            clear hz
            go_wp2_with (fail)
            go_meet
            refine ⟨_, rfl, Lib.hid ?_⟩
            rw [show Jo.flushS st3 = st3 from if_neg HZ.out]
            exact P3.out
        case rest =>
          clear kx hz
          obtain ⟨wv, rfl, P4⟩ := hcut
          obtain ⟨st4, hst4⟩ : ∃ st4, Jo.flushS st3 = st4 := ⟨_, rfl⟩
          rw [hst4] at P4 WR
          clear hst4 P3
          have J4 := Lib.hid (P4.out.jn H.out)
          obtain ⟨Ab, cb, vb, jv, _⟩ := J4.out.jv
          have hS0 : (fun W : World => Hid (W.cell? ⟨y, 0, none⟩ = some (.pointer (some ⟨p, 0, none⟩)) ∧ W.cell? ⟨p, 7, none⟩ = some (.bool false) ∧ W.cell? ⟨x, 0, none⟩ = some (.int .i64 st4.2))) wv.drew := Lib.hid ⟨(Ext.drew wv).cell P4.out.y0, (Ext.drew wv).cell jv.c7, (Ext.drew wv).cell P4.out.x0⟩
          obtain ⟨z, hz⟩ : ∃ z, decide (st4.2 ≠ 0) = z := ⟨_, rfl⟩
          have e1 : (st4.2 != 0) = z := by rw [← hz]; by_cases h0 : st4.2 = 0 <;> simp [h0]
          have HZ := Lib.hid hz
          have JV := Lib.hid jv
          clear hz jv
          go_wp2_with (fail)
          refine wp_region_T (S := (fun W : World => Hid (W.cell? ⟨y, 0, none⟩ = some (.pointer (some ⟨p, 0, none⟩)) ∧ W.cell? ⟨p, 7, none⟩ = some (.bool false) ∧ W.cell? ⟨x, 0, none⟩ = some (.int .i64 st4.2)))) 11 rfl rfl ?_
          refine takeC [] (i := 0) (v := ?_) rfl (by kernel_rfl) (by kernel_rfl) (by kernel_rfl) (by kernel_rfl) (by decide) (fun _ _ _ h => h) (by kernel_rfl) (Or.inl ⟨by kernel_rfl, ?_⟩) (by assumption) ?_
          rotate_left
          · (intro W9 hSw; (have m0 := hSw.out.1; clear hSw; skip); go_simp; (try with_reducible rfl))
          try simp only [Act.put, List.getElem_toArray, List.getElem_cons_succ, List.getElem_cons_zero, List.setIfInBounds_toArray, List.set_cons_zero, List.set_cons_succ]
          refine takeC [] (i := 1) (v := ?_) rfl (by kernel_rfl) (by kernel_rfl) (by kernel_rfl) (by kernel_rfl) (by decide) (fun _ _ _ h => h) (by kernel_rfl) (Or.inl ⟨by kernel_rfl, ?_⟩) (by assumption) ?_
          rotate_left
          · (intro W9 hSw; (have m0 := hSw.out.1; clear hSw; skip); go_simp; (try with_reducible rfl))
          try simp only [Act.put, List.getElem_toArray, List.getElem_cons_succ, List.getElem_cons_zero, List.setIfInBounds_toArray, List.set_cons_zero, List.set_cons_succ]
          refine takeC [] (i := 2) (v := ?_) rfl (by kernel_rfl) (by kernel_rfl) (by kernel_rfl) (by kernel_rfl) (by decide) (fun _ _ _ h => h) (by kernel_rfl) (Or.inl ⟨by kernel_rfl, ?_⟩) (by assumption) ?_
          rotate_left
          · (intro W9 hSw; go_simp; (try with_reducible rfl))
          try simp only [Act.put, List.getElem_toArray, List.getElem_cons_succ, List.getElem_cons_zero, List.setIfInBounds_toArray, List.set_cons_zero, List.set_cons_succ]
          refine takeC [] (i := 3) (v := ?_) rfl (by kernel_rfl) (by kernel_rfl) (by kernel_rfl) (by kernel_rfl) (by decide) (fun _ _ _ h => h) (by kernel_rfl) (Or.inl ⟨by kernel_rfl, ?_⟩) (by assumption) ?_
          rotate_left
          · (intro W9 hSw; go_simp; (try with_reducible rfl))
          try simp only [Act.put, List.getElem_toArray, List.getElem_cons_succ, List.getElem_cons_zero, List.setIfInBounds_toArray, List.set_cons_zero, List.set_cons_succ]
          refine takeC [] (i := 4) (v := ?_) rfl (by kernel_rfl) (by kernel_rfl) (by kernel_rfl) (by kernel_rfl) (by decide) (fun _ _ _ h => h) (by kernel_rfl) (Or.inl ⟨by kernel_rfl, ?_⟩) (by assumption) ?_
          rotate_left
          · (intro W9 hSw; (have m0 := hSw.out.2.1; clear hSw; skip); go_simp; (try with_reducible rfl))
          try simp only [Act.put, List.getElem_toArray, List.getElem_cons_succ, List.getElem_cons_zero, List.setIfInBounds_toArray, List.set_cons_zero, List.set_cons_succ]
          refine takeC [] (i := 5) (v := ?_) rfl (by kernel_rfl) (by kernel_rfl) (by kernel_rfl) (by kernel_rfl) (by decide) (fun _ _ _ h => h) (by kernel_rfl) (Or.inl ⟨by kernel_rfl, ?_⟩) (by assumption) ?_
          rotate_left
          · (intro W9 hSw; go_simp; (try with_reducible rfl))
          try simp only [Act.put, List.getElem_toArray, List.getElem_cons_succ, List.getElem_cons_zero, List.setIfInBounds_toArray, List.set_cons_zero, List.set_cons_succ]
          refine takeC [] (i := 6) (v := ?_) rfl (by kernel_rfl) (by kernel_rfl) (by kernel_rfl) (by kernel_rfl) (by decide) (fun _ _ _ h => h) (by kernel_rfl) (Or.inl ⟨by kernel_rfl, ?_⟩) (by assumption) ?_
          rotate_left
          · (intro W9 hSw; (have m0 := hSw.out.2.2; clear hSw; skip); go_simp; (try with_reducible rfl))
          try simp only [Act.put, List.getElem_toArray, List.getElem_cons_succ, List.getElem_cons_zero, List.setIfInBounds_toArray, List.set_cons_zero, List.set_cons_succ]
          refine takeC [] (i := 7) (v := ?_) rfl (by kernel_rfl) (by kernel_rfl) (by kernel_rfl) (by kernel_rfl) (by decide) (fun _ _ _ h => h) (by kernel_rfl) (Or.inl ⟨by kernel_rfl, ?_⟩) (by assumption) ?_
          rotate_left
          · (intro W9 hSw; go_simp; (try with_reducible rfl))
          try simp only [Act.put, List.getElem_toArray, List.getElem_cons_succ, List.getElem_cons_zero, List.setIfInBounds_toArray, List.set_cons_zero, List.set_cons_succ]
          refine takeC [] (i := 8) (v := ?_) rfl (by kernel_rfl) (by kernel_rfl) (by kernel_rfl) (by kernel_rfl) (by decide) (fun _ _ _ h => h) (by kernel_rfl) (Or.inl ⟨by kernel_rfl, ?_⟩) (by assumption) ?_
          rotate_left
          · (intro W9 hSw; go_simp; (try with_reducible rfl))
          try simp only [Act.put, List.getElem_toArray, List.getElem_cons_succ, List.getElem_cons_zero, List.setIfInBounds_toArray, List.set_cons_zero, List.set_cons_succ]
          refine takeC [10] (i := 9) (v := ?_) rfl (by kernel_rfl) (by kernel_rfl) (by kernel_rfl) (by kernel_rfl) (by decide) (fun _ _ _ h => h) (by kernel_rfl) (Or.inl ⟨by kernel_rfl, ?_⟩) (by assumption) ?_
          rotate_left
          · (intro W9 hSw; go_simp; (try with_reducible rfl))
          try simp only [Act.put, List.getElem_toArray, List.getElem_cons_succ, List.getElem_cons_zero, List.setIfInBounds_toArray, List.set_cons_zero, List.set_cons_succ]
          refine takeC [] (i := 10) (v := ?_) rfl (by kernel_rfl) (by kernel_rfl) (by kernel_rfl) (by kernel_rfl) (by decide) (fun _ _ _ h => h) (by kernel_rfl) (Or.inl ⟨by kernel_rfl, ?_⟩) (by assumption) ?_
          rotate_left
          · (intro W9 hSw; go_simp; (try with_reducible rfl))
          try simp only [Act.put, List.getElem_toArray, List.getElem_cons_succ, List.getElem_cons_zero, List.setIfInBounds_toArray, List.set_cons_zero, List.set_cons_succ]
          refine oneT (i := 11) rfl (by kernel_rfl) (fun K hK => ?_)
          rw [if_pos (by kernel_rfl)]
          have j7 := (JV.out.ext (Ext.drew wv)).c7
          have z7 := (JV.out.ext (Ext.drew wv)).fz 7
          go_wp2_with (fail)
          refine hK.out _ _ (fun h => absurd (show true = false from h) (by decide)) ?_
          clear hK K
          try simp only [Act.put, List.getElem_toArray, List.getElem_cons_succ, List.getElem_cons_zero, List.setIfInBounds_toArray, List.set_cons_zero, List.set_cons_succ]
          refine doneT (by kernel_rfl) ?_ _
          clear hS0 j7 z7 e1
          have J5 := Lib.hid ((J4.out.ends z).ext (Ext.drew _))
          have X5 : w.heap.size ≤ x := P4.out.lo.2.2.2.2.1
          have XP : x ≠ p := by have := P4.out.lo; omega
          have kx : (wv.setCell ⟨p, 7, none⟩ (.bool z)).drew.cell? ⟨x, 0, none⟩ = some (.int .i64 st4.2) := (Ext.drew _).cell ((World.cell?_setCell_far _ _ _ _ (fun e => XP e.symm)).trans P4.out.x0)
          go_wp2_with (fail)
          go_ret
          have hch : Ch (Hot p g m b o) w (wv.setCell ⟨p, 7, none⟩ (.bool z)).drew := (Ch.set (Z := Hot p g m b o) (Ch.kp (Z := Hot p g m b o) P4.out.kp (Hot.disk ..)) (p := ⟨p, 7, none⟩) (.inl (.inl rfl)) _).thenExt (Ext.drew _)
          unfold GivesJW
          rw [WR.out]
          exact ⟨rfl, by rw [HZ.out, HK.out]; exact J5.out, hch⟩
end Go.Proofs.Ytaaegbccejjjcaa
