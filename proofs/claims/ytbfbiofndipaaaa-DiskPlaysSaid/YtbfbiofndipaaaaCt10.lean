/- Several texts in one: Sectors in memory: a variable of one, one of the medium's; the cache is looked up and cleared. No statement of the seat is proved here. The contract of a disk's Read. -/
import Derived.Test.YtbfbiofndipaaaaCt9
import Derived.MapFrom
namespace Go.Proofs.Ytbfbiofndipaaaa
open Go.RowKit Go.Maps

theorem below_setCells {B : Nat} {a : World} {k : Nat} (hk : B ≤ k) : ∀ (vs : List Value) (o : Nat) (w : World), Below B a w → Below B a (w.setCells k o vs)
  | [], _, _, h => h
  | v :: r, o, w, h => by
    rw [World.setCells]
    exact below_setCells hk r (o + 1) _ (Below.setCell h hk v)
theorem heap_setCells_other (k b : Nat) (h : b ≠ k) : ∀ (vs : List Value) (o : Nat) (w : World), (w.setCells k o vs).heap[b]? = w.heap[b]?
  | [], _, _ => rfl
  | v :: r, o, w => by
    rw [World.setCells, heap_setCells_other k b h r (o + 1)]
    exact heap_setCell_other w ⟨k, o, none⟩ b v h
theorem setCells_plain (k : Nat) : ∀ (vs : List Value) (o : Nat) (w : World), (w.setCells k o vs).os = w.os ∧ (w.setCells k o vs).tape = w.tape ∧ (w.setCells k o vs).output = w.output ∧ (w.setCells k o vs).heap.size = w.heap.size
  | [], _, _ => ⟨rfl, rfl, rfl, rfl⟩
  | v :: r, o, w => by
    rw [World.setCells]
    obtain ⟨a, b, c, d⟩ := setCells_plain k r (o + 1) (w.setCell ⟨k, o, none⟩ v)
    exact ⟨a, b, c, by rw [d]; simp⟩

theorem bcells_all (s : List UInt8) : (bcells s).toArray.all (·.oneCell') = true := all_oneCell_toArray (fun v hv => by
  simp only [bcells, List.mem_map] at hv
  obtain ⟨x, _, rfl⟩ := hv
  rfl)
theorem dk_bcells_set (l : List UInt8) (k : Nat) (x : UInt8) : bcells (l.set k x) = (bcells l).set k (.int .u8 (x.toNat : Int)) := by simp [bcells, List.map_set]
theorem dk_bcells_get {l : List UInt8} {k : Nat} (h : k < l.length) : (bcells l)[k]? = some (.int .u8 ((Gf.get l k).toNat : Int)) := by simp [bcells, Gf.get, h]
theorem bcells_len (s : List UInt8) : (bcells s).length = s.length := by simp [bcells]

theorem wpList_valR {P : Program} {ops : Array Oper} {Q : Exit → Act → World → Prop} {rest : List Oper} {o : Oper} {a : Act} {w w' : World} (hgd : o.guard = none) (v : Value)
    (hrun : (execOp a.eval o).run P w = .ok (.value v) w') (h : wpList P ops Q rest (a.put o.dst v) w') : wpList P ops Q (o :: rest) a w :=
  wpList_plain hgd fun _ hK => by unfold Oper.wp; rw [hrun]; exact hK _ _ h
section
variable {P : Program} {ops : Array Oper} {Q : Exit → Act → World → Prop} {rest : List Oper} {o : Oper} {a : Act} {w w' : World}
/-- Is this the operation? (with_reducible.) -/
theorem opIs (o : Oper) (h : wpList P ops Q (o :: rest) a w) : wpList P ops Q (o :: rest) a w := h
theorem wpList_allocR (hgd : o.guard = none) (t : TypeId) (ho : o.op = .alloc t) (v : Value)
    (hr : (Instr.alloc t true (.tuple #[])).run P w = .ok v w') (h : wpList P ops Q rest (a.put o.dst v) w') : wpList P ops Q (o :: rest) a w :=
  wpList_valR hgd v (by unfold execOp; simp only [ho, Sem.run_bind, hr, Result.andThen_ok, Sem.run_pure]) h
theorem wpList_storeR (hgd : o.guard = none) (t : TypeId) (x y : Operand) (ho : o.op = .store t x y) {p v : Value} (hx : a.eval x = p) (hy : a.eval y = v)
    (hr : (Instr.storeAt t p v).run P w = .ok () w') (h : wpList P ops Q rest (a.put o.dst undef) w') : wpList P ops Q (o :: rest) a w :=
  wpList_plain hgd fun _ hK => by
    unfold Oper.wp execOp
    simp only [ho, hx, hy, Sem.run_bind, hr, Result.andThen_ok, Sem.run_pure]
    exact hK _ _ h
theorem wp_storeR {op : Oper} {K : Act → World → Prop} (t : TypeId) (x y : Operand) (ho : op.op = .store t x y) {p v : Value} (hx : a.eval x = p) (hy : a.eval y = v)
    (hr : (Instr.storeAt t p v).run P w = .ok () w') {a' : Act} (ha : a.put op.dst undef = a') (h : K a' w') : op.wp P a w K Q := by
  unfold Oper.wp execOp
  simp only [ho, hx, hy, Sem.run_bind, hr, Result.andThen_ok, Sem.run_pure]
  subst ha
  exact h
theorem wpList_loadR (hgd : o.guard = none) (t : TypeId) (x : Operand) (ho : o.op = .load t x) {p v : Value} (hx : a.eval x = p)
    (hr : (Instr.loadAt t p).run P w = .ok v w') (h : wpList P ops Q rest (a.put o.dst v) w') : wpList P ops Q (o :: rest) a w :=
  wpList_valR hgd v (by unfold execOp; simp only [ho, hx, Sem.run_bind, hr, Result.andThen_ok, Sem.run_pure]) h
end

/-- A variable of one sector, in block k, which is younger than w. -/
structure Sv (w w' : World) (k : Nat) (s : List UInt8) : Prop where
  ext : Ext w w'
  le : w.heap.size ≤ k
  len : s.length = 64
  range : w'.rangeAt k 0 (bcells s)
  ok : w'.there k 0 64
def zsec : Obj := .cells (bcells zeros64).toArray 77 (0, 0)
theorem run_alloc_sec (w : World) : (Instr.alloc 77 true (.tuple #[])).run Try.prog w = .ok (.pointer (some ⟨w.heap.size, 0, none⟩)) (w.alloc zsec) := by kernel_rfl
theorem Sv.made {w0 w : World} (h : Ext w0 w) : Sv w0 (w.alloc zsec) w.heap.size zeros64 := by
  have hc : ∀ j v, (bcells zeros64)[j]? = some v → (w.alloc zsec).cell? ⟨w.heap.size, 0 + j, none⟩ = some v := fun j v hv => by
    rw [cell_of_row (w.alloc zsec) w.heap.size (0 + j) (bcells zeros64).toArray 77 (0, 0) (heap_alloc_new w _)]
    simpa using hv
  refine ⟨h.thenAlloc _, h.size, zeros64_len, hc, fun j hj => ⟨?_, frozen_of_row (w.alloc zsec) w.heap.size _ _ _ (heap_alloc_new w _)⟩⟩
  have hl : j < (bcells zeros64).length := by rw [bcells_len, zeros64_len]; exact hj
  rw [hc j _ (List.getElem?_eq_getElem hl)]
  rfl
theorem Sv.store {w0 w : World} {k : Nat} {s t : List UInt8} (h : Sv w0 w k s) (ht : t.length = 64) :
    ∃ w', (Instr.storeAt 77 (.pointer (some ⟨k, 0, none⟩)) (secV t)).run Try.prog w = .ok () w' ∧ Sv w0 w' k t := by
  have hn : (bcells t).toArray.size = 64 := by simp [bcells_len, ht]
  have hi : (Try.prog.info? 77).map (·.size) = some (bcells t).toArray.size := by rw [hn]; exact sec_info
  have hr := run_storeVar_mid (P := Try.prog) w k 0 77 (bcells t).toArray (by rw [hn]; exact h.ok) hi (bcells_all t)
  refine ⟨w.setCells k 0 (bcells t), by simp only [Instr.storeAt, Instr.sureAddr, Sem.run_bind, Sem.run_pure, Result.andThen_ok, secV, hr], below_setCells h.le _ _ _ h.ext, h.le, ht, World.rangeAt_setCells_same w k 0 _ (by rw [bcells_len, ht]; exact h.ok), World.there_setCells h.ok _ _ _⟩
theorem Sv.load {w0 w : World} {k : Nat} {s : List UInt8} (h : Sv w0 w k s) : (Instr.loadAt 77 (.pointer (some ⟨k, 0, none⟩))).run Try.prog w = .ok (secV s) w := sec_load w k 0 s h.len h.range
theorem Sv.bs {w0 w : World} {k : Nat} {s : List UInt8} (h : Sv w0 w k s) : Bs w (some ⟨k, 0, none⟩) 64 64 s :=
  ⟨h.len, Nat.le_refl _, by omega, by rw [bcells_len, h.len], fun _ => ⟨k, 0, rfl, fun j u hu => h.range j u hu⟩⟩
theorem Sv.then {w0 w w' : World} {k : Nat} {s : List UInt8} (h : Sv w0 w k s) (hx : Ext w w') : Sv w0 w' k s :=
  ⟨h.ext.trans hx, h.le, h.len, fun j v hv => hx.cell (h.range j v hv), fun j hj => by
    obtain ⟨u, hu⟩ := Option.isSome_iff_exists.1 (h.ok j hj).1
    exact ⟨by rw [hx.cell hu]; rfl, by rw [hx.frozen hu]; exact (h.ok j hj).2⟩⟩

/-- A sector of the medium is loaded, is stored. -/
theorem Md.load {w : World} {m : Nat} {l : List (List UInt8)} (h : Md w m l) {i : Nat} (hi : i < l.length) : (Instr.loadAt 77 (.pointer (some ⟨m, i * 64, none⟩))).run Try.prog w = .ok (secV (Gm.row l i)) w :=
  sec_load w m (i * 64) _ (h.wid i hi) (h.rows i hi)
theorem row_set (l : List (List UInt8)) (i j : Nat) (s : List UInt8) (hi : i < l.length) : Gm.row (l.set i s) j = if i = j then s else Gm.row l j := by
  unfold Gm.row
  rw [List.getD_eq_getElem?_getD, List.getD_eq_getElem?_getD, List.getElem?_set]
  by_cases e : i = j
  · subst e
    rw [if_pos rfl, if_pos rfl, if_pos hi]
    rfl
  · rw [if_neg e, if_neg e]
theorem Md.set {w : World} {m : Nat} {l : List (List UInt8)} (h : Md w m l) {i : Nat} (hi : i < l.length) {s : List UInt8} (hs : s.length = 64) : Md (w.setCells m (i * 64) (bcells s)) m (l.set i s) := by
  have hth : w.there m (i * 64) (bcells s).length := fun j hj => by
    rw [bcells_len, hs] at hj
    exact h.ok (i * 64 + j) (by have : (i + 1) * 64 ≤ l.length * 64 := Nat.mul_le_mul_right 64 hi; omega) |> fun q => by simpa using q
  refine ⟨by rw [(setCells_plain m _ _ w).2.2.2]; exact h.lt, fun j hj => ?_, fun j hj => ?_, ?_⟩
  · rw [row_set l i j s hi]
    split
    · exact hs
    · exact h.wid j (by simpa using hj)
  · rw [row_set l i j s hi]
    split
    · rename_i e
      subst e
      exact World.rangeAt_setCells_same w m _ _ hth
    · rename_i e
      have hj' : j < l.length := by simpa using hj
      refine World.rangeAt_setCells_apart (h.rows j hj') m _ _ (.inr ?_)
      rw [bcells_len, bcells_len, hs, h.wid j hj']
      rcases Nat.lt_or_gt_of_ne e with e | e
      · right; omega
      · left; omega
  · rw [List.length_set]
    exact World.there_setCells h.ok _ _ _
theorem Dk.med {w : World} {g m b n : Nat} {D : DataW Nat} {d : Disks.D} (h : Dk w g m b n D d) {i : Nat} (hi : i < d.med.length) {s : List UInt8} (hs : s.length = 64) :
    ∃ w', (storeCells ⟨m, i * 64, none⟩ (bcells s).toArray.toList).run Try.prog w = .ok () w' ∧ Dk w' g m b n D { d with med := d.med.set i s } ∧ w.grownBy w' (some m) := by
  have hn : (bcells s).toArray.size = 64 := by simp [bcells_len, hs]
  have hth : w.there m (i * 64) 64 := fun j hj => by
    have := h.md.ok (i * 64 + j) (by have : (i + 1) * 64 ≤ d.med.length * 64 := Nat.mul_le_mul_right 64 hi; omega)
    simpa using this
  have hr := run_storeCells_cells (P := Try.prog) m (i * 64) (bcells s).toArray.toList 0 w (fun j hj => (hth j (by simpa [bcells_len, hs] using hj)).1) (fun j hj => (hth j (by simpa [bcells_len, hs] using hj)).2) (fun v hv => (Array.all_eq_true_iff_forall_mem.1 (bcells_all s)) v (by simpa using hv))
  obtain ⟨p1, p2, p3, p4⟩ := setCells_plain m (bcells s) (i * 64) w
  refine ⟨w.setCells m (i * 64) (bcells s), hr, ⟨?_, h.md.set hi hs, map_kept h.mp (heap_setCells_other m b (fun e => h.mb e.symm) _ _ _), h.tie, h.gm, h.gb, h.mb⟩, p1, p2, p3, by rw [p4]; exact Nat.le_refl _, fun k _ h2 => heap_setCells_other m k (fun e => h2 (by rw [e])) _ _ _⟩
  rw [heap_setCells_other m g h.gm, h.box, List.length_set]
/-- The cache is looked up. -/
theorem Dk.look {w : World} {g m b n : Nat} {D : DataW Nat} {d : Disks.D} (h : Dk w g m b n D d) {ops : Array Oper} {rest : List Oper} {o : Oper} {a : Act} {Q : Exit → Act → World → Prop} (hg : o.guard = none) (mm x : Operand) (hop : o.op = Op.lookup 65 mm x true) (j : Nat) (hj : j < 65536)
    (hm : a.eval mm = .map (some b)) (hx : a.eval x = .int .i64 (j : Int))
    (hK : ∀ V s, V = secV s → s.length = 64 → (∀ t, Disks.cget d.cac j = some t → s = t) → wpList Try.prog ops Q rest (a.put o.dst (.tuple #[V, .bool (Disks.cget d.cac j).isSome])) w) :
    wpList Try.prog ops Q (o :: rest) a w := by
  refine wpList_lookup_own_ok w hg mm x _ hop 3 77 int_key5 map_under secR (sec_zero w) (.lit (.string zeros64)) [] (secR_mk zeros64_len) b n D hm h.mp _ (lk (j : Int)) hx (lk_of (by omega) (by omega)) ?_
  intro v ps hv
  obtain ⟨s, hs, rfl, hz⟩ := secR_inv hv
  have e : Maps.has D (lk (j : Int)) = (Disks.cget d.cac j).isSome := by
    have := h.tie.has (j : Int)
    rw [show ((j : Int)).toNat = j by omega] at this
    rw [Bool.eq_iff_iff, this]
    exact ⟨fun q => q.2, fun q => ⟨by omega, q⟩⟩
  rw [e]
  refine hK _ s rfl hs (fun t ht => ?_)
  have h2 := h.tie.at_ (j : Int) t (.lit (.string zeros64)) (by omega) (by rw [show ((j : Int)).toNat = j by omega]; exact ht)
  rw [h2] at hz
  injection hz with hz _
  injection hz with hz
  injection hz with hz
  exact hz.symm
/-- The cache is cleared. -/
theorem Dk.clear {w : World} {g m b n : Nat} {D : DataW Nat} {d : Disks.D} (h : Dk w g m b n D d) (ty : TypeId) :
    ∃ w', (Builtin.clear_ #[65] ty #[.map (some b)]).run Try.prog w = .ok (.tuple #[]) w' ∧ Dk w' g m b 0 (.map []) { d with cac := List.replicate d.cac.length none } ∧ Kp g m b w w' := by
  obtain ⟨es, clock, hb, _⟩ := h.mp
  have hs : ({ w with heap := w.heap.setIfInBounds b (.map #[] clock) } : World).heap.size = w.heap.size := by simp
  obtain ⟨q1, q2⟩ := MapKept.heap_set (o' := .map #[] clock) hb
  refine ⟨{ w with heap := w.heap.setIfInBounds b (.map #[] clock) }, by simp [Builtin.clear_, run_underlying map_under, MapKept.run_getObj_map hb, MapKept.run_setObj_map _ hb, Result.andThen], ?_, rfl, rfl, rfl, by rw [hs]; exact Nat.le_refl _, fun i _ _ _ h3 => q2 i h3⟩
  exact ⟨(q2 g h.gb).trans h.box, h.md.same (by rw [hs]; exact Nat.le_refl _) (q2 m h.mb), ⟨#[], clock, q1, ⟨by simp, MapKept.stamped_empty clock, by simp⟩, Nat.le_refl _, rfl⟩, Tie.nil _, h.gm, h.gb, h.mb⟩
end Go.Proofs.Ytbfbiofndipaaaa
namespace Go.Proofs.Ytbfbiofndipaaaa
open Go.RowKit Go.Maps

theorem there_ok {d : Disks.D} {i : Int} (h : Disks.there d i = 0) : 0 ≤ i ∧ i < d.med.length := by
  unfold Disks.there at h
  split at h
  · cases h
  · split at h
    · cases h
    · omega
theorem sec_is {d : Disks.D} (hf : Disks.Wf d) {i : Nat} (hi : i < d.med.length) : (Disks.sec d i).length = 64 := by
  unfold Disks.sec
  cases hc : Disks.cget d.cac i with
  | none => exact hf.med i hi
  | some s => exact hf.cac i s hc
abbrev GivesR0 (er : Int) (w : World) (e : Ending) (w' : World) : Prop := e = .returned (.tuple #[.slice none 0 0, .int .i64 er]) ∧ Ext w w'
abbrev GivesR1 (s : List UInt8) (w : World) (e : Ending) (w' : World) : Prop := ∃ k, e = .returned (.tuple #[.slice (some ⟨k, 0, none⟩) 64 64, .int .i64 0]) ∧ Sv w w' k s
set_option maxRecDepth 100000 in
theorem dkRead_no (w : World) (g m b n : Nat) (D : DataW Nat) (d : Disks.D) (h : Dk w g m b n D d) (hf : Disks.Wf d) (i : Int) (h0 : Disks.there d i ≠ 0) :
    Calls Try.prog 24 #[dptr g, .int .i64 i] w (GivesR0 (Disks.there d i) w) := by
  have hT := dkThere_any w g m b n D d h hf.max i
  obtain ⟨t, ht⟩ : ∃ t, Disks.there d i = t := ⟨_, rfl⟩
  rw [ht] at h0 hT ⊢
  clear ht h hf
  go_enter Try.func24, Try.ntmps24
  go_wp2_with (fail)
  with_reducible refine hT.mono ?_
  rintro e1 w1 ⟨rfl, x1⟩
  go_wp2_with (fail)
  refine bodyPost_ret (results_tmp2 rfl _ _ _) rfl ?_
  exact ⟨rfl, x1⟩
set_option maxRecDepth 100000 in
set_option maxHeartbeats 2000000 in
theorem dkRead_ok (w : World) (g m b n : Nat) (D : DataW Nat) (d : Disks.D) (h : Dk w g m b n D d) (hf : Disks.Wf d) (i : Int) (h0 : Disks.there d i = 0) :
    Calls Try.prog 24 #[dptr g, .int .i64 i] w (GivesR1 (Disks.sec d i.toNat) w) := by
  have hT := dkThere_any w g m b n D d h hf.max i
  obtain ⟨i1, i2⟩ := there_ok h0
  rw [h0] at hT
  clear h0
  obtain ⟨j, rfl⟩ : ∃ j : Nat, i = j := ⟨i.toNat, by omega⟩
  rw [show ((j : Int)).toNat = j by omega]
  have j2 : j < d.med.length := by omega
  have j3 : j < 65536 := by have := hf.max; omega
  have H := Lib.hid h
  have HF := Lib.hid hf
  have HJ := Lib.hid j2
  clear h hf i1 i2 j2
  go_enter Try.func24, Try.ntmps24
  go_wp2_with (fail)
  with_reducible refine hT.mono ?_
  rintro e1 w1 ⟨rfl, x1⟩
  have H1 := Lib.hid (H.out.ext x1)
  have X1 := Lib.hid x1
  have k1 := H1.out.c1
  clear hT x1
  by_cases hc : (Disks.cget d.cac j).isSome = true
  · have HC := Lib.hid hc
    clear hc
    go_wp2_with (first
      | (at_lookup; refine Dk.look H1.out rfl _ _ rfl j j3 rfl rfl ?_; intro V s hV hs hat; (have HV := Lib.hid hV); (have HA := Lib.hid hat); clear hV hat; rw [HC.out])
      | ((with_reducible refine opIs ⟨some 7, .alloc 77, _, _, _, _⟩ ?_); refine wpList_allocR rfl 77 rfl _ (run_alloc_sec _) ?_; (have S1 := Lib.hid (Sv.made X1.out)); (obtain ⟨w2, hr2, s2⟩ := S1.out.store hs); (rw [← HV.out] at hr2); (have S2 := Lib.hid s2); clear s2)
      | ((with_reducible refine opIs ⟨none, .store 77 (.tmp 7) (.tmp 22), _, _, _, _⟩ ?_); refine wpList_storeR rfl 77 (.tmp 7) (.tmp 22) rfl rfl rfl hr2 ?_))
    refine bodyPost_ret (results_tmp2 rfl _ _ _) rfl ?_
    refine ⟨w1.heap.size, rfl, ?_⟩
    obtain ⟨t, ht⟩ := Option.isSome_iff_exists.1 HC.out
    have e : Disks.sec d j = s := by unfold Disks.sec; rw [ht, HA.out t ht]; rfl
    rw [e]
    exact S2.out
  · rw [Bool.not_eq_true] at hc
    have HC := Lib.hid hc
    clear hc
    go_wp2_with (first
      | (at_lookup; refine Dk.look H1.out rfl _ _ rfl j j3 rfl rfl ?_; intro V s hV hs hat; (have HV := Lib.hid hV); (have HA := Lib.hid hat); clear hV hat; rw [HC.out])
      | ((with_reducible refine opIs ⟨some 7, .alloc 77, _, _, _, _⟩ ?_); refine wpList_allocR rfl 77 rfl _ (run_alloc_sec _) ?_; (have S1 := Lib.hid (Sv.made X1.out)); (obtain ⟨w2, hr2, s2⟩ := S1.out.store hs); (rw [← HV.out] at hr2); (have S2 := Lib.hid s2); (have k5 := (H.out.ext S2.out.ext).c0); (have l5 := (H.out.ext S2.out.ext).md.load HJ.out); (obtain ⟨V2, hV2⟩ : ∃ V2, secV (Gm.row d.med j) = V2 := ⟨_, rfl⟩); (rw [hV2] at l5); (have HV2 := Lib.hid hV2); (obtain ⟨w3, hr3, s3⟩ := S2.out.store (HF.out.med j HJ.out)); (rw [HV2.out] at hr3); (have S3 := Lib.hid s3); (have L5 := Lib.hid l5); (have j2 := HJ.out); clear s2 s3 hV2 l5)
      | ((with_reducible refine opIs ⟨none, .store 77 (.tmp 7) (.tmp 22), _, _, _, _⟩ ?_); refine wpList_storeR rfl 77 (.tmp 7) (.tmp 22) rfl rfl rfl hr2 ?_)
      | ((with_reducible refine opIs ⟨some 32, .load 77 (.tmp 31), _, _, _, _⟩ ?_); refine wpList_loadR rfl 77 (.tmp 31) rfl rfl L5.out ?_)
      | ((with_reducible refine opIs ⟨none, .store 77 (.tmp 7) (.tmp 32), _, _, _, _⟩ ?_); refine wpList_storeR rfl 77 (.tmp 7) (.tmp 32) rfl rfl rfl hr3 ?_))
    refine bodyPost_ret (results_tmp2 rfl _ _ _) rfl ?_
    refine ⟨w1.heap.size, rfl, ?_⟩
    have e : Disks.sec d j = Gm.row d.med j := by
      unfold Disks.sec
      cases hq : Disks.cget d.cac j with
      | none => rfl
      | some t => have := HC.out; rw [hq] at this; cases this
    rw [e]
    exact S3.out
end Go.Proofs.Ytbfbiofndipaaaa
