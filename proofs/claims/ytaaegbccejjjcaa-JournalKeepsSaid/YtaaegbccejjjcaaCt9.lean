/- Several texts in one: The contract of a disk's Write. Sectors in memory: a variable of one, one of the medium's; the cache is looked up and cleared. No statement of the seat is proved here. -/
import Derived.Test.YtaaegbccejjjcaaCt8
import Derived.MapFrom
namespace Go.Proofs.Ytaaegbccejjjcaa
open Go.RowKit Go.Maps
set_option linter.unusedSimpArgs false

theorem sec_len {l : List UInt8} (hl : l.length = 64) : (Try.prog.info? 81).map (·.size) = some (bcells l).length := by
  rw [show (bcells l).length = 64 by simp [bcells, hl]]
  exact sec_info

abbrev GivesW (g m b n : Nat) (d : Disks.D) (er : Int) (w : World) (e : Ending) (w' : World) : Prop := e = .returned (.int .i64 er) ∧ (∃ n' D, n' ≤ n + 1 ∧ Dk w' g m b n' D d) ∧ Kp g m b w w'
set_option maxRecDepth 100000 in
set_option maxHeartbeats 8000000 in
theorem dkWrite_any (w : World) (g m b n : Nat) (D : DataW Nat) (d : Disks.D) (h : Dk w g m b n D d) (hf : Disks.Wf d) (h2 : d.arm < 2 ^ 63) (hn : n < maxLen) (i : Int) (A : Option Addr) (c e : Nat) (l : List UInt8) (hl : Bs w A c e l) (ha : Awy g m b A) :
    Calls Try.prog 46 #[dptr g, .int .i64 i, .slice A c e] w (GivesW g m b n (Disks.writeD d i l) (Disks.writeE d i l) w) := by
  have q1 := hl.max
  have q2 := hl.le
  have q3 := hl.len
  have hT := dkThere_any w g m b n D d h hf.max i
  have HO := Lib.hid (fun (W : World) (hW : Ext w W) => dkOp_any W g m b n D d (h.ext hW) hf.arm h2)
  have H := Lib.hid h
  have HL := Lib.hid hl
  have HF := Lib.hid hf
  have HN := Lib.hid hn
  have HA := Lib.hid ha
  clear h hl hf h2 hn ha
  go_enter Try.func46, Try.ntmps46
  go_wp2_with (fail)
  with_reducible refine hT.mono ?_
  rintro e1 w1 ⟨rfl, x1⟩
  have X1 := Lib.hid x1
  clear x1
  obtain ⟨t, ht⟩ : ∃ t, Disks.there d i = t := ⟨_, rfl⟩
  rw [ht]
  have HT := Lib.hid ht
  clear ht hT
  by_cases h0 : t = 0
  · subst h0
    by_cases h64 : c = 64
    · subst h64
      go_wp2_with (fail)
      with_reducible refine (HO.out _ X1.out).mono ?_
      rintro e2 w2 ⟨rfl, k2, x2⟩
      obtain ⟨A0, o0, rfl, hr⟩ := (HL.out.ext X1.out).range (by omega)
      have hr2 : w2.rangeAt A0 o0 (bcells l) := by
        obtain ⟨k3, o3, e3, h3⟩ := ((HL.out.ext X1.out).kp x2 HA.out).range (by omega)
        injection e3 with e3
        injection e3 with e3 e4
        rw [e3, e4]
        exact h3
      have X2 := Lib.hid x2
      have K2 := Lib.hid k2
      clear x2 hr k2
      by_cases hz : d.arm = 0
      · have ez : Disks.opE d = 15 := if_pos hz
        rw [ez]
        go_wp2_with (fail)
        refine bodyPost_ret (results_tmp rfl _ _ _) rfl ?_
        have e1 : Disks.writeE d i l = 15 := by unfold Disks.writeE; rw [HT.out, if_neg (by simp), if_neg (by omega), ez]
        have e2 : Disks.writeD d i l = Disks.op d := by unfold Disks.writeD; rw [HT.out, if_neg (by simp), if_neg (by omega), if_pos hz]
        rw [e1, e2]
        exact ⟨rfl, ⟨n, D, by omega, K2.out⟩, (Kp.of X1.out ..).trans X2.out⟩
      · have ez : Disks.opE d = 0 := if_neg hz
        have e1 : Disks.writeE d i l = 0 := by unfold Disks.writeE; rw [HT.out, if_neg (by simp), if_neg (by omega), ez]
        have e2 : Disks.writeD d i l = { Disks.op d with cac := d.cac.set i.toNat (some l) } := by unfold Disks.writeD; rw [HT.out, if_neg (by simp), if_neg (by omega), if_neg hz]
        have E1 := Lib.hid e1
        have E2 := Lib.hid e2
        rw [ez]
        have ei : 0 ≤ i ∧ i < d.med.length := by
          have := HT.out
          unfold Disks.there at this
          split at this
          · cases this
          · split at this
            · cases this
            · omega
        have hop : (Disks.op d).cac = d.cac := by unfold Disks.op; split <;> rfl
        have hml : (Disks.op d).med = d.med := by unfold Disks.op; split <;> rfl
        have R2 := Lib.hid hr2
        obtain ⟨j, rfl⟩ : ∃ j : Nat, i = j := ⟨i.toNat, by omega⟩
        rw [show ((j : Int)).toNat = j by omega] at E2
        have J := Lib.hid (show j < (Disks.op d).cac.length ∧ j < 65536 by rw [hop, HF.out.len]; have := HF.out.max; omega)
        have OP := Lib.hid hop
        have HZ := Lib.hid hz
        clear hr2 ei hop hml e1 e2 ez hz
        go_upto_region 9 with (fail)
        have hHeld : (fun W : World => Hid (W.cell? ⟨g, 1, none⟩ = some (.map (some b)) ∧ W.rangeAt A0 o0 (bcells l) ∧ Dk W g m b n D (Disks.op d) ∧ Kp g m b w W)) w2.drew := Lib.hid ⟨(K2.out.ext (Ext.drew _)).c1, R2.out, K2.out.ext (Ext.drew _), ((Kp.of X1.out ..).trans X2.out).trans (Kp.of (Ext.drew _) ..)⟩
        obtain ⟨V, hV⟩ : ∃ V : Value, Value.agg (bcells l).toArray = V := ⟨_, rfl⟩
        obtain ⟨w3, r1, r2, r3⟩ := Dk.store hHeld.out.2.2.1 HN.out J.out.1 J.out.2 l q3
        rw [hV] at r1
        have HV := Lib.hid hV
        clear hV
        have R9 := Lib.hid r2
        have X9 := Lib.hid (hHeld.out.2.2.2.trans r3)
        have RR := Lib.hid r1
        clear r1 r2 r3
        refine wp_region_T (S := fun W : World => Hid (W.cell? ⟨g, 1, none⟩ = some (.map (some b)) ∧ W.rangeAt A0 o0 (bcells l) ∧ Dk W g m b n D (Disks.op d) ∧ Kp g m b w W)) 8 rfl rfl ?_
        refine takeT (i := 0) (v := ?_) rfl (by kernel_rfl) (by kernel_rfl) (by kernel_rfl) (by kernel_rfl) (by decide) (fun _ _ _ h => h) (by kernel_rfl) (Or.inl ⟨by rfl, ?_⟩) (by assumption) ?_
        rotate_left
        · (intro W9 hSw; go_simp; (try with_reducible rfl))
        try simp only [Act.put, List.setIfInBounds_toArray, List.set_cons_zero, List.set_cons_succ]
        refine takeT (i := 1) (v := ?_) rfl (by kernel_rfl) (by kernel_rfl) (by kernel_rfl) (by kernel_rfl) (by decide) (fun _ _ _ h => h) (by kernel_rfl) (Or.inl ⟨by rfl, ?_⟩) (by assumption) ?_
        rotate_left
        · (intro W9 hSw; go_simp; (try with_reducible rfl))
        try simp only [Act.put, List.setIfInBounds_toArray, List.set_cons_zero, List.set_cons_succ]
        refine takeT (i := 2) (v := ?_) rfl (by kernel_rfl) (by kernel_rfl) (by kernel_rfl) (by kernel_rfl) (by decide) (fun _ _ _ h => h) (by kernel_rfl) (Or.inl ⟨by rfl, ?_⟩) (by assumption) ?_
        rotate_left
        · (intro W9 hSw; go_simp; (try with_reducible rfl))
        try simp only [Act.put, List.setIfInBounds_toArray, List.set_cons_zero, List.set_cons_succ]
        refine takeT (i := 3) (v := ?_) rfl (by kernel_rfl) (by kernel_rfl) (by kernel_rfl) (by kernel_rfl) (by decide) (fun _ _ _ h => h) (by kernel_rfl) (Or.inl ⟨by rfl, ?_⟩) (by assumption) ?_
        rotate_left
        · (intro W9 hSw; (have k9 := hSw.out.1); go_simp; (try with_reducible rfl))
        try simp only [Act.put, List.setIfInBounds_toArray, List.set_cons_zero, List.set_cons_succ]
        refine takeT (i := 4) (v := ?_) rfl (by kernel_rfl) (by kernel_rfl) (by kernel_rfl) (by kernel_rfl) (by decide) (fun _ _ _ h => h) (by kernel_rfl) (Or.inl ⟨by rfl, ?_⟩) (by assumption) ?_
        rotate_left
        · (intro W9 hSw; go_simp; (try with_reducible rfl))
        try simp only [Act.put, List.setIfInBounds_toArray, List.set_cons_zero, List.set_cons_succ]
        refine takeT (i := 5) (v := ?_) rfl (by kernel_rfl) (by kernel_rfl) (by kernel_rfl) (by kernel_rfl) (by decide) (fun _ _ _ h => h) (by kernel_rfl) (Or.inl ⟨by rfl, ?_⟩) (by assumption) ?_
        rotate_left
        · (intro W9 hSw; go_simp; (try with_reducible rfl))
        try simp only [Act.put, List.setIfInBounds_toArray, List.set_cons_zero, List.set_cons_succ]
        refine takeT (i := 6) (v := ?_) rfl (by kernel_rfl) (by kernel_rfl) (by kernel_rfl) (by kernel_rfl) (by decide) (fun _ _ _ h => h) (by kernel_rfl) (Or.inl ⟨by rfl, ?_⟩) (by assumption) ?_
        rotate_left
        · (intro W9 hSw; (have k9 := run_arrayAt (w := W9) 81 5 64 (some ⟨A0, o0, none⟩) 64 e sec_under (Nat.le_refl _)); go_simp; (try with_reducible rfl))
        try simp only [Act.put, List.setIfInBounds_toArray, List.set_cons_zero, List.set_cons_succ]
        have hi9 : (Try.prog.info? 81).map (·.size) = some (bcells l).length := sec_len q3
        refine takeT (i := 7) (v := V) rfl (by kernel_rfl) (by kernel_rfl) (by kernel_rfl) (by kernel_rfl) (by decide) (fun _ _ _ h => h) (by kernel_rfl) (by rw [← HV.out]; exact yieldsIf_load_mid (by rfl) _ _ rfl A0 o0 rfl (bcells l) (.array 64 5) (fun W9 hSw => hSw.out.2.1) sec_under (by decide) hi9) (by assumption) ?_
        clear hi9
        try simp only [Act.put, List.setIfInBounds_toArray, List.set_cons_zero, List.set_cons_succ]
        refine oneT (i := 8) rfl (by kernel_rfl) (fun K hK => ?_)
        rw [if_pos (by kernel_rfl)]
        clear hHeld
        have r1 := RR.out
        go_wp2_with (fail)
        refine hK.out _ _ (fun h => absurd (show true = false from h) (by decide)) ?_
        clear hK K
        try simp only [Act.put, List.setIfInBounds_toArray, List.set_cons_zero, List.set_cons_succ]
        refine doneT (by kernel_rfl) ?_ _
        go_wp2_with (fail)
        refine bodyPost_ret (results_tmp rfl _ _ _) rfl ?_
        have R := R9.out
        rw [OP.out] at R
        rw [E1.out, E2.out]
        exact ⟨rfl, ⟨n + 1, _, Nat.le_refl _, R⟩, X9.out⟩
    · go_wp2_with (fail)
      refine bodyPost_ret (results_tmp rfl _ _ _) rfl ?_
      have e1 : Disks.writeE d i l = 2 := by unfold Disks.writeE; rw [HT.out, if_neg (by simp), if_pos (by omega)]
      have e2 : Disks.writeD d i l = d := by unfold Disks.writeD; rw [HT.out, if_neg (by simp), if_pos (by omega)]
      rw [e1, e2]
      exact ⟨rfl, ⟨n, D, by omega, H.out.ext X1.out⟩, Kp.of X1.out ..⟩
  · go_wp2_with (fail)
    refine bodyPost_ret (results_tmp rfl _ _ _) rfl ?_
    have e1 : Disks.writeE d i l = t := by unfold Disks.writeE; rw [HT.out, if_pos h0]
    have e2 : Disks.writeD d i l = d := by unfold Disks.writeD; rw [HT.out, if_pos h0]
    rw [e1, e2]
    exact ⟨rfl, ⟨n, D, by omega, H.out.ext X1.out⟩, Kp.of X1.out ..⟩
end Go.Proofs.Ytaaegbccejjjcaa
namespace Go.Proofs.Ytaaegbccejjjcaa
open Go.RowKit Go.Maps

theorem below_setCells {B : Nat} {a : World} {k : Nat} (hk : B ≤ k) : ∀ (vs : List Value) (o : Nat) (w : World), Below B a w → Below B a (w.setCells k o vs)
  | [], _, _, h => h
  | v :: r, o, w, h => by
    rw [World.setCells]
    exact below_setCells hk r (o + 1) _ (Below.setCell h hk v)
theorem heap_setCells_other (k b : Nat) (h : b ≠ k) : ∀ (vs : List Value) (o : Nat) (w : World), (w.setCells k o vs).heap[b]? = w.heap[b]?
  | [], _, _ => rfl
  | v :: r, o, w => by
    rw [World.setCells, heap_setCells_other k b h r (o + 1)]
    exact heap_setCell_other w ⟨k, o, none⟩ b v h
theorem setCells_plain (k : Nat) : ∀ (vs : List Value) (o : Nat) (w : World), (w.setCells k o vs).os = w.os ∧ (w.setCells k o vs).tape = w.tape ∧ (w.setCells k o vs).output = w.output ∧ (w.setCells k o vs).heap.size = w.heap.size
  | [], _, _ => ⟨rfl, rfl, rfl, rfl⟩
  | v :: r, o, w => by
    rw [World.setCells]
    obtain ⟨a, b, c, d⟩ := setCells_plain k r (o + 1) (w.setCell ⟨k, o, none⟩ v)
    exact ⟨a, b, c, by rw [d]; simp⟩

theorem bcells_all (s : List UInt8) : (bcells s).toArray.all (·.oneCell') = true := all_oneCell_toArray (fun v hv => by
  simp only [bcells, List.mem_map] at hv
  obtain ⟨x, _, rfl⟩ := hv
  rfl)
theorem dk_bcells_set (l : List UInt8) (k : Nat) (x : UInt8) : bcells (l.set k x) = (bcells l).set k (.int .u8 (x.toNat : Int)) := by simp [bcells, List.map_set]
theorem dk_bcells_get {l : List UInt8} {k : Nat} (h : k < l.length) : (bcells l)[k]? = some (.int .u8 ((Gf.get l k).toNat : Int)) := by simp [bcells, Gf.get, h]
theorem bcells_len (s : List UInt8) : (bcells s).length = s.length := by simp [bcells]

theorem wpList_valR {P : Program} {ops : Array Oper} {Q : Exit → Act → World → Prop} {rest : List Oper} {o : Oper} {a : Act} {w w' : World} (hgd : o.guard = none) (v : Value)
    (hrun : (execOp a.eval o).run P w = .ok (.value v) w') (h : wpList P ops Q rest (a.put o.dst v) w') : wpList P ops Q (o :: rest) a w :=
  wpList_plain hgd fun _ hK => by unfold Oper.wp; rw [hrun]; exact hK _ _ h
section
variable {P : Program} {ops : Array Oper} {Q : Exit → Act → World → Prop} {rest : List Oper} {o : Oper} {a : Act} {w w' : World}
/-- Is this the operation? (with_reducible.) -/
theorem opIs (o : Oper) (h : wpList P ops Q (o :: rest) a w) : wpList P ops Q (o :: rest) a w := h
theorem wpList_allocR (hgd : o.guard = none) (t : TypeId) (ho : o.op = .alloc t) (v : Value)
    (hr : (Instr.alloc t true (.tuple #[])).run P w = .ok v w') (h : wpList P ops Q rest (a.put o.dst v) w') : wpList P ops Q (o :: rest) a w :=
  wpList_valR hgd v (by unfold execOp; simp only [ho, Sem.run_bind, hr, Result.andThen_ok, Sem.run_pure]) h
theorem wpList_storeR (hgd : o.guard = none) (t : TypeId) (x y : Operand) (ho : o.op = .store t x y) {p v : Value} (hx : a.eval x = p) (hy : a.eval y = v)
    (hr : (Instr.storeAt t p v).run P w = .ok () w') (h : wpList P ops Q rest (a.put o.dst undef) w') : wpList P ops Q (o :: rest) a w :=
  wpList_plain hgd fun _ hK => by
    unfold Oper.wp execOp
    simp only [ho, hx, hy, Sem.run_bind, hr, Result.andThen_ok, Sem.run_pure]
    exact hK _ _ h
theorem wp_storeR {op : Oper} {K : Act → World → Prop} (t : TypeId) (x y : Operand) (ho : op.op = .store t x y) {p v : Value} (hx : a.eval x = p) (hy : a.eval y = v)
    (hr : (Instr.storeAt t p v).run P w = .ok () w') {a' : Act} (ha : a.put op.dst undef = a') (h : K a' w') : op.wp P a w K Q := by
  unfold Oper.wp execOp
  simp only [ho, hx, hy, Sem.run_bind, hr, Result.andThen_ok, Sem.run_pure]
  subst ha
  exact h
theorem wpList_loadR (hgd : o.guard = none) (t : TypeId) (x : Operand) (ho : o.op = .load t x) {p v : Value} (hx : a.eval x = p)
    (hr : (Instr.loadAt t p).run P w = .ok v w') (h : wpList P ops Q rest (a.put o.dst v) w') : wpList P ops Q (o :: rest) a w :=
  wpList_valR hgd v (by unfold execOp; simp only [ho, hx, Sem.run_bind, hr, Result.andThen_ok, Sem.run_pure]) h
end

/-- A variable of one sector, in block k, which is younger than w. -/
structure Sv (w w' : World) (k : Nat) (s : List UInt8) : Prop where
  ext : Ext w w'
  le : w.heap.size ≤ k
  len : s.length = 64
  range : w'.rangeAt k 0 (bcells s)
  ok : w'.there k 0 64
def zsec : Obj := .cells (bcells zeros64).toArray 81 (0, 0)
theorem run_alloc_sec (w : World) : (Instr.alloc 81 true (.tuple #[])).run Try.prog w = .ok (.pointer (some ⟨w.heap.size, 0, none⟩)) (w.alloc zsec) := by kernel_rfl
theorem Sv.made {w0 w : World} (h : Ext w0 w) : Sv w0 (w.alloc zsec) w.heap.size zeros64 := by
  have hc : ∀ j v, (bcells zeros64)[j]? = some v → (w.alloc zsec).cell? ⟨w.heap.size, 0 + j, none⟩ = some v := fun j v hv => by
    rw [cell_of_row (w.alloc zsec) w.heap.size (0 + j) (bcells zeros64).toArray 81 (0, 0) (heap_alloc_new w _)]
    simpa using hv
  refine ⟨h.thenAlloc _, h.size, zeros64_len, hc, fun j hj => ⟨?_, frozen_of_row (w.alloc zsec) w.heap.size _ _ _ (heap_alloc_new w _)⟩⟩
  have hl : j < (bcells zeros64).length := by rw [bcells_len, zeros64_len]; exact hj
  rw [hc j _ (List.getElem?_eq_getElem hl)]
  rfl
theorem Sv.store {w0 w : World} {k : Nat} {s t : List UInt8} (h : Sv w0 w k s) (ht : t.length = 64) :
    ∃ w', (Instr.storeAt 81 (.pointer (some ⟨k, 0, none⟩)) (secV t)).run Try.prog w = .ok () w' ∧ Sv w0 w' k t := by
  have hn : (bcells t).toArray.size = 64 := by simp [bcells_len, ht]
  have hi : (Try.prog.info? 81).map (·.size) = some (bcells t).toArray.size := by rw [hn]; exact sec_info
  have hr := run_storeVar_mid (P := Try.prog) w k 0 81 (bcells t).toArray (by rw [hn]; exact h.ok) hi (bcells_all t)
  refine ⟨w.setCells k 0 (bcells t), by simp only [Instr.storeAt, Instr.sureAddr, Sem.run_bind, Sem.run_pure, Result.andThen_ok, secV, hr], below_setCells h.le _ _ _ h.ext, h.le, ht, World.rangeAt_setCells_same w k 0 _ (by rw [bcells_len, ht]; exact h.ok), World.there_setCells h.ok _ _ _⟩
theorem Sv.load {w0 w : World} {k : Nat} {s : List UInt8} (h : Sv w0 w k s) : (Instr.loadAt 81 (.pointer (some ⟨k, 0, none⟩))).run Try.prog w = .ok (secV s) w := sec_load w k 0 s h.len h.range
theorem Sv.bs {w0 w : World} {k : Nat} {s : List UInt8} (h : Sv w0 w k s) : Bs w (some ⟨k, 0, none⟩) 64 64 s :=
  ⟨h.len, Nat.le_refl _, by omega, by rw [bcells_len, h.len], fun _ => ⟨k, 0, rfl, fun j u hu => h.range j u hu⟩⟩
theorem Sv.then {w0 w w' : World} {k : Nat} {s : List UInt8} (h : Sv w0 w k s) (hx : Ext w w') : Sv w0 w' k s :=
  ⟨h.ext.trans hx, h.le, h.len, fun j v hv => hx.cell (h.range j v hv), fun j hj => by
    obtain ⟨u, hu⟩ := Option.isSome_iff_exists.1 (h.ok j hj).1
    exact ⟨by rw [hx.cell hu]; rfl, by rw [hx.frozen hu]; exact (h.ok j hj).2⟩⟩

/-- A sector of the medium is loaded, is stored. -/
theorem Md.load {w : World} {m : Nat} {l : List (List UInt8)} (h : Md w m l) {i : Nat} (hi : i < l.length) : (Instr.loadAt 81 (.pointer (some ⟨m, i * 64, none⟩))).run Try.prog w = .ok (secV (Gm.row l i)) w :=
  sec_load w m (i * 64) _ (h.wid i hi) (h.rows i hi)
theorem row_set (l : List (List UInt8)) (i j : Nat) (s : List UInt8) (hi : i < l.length) : Gm.row (l.set i s) j = if i = j then s else Gm.row l j := by
  unfold Gm.row
  rw [List.getD_eq_getElem?_getD, List.getD_eq_getElem?_getD, List.getElem?_set]
  by_cases e : i = j
  · subst e
    rw [if_pos rfl, if_pos rfl, if_pos hi]
    rfl
  · rw [if_neg e, if_neg e]
theorem Md.set {w : World} {m : Nat} {l : List (List UInt8)} (h : Md w m l) {i : Nat} (hi : i < l.length) {s : List UInt8} (hs : s.length = 64) : Md (w.setCells m (i * 64) (bcells s)) m (l.set i s) := by
  have hth : w.there m (i * 64) (bcells s).length := fun j hj => by
    rw [bcells_len, hs] at hj
    exact h.ok (i * 64 + j) (by have : (i + 1) * 64 ≤ l.length * 64 := Nat.mul_le_mul_right 64 hi; omega) |> fun q => by simpa using q
  refine ⟨by rw [(setCells_plain m _ _ w).2.2.2]; exact h.lt, fun j hj => ?_, fun j hj => ?_, ?_⟩
  · rw [row_set l i j s hi]
    split
    · exact hs
    · exact h.wid j (by simpa using hj)
  · rw [row_set l i j s hi]
    split
    · rename_i e
      subst e
      exact World.rangeAt_setCells_same w m _ _ hth
    · rename_i e
      have hj' : j < l.length := by simpa using hj
      refine World.rangeAt_setCells_apart (h.rows j hj') m _ _ (.inr ?_)
      rw [bcells_len, bcells_len, hs, h.wid j hj']
      rcases Nat.lt_or_gt_of_ne e with e | e
      · right; omega
      · left; omega
  · rw [List.length_set]
    exact World.there_setCells h.ok _ _ _
theorem Dk.med {w : World} {g m b n : Nat} {D : DataW Nat} {d : Disks.D} (h : Dk w g m b n D d) {i : Nat} (hi : i < d.med.length) {s : List UInt8} (hs : s.length = 64) :
    ∃ w', (storeCells ⟨m, i * 64, none⟩ (bcells s).toArray.toList).run Try.prog w = .ok () w' ∧ Dk w' g m b n D { d with med := d.med.set i s } ∧ w.grownBy w' (some m) := by
  have hn : (bcells s).toArray.size = 64 := by simp [bcells_len, hs]
  have hth : w.there m (i * 64) 64 := fun j hj => by
    have := h.md.ok (i * 64 + j) (by have : (i + 1) * 64 ≤ d.med.length * 64 := Nat.mul_le_mul_right 64 hi; omega)
    simpa using this
  have hr := run_storeCells_cells (P := Try.prog) m (i * 64) (bcells s).toArray.toList 0 w (fun j hj => (hth j (by simpa [bcells_len, hs] using hj)).1) (fun j hj => (hth j (by simpa [bcells_len, hs] using hj)).2) (fun v hv => (Array.all_eq_true_iff_forall_mem.1 (bcells_all s)) v (by simpa using hv))
  obtain ⟨p1, p2, p3, p4⟩ := setCells_plain m (bcells s) (i * 64) w
  refine ⟨w.setCells m (i * 64) (bcells s), hr, ⟨?_, h.md.set hi hs, map_kept h.mp (heap_setCells_other m b (fun e => h.mb e.symm) _ _ _), h.tie, h.gm, h.gb, h.mb⟩, p1, p2, p3, by rw [p4]; exact Nat.le_refl _, fun k _ h2 => heap_setCells_other m k (fun e => h2 (by rw [e])) _ _ _⟩
  rw [heap_setCells_other m g h.gm, h.box, List.length_set]
/-- The cache is looked up. -/
theorem Dk.look {w : World} {g m b n : Nat} {D : DataW Nat} {d : Disks.D} (h : Dk w g m b n D d) {ops : Array Oper} {rest : List Oper} {o : Oper} {a : Act} {Q : Exit → Act → World → Prop} (hg : o.guard = none) (mm x : Operand) (hop : o.op = Op.lookup 63 mm x true) (j : Nat) (hj : j < 65536)
    (hm : a.eval mm = .map (some b)) (hx : a.eval x = .int .i64 (j : Int))
    (hK : ∀ V s, V = secV s → s.length = 64 → (∀ t, Disks.cget d.cac j = some t → s = t) → wpList Try.prog ops Q rest (a.put o.dst (.tuple #[V, .bool (Disks.cget d.cac j).isSome])) w) :
    wpList Try.prog ops Q (o :: rest) a w := by
  refine wpList_lookup_own_ok w hg mm x _ hop 3 81 int_key5 map_under secR (sec_zero w) (.lit (.string zeros64)) [] (secR_mk zeros64_len) b n D hm h.mp _ (lk (j : Int)) hx (lk_of (by omega) (by omega)) ?_
  intro v ps hv
  obtain ⟨s, hs, rfl, hz⟩ := secR_inv hv
  have e : Maps.has D (lk (j : Int)) = (Disks.cget d.cac j).isSome := by
    have := h.tie.has (j : Int)
    rw [show ((j : Int)).toNat = j by omega] at this
    rw [Bool.eq_iff_iff, this]
    exact ⟨fun q => q.2, fun q => ⟨by omega, q⟩⟩
  rw [e]
  refine hK _ s rfl hs (fun t ht => ?_)
  have h2 := h.tie.at_ (j : Int) t (.lit (.string zeros64)) (by omega) (by rw [show ((j : Int)).toNat = j by omega]; exact ht)
  rw [h2] at hz
  injection hz with hz _
  injection hz with hz
  injection hz with hz
  exact hz.symm
/-- The cache is cleared. -/
theorem Dk.clear {w : World} {g m b n : Nat} {D : DataW Nat} {d : Disks.D} (h : Dk w g m b n D d) (ty : TypeId) :
    ∃ w', (Builtin.clear_ #[63] ty #[.map (some b)]).run Try.prog w = .ok (.tuple #[]) w' ∧ Dk w' g m b 0 (.map []) { d with cac := List.replicate d.cac.length none } ∧ Kp g m b w w' := by
  obtain ⟨es, clock, hb, _⟩ := h.mp
  have hs : ({ w with heap := w.heap.setIfInBounds b (.map #[] clock) } : World).heap.size = w.heap.size := by simp
  obtain ⟨q1, q2⟩ := MapKept.heap_set (o' := .map #[] clock) hb
  refine ⟨{ w with heap := w.heap.setIfInBounds b (.map #[] clock) }, by simp [Builtin.clear_, run_underlying map_under, MapKept.run_getObj_map hb, MapKept.run_setObj_map _ hb, Result.andThen], ?_, rfl, rfl, rfl, by rw [hs]; exact Nat.le_refl _, fun i _ _ _ h3 => q2 i h3⟩
  exact ⟨(q2 g h.gb).trans h.box, h.md.same (by rw [hs]; exact Nat.le_refl _) (q2 m h.mb), ⟨#[], clock, q1, ⟨by simp, MapKept.stamped_empty clock, by simp⟩, Nat.le_refl _, rfl⟩, Tie.nil _, h.gm, h.gb, h.mb⟩
end Go.Proofs.Ytaaegbccejjjcaa
