/- Several texts in one: Steps by a run equation. No program in sight. A find in a new variable, by run equations. The contract of find.Lose. -/
import Derived.Test.YtfpglkacjecoeaaGreatCt1
import Derived.Deep.MidRow
import Derived.Test.YtfpglkacjecoeaaGreatCt23
import Derived.Laws.MakeOwn
import Derived.Test.YtfpglkacjecoeaaGreatCt12
import Derived.Test.YtfpglkacjecoeaaGreatCt14
namespace Go.Proofs.YtfpglkacjecoeaaGreat
open Go.RowKit

theorem wpList_valR {P : Program} {ops : Array Oper} {Q : Exit → Act → World → Prop} {rest : List Oper} {o : Oper} {a : Act} {w w' : World} (hgd : o.guard = none) (v : Value)
    (hrun : (execOp a.eval o).run P w = .ok (.value v) w') (h : wpList P ops Q rest (a.put o.dst v) w') : wpList P ops Q (o :: rest) a w :=
  wpList_plain hgd fun _ hK => by unfold Oper.wp; rw [hrun]; exact hK _ _ h
section
variable {P : Program} {ops : Array Oper} {Q : Exit → Act → World → Prop} {rest : List Oper} {o : Oper} {a : Act} {w w' : World}
/-- Is this the operation? (with_reducible.) -/
theorem opIs (o : Oper) (h : wpList P ops Q (o :: rest) a w) : wpList P ops Q (o :: rest) a w := h
theorem wpList_allocR (hgd : o.guard = none) (t : TypeId) (ho : o.op = .alloc t) (v : Value)
    (hr : (Instr.alloc t true (.tuple #[])).run P w = .ok v w') (h : wpList P ops Q rest (a.put o.dst v) w') : wpList P ops Q (o :: rest) a w :=
  wpList_valR hgd v (by unfold execOp; simp only [ho, Sem.run_bind, hr, Result.andThen_ok, Sem.run_pure]) h
theorem wpList_storeR (hgd : o.guard = none) (t : TypeId) (x y : Operand) (ho : o.op = .store t x y) {p v : Value} (hx : a.eval x = p) (hy : a.eval y = v)
    (hr : (Instr.storeAt t p v).run P w = .ok () w') (h : wpList P ops Q rest (a.put o.dst undef) w') : wpList P ops Q (o :: rest) a w :=
  wpList_plain hgd fun _ hK => by
    unfold Oper.wp execOp
    simp only [ho, hx, hy, Sem.run_bind, hr, Result.andThen_ok, Sem.run_pure]
    exact hK _ _ h
theorem wp_storeR {op : Oper} {K : Act → World → Prop} (t : TypeId) (x y : Operand) (ho : op.op = .store t x y) {p v : Value} (hx : a.eval x = p) (hy : a.eval y = v)
    (hr : (Instr.storeAt t p v).run P w = .ok () w') {a' : Act} (ha : a.put op.dst undef = a') (h : K a' w') : op.wp P a w K Q := by
  unfold Oper.wp execOp
  simp only [ho, hx, hy, Sem.run_bind, hr, Result.andThen_ok, Sem.run_pure]
  subst ha
  exact h
theorem wpList_loadR (hgd : o.guard = none) (t : TypeId) (x : Operand) (ho : o.op = .load t x) {p v : Value} (hx : a.eval x = p)
    (hr : (Instr.loadAt t p).run P w = .ok v w') (h : wpList P ops Q rest (a.put o.dst v) w') : wpList P ops Q (o :: rest) a w :=
  wpList_valR hgd v (by unfold execOp; simp only [ho, hx, Sem.run_bind, hr, Result.andThen_ok, Sem.run_pure]) h
end

theorem wp_allocR {P : Program} {Q : Exit → Act → World → Prop} {a : Act} {w w' : World} {op : Oper} {K : Act → World → Prop} (t : TypeId) (ho : op.op = .alloc t) (v : Value)
    (hr : (Instr.alloc t true (.tuple #[])).run P w = .ok v w') {a' : Act} (ha : a.put op.dst v = a') (h : K a' w') : op.wp P a w K Q := by
  unfold Oper.wp execOp
  simp only [ho, Sem.run_bind, hr, Result.andThen_ok, Sem.run_pure]
  subst ha
  exact h
end Go.Proofs.YtfpglkacjecoeaaGreat
namespace Go.Proofs.YtfpglkacjecoeaaGreat
open Go.RowKit

theorem find_under : ∃ d, Tryz.prog.underlying 25 = some d ∧ d.isRow = true := ⟨_, Tryz.underlying25, rfl⟩
theorem find_info : (Tryz.prog.info? 25).map (·.size) = some 7 := by kernel_rfl
abbrev fcells13 (f : Finds.F) (U V S : Value) : List Value := [.int .i64 f.stripe, .int .i64 f.version, .int .i64 f.need, .int .i64 f.phase, U, V, S]
theorem Fv.load {w : World} {g : Nat} {f : Finds.F} (h : Fv w g f) : ∃ A n c B m d C k e, (Instr.loadAt 25 (.pointer (some ⟨g, 0, none⟩))).run Tryz.prog w = .ok (fval f.stripe f.version f.need f.phase (.slice A n c) (.slice B m d) (.slice C k e)) w ∧ Fd w f A n c B m d C k e := by
  obtain ⟨A, n, c, B, m, d, C, k, e, hb, hf⟩ := h
  refine ⟨A, n, c, B, m, d, C, k, e, ?_, hf⟩
  simp only [Instr.loadAt, Instr.sureAddr, Sem.run_bind, Sem.run_pure, Result.andThen_ok, hb.res]
def zfind : Obj := .cells #[.int .i64 0, .int .i64 0, .int .i64 0, .int .i64 0, .slice none 0 0, .slice none 0 0, .slice none 0 0] 25 (0, 0)
theorem run_alloc_find (w : World) : (Instr.alloc 25 true (.tuple #[])).run Tryz.prog w = .ok (.pointer (some ⟨w.heap.size, 0, none⟩)) (w.alloc zfind) := by kernel_rfl
theorem setCells_seven {w : World} {p : Nat} {a b c d e f g : Value} {T : TypeId} (hb : w.heap[p]? = some (.cells #[a, b, c, d, e, f, g] T (0, 0))) (vs : List Value) (hv : vs.length = 7) : (w.setCells p 0 vs).heap[p]? = some (.cells vs.toArray T (0, 0)) := by
  match vs, hv with
  | [a', b', c', d', e', f', g'], _ =>
    have h1 := heap_setCell_same w p 0 _ _ a' hb
    simp only [List.setIfInBounds_toArray, List.set_cons_zero, List.set_cons_succ] at h1
    have h2 := heap_setCell_same _ p 1 _ _ b' h1
    simp only [List.setIfInBounds_toArray, List.set_cons_zero, List.set_cons_succ] at h2
    have h3 := heap_setCell_same _ p 2 _ _ c' h2
    simp only [List.setIfInBounds_toArray, List.set_cons_zero, List.set_cons_succ] at h3
    have h4 := heap_setCell_same _ p 3 _ _ d' h3
    simp only [List.setIfInBounds_toArray, List.set_cons_zero, List.set_cons_succ] at h4
    have h5 := heap_setCell_same _ p 4 _ _ e' h4
    simp only [List.setIfInBounds_toArray, List.set_cons_zero, List.set_cons_succ] at h5
    have h6 := heap_setCell_same _ p 5 _ _ f' h5
    simp only [List.setIfInBounds_toArray, List.set_cons_zero, List.set_cons_succ] at h6
    have h7 := heap_setCell_same _ p 6 _ _ g' h6
    simp only [List.setIfInBounds_toArray, List.set_cons_zero, List.set_cons_succ] at h7
    exact h7
theorem setCells_far (p : Nat) (base : Nat) : ∀ (vs : List Value) (k : Nat) (w w' : World), Below base w w' → base ≤ p → Below base w (w'.setCells p k vs)
  | [], _, _, _, h, _ => h
  | v :: r, k, w, w', h, hp => by
    rw [World.setCells]
    exact setCells_far p base r (k + 1) w _ (Below.setCell h hp v) hp
theorem setCells_other (p : Nat) : ∀ (vs : List Value) (k : Nat) (w : World) (q : Nat), q ≠ p → (w.setCells p k vs).heap[q]? = w.heap[q]?
  | [], _, _, _, _ => rfl
  | v :: r, k, w, q, hq => by
    rw [World.setCells]
    exact (setCells_other p r (k + 1) _ q hq).trans (heap_setCell_other w ⟨p, k, none⟩ q v (by show q ≠ p; exact hq))
/-- A new variable of a find, written. -/
theorem find_new (w : World) {f : Finds.F} {A : Option Addr} {n c : Nat} {B : Option Addr} {m d : Nat} {C : Option Addr} {k e : Nat} (h : Fd w f A n c B m d C k e) : ∃ x w1 w2, (Instr.alloc 25 true (.tuple #[])).run Tryz.prog w = .ok (.pointer (some ⟨x, 0, none⟩)) w1 ∧ (Instr.storeAt 25 (.pointer (some ⟨x, 0, none⟩)) (fval f.stripe f.version f.need f.phase (.slice A n c) (.slice B m d) (.slice C k e))).run Tryz.prog w1 = .ok () w2 ∧ Fv w2 x f ∧ Ext w w2 := by
  have hb := heap_alloc_new w zfind
  have hth : (w.alloc zfind).there w.heap.size 0 7 := fun j hj => ⟨by
    rw [cell_of_row _ _ _ _ _ _ hb]
    have hl : 0 + j < (#[.int .i64 0, .int .i64 0, .int .i64 0, .int .i64 0, .slice none 0 0, .slice none 0 0, .slice none 0 0] : Array Value).size := by show 0 + j < 7; omega
    rw [Array.getElem?_eq_getElem hl]; rfl, frozen_of_row _ _ _ _ _ hb⟩
  have hall : (fcells13 f (.slice A n c) (.slice B m d) (.slice C k e)).toArray.all (·.oneCell') = true := all_oneCell_toArray (fun v hv => by
    simp only [fcells13, List.mem_cons, List.not_mem_nil, or_false] at hv
    rcases hv with rfl | rfl | rfl | rfl | rfl | rfl | rfl <;> rfl)
  have hr := run_storeVar_mid (P := Tryz.prog) (w.alloc zfind) w.heap.size 0 25 (fcells13 f (.slice A n c) (.slice B m d) (.slice C k e)).toArray hth find_info hall
  have x2 : Ext w ((w.alloc zfind).setCells w.heap.size 0 (fcells13 f (.slice A n c) (.slice B m d) (.slice C k e))) := setCells_far _ _ _ _ _ _ (Ext.alloc w _) (Nat.le_refl _)
  refine ⟨w.heap.size, _, _, run_alloc_find w, by simp only [Instr.storeAt, Instr.sureAddr, Sem.run_bind, Sem.run_pure, Result.andThen_ok, hr], ⟨A, n, c, B, m, d, C, k, e, ⟨setCells_seven hb _ rfl⟩, h.ext x2⟩, x2⟩
/-- A find, written into a box of noughts. -/
theorem find_put (w : World) {x : Nat} (hb : w.heap[x]? = some zfind) (f : Finds.F) (A : Option Addr) (n c : Nat) (B : Option Addr) (m d : Nat) (C : Option Addr) (k e : Nat) : ∃ w2, (Instr.storeAt 25 (.pointer (some ⟨x, 0, none⟩)) (fval f.stripe f.version f.need f.phase (.slice A n c) (.slice B m d) (.slice C k e))).run Tryz.prog w = .ok () w2 ∧ (∀ cur : World, Ext cur w → cur.heap.size ≤ x → Ext cur w2) ∧ (∀ q, q ≠ x → w2.heap[q]? = w.heap[q]?) ∧ Fb w2 x f.stripe f.version f.need f.phase (.slice A n c) (.slice B m d) (.slice C k e) := by
  have hb2 : w.heap[x]? = some (.cells #[.int .i64 0, .int .i64 0, .int .i64 0, .int .i64 0, .slice none 0 0, .slice none 0 0, .slice none 0 0] 25 (0, 0)) := hb
  have hth : w.there x 0 7 := fun j hj => ⟨by
    rw [cell_of_row _ _ _ _ _ _ hb2]
    have hl : 0 + j < (#[.int .i64 0, .int .i64 0, .int .i64 0, .int .i64 0, .slice none 0 0, .slice none 0 0, .slice none 0 0] : Array Value).size := by show 0 + j < 7; omega
    rw [Array.getElem?_eq_getElem hl]; rfl, frozen_of_row _ _ _ _ _ hb2⟩
  have hall : (fcells13 f (.slice A n c) (.slice B m d) (.slice C k e)).toArray.all (·.oneCell') = true := all_oneCell_toArray (fun v hv => by
    simp only [fcells13, List.mem_cons, List.not_mem_nil, or_false] at hv
    rcases hv with rfl | rfl | rfl | rfl | rfl | rfl | rfl <;> rfl)
  have hr := run_storeVar_mid (P := Tryz.prog) w x 0 25 (fcells13 f (.slice A n c) (.slice B m d) (.slice C k e)).toArray hth find_info hall
  refine ⟨w.setCells x 0 (fcells13 f (.slice A n c) (.slice B m d) (.slice C k e)), by simp only [Instr.storeAt, Instr.sureAddr, Sem.run_bind, Sem.run_pure, Result.andThen_ok, hr], fun cur hx hl => setCells_far _ _ _ _ _ _ hx hl, fun q hq => ?_, ⟨setCells_seven hb2 _ rfl⟩⟩
  exact setCells_other x _ _ _ q hq
theorem u8_info13 : (Tryz.prog.info? 5).map (fun i => (i.zero, i.size, i.bytes)) = some (some (.int .u8 0), 1, 1) := by kernel_rfl
theorem made13_toList (c : Nat) (z : Value) : (madeCells #[z] c).toList = List.replicate c z := by
  unfold madeCells
  rw [Array.toList_map]
  have h : ∀ x ∈ (Array.range c).toList, (fun j => #[z][j % #[z].size]!) x = z := fun x _ => by simp [Nat.mod_one]
  rw [List.map_congr_left h, List.map_const']
  simp
/-- So many bytes, made. -/
theorem make_big (w : World) (n : Nat) (hn : n ≤ 100000) : ∃ x w', (Instr.makeSlice 46 (.int .i64 (n : Int)) (.int .i64 (n : Int))).run Tryz.prog w = .ok (.slice (some ⟨x, 0, none⟩) n n) w' ∧ Bs w' (some ⟨x, 0, none⟩) n n (List.replicate n 0) ∧ Ext w w' := by
  obtain ⟨i, hi, hz, h1, h2⟩ := info_parts u8_info13
  have h := run_make (P := Tryz.prog) w 46 5 i _ Tryz.underlying46 hi hz .i64 .i64 (n : Int) (n : Int) (by omega) (Int.le_refl _) (by rw [h2]; omega) (by omega)
  rw [h1] at h
  have hb : (madeCells #[.int .u8 0] n).toList = bcells (List.replicate n 0) := by rw [made13_toList]; simp [bcells]
  have hr : Rd (w.alloc (.cells (madeCells #[.int .u8 0] n) 5)) 1 (some ⟨w.heap.size, 0, none⟩) n (bcells (List.replicate n 0)) := by
    have h3 := Rd.lit w (madeCells #[.int .u8 0] n) 5
    have hs : (madeCells #[.int .u8 0] n).size = n := by rw [← Array.length_toList, hb]; simp [bcells]
    rwa [hs, hb] at h3
  exact ⟨w.heap.size, _, by simpa [Value.cells] using h, ⟨List.length_replicate, Nat.le_refl _, by omega, hr⟩, Ext.alloc _ _⟩
end Go.Proofs.YtfpglkacjecoeaaGreat
namespace Go.Proofs.YtfpglkacjecoeaaGreat
open Go.RowKit

/-- A find is handed back. -/
def GivesL (f : Finds.F) (er : Int) (w : World) (e : Ending) (w' : World) : Prop := ∃ A n c B m d C k e9, e = .returned (.tuple #[fval f.stripe f.version f.need f.phase (.slice A n c) (.slice B m d) (.slice C k e9), .int .i64 er]) ∧ Fd w' f A n c B m d C k e9 ∧ Ext w w'
theorem loseF_no {f : Finds.F} {i : Int} (h : ¬ Finds.mayTell f i) : Finds.loseF f i = f ∧ Finds.toldE f i = 140 := ⟨if_neg (fun q => h q.1), if_neg h⟩
theorem lose_end {w W : World} {g gu b1 n c : Nat} {f : Finds.F} {B : Option Addr} {m d : Nat} {C : Option Addr} {k e9 : Nat} {l : List Int} (er : Int) (ho : W.ownsRow b1 3 1 (.slice (some ⟨gu, 0, none⟩) n c) l.length (icells l)) (hl : l.length = n) (hb : g < b1) (hx : Ext w W) (hg : w.heap.size ≤ g) (hv : Is w B m d f.which) (hs : Mx w C k e9 f.shards) (st ve ne ph : Int) :
    GivesL ⟨st, ve, ne, ph, l, f.which, f.shards⟩ er w (.returned (.tuple #[fval st ve ne ph (.slice (some ⟨gu, 0, none⟩) n c) (.slice B m d) (.slice C k e9), .int .i64 er])) (W.setRow g (frow st ve ne ph (.slice (some ⟨gu, 0, none⟩) n c) (.slice B m d) (.slice C k e9))) := by
  subst hl
  have hx2 : Ext w (W.setRow g (frow st ve ne ph (.slice (some ⟨gu, 0, none⟩) l.length c) (.slice B m d) (.slice C k e9))) := hx.row hg _
  have ho2 := ownsRow_grown ho (grown_row W g (frow st ve ne ph (.slice (some ⟨gu, 0, none⟩) l.length c) (.slice B m d) (.slice C k e9))) (.inr (fun e => by have := (ho.lt gu rfl).1; injection e with e; have e' : gu = g := e; omega))
  exact ⟨_, _, _, _, _, _, _, _, _, rfl, ⟨(Own.mk (base := b1) (e := 3) ho2).ints, hv.ext hx2, hs.ext hx2⟩, hx2⟩
set_option maxRecDepth 100000 in
set_option maxHeartbeats 8000000 in
theorem fLose_any (w : World) (f : Finds.F) (A : Option Addr) (n c : Nat) (B : Option Addr) (m d : Nat) (C : Option Addr) (k e : Nat) (h : Fd w f A n c B m d C k e) (hn : n ≤ 1000) (hm : m ≤ 1000) (i : Int) :
    Calls Tryz.prog 16 #[fval f.stripe f.version f.need f.phase (.slice A n c) (.slice B m d) (.slice C k e), .int .i64 i] w (GivesL (Finds.loseF f i) (Finds.toldE f i) w) := by
  have q1 := h.u.max
  have q2 := h.u.le
  have q3 := h.v.max
  have q4 := h.v.le
  have q5 := h.s.max
  have q6 := h.s.le
  obtain ⟨g, hg⟩ : ∃ g, w.heap.size = g := ⟨_, rfl⟩
  have s1 := Fb.new w f.stripe f.version f.need f.phase (.slice A n c) (.slice B m d) (.slice C k e) hg
  have xA := Ext.alloc w (.cells #[.int .i64 f.stripe, .int .i64 f.version, .int .i64 f.need, .int .i64 f.phase, .slice A n c, .slice B m d, .slice C k e] 25)
  obtain ⟨W1, hW1⟩ : ∃ W1, w.alloc (.cells #[.int .i64 f.stripe, .int .i64 f.version, .int .i64 f.need, .int .i64 f.phase, .slice A n c, .slice B m d, .slice C k e] 25) = W1 := ⟨_, rfl⟩
  have z1 : W1.heap.size = g + 1 := by rw [← hW1, ← hg]; simp
  rw [hW1] at s1 xA
  have s2 := Fb.new W1 0 0 0 0 (.slice none 0 0) (.slice none 0 0) (.slice none 0 0) z1
  have xB := Ext.alloc W1 (.cells #[.int .i64 0, .int .i64 0, .int .i64 0, .int .i64 0, .slice none 0 0, .slice none 0 0, .slice none 0 0] 25)
  obtain ⟨W0, hW0⟩ : ∃ W0, W1.alloc (.cells #[.int .i64 0, .int .i64 0, .int .i64 0, .int .i64 0, .slice none 0 0, .slice none 0 0, .slice none 0 0] 25) = W0 := ⟨_, rfl⟩
  rw [hW0] at s2 xB
  have z0 : W0.heap.size = g + 1 + 1 := by rw [← hW0]; simp [z1]
  have sA := s1.ext xB
  have XA := Lib.hid (xA.trans xB)
  have HR := Lib.hid (fRight_any W0 f A n c B m d C k e (h.ext XA.out) hn hm)
  have SA := Lib.hid sA
  have SZ := Lib.hid s2
  have H := Lib.hid h
  have HG := Lib.hid hg
  have Z0 := Lib.hid z0
  have HW1 := Lib.hid hW1
  have HW0 := Lib.hid hW0
  have no : ¬ Finds.mayTell f i → Finds.loseF f i = f ∧ Finds.toldE f i = 140 := fun h => loseF_no h
  have NO := Lib.hid no
  clear h xA xB s1 s2 z0 z1 no hW1 hW0 sA
  have LN := Lib.hid H.out.u.len
  go_enter Tryz.func16, Tryz.ntmps16
  try dsimp only [List.append]
  go_upto_region 1 with (fail)
  rw [HW1.out, HW0.out]
  clear hg
  have k0 := SA.out.c0
  have k1 := SA.out.c1
  have k2 := SA.out.c2
  have k3 := SA.out.c3
  have k4 := SA.out.c4
  have k5 := SA.out.c5
  have k6 := SA.out.c6
  obtain ⟨MT, hMT⟩ : ∃ MT, decide (Finds.mayTell f i) = MT := ⟨_, rfl⟩
  have HMT := Lib.hid hMT
  clear hMT
  go_cut [19] (fun s wx => ∃ wv : World, wv = wx ∧ s = .bool (!MT) ∧ RowKit.Hid (Ext W0 wx))
  case first =>
    go_wp2_with (fail)
    refine HR.out.mono ?_
    rintro e w1 ⟨rfl, x1⟩
    have k4' := x1.cell k4
    have X1 := Lib.hid x1
    clear x1
    by_cases hr : Finds.right f
    · rw [decide_eq_true hr]
      have HRR := Lib.hid hr
      clear hr
      by_cases h0 : i < 0
      · have HF := Lib.hid (show MT = false by rw [← HMT.out]; exact decide_eq_false (fun q => by have := q.2.1; omega))
        go_wp2_with (fail)
        go_meet
        exact ⟨_, rfl, by rw [HF.out]; rfl, X1⟩
      · by_cases h1 : (n : Int) ≤ i
        · have HF := Lib.hid (show MT = false by rw [← HMT.out]; exact decide_eq_false (fun q => by have := q.2.2; have := LN.out; omega))
          go_wp2_with (fail)
          go_meet
          exact ⟨_, rfl, by rw [HF.out]; rfl, X1⟩
        · have HF := Lib.hid (show MT = true by rw [← HMT.out]; exact decide_eq_true ⟨HRR.out, by omega, by have := LN.out; omega⟩)
          go_wp2_with (fail)
          go_meet
          exact ⟨_, rfl, by rw [HF.out, decide_eq_false (show ¬ i < 0 by omega), decide_eq_false (show ¬ (n : Int) ≤ i by omega)]; rfl, X1⟩
    · rw [decide_eq_false hr]
      have HF := Lib.hid (show MT = false by rw [← HMT.out]; exact decide_eq_false (fun q => hr q.1))
      clear hr
      go_wp2_with (fail)
      go_meet
      exact ⟨_, rfl, by rw [HF.out]; rfl, X1⟩
  case rest =>
  obtain ⟨w1, rfl, rfl, X1⟩ := hcut
  clear k0 k1 k2 k3 k4 k5 k6
  have sA := SA.out.ext X1.out
  have sZ := SZ.out.ext X1.out
  have k0 := sA.c0
  have k1 := sA.c1
  have k2 := sA.c2
  have k3 := sA.c3
  have k4 := sA.c4
  have k5 := sA.c5
  have k6 := sA.c6
  have SA1 := Lib.hid sA
  have SZ1 := Lib.hid sZ
  cases MT with
  | false =>
    have HNO := Lib.hid (NO.out (of_decide_eq_false HMT.out))
    have HRES := Lib.hid (sZ.row f.stripe f.version f.need f.phase (.slice A n c) (.slice B m d) (.slice C k e)).res
    have zb := sZ.blk
    have ab := sA.blk
    clear sA sZ k0 k1 k2 k3 k4 k5 k6
    go_upto_region 2 with (fail)
    refine wp_region_lit ?_
    refine wpList_load_row rfl 25 (.tmp 2) rfl g rfl 25 _ (0, 0) _ ab Tryz.underlying25 rfl (by kernel_rfl) ?_
    refine wpList_store_row rfl 25 (.tmp 4) (.tmp 20) rfl (g + 1) (frow f.stripe f.version f.need f.phase (.slice A n c) (.slice B m d) (.slice C k e)) rfl rfl 25 _ zb (by kernel_rfl) rfl (by simp [Value.oneCell']) ?_
    go_wp2_with (fail)
    have hx : Ext w (w1.setRow (g + 1) (frow f.stripe f.version f.need f.phase (.slice A n c) (.slice B m d) (.slice C k e))) := (XA.out.trans X1.out).row (by rw [HG.out]; omega) _
    refine bodyPost_ret (v := .tuple #[fval f.stripe f.version f.need f.phase (.slice A n c) (.slice B m d) (.slice C k e), .int .i64 140]) ?_ rfl (by rw [HNO.out.1, HNO.out.2]; exact ⟨_, _, _, _, _, _, _, _, _, rfl, H.out.ext hx, hx⟩)
    rw [results_cell_tmp rfl]
    simp [asAddr, Result.andThen, HRES.out]
  | true =>
    clear sA sZ
    have hmt : Finds.mayTell f i := of_decide_eq_true HMT.out
    have hi0 := hmt.2.1
    have hin : i < n := by have := hmt.2.2; have := LN.out; omega
    have htE : Finds.toldE f i = 0 := if_pos hmt
    have htF : Finds.loseF f i = if f.phase = 1 ∧ Il.get f.marks i.toNat = 2 then { f with marks := f.marks.set i.toNat 0 } else f := by
      unfold Finds.loseF
      by_cases ho : f.phase = 1 ∧ Il.get f.marks i.toNat = 2
      · rw [if_pos ⟨hmt, ho⟩, if_pos ho]
      · rw [if_neg (fun q => ho q.2), if_neg ho]
    have HTF := Lib.hid htF
    have HTE := Lib.hid htE
    have HC1 := Lib.hid (cloneInts_any w1 A n c f.marks (H.out.u.ext (XA.out.trans X1.out)) (by omega))
    have f4 := SA1.out.fz 4
    obtain ⟨iN, rfl⟩ : ∃ iN : Nat, i = (iN : Int) := ⟨i.toNat, by omega⟩
    rw [Int.toNat_natCast] at HTF
    have hiN : iN < n := by omega
    have HL1 := Lib.hid (show g + 1 < w1.heap.size by have := SZ1.out.lt; omega)
    have r1 : (iN : Int) < n := hin
    clear hmt htE htF NO HMT HR
    go_upto_region 4 with (refine HC1.out.mono ?_; rintro e w3 ⟨v3, rfl, hv3⟩; obtain ⟨A3, c3, rfl, hi3⟩ := hv3.is; have sA3 := SA1.out.ext hv3.ext; have f43 := sA3.fz 4; have k43 := sA3.c4; have OW := Lib.hid hv3.own; have SA3 := Lib.hid sA3; have X3 := Lib.hid hv3.ext; clear hv3 hi3 sA3)
    obtain ⟨gu, rfl, hgu1, hgu2⟩ := own_addr OW.out (by have := LN.out; omega)
    have sA4 := SA3.out.set4 (.slice (some ⟨gu, 0, none⟩) f.marks.length c3)
    have ow4 := ownsRow_far OW.out (p := ⟨g, 4, none⟩) (by have := HL1.out; show g < w1.heap.size; omega) (.slice (some ⟨gu, 0, none⟩) f.marks.length c3)
    have x4 : Ext w (w3.setCell ⟨g, 4, none⟩ (.slice (some ⟨gu, 0, none⟩) f.marks.length c3)) := (XA.out.trans (X1.out.trans X3.out)).set_ (p := ⟨g, 4, none⟩) (by rw [HG.out]; exact Nat.le_refl _) _
    have sZ4 := (SZ1.out.ext X3.out).far (p := ⟨g, 4, none⟩) (by show g ≠ g + 1; omega) (.slice (some ⟨gu, 0, none⟩) f.marks.length c3)
    obtain ⟨w4, hw4⟩ : ∃ w4, w3.setCell ⟨g, 4, none⟩ (.slice (some ⟨gu, 0, none⟩) f.marks.length c3) = w4 := ⟨_, rfl⟩
    rw [hw4] at sA4 ow4 x4 sZ4 ⊢
    have LNE := LN.out
    rw [LNE] at sA4 ow4 ⊢
    have HGU := Lib.hid hgu1
    clear hw4 LNE f43 k43 k0 k1 k2 k3 k4 k5 k6 f4 hgu1 hgu2
    have hi4 := (Own.mk (base := w1.heap.size) (e := 3) ow4).ints
    obtain ⟨b9, o9, e9, hc9⟩ := hi4.rd.intAt hiN
    injection e9 with e9
    injection e9 with e9 e10
    subst e9 e10
    obtain ⟨y, hy⟩ : ∃ y, Il.get f.marks iN = y := ⟨_, rfl⟩
    rw [hy] at hc9 HTF
    rw [Nat.zero_add] at hc9
    have k3 := sA4.c3
    have k4 := sA4.c4
    have hcap := hi4.le
    have hmax := hi4.max
    have OW4 := Lib.hid ow4
    have X4 := Lib.hid x4
    have S4 := Lib.hid sA4
    have Z4 := Lib.hid sZ4
    clear hi4 ow4 x4 sA4 sZ4 hy
    by_cases hp : f.phase = 1
    · have e1 : (f.phase == 1) = true := by rw [beq_iff_eq]; exact hp
      by_cases hm2 : y = 2
      · have e2 : (y == 2) = true := by rw [beq_iff_eq]; exact hm2
        have HF := Lib.hid (show Finds.loseF f (iN : Int) = { f with marks := f.marks.set iN 0 } by rw [HTF.out, if_pos ⟨hp, hm2⟩])
        have f9 := OW4.out.frozenAt iN
        clear hp hm2
        go_upto_region 6 with (fail)
        have hgu : w1.heap.size ≤ gu := HGU.out
        have hg1 := HL1.out
        obtain ⟨o5, _⟩ := OW4.out.stored iN (.int .i64 0)
        have h5 : (icells f.marks).set iN (.int .i64 0) = icells (f.marks.set iN 0) := by unfold icells; rw [List.map_set]
        rw [h5] at o5
        have X5 := Lib.hid (X4.out.set_ (p := ⟨gu, iN, none⟩) (by rw [HG.out]; show g ≤ gu; omega) (.int .i64 0))
        have S5 := Lib.hid (S4.out.far (p := ⟨gu, iN, none⟩) (by show gu ≠ g; omega) (.int .i64 0))
        have Z5 := Lib.hid (Z4.out.far (p := ⟨gu, iN, none⟩) (by show gu ≠ g + 1; omega) (.int .i64 0))
        obtain ⟨l, hl⟩ : ∃ l, f.marks.set iN 0 = l := ⟨_, rfl⟩
        have hll : l.length = n := by rw [← hl, List.length_set]; exact LN.out
        rw [hl] at HF o5
        have OW5 := Lib.hid (show (w4.setCell ⟨gu, iN, none⟩ (.int .i64 0)).ownsRow w1.heap.size 3 1 (.slice (some ⟨gu, 0, none⟩) n c3) l.length (icells l) by rw [hll]; exact o5)
        obtain ⟨w5, hw5⟩ : ∃ w5, w4.setCell ⟨gu, iN, none⟩ (.int .i64 0) = w5 := ⟨_, rfl⟩
        rw [hw5] at X5 S5 Z5 OW5 ⊢
        have HLL := Lib.hid hll
        clear hw5 hl hll o5 h5 hgu hg1 f9 k3 k4 hc9
        have ab := S5.out.blk
        have zb := Z5.out.blk
        refine wp_region_lit ?_
        refine wpList_load_row rfl 25 (.tmp 2) rfl g rfl 25 _ (0, 0) _ ab Tryz.underlying25 rfl (by kernel_rfl) ?_
        refine wpList_store_row rfl 25 (.tmp 4) (.tmp 40) rfl (g + 1) (frow f.stripe f.version f.need f.phase (.slice (some ⟨gu, 0, none⟩) n c3) (.slice B m d) (.slice C k e)) rfl rfl 25 _ zb (by kernel_rfl) rfl (by simp [Value.oneCell']) ?_
        clear ab zb
        go_wp2_with (fail)
        have hend := lose_end (f := f) 0 OW5.out HLL.out HL1.out X5.out (by rw [HG.out]; omega) H.out.v H.out.s f.stripe f.version f.need f.phase
        refine bodyPost_ret (v := .tuple #[fval f.stripe f.version f.need f.phase (.slice (some ⟨gu, 0, none⟩) n c3) (.slice B m d) (.slice C k e), .int .i64 0]) ?_ rfl (by rw [HF.out, HTE.out]; exact hend)
        rw [results_cell_tmp rfl]
        simp [asAddr, Result.andThen, (Z5.out.row f.stripe f.version f.need f.phase (.slice (some ⟨gu, 0, none⟩) n c3) (.slice B m d) (.slice C k e)).res]
      · have e2 : (y == 2) = false := by rw [beq_eq_false_iff_ne]; exact hm2
        have HF := Lib.hid (show Finds.loseF f (iN : Int) = { f with marks := f.marks } by rw [HTF.out, if_neg (fun q => hm2 q.2)])
        have OW5 := Lib.hid (show w4.ownsRow w1.heap.size 3 1 (.slice (some ⟨gu, 0, none⟩) n c3) f.marks.length (icells f.marks) by rw [LN.out]; exact OW4.out)
        clear hp hm2
        go_upto_region 6 with (fail)
        have ab := S4.out.blk
        have zb := Z4.out.blk
        refine wp_region_lit ?_
        refine wpList_load_row rfl 25 (.tmp 2) rfl g rfl 25 _ (0, 0) _ ab Tryz.underlying25 rfl (by kernel_rfl) ?_
        refine wpList_store_row rfl 25 (.tmp 4) (.tmp 40) rfl (g + 1) (frow f.stripe f.version f.need f.phase (.slice (some ⟨gu, 0, none⟩) n c3) (.slice B m d) (.slice C k e)) rfl rfl 25 _ zb (by kernel_rfl) rfl (by simp [Value.oneCell']) ?_
        clear ab zb
        go_wp2_with (fail)
        have hend := lose_end (f := f) 0 OW5.out LN.out HL1.out X4.out (by rw [HG.out]; omega) H.out.v H.out.s f.stripe f.version f.need f.phase
        refine bodyPost_ret (v := .tuple #[fval f.stripe f.version f.need f.phase (.slice (some ⟨gu, 0, none⟩) n c3) (.slice B m d) (.slice C k e), .int .i64 0]) ?_ rfl (by rw [HF.out, HTE.out]; exact hend)
        rw [results_cell_tmp rfl]
        simp [asAddr, Result.andThen, (Z4.out.row f.stripe f.version f.need f.phase (.slice (some ⟨gu, 0, none⟩) n c3) (.slice B m d) (.slice C k e)).res]
    · have e1 : (f.phase == 1) = false := by rw [beq_eq_false_iff_ne]; exact hp
      have HF := Lib.hid (show Finds.loseF f (iN : Int) = { f with marks := f.marks } by rw [HTF.out, if_neg (fun q => hp q.1)])
      have OW5 := Lib.hid (show w4.ownsRow w1.heap.size 3 1 (.slice (some ⟨gu, 0, none⟩) n c3) f.marks.length (icells f.marks) by rw [LN.out]; exact OW4.out)
      clear hp
      go_upto_region 6 with (fail)
      have ab := S4.out.blk
      have zb := Z4.out.blk
      refine wp_region_lit ?_
      refine wpList_load_row rfl 25 (.tmp 2) rfl g rfl 25 _ (0, 0) _ ab Tryz.underlying25 rfl (by kernel_rfl) ?_
      refine wpList_store_row rfl 25 (.tmp 4) (.tmp 40) rfl (g + 1) (frow f.stripe f.version f.need f.phase (.slice (some ⟨gu, 0, none⟩) n c3) (.slice B m d) (.slice C k e)) rfl rfl 25 _ zb (by kernel_rfl) rfl (by simp [Value.oneCell']) ?_
      clear ab zb
      go_wp2_with (fail)
      have hend := lose_end (f := f) 0 OW5.out LN.out HL1.out X4.out (by rw [HG.out]; omega) H.out.v H.out.s f.stripe f.version f.need f.phase
      refine bodyPost_ret (v := .tuple #[fval f.stripe f.version f.need f.phase (.slice (some ⟨gu, 0, none⟩) n c3) (.slice B m d) (.slice C k e), .int .i64 0]) ?_ rfl (by rw [HF.out, HTE.out]; exact hend)
      rw [results_cell_tmp rfl]
      simp [asAddr, Result.andThen, (Z4.out.row f.stripe f.version f.need f.phase (.slice (some ⟨gu, 0, none⟩) n c3) (.slice B m d) (.slice C k e)).res]
end Go.Proofs.YtfpglkacjecoeaaGreat
