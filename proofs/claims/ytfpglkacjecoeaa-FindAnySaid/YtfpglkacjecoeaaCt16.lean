/- Several texts in one: The contract of find.Begin. The memory of find.Told: three boxes, the lists of one's own. No statement of the seat is proved here. -/
import Derived.Test.YtfpglkacjecoeaaCt15
import Derived.Laws.MakeOwn
namespace Go.Proofs.Ytfpglkacjecoeaa
open Go.RowKit

/-- The lists of a find, in memory of one's own, each by itself. -/
structure Fo (w : World) (base : Nat) (f : Finds.F) (U V S : Value) : Prop where
  u : w.ownsRow base 3 1 U f.marks.length (icells f.marks)
  v : w.ownsRow base 3 1 V f.which.length (icells f.which)
  s : ∃ cs, Mq w base (Hot base S) S f.shards.length cs f.shards
  ne : ∀ b, U.ownBlock = some b → V.ownBlock ≠ some b
theorem Fo.ext {w w' : World} {base : Nat} {f : Finds.F} {U V S : Value} (h : Fo w base f U V S) (hx : Ext w w') : Fo w' base f U V S := by
  obtain ⟨h1, h2, ⟨cs, h3⟩, h4⟩ := h
  exact ⟨ownsRow_ext h1 hx, ownsRow_ext h2 hx, ⟨cs, h3.ext hx⟩, h4⟩
theorem Fo.fd {w : World} {base : Nat} {f : Finds.F} {U V S : Value} (h : Fo w base f U V S) : ∃ A c B d C e, U = .slice A f.marks.length c ∧ V = .slice B f.which.length d ∧ S = .slice C f.shards.length e ∧ Fd w f A f.marks.length c B f.which.length d C f.shards.length e := by
  obtain ⟨A, c, rfl, _, _⟩ := ownsRow_slice h.u
  obtain ⟨B, d, rfl, _, _⟩ := ownsRow_slice h.v
  obtain ⟨cs, h3⟩ := h.s
  obtain ⟨C, e, rfl, hm⟩ := h3.mx
  exact ⟨A, c, B, d, C, e, rfl, rfl, rfl, (Own.mk (base := base) (e := 3) h.u).ints, (Own.mk (base := base) (e := 3) h.v).ints, hm⟩
/-- A find is handed back, its lists new where all went well. -/
def GivesF (f : Finds.F) (er : Int) (w : World) (e : Ending) (w' : World) : Prop := ∃ U V S, e = .returned (.tuple #[fval f.stripe f.version f.need f.phase U V S, .int .i64 er]) ∧ (∃ A n c B m d C k e9, U = .slice A n c ∧ V = .slice B m d ∧ S = .slice C k e9 ∧ Fd w' f A n c B m d C k e9) ∧ Ext w w' ∧ (er = 0 → Fo w' w.heap.size f U V S)
theorem run_make_marks (W : World) (n : Int) (h0 : 1 ≤ n) (hn : n ≤ 255) : (Instr.makeSlice 24 (.int .i64 n) (.int .i64 n)).run Try.prog W = .ok (.slice (some ⟨W.heap.size, 0, none⟩) n.toNat n.toNat) (W.alloc (.cells (made n.toNat (.int .i64 0)) 3)) := by
  obtain ⟨c, rfl⟩ : ∃ c : Nat, n = (c : Int) := ⟨n.toNat, by omega⟩
  obtain ⟨i, hi, hz, h1, h2⟩ := info_parts int_info
  have h := run_make (P := Try.prog) W 24 3 i _ Try.underlying24 hi hz .i64 .i64 (c : Int) (c : Int) (by omega) (Int.le_refl _) (by rw [h2]; omega) (by omega)
  rw [h1] at h
  simpa [made, Value.cells] using h
theorem icells_noughts (n : Nat) : icells (List.replicate n 0) = List.replicate n (.int .i64 0) := by simp [icells]
theorem own_noughts (w : World) (c : Nat) (hc : c ≤ 1000) {base : Nat} (hb : base ≤ w.heap.size) : (w.alloc (.cells (made c (.int .i64 0)) 3)).ownsRow base 3 1 (.slice (some ⟨w.heap.size, 0, .none⟩) c c) (List.replicate c (0 : Int)).length (icells (List.replicate c 0)) := by
  rw [List.length_replicate, icells_noughts]
  exact ownsRow_made w 3 (.int .i64 0) c rfl hc hb
set_option maxRecDepth 100000 in
set_option maxHeartbeats 2000000 in
theorem fBegin_any (w : World) (s v n need : Int) : Calls Try.prog 8 #[.int .i64 s, .int .i64 v, .int .i64 n, .int .i64 need] w (GivesF (Finds.beginF s v n need) (Finds.beginE s v n need) w) := by
  have x0 := Ext.alloc w (.cells #[.int .i64 0, .int .i64 0, .int .i64 0, .int .i64 0, .slice none 0 0, .slice none 0 0, .slice none 0 0] 27)
  have s0 := Fb.new w 0 0 0 0 (.slice none 0 0) (.slice none 0 0) (.slice none 0 0) rfl
  have X0 := Lib.hid x0
  have S0 := Lib.hid s0
  by_cases hnm : Finds.named s v n need
  · have hb : Finds.beginF s v n need = ⟨s, v, need, 1, List.replicate n.toNat 0, [], []⟩ := if_pos hnm
    have he : Finds.beginE s v n need = 0 := if_pos hnm
    have HN := named_any13 (w.alloc (.cells #[.int .i64 0, .int .i64 0, .int .i64 0, .int .i64 0, .slice none 0 0, .slice none 0 0, .slice none 0 0] 27)) s v n need
    rw [decide_eq_true hnm] at HN
    have h1 : 1 ≤ n := hnm.2.2.1.1
    have h2 : n ≤ 255 := hnm.2.2.1.2
    have hmk := run_make_marks (w.alloc (.cells #[.int .i64 0, .int .i64 0, .int .i64 0, .int .i64 0, .slice none 0 0, .slice none 0 0, .slice none 0 0] 27)) n h1 h2
    rw [hb, he]
    have HNN := Lib.hid HN
    clear hb he hnm HN
    have k0 := s0.c0
    have k1 := s0.c1
    have k2 := s0.c2
    have k3 := s0.c3
    have k4 := s0.c4
    have k5 := s0.c5
    have k6 := s0.c6
    have k7 := s0.fz
    clear s0 x0
    go_enter Try.func8, Try.ntmps8
    go_wp2_with (fail)
    refine HNN.out.mono ?_
    rintro e w1 ⟨rfl, rfl⟩
    go_wp2_with (fail)
    have t1 := (Fb.new w s v need 1 (.slice (some ⟨w.heap.size + 1, 0, none⟩) n.toNat n.toNat) (.slice none 0 0) (.slice none 0 0) rfl)
    have x1 := Ext.alloc w (.cells #[.int .i64 s, .int .i64 v, .int .i64 need, .int .i64 1, .slice (some ⟨w.heap.size + 1, 0, none⟩) n.toNat n.toNat, .slice none 0 0, .slice none 0 0] 27)
    obtain ⟨W, hW⟩ : ∃ W, w.alloc (.cells #[.int .i64 s, .int .i64 v, .int .i64 need, .int .i64 1, .slice (some ⟨w.heap.size + 1, 0, none⟩) n.toNat n.toNat, .slice none 0 0, .slice none 0 0] 27) = W := ⟨_, rfl⟩
    have hz : W.heap.size = w.heap.size + 1 := by rw [← hW]; simp
    rw [hW] at t1 x1 ⊢
    have x2 := Ext.alloc W (.cells (made n.toNat (.int .i64 0)) 3)
    have hown := own_noughts W n.toNat (by omega) (base := w.heap.size) (by omega)
    rw [hz] at hown
    have t2 := t1.ext x2
    have hr := t2.res
    have hfo : Fo (W.alloc (.cells (made n.toNat (.int .i64 0)) 3)) w.heap.size ⟨s, v, need, 1, List.replicate n.toNat 0, [], []⟩ (.slice (some ⟨w.heap.size + 1, 0, none⟩) n.toNat n.toNat) (.slice none 0 0) (.slice none 0 0) := ⟨hown, World.ownsRow_nil _ _ _ _, ⟨[], Mq.nil _ _ _⟩, fun b _ h => by simp [Value.ownBlock] at h⟩
    have hfd : Fd (W.alloc (.cells (made n.toNat (.int .i64 0)) 3)) ⟨s, v, need, 1, List.replicate n.toNat 0, [], []⟩ (some ⟨w.heap.size + 1, 0, none⟩) n.toNat n.toNat none 0 0 none 0 0 := by
      obtain ⟨A, c, B, d, C, e, e1, e2, e3, h⟩ := hfo.fd
      injection e1 with a1 a2 a3
      injection e2 with b1 b2 b3
      injection e3 with c1 c2 c3
      rw [← a1, ← a2, ← a3, ← b1, ← b2, ← b3, ← c1, ← c2, ← c3] at h
      exact h
    refine bodyPost_ret (v := .tuple #[fval s v need 1 (.slice (some ⟨w.heap.size + 1, 0, none⟩) n.toNat n.toNat) (.slice none 0 0) (.slice none 0 0), .int .i64 0]) ?_ rfl ⟨_, _, _, rfl, ⟨_, _, _, _, _, _, _, _, _, rfl, rfl, rfl, hfd⟩, x1.trans x2, fun _ => hfo⟩
    rw [results_cell_tmp rfl]
    simp [asAddr, Result.andThen, hr]
  · have hb : Finds.beginF s v n need = Finds.nought := if_neg hnm
    have he : Finds.beginE s v n need = 140 := if_neg hnm
    have HN := named_any13 (w.alloc (.cells #[.int .i64 0, .int .i64 0, .int .i64 0, .int .i64 0, .slice none 0 0, .slice none 0 0, .slice none 0 0] 27)) s v n need
    rw [decide_eq_false hnm] at HN
    rw [hb, he]
    have HNN := Lib.hid HN
    clear hb he hnm HN
    have k0 := s0.c0
    have k1 := s0.c1
    have k2 := s0.c2
    have k3 := s0.c3
    have k4 := s0.c4
    have k5 := s0.c5
    have k6 := s0.c6
    have k7 := s0.fz
    have hr := s0.res
    clear s0 x0
    go_enter Try.func8, Try.ntmps8
    go_wp2_with (fail)
    refine HNN.out.mono ?_
    rintro e w1 ⟨rfl, rfl⟩
    go_wp2_with (fail)
    refine bodyPost_ret (v := .tuple #[fval 0 0 0 0 (.slice none 0 0) (.slice none 0 0) (.slice none 0 0), .int .i64 140]) ?_ rfl ⟨_, _, _, rfl, ⟨_, _, _, _, _, _, _, _, _, rfl, rfl, rfl, ⟨Is.none _, Is.none _, Mx.none _⟩⟩, X0.out, fun h => by cases h⟩
    rw [results_cell_tmp rfl]
    simp [asAddr, Result.andThen, hr]
end Go.Proofs.Ytfpglkacjecoeaa
namespace Go.Proofs.Ytfpglkacjecoeaa
open Go.RowKit

theorem own_type {w : World} {base size n : Nat} {e : TypeId} {v : Value} {xs : List Value} (h : w.ownsRow base e size v n xs) {b : Nat} (hb : v.ownBlock = some b) : ∃ cs fr, w.heap[b]? = some (.cells cs e fr) := by
  rcases h.2 with ⟨h1, h2⟩ | ⟨g, cap, cur, h1, _, hg, _⟩
  · rw [h1] at hb; simp [Value.ownBlock] at hb
  · rw [h1] at hb
    have : some g = some b := hb
    injection this with this
    subst this
    exact ⟨cur, (0, 0), hg⟩
theorem own_types {w : World} {base base' size size' n n' : Nat} {e e' : TypeId} {v v' : Value} {xs xs' : List Value} (hne : e ≠ e') (h : w.ownsRow base e size v n xs) (h' : w.ownsRow base' e' size' v' n' xs') {b : Nat} (hb : v.ownBlock = some b) : v'.ownBlock ≠ some b := fun hb' => by
  obtain ⟨cs, fr, h1⟩ := own_type h hb
  obtain ⟨cs', fr', h2⟩ := own_type h' hb'
  rw [h1] at h2
  injection h2 with h2
  injection h2 with _ h2 _
  exact hne h2
/-- Rows of bytes stay while a row of whole numbers grows. -/
theorem Mq.grownInt {w w' : World} {base : Nat} {P : Nat → Prop} {v : Value} {n : Nat} {cs : List Value} {m : Gm.L} {row : Option Nat} (h : Mq w base P v n cs m) (hg : w.grownBy w' row) (hb : ∀ b, row = some b → ∃ cs fr, w.heap[b]? = some (.cells cs 3 fr)) : Mq w' base P v n cs m := by
  have key : ∀ {bs s k : Nat} {e : TypeId} {u : Value} {xs : List Value}, w.ownsRow bs e s u k xs → e ≠ 3 → u.ownBlock = none ∨ u.ownBlock ≠ row := fun {bs s k e u xs} ho hne => by
    rcases hu : u.ownBlock with _ | b
    · exact .inl rfl
    · refine .inr (fun e1 => ?_)
      obtain ⟨c1, f1, h1⟩ := own_type ho hu
      obtain ⟨c2, f2, h2⟩ := hb b e1.symm
      rw [h1] at h2
      injection h2 with h2
      injection h2 with _ h2 _
      exact hne h2
  exact ⟨h.len, ownsRow_grown h.own hg (key h.own (by decide)), fun i hi => by
    obtain ⟨A, c, e, ho⟩ := h.row i hi
    exact ⟨A, c, e, ownsRow_grown ho hg (key ho (by decide))⟩, h.cool, h.hot, h.apart⟩
/-- Rows of whole numbers stay while rows of bytes grow. -/
theorem ints_grownRows {w w' : World} {base n : Nat} {v : Value} {xs : List Value} {row : Option Nat} (h : w.ownsRow base 3 1 v n xs) (hg : w.grownBy w' row) (hb : ∀ b, row = some b → ∃ cs fr, w.heap[b]? = some (.cells cs 35 fr)) : w'.ownsRow base 3 1 v n xs := by
  refine ownsRow_grown h hg ?_
  rcases hu : v.ownBlock with _ | b
  · exact .inl rfl
  · refine .inr (fun e1 => ?_)
    obtain ⟨c1, f1, h1⟩ := own_type h hu
    obtain ⟨c2, f2, h2⟩ := hb b e1.symm
    rw [h1] at h2
    injection h2 with h2
    injection h2 with _ h2 _
    exact absurd h2 (by decide)
/-- While Told runs: the find in its box, the answer's box, the lists of one's own. -/
structure Td (w W : World) (g b1 : Nat) (f : Finds.F) (U V S : Value) : Prop where
  a : Fb W g f.stripe f.version f.need f.phase U V S
  z : Fb W (g + 1) 0 0 0 0 (.slice none 0 0) (.slice none 0 0) (.slice none 0 0)
  o : Fo W b1 f U V S
  x : Ext w W
  base : w.heap.size = g
  lt : g + 1 < b1
  le : b1 ≤ W.heap.size
section
variable {w W W' : World} {g b1 : Nat} {f : Finds.F} {U V S : Value}
theorem Td.ext (h : Td w W g b1 f U V S) (hx : Ext W W') : Td w W' g b1 f U V S := ⟨h.a.ext hx, h.z.ext hx, h.o.ext hx, h.x.trans hx, h.base, h.lt, Nat.le_trans h.le hx.size⟩
theorem Td.u0 (h : Td w W g b1 f U V S) {b : Nat} (hb : U.ownBlock = some b) : b1 ≤ b := (h.o.u.lt b hb).1
theorem Td.v0 (h : Td w W g b1 f U V S) {b : Nat} (hb : V.ownBlock = some b) : b1 ≤ b := (h.o.v.lt b hb).1
/-- The phase is turned. -/
theorem Td.phase (h : Td w W g b1 f U V S) (p : Int) : Td w (W.setCell ⟨g, 3, none⟩ (.int .i64 p)) g b1 { f with phase := p } U V S := by
  have hlt := h.lt
  obtain ⟨cs, hq⟩ := h.o.s
  exact ⟨h.a.set3 p, h.z.far (p := ⟨g, 3, none⟩) (by show g ≠ g + 1; omega) _, ⟨ownsRow_far h.o.u (p := ⟨g, 3, none⟩) (by show g < b1; omega) _, ownsRow_far h.o.v (p := ⟨g, 3, none⟩) (by show g < b1; omega) _, ⟨cs, hq.below (q := ⟨g, 3, none⟩) (by show g < b1; omega) _⟩, h.o.ne⟩, h.x.set_ (p := ⟨g, 3, none⟩) (by rw [h.base]; exact Nat.le_refl _) _, h.base, hlt, by simpa using h.le⟩
/-- A mark is turned. -/
theorem Td.mark {gu n c : Nat} (h : Td w W g b1 f (.slice (some ⟨gu, 0, none⟩) n c) V S) (hn : f.marks.length = n) (i : Nat) (x : Int) : Td w (W.setCell ⟨gu, i, none⟩ (.int .i64 x)) g b1 { f with marks := f.marks.set i x } (.slice (some ⟨gu, 0, none⟩) n c) V S := by
  subst hn
  have hlt := h.lt
  have hgu : b1 ≤ gu := h.u0 rfl
  obtain ⟨cs, hq⟩ := h.o.s
  obtain ⟨h1, h2⟩ := h.o.u.stored i (.int .i64 x)
  have h3 : (icells f.marks).set i (.int .i64 x) = icells (f.marks.set i x) := by unfold icells; rw [List.map_set]
  rw [h3] at h1
  have ht := own_type h.o.u (b := gu) rfl
  refine ⟨h.a.far (p := ⟨gu, i, none⟩) (by show gu ≠ g; omega) _, h.z.far (p := ⟨gu, i, none⟩) (by show gu ≠ g + 1; omega) _, ⟨?_, ?_, ⟨cs, hq.grownInt h2 (fun b hb => by injection hb with hb; subst hb; exact ht)⟩, h.o.ne⟩, h.x.set_ (p := ⟨gu, i, none⟩) (by rw [h.base]; show g ≤ gu; omega) _, h.base, hlt, by simpa using h.le⟩
  · show (W.setCell ⟨gu, i, none⟩ (.int .i64 x)).ownsRow b1 3 1 (.slice (some ⟨gu, 0, none⟩) f.marks.length c) (f.marks.set i x).length (icells (f.marks.set i x))
    rw [List.length_set]
    exact h1
  · refine ownsRow_grown h.o.v h2 ?_
    rcases hv : V.ownBlock with _ | b
    · exact .inl rfl
    · exact .inr (fun e => by injection e with e; subst e; exact h.o.ne b rfl hv)
/-- An index is named. -/
theorem Td.which (h : Td w W g b1 f U V S) {W2 : World} (hg : W.grownBy W2 V.ownBlock) {V' : Value} {x : Int} (hown : W2.ownsRow b1 3 1 V' (f.which ++ [x]).length (icells (f.which ++ [x]))) (hat : V'.ownBlock = V.ownBlock ∨ V'.ownBlock = some W.heap.size) :
    Fb W2 g f.stripe f.version f.need f.phase U V S ∧ Fb W2 (g + 1) 0 0 0 0 (.slice none 0 0) (.slice none 0 0) (.slice none 0 0) ∧ Fo W2 b1 { f with which := f.which ++ [x] } U V' S ∧ Ext w W2 := by
  have hlt := h.lt
  obtain ⟨cs, hq⟩ := h.o.s
  have hne : ∀ q, q < b1 → V.ownBlock ≠ some q := fun q hq e => by have := h.v0 e; omega
  refine ⟨h.a.kept hg (hne g (by omega)), h.z.kept hg (hne (g + 1) (by omega)), ⟨?_, hown, ⟨cs, hq.grownInt hg (fun b hb => own_type h.o.v hb)⟩, ?_⟩, h.x.ofGrown hg (fun k hk => by have := h.v0 hk; have := h.base; omega)⟩
  · refine ownsRow_grown h.o.u hg ?_
    rcases hu : U.ownBlock with _ | b
    · exact .inl rfl
    · exact .inr (fun e => h.o.ne b hu e.symm)
  · intro b hu hv
    rcases hat with e | e
    · rw [e] at hv; exact h.o.ne b hu hv
    · rw [e] at hv
      injection hv with hv
      have := (h.o.u.lt b hu).2
      omega
end
end Go.Proofs.Ytfpglkacjecoeaa
