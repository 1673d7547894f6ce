/- Several texts in one: A whole find laid into a box. No statement of the seat is proved here. The contract of the laws' begun: a find of 1 to 10 indexes. 'append(s, x...)' as one step of a region that draws its order; no statement of the seat is proved here. -/
import Derived.Test.YtfpglkacjecoeaaGreatCt11
import Derived.Laws.Tables
import Derived.Laws.Rows
import Derived.Test.YtfpglkacjecoeaaGreatCt8
import Derived.Deep.CutBlock
import Derived.Deep.DeepCutAuto
import Derived.Test.YtfpglkacjecoeaaGreatCt1
namespace Go.Proofs.YtfpglkacjecoeaaGreat
open Go.RowKit

abbrev frow (st ve ne ph : Int) (U V S : Value) : Array Value := #[.int .i64 st, .int .i64 ve, .int .i64 ne, .int .i64 ph, U, V, S]
theorem Fb.row {w : World} {g : Nat} {st ve ne ph : Int} {U V S : Value} (h : Fb w g st ve ne ph U V S) (st' ve' ne' ph' : Int) (U' V' S' : Value) : Fb (w.setRow g (frow st' ve' ne' ph' U' V' S')) g st' ve' ne' ph' U' V' S' := ⟨setRow_heap w g _ _ _ _ h.blk⟩
theorem grown_row (w : World) (g : Nat) (cs : Array Value) : w.grownBy (w.setRow g cs) (some g) := ⟨rfl, rfl, rfl, by simp, fun b _ hb => setRow_other w g b cs (fun e => hb (by rw [e]))⟩
theorem Ext.row {w W : World} {g : Nat} (h : Ext w W) (hg : w.heap.size ≤ g) (cs : Array Value) : Ext w (W.setRow g cs) := h.ofGrown (grown_row W g cs) (fun k hk => by injection hk with hk; omega)
/-- The answer's box is laid: what Told tells. -/
theorem Td.gives {w W : World} {g b1 : Nat} {f : Finds.F} {U V S : Value} (h : Td w W g b1 f U V S) : GivesF f 0 w (.returned (.tuple #[fval f.stripe f.version f.need f.phase U V S, .int .i64 0])) (W.setRow (g + 1) (frow f.stripe f.version f.need f.phase U V S)) := by
  have hlt := h.lt
  have hb := h.base
  have hg := grown_row W (g + 1) (frow f.stripe f.version f.need f.phase U V S)
  have hne : ∀ {bs s k : Nat} {e : TypeId} {u : Value} {xs : List Value}, b1 ≤ bs → W.ownsRow bs e s u k xs → u.ownBlock = none ∨ u.ownBlock ≠ some (g + 1) := fun {bs s k e u xs} hbs ho => by
    rcases hu : u.ownBlock with _ | b
    · exact .inl rfl
    · exact .inr (fun e1 => by injection e1 with e1; have := (ho.lt b hu).1; omega)
  obtain ⟨cs, hq⟩ := h.o.s
  have ho : Fo (W.setRow (g + 1) (frow f.stripe f.version f.need f.phase U V S)) b1 f U V S := ⟨ownsRow_grown h.o.u hg (hne (Nat.le_refl _) h.o.u), ownsRow_grown h.o.v hg (hne (Nat.le_refl _) h.o.v), ⟨cs, hq.len, ownsRow_grown hq.own hg (hne (Nat.le_refl _) hq.own), fun i hi => by
    obtain ⟨A, c, e, ho⟩ := hq.row i hi
    exact ⟨A, c, e, ownsRow_grown ho hg (hne (Nat.le_refl _) ho)⟩, hq.cool, hq.hot, hq.apart⟩, h.o.ne⟩
  obtain ⟨A, c, B, d, C, e, rfl, rfl, rfl, hfd⟩ := ho.fd
  refine ⟨_, _, _, rfl, ⟨_, _, _, _, _, _, _, _, _, rfl, rfl, rfl, hfd⟩, h.x.row (by omega) _, fun _ => ?_⟩
  obtain ⟨h1, h2, ⟨cs', h3⟩, h4⟩ := ho
  exact ⟨ownsRow_base h1 (by omega), ownsRow_base h2 (by omega), ⟨cs', h3.lower (by omega)⟩, h4⟩
theorem Td.res {w W : World} {g b1 : Nat} {f : Finds.F} {U V S : Value} (h : Td w W g b1 f U V S) : (loadVar 25 ⟨g + 1, 0, none⟩).run Tryz.prog (W.setRow (g + 1) (frow f.stripe f.version f.need f.phase U V S)) = .ok (fval f.stripe f.version f.need f.phase U V S) (W.setRow (g + 1) (frow f.stripe f.version f.need f.phase U V S)) := (h.z.row f.stripe f.version f.need f.phase U V S).res
theorem Td.start {w W : World} {g b1 : Nat} {f : Finds.F} {U V U0 V0 S0 : Value} (a : Fb W g f.stripe f.version f.need f.phase U0 V0 S0) (z : Fb W (g + 1) 0 0 0 0 (.slice none 0 0) (.slice none 0 0) (.slice none 0 0)) (ou : W.ownsRow b1 3 1 U f.marks.length (icells f.marks)) (ov : W.ownsRow b1 3 1 V f.which.length (icells f.which))
    (ne : ∀ b, U.ownBlock = some b → V.ownBlock ≠ some b) (x : Ext w W) (hb : w.heap.size = g) (lt : g + 1 < b1) (le : b1 ≤ W.heap.size) :
    Td w (((W.setCell ⟨g, 4, none⟩ U).setCell ⟨g, 5, none⟩ V).setCell ⟨g, 6, none⟩ (.slice none 0 0)) g b1 { f with shards := [] } U V (.slice none 0 0) := by
  have far : ∀ {n : Nat} {v : Value} {xs : List Value}, W.ownsRow b1 3 1 v n xs → (((W.setCell ⟨g, 4, none⟩ U).setCell ⟨g, 5, none⟩ V).setCell ⟨g, 6, none⟩ (.slice none 0 0)).ownsRow b1 3 1 v n xs := fun h =>
    ownsRow_far (ownsRow_far (ownsRow_far h (p := ⟨g, 4, none⟩) (by show g < b1; omega) _) (p := ⟨g, 5, none⟩) (by show g < b1; omega) _) (p := ⟨g, 6, none⟩) (by show g < b1; omega) _
  exact ⟨((a.set4 U).set5 V).set6 _, ((z.far (p := ⟨g, 4, none⟩) (by show g ≠ g + 1; omega) _).far (p := ⟨g, 5, none⟩) (by show g ≠ g + 1; omega) _).far (p := ⟨g, 6, none⟩) (by show g ≠ g + 1; omega) _,
    ⟨far ou, far ov, ⟨[], Mq.nil _ _ _⟩, ne⟩, ((x.set_ (p := ⟨g, 4, none⟩) (by rw [hb]; exact Nat.le_refl _) _).set_ (p := ⟨g, 5, none⟩) (by rw [hb]; exact Nat.le_refl _) _).set_ (p := ⟨g, 6, none⟩) (by rw [hb]; exact Nat.le_refl _) _, hb, lt, by simpa using le⟩
theorem Fb.three {W : World} {g q : Nat} {st ve ne ph : Int} {U V S X Y Z : Value} (h : Fb W q st ve ne ph U V S) (hq : g ≠ q) : Fb (((W.setCell ⟨g, 4, none⟩ X).setCell ⟨g, 5, none⟩ Y).setCell ⟨g, 6, none⟩ Z) q st ve ne ph U V S :=
  ((h.far (p := ⟨g, 4, none⟩) hq _).far (p := ⟨g, 5, none⟩) hq _).far (p := ⟨g, 6, none⟩) hq _
/-- The shards' row has grown: the boxes, the rows of whole numbers. -/
theorem Td.grew {w W W4 W5 : World} {g b1 : Nat} {f : Finds.F} {U V S : Value} (h : Td w W g b1 f U V S) (hx : Ext W W4) (hgr : W4.grownBy W5 S.ownBlock) :
    Fb W5 g f.stripe f.version f.need f.phase U V S ∧ Fb W5 (g + 1) 0 0 0 0 (.slice none 0 0) (.slice none 0 0) (.slice none 0 0) ∧ W5.ownsRow b1 3 1 U f.marks.length (icells f.marks) ∧ W5.ownsRow b1 3 1 V f.which.length (icells f.which) ∧ Ext w W5 ∧ b1 ≤ W5.heap.size := by
  have hlt := h.lt
  obtain ⟨cs, hq⟩ := h.o.s
  have hlow : ∀ b, S.ownBlock = some b → b1 ≤ b := fun b hb => (hq.own.lt b hb).1
  have ht : ∀ b, S.ownBlock = some b → ∃ c fr, W4.heap[b]? = some (.cells c 46 fr) := fun b hb => own_type (ownsRow_ext hq.own hx) hb
  exact ⟨(h.a.ext hx).kept hgr (fun e => by have := hlow g e; omega), (h.z.ext hx).kept hgr (fun e => by have := hlow (g + 1) e; omega), ints_grownRows (ownsRow_ext h.o.u hx) hgr ht, ints_grownRows (ownsRow_ext h.o.v hx) hgr ht,
    (h.x.trans hx).ofGrown hgr (fun b hb => by have := hlow b hb; have := h.base; omega), Nat.le_trans (Nat.le_trans h.le hx.size) hgr.size⟩
theorem Td.push {w W W4 W5 : World} {g b1 : Nat} {f : Finds.F} {U V S S' : Value} (h : Td w W g b1 f U V S) (hx : Ext W W4) (hgr : W4.grownBy W5 S.ownBlock) {r : List UInt8} {cs : List Value} (hmq : Mq W5 b1 (Hot b1 S') S' (f.shards ++ [r]).length cs (f.shards ++ [r])) :
    Td w (W5.setCell ⟨g, 6, none⟩ S') g b1 { f with shards := f.shards ++ [r] } U V S' := by
  have hlt := h.lt
  obtain ⟨h1, h2, h3, h4, h5, h6⟩ := h.grew hx hgr
  exact ⟨h1.set6 _, h2.far (p := ⟨g, 6, none⟩) (by show g ≠ g + 1; omega) _, ⟨ownsRow_far h3 (p := ⟨g, 6, none⟩) (by show g < b1; omega) _, ownsRow_far h4 (p := ⟨g, 6, none⟩) (by show g < b1; omega) _, ⟨cs, hmq.below (q := ⟨g, 6, none⟩) (by show g < b1; omega) _⟩, h.o.ne⟩, h5.set_ (p := ⟨g, 6, none⟩) (by rw [h.base]; exact Nat.le_refl _) _, h.base, hlt, by simpa using h6⟩
theorem right_short {f : Finds.F} (h : Finds.right f) {j : Nat} (hj : j < f.shards.length) : (Gm.row f.shards j).length ≤ 65536 := by
  have := h.2.2.2.2.1 (Gm.row f.shards j) (by rw [Gm.row_of_lt hj]; exact List.getElem_mem hj)
  unfold Finds.fitsL at this
  rw [Bool.and_eq_true, decide_eq_true_eq] at this
  exact this.1
theorem Fo.mark {W : World} {b1 : Nat} {f : Finds.F} {V S : Value} {gu n c : Nat} (h : Fo W b1 f (.slice (some ⟨gu, 0, none⟩) n c) V S) (hn : f.marks.length = n) (i : Nat) (x : Int) : Fo (W.setCell ⟨gu, i, none⟩ (.int .i64 x)) b1 { f with marks := f.marks.set i x } (.slice (some ⟨gu, 0, none⟩) n c) V S := by
  subst hn
  obtain ⟨cs, hq⟩ := h.s
  obtain ⟨h1, h2⟩ := h.u.stored i (.int .i64 x)
  have h3 : (icells f.marks).set i (.int .i64 x) = icells (f.marks.set i x) := by unfold icells; rw [List.map_set]
  rw [h3] at h1
  have ht := own_type h.u (b := gu) rfl
  refine ⟨?_, ?_, ⟨cs, hq.grownInt h2 (fun b hb => by injection hb with hb; subst hb; exact ht)⟩, h.ne⟩
  · show (W.setCell ⟨gu, i, none⟩ (.int .i64 x)).ownsRow b1 3 1 (.slice (some ⟨gu, 0, none⟩) f.marks.length c) (f.marks.set i x).length (icells (f.marks.set i x))
    rw [List.length_set]
    exact h1
  · refine ownsRow_grown h.v h2 ?_
    rcases hv : V.ownBlock with _ | b
    · exact .inl rfl
    · exact .inr (fun e => by injection e with e; subst e; exact h.ne b rfl hv)
/-- The two other lists are laid into the box. -/
theorem Td.make {w W : World} {g b1 : Nat} {f : Finds.F} {U V S V0 S0 : Value} (a : Fb W g f.stripe f.version f.need f.phase U V0 S0) (z : Fb W (g + 1) 0 0 0 0 (.slice none 0 0) (.slice none 0 0) (.slice none 0 0)) (o : Fo W b1 f U V S) (x : Ext w W) (hb : w.heap.size = g) (lt : g + 1 < b1) (le : b1 ≤ W.heap.size) :
    Td w ((W.setCell ⟨g, 5, none⟩ V).setCell ⟨g, 6, none⟩ S) g b1 f U V S := by
  have far : ∀ {n : Nat} {v : Value} {xs : List Value}, W.ownsRow b1 3 1 v n xs → ((W.setCell ⟨g, 5, none⟩ V).setCell ⟨g, 6, none⟩ S).ownsRow b1 3 1 v n xs := fun h =>
    ownsRow_far (ownsRow_far h (p := ⟨g, 5, none⟩) (by show g < b1; omega) _) (p := ⟨g, 6, none⟩) (by show g < b1; omega) _
  obtain ⟨cs, hq⟩ := o.s
  exact ⟨(a.set5 V).set6 S, (z.far (p := ⟨g, 5, none⟩) (by show g ≠ g + 1; omega) _).far (p := ⟨g, 6, none⟩) (by show g ≠ g + 1; omega) _,
    ⟨far o.u, far o.v, ⟨cs, (hq.below (q := ⟨g, 5, none⟩) (by show g < b1; omega) _).below (q := ⟨g, 6, none⟩) (by show g < b1; omega) _⟩, o.ne⟩, (x.set_ (p := ⟨g, 5, none⟩) (by rw [hb]; exact Nat.le_refl _) _).set_ (p := ⟨g, 6, none⟩) (by rw [hb]; exact Nat.le_refl _) _, hb, lt, by simpa using le⟩
theorem grew2 {W W4 W5 : World} {g b1 : Nat} {st ve ne ph : Int} {U V S U' V' S' : Value} {lu lv : List Int} {n : Nat} {cs : List Value} (a : Fb W g st ve ne ph U V S) (z : Fb W (g + 1) 0 0 0 0 (.slice none 0 0) (.slice none 0 0) (.slice none 0 0)) (ou : W.ownsRow b1 3 1 U' lu.length (icells lu)) (ov : W.ownsRow b1 3 1 V' lv.length (icells lv))
    (os : W.ownsRow b1 46 1 S' n cs) (lt : g + 1 < b1) (hx : Ext W W4) (hgr : W4.grownBy W5 S'.ownBlock) :
    Fb W5 g st ve ne ph U V S ∧ Fb W5 (g + 1) 0 0 0 0 (.slice none 0 0) (.slice none 0 0) (.slice none 0 0) ∧ W5.ownsRow b1 3 1 U' lu.length (icells lu) ∧ W5.ownsRow b1 3 1 V' lv.length (icells lv) := by
  have hlow : ∀ b, S'.ownBlock = some b → b1 ≤ b := fun b hb => (os.lt b hb).1
  have ht : ∀ b, S'.ownBlock = some b → ∃ c fr, W4.heap[b]? = some (.cells c 46 fr) := fun b hb => own_type (ownsRow_ext os hx) hb
  exact ⟨(a.ext hx).kept hgr (fun e => by have := hlow g e; omega), (z.ext hx).kept hgr (fun e => by have := hlow (g + 1) e; omega), ints_grownRows (ownsRow_ext ou hx) hgr ht, ints_grownRows (ownsRow_ext ov hx) hgr ht⟩
end Go.Proofs.YtfpglkacjecoeaaGreat
namespace Go.Proofs.YtfpglkacjecoeaaGreat
open Go.RowKit

theorem results_cell_tmp2 {fn : Func} {p u v : Tmp} {ty : TypeId} (h : fn.results = #[.cell p ty, .tmp u, .tmp v]) (tmps : Array Value) (P : Program) (w : World) :
    (results fn tmps).run P w = ((asAddr (tmps.getD p undef)).run P w).andThen fun a w1 => ((loadVar ty a).run P w1).andThen fun x w2 => .ok (.tuple #[x, tmps.getD u undef, tmps.getD v undef]) w2 := by
  simp only [results, h]
  simp [Sem.run_bind, Result.andThen]
def manyOf (n : UInt8) : Nat := 1 + n.toNat % 10
def needOf (n d : UInt8) : Nat := 1 + d.toNat % manyOf n
def begunF (n d : UInt8) : Finds.F := ⟨5, 9, needOf n d, 1, List.replicate (manyOf n) 0, [], []⟩
theorem begun_named (n d : UInt8) : Finds.named 5 9 (manyOf n) (needOf n d) := by
  have h1 : n.toNat % 10 < 10 := Nat.mod_lt _ (by omega)
  have h2 : d.toNat % manyOf n < manyOf n := Nat.mod_lt _ (by unfold manyOf; omega)
  unfold Finds.named needOf
  unfold manyOf at *
  omega
theorem begun_begin (n d : UInt8) : Finds.beginF 5 9 (manyOf n) (needOf n d) = begunF n d ∧ Finds.beginE 5 9 (manyOf n) (needOf n d) = 0 := by
  unfold Finds.beginF Finds.beginE
  rw [if_pos (begun_named n d), if_pos (begun_named n d)]
  exact ⟨by unfold begunF; simp, rfl⟩
/-- A box ahead of all lists is laid anew. -/
theorem Fo.row {W : World} {b1 g : Nat} {f : Finds.F} {U V S : Value} (h : Fo W b1 f U V S) (hgb : g < b1) (cs0 : Array Value) : Fo (W.setRow g cs0) b1 f U V S := by
  have hg := grown_row W g cs0
  have hne : ∀ {s k : Nat} {e : TypeId} {u : Value} {xs : List Value}, W.ownsRow b1 e s u k xs → u.ownBlock = none ∨ u.ownBlock ≠ some g := fun {s k e u xs} ho => by
    rcases hu : u.ownBlock with _ | b
    · exact .inl rfl
    · exact .inr (fun e1 => by injection e1 with e1; have := (ho.lt b hu).1; omega)
  obtain ⟨cs, hq⟩ := h.s
  exact ⟨ownsRow_grown h.u hg (hne h.u), ownsRow_grown h.v hg (hne h.v), ⟨cs, hq.len, ownsRow_grown hq.own hg (hne hq.own), fun i hi => by
    obtain ⟨A, c, e, ho⟩ := hq.row i hi
    exact ⟨A, c, e, ownsRow_grown ho hg (hne ho)⟩, hq.cool, hq.hot, hq.apart⟩, h.ne⟩
theorem Fo.base_le {W : World} {b1 b0 : Nat} {f : Finds.F} {U V S : Value} (h : Fo W b1 f U V S) (hb : b0 ≤ b1) : Fo W b0 f U V S := by
  obtain ⟨h1, h2, ⟨cs, h3⟩, h4⟩ := h
  exact ⟨ownsRow_base h1 hb, ownsRow_base h2 hb, ⟨cs, h3.lower hb⟩, h4⟩
/-- What begun hands back. -/
def GivesG (n d : UInt8) (w : World) (e : Ending) (w' : World) : Prop := ∃ U V S, e = .returned (.tuple #[fval 5 9 (needOf n d) 1 U V S, .int .i64 (manyOf n : Int), .bool true]) ∧ Fo w' w.heap.size (begunF n d) U V S ∧ Ext w w'
theorem begin_begun (W : World) (n d : UInt8) : Calls Tryz.prog 6 #[.int .i64 5, .int .i64 9, .int .i64 (manyOf n : Int), .int .i64 (needOf n d : Int)] W fun e w' => ∃ A q c B m d' C k e', e = .returned (.tuple #[fval 5 9 (needOf n d) 1 (.slice A q c) (.slice B m d') (.slice C k e'), .int .i64 0]) ∧ Ext W w' ∧ Fo w' W.heap.size (begunF n d) (.slice A q c) (.slice B m d') (.slice C k e') := by
  have hbg := fBegin_any W 5 9 (manyOf n) (needOf n d)
  rewrite [(begun_begin n d).1, (begun_begin n d).2] at hbg
  refine hbg.mono ?_
  rintro e w1 ⟨U, V, S, he, ⟨A, q, c, B, m, d', C, k, e', rfl, rfl, rfl, _⟩, hx, ho⟩
  exact ⟨A, q, c, B, m, d', C, k, e', he, hx, ho rfl⟩
end Go.Proofs.YtfpglkacjecoeaaGreat
namespace Go.Proofs.YtfpglkacjecoeaaGreat
open Go.RowKit
theorem step_append_rd {P : Program} (w : World) {ops : Array Oper} {o : Oper} {a : Act} {K : Act → World → Prop} {Q : Exit → Act → World → Prop} {E : Prop} (hgd : o.guard = none) (s x : Operand) (t : TypeId)
    (ho : o.op = .call { callee := .builtin .append, args := #[s, x], argTypes := #[t, t] })
    (base : Nat) (e : TypeId) (i : TypeInfo) (z : Value) (size bytes : Nat) (ht : P.underlying t = some (.slice e)) (hi : P.info? e = some i) (hz : i.zero = some z)
    (hsize : i.size = size) (hby : i.bytes = bytes) (hzs : z.cells.size = size) (hsz : 0 < size)
    (v : Value) (n : Nat) (xs : List Value) (hs : a.eval s = v) (hown : w.ownsRow base e size v n xs)
    (A : Option Addr) (m c : Nat) (news : List Value) (hx : a.eval x = .slice A m c) (hr : Rd w size A m news) (h1 : ∀ u ∈ news, u.oneCell' = true)
    (hbytes : (n + m) * bytes ≤ 140737488355328) (h63 : n + m ≤ maxLen) (hbase : base ≤ w.heap.size)
    (h : ∀ v' w', w'.ownsRow base e size v' (n + m) (xs ++ news) → w.grownBy w' v.ownBlock → (v'.ownBlock = v.ownBlock ∨ v'.ownBlock = some w.heap.size) → K (a.put o.dst v') w') :
    if Region.wanted o (yielded ops a.tmps) = true then Oper.wp P o a w K Q else E := by
  have hw : Region.wanted o (yielded ops a.tmps) = true := by simp [Region.wanted, hgd]
  rw [if_pos hw]
  exact wp_append_rd w s x t ho base e i z size bytes ht hi hz hsize hby hzs hsz v n xs hs hown A m c news hx hr h1 hbytes h63 hbase h
/-- The same at an operation of a list that a guard lets through. -/
theorem wpList_append_wanted {P : Program} (w : World) {ops : Array Oper} {rest : List Oper} {o : Oper} {a : Act} {Q : Exit → Act → World → Prop} (hw : Region.wanted o (yielded ops a.tmps) = true) (s x : Operand) (t : TypeId)
    (ho : o.op = .call { callee := .builtin .append, args := #[s, x], argTypes := #[t, t] })
    (base : Nat) (e : TypeId) (i : TypeInfo) (z : Value) (size bytes : Nat) (ht : P.underlying t = some (.slice e)) (hi : P.info? e = some i) (hz : i.zero = some z)
    (hsize : i.size = size) (hby : i.bytes = bytes) (hzs : z.cells.size = size) (hsz : 0 < size)
    (v : Value) (n : Nat) (xs : List Value) (hs : a.eval s = v) (hown : w.ownsRow base e size v n xs)
    (A : Option Addr) (m c : Nat) (news : List Value) (hx : a.eval x = .slice A m c) (hr : Rd w size A m news) (h1 : ∀ u ∈ news, u.oneCell' = true)
    (hbytes : (n + m) * bytes ≤ 140737488355328) (h63 : n + m ≤ maxLen) (hbase : base ≤ w.heap.size)
    (h : ∀ v' w', w'.ownsRow base e size v' (n + m) (xs ++ news) → w.grownBy w' v.ownBlock → (v'.ownBlock = v.ownBlock ∨ v'.ownBlock = some w.heap.size) → wpList P ops Q rest (a.put o.dst v') w') : wpList P ops Q (o :: rest) a w :=
  wpList_step fun _ hK => by
    rw [if_pos hw]
    exact wp_append_rd w s x t ho base e i z size bytes ht hi hz hsize hby hzs hsz v n xs hs hown A m c news hx hr h1 hbytes h63 hbase fun v' w' h2 h3 h4 => hK _ _ (h v' w' h2 h3 h4)
end Go.Proofs.YtfpglkacjecoeaaGreat
