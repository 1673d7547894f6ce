/- Several texts in one: Finds whose lists lie in none of some blocks. No statement of the seat is proved here. The contract of the document's own product. The contract of the document's own Pow. -/
import Derived.Test.YtfpglkacjecoeaaGreatCt13
import Derived.Test.YtfpglkacjecoeaaGreatCt24
import Derived.Test.YtfpglkacjecoeaaGreatCt1
namespace Go.Proofs.YtfpglkacjecoeaaGreat
open Go.RowKit

/-- The worlds that have grown, and have turned no block but those of a kind. -/
structure Aw (Z : Nat → Prop) (w w' : World) : Prop where
  os : w'.os = w.os
  tape : w'.tape = w.tape
  output : w'.output = w.output
  size : w.heap.size ≤ w'.heap.size
  block : ∀ i, i < w.heap.size → ¬ Z i → w'.heap[i]? = w.heap[i]?
section
variable {w w' W : World} {Z : Nat → Prop} {base g : Nat}
theorem Aw.refl (w : World) : Aw Z w w := ⟨rfl, rfl, rfl, Nat.le_refl _, fun _ _ _ => rfl⟩
theorem Aw.trans (h : Aw Z w w') (k : Aw Z w' W) : Aw Z w W :=
  ⟨k.os.trans h.os, k.tape.trans h.tape, k.output.trans h.output, Nat.le_trans h.size k.size, fun i hi hn => (k.block i (Nat.lt_of_lt_of_le hi h.size) hn).trans (h.block i hi hn)⟩
theorem Aw.of (h : Ext w w') : Aw Z w w' := ⟨h.os, h.tape, h.output, h.size, fun i hi _ => h.block i hi⟩
theorem Aw.row (w : World) (hg : Z g) (cs : Array Value) : Aw Z w (w.setRow g cs) :=
  ⟨rfl, rfl, rfl, by simp, fun i _ hn => setRow_other w g i cs (fun e => hn (by rw [e]; exact hg))⟩
theorem Aw.ext (h : Aw Z w w') (hx : Ext W w) (hl : ∀ q, Z q → W.heap.size ≤ q) : Ext W w' :=
  ⟨h.os.trans hx.os, h.tape.trans hx.tape, h.output.trans hx.output, Nat.le_trans hx.size h.size, fun i hi => (h.block i (Nat.lt_of_lt_of_le hi hx.size) (fun z => by have := hl i z; omega)).trans (hx.block i hi)⟩
theorem ownsRow_aw {size n : Nat} {e : TypeId} {v : Value} {xs : List Value} (h : w.ownsRow base e size v n xs) (ha : Aw Z w w') (hb : ∀ q, Z q → q < base) : w'.ownsRow base e size v n xs := by
  refine ⟨h.1, ?_⟩
  rcases h.2 with h1 | ⟨g, cap, cur, h1, h2, h3, h4⟩
  · exact .inl h1
  · refine .inr ⟨g, cap, cur, h1, h2, ?_, h4⟩
    rw [ha.block g ?_ (fun z => by have := hb g z; omega)]
    · exact h3
    · rcases Nat.lt_or_ge g w.heap.size with hl | hl
      · exact hl
      · rw [Array.getElem?_eq_none hl] at h3; cases h3
theorem Fo.aw {f : Finds.F} {U V S : Value} (h : Fo w base f U V S) (ha : Aw Z w w') (hb : ∀ q, Z q → q < base) : Fo w' base f U V S := by
  obtain ⟨h1, h2, ⟨cs, h3⟩, h4⟩ := h
  exact ⟨ownsRow_aw h1 ha hb, ownsRow_aw h2 ha hb, ⟨cs, h3.len, ownsRow_aw h3.own ha hb, fun i hi => by
    obtain ⟨A, c, e, ho⟩ := h3.row i hi
    exact ⟨A, c, e, ownsRow_aw ho ha hb⟩, h3.cool, h3.hot, h3.apart⟩, h4⟩
theorem Fb.aw {st ve ne ph : Int} {U V S : Value} (h : Fb w g st ve ne ph U V S) (ha : Aw Z w w') (hb : ¬ Z g) : Fb w' g st ve ne ph U V S := ⟨(ha.block g h.lt hb).trans h.blk⟩
end
/-- The lists of a find, the cells of the outer row named. -/
structure Fc (w : World) (f : Finds.F) (A : Option Addr) (n c : Nat) (B : Option Addr) (m d : Nat) (C : Option Addr) (k e : Nat) (cs : List Value) : Prop where
  u : Is w A n c f.marks
  v : Is w B m d f.which
  len : f.shards.length = k
  le : k ≤ e
  max : e ≤ 9223372036854775807
  rd : Rd w 1 C k cs
  rows : Rows w cs f.shards
/-- The lists of a find, whatever the blocks of a kind hold. -/
def FdZ (Z : Nat → Prop) (w : World) (f : Finds.F) (A : Option Addr) (n c : Nat) (B : Option Addr) (m d : Nat) (C : Option Addr) (k e : Nat) : Prop := ∃ cs, ∀ W, Aw Z w W → Fc W f A n c B m d C k e cs
section
variable {w w' W : World} {Z : Nat → Prop} {b1 : Nat} {f : Finds.F} {A : Option Addr} {n c : Nat} {B : Option Addr} {m d : Nat} {C : Option Addr} {k e : Nat} {cs : List Value}
theorem Fc.fd (h : Fc w f A n c B m d C k e cs) : Fd w f A n c B m d C k e := ⟨h.u, h.v, ⟨h.len, h.le, h.max, cs, h.rd, h.rows⟩⟩
theorem Fc.ext (h : Fc w f A n c B m d C k e cs) (hx : Ext w w') : Fc w' f A n c B m d C k e cs := ⟨h.u.ext hx, h.v.ext hx, h.len, h.le, h.max, h.rd.ext hx, h.rows.ext hx⟩
theorem Fd.cells (h : Fd w f A n c B m d C k e) : ∃ cs, Fc w f A n c B m d C k e cs := by
  obtain ⟨cs, h1, h2⟩ := h.s.rd
  exact ⟨cs, h.u, h.v, h.s.len, h.s.le, h.s.max, h1, h2⟩
theorem FdZ.aw (h : FdZ Z w f A n c B m d C k e) (ha : Aw Z w w') : FdZ Z w' f A n c B m d C k e := by
  obtain ⟨cs, h⟩ := h
  exact ⟨cs, fun W hW => h W (ha.trans hW)⟩
theorem FdZ.ext (h : FdZ Z w f A n c B m d C k e) (hx : Ext w w') : FdZ Z w' f A n c B m d C k e := h.aw (.of hx)
theorem FdZ.fd (h : FdZ Z w f A n c B m d C k e) : Fd w f A n c B m d C k e := by
  obtain ⟨cs, h⟩ := h
  exact (h w (.refl w)).fd
theorem Fd.z (h : Fd w f A n c B m d C k e) (hx : Ext w W) (hg : ∀ q, Z q → w.heap.size ≤ q) : FdZ Z W f A n c B m d C k e := by
  obtain ⟨cs, h⟩ := h.cells
  exact ⟨cs, fun _ hW => h.ext (hW.ext hx hg)⟩
theorem Fo.z (h : Fo W b1 f (.slice A n c) (.slice B m d) (.slice C k e)) (hg : ∀ q, Z q → q < b1) : FdZ Z W f A n c B m d C k e := by
  have h0 := h.fdOf
  have hk := h0.s.len
  have haw := fun X (hX : Aw Z W X) => (h.aw hX hg).fdOf
  obtain ⟨h1, h2, ⟨cs, h3⟩, h4⟩ := h
  subst hk
  refine ⟨cs, fun X hX => ?_⟩
  have k0 := haw X hX
  have hq : Mq X b1 (Hot b1 (.slice C f.shards.length e)) (.slice C f.shards.length e) f.shards.length cs f.shards := ⟨h3.len, ownsRow_aw h3.own hX hg, fun i hi => by
    obtain ⟨A, c, e, ho⟩ := h3.row i hi
    exact ⟨A, c, e, ownsRow_aw ho hX hg⟩, h3.cool, h3.hot, h3.apart⟩
  exact ⟨k0.u, k0.v, rfl, k0.s.le, k0.s.max, Rd.of_own hq.own, hq.rows⟩
/-- The lists of marks turned; those of which and shards are the same. -/
theorem FdZ.mark (h : FdZ Z w f A n c B m d C k e) (hx : Ext w W) {l : List Int} {A' : Option Addr} {n' c' : Nat} (ho : W.ownsRow b1 3 1 (.slice A' n' c') l.length (icells l)) (hb : ∀ q, Z q → q < b1) : FdZ Z W { f with marks := l } A' n' c' B m d C k e := by
  obtain ⟨cs, h⟩ := h
  refine ⟨cs, fun V hV => ?_⟩
  have h1 := h V ((Aw.of hx).trans hV)
  have h2 := ownsRow_aw ho hV hb
  obtain ⟨A2, c2, e2, _, _⟩ := ownsRow_slice h2
  injection e2 with e2 e3 e4
  subst e2 e3 e4
  exact ⟨(Own.mk (base := b1) (e := 3) h2).ints, h1.v, h1.len, h1.le, h1.max, h1.rd, h1.rows⟩
end
/-- A find is handed back, its lists in none of some blocks. -/
def GivesZ (Z : Nat → Prop) (f : Finds.F) (er : Int) (w : World) (e : Ending) (w' : World) : Prop := ∃ A n c B m d C k e9, e = .returned (.tuple #[fval f.stripe f.version f.need f.phase (.slice A n c) (.slice B m d) (.slice C k e9), .int .i64 er]) ∧ FdZ Z w' f A n c B m d C k e9 ∧ Ext w w'
/-- Bytes, whatever the blocks of a kind hold. -/
def BsZ (Z : Nat → Prop) (w : World) (D : Option Addr) (q c : Nat) (b : List UInt8) : Prop := ∀ W, Aw Z w W → Bs W D q c b
theorem Bs.z {Z : Nat → Prop} {w W : World} {D : Option Addr} {q c : Nat} {b : List UInt8} (h : Bs w D q c b) (hx : Ext w W) (hg : ∀ q, Z q → w.heap.size ≤ q) : BsZ Z W D q c b := fun _ hW => h.ext (hW.ext hx hg)
theorem BsZ.ext {Z : Nat → Prop} {w W : World} {D : Option Addr} {q c : Nat} {b : List UInt8} (h : BsZ Z w D q c b) (hx : Ext w W) : BsZ Z W D q c b := fun V hV => h V ((Aw.of hx).trans hV)
theorem BsZ.bs {Z : Nat → Prop} {w : World} {D : Option Addr} {q c : Nat} {b : List UInt8} (h : BsZ Z w D q c b) : Bs w D q c b := h w (.refl w)
/-- A new variable of a find, written: its block, and what it holds. -/
theorem find_var (w : World) (st ve ne ph : Int) (A : Option Addr) (n c : Nat) (B : Option Addr) (m d : Nat) (C : Option Addr) (k e : Nat) : ∃ x w1 w2, w.heap.size = x ∧ (Instr.alloc 25 true (.tuple #[])).run Tryz.prog w = .ok (.pointer (some ⟨x, 0, none⟩)) w1 ∧ (Instr.storeAt 25 (.pointer (some ⟨x, 0, none⟩)) (.agg #[.int .i64 st, .int .i64 ve, .int .i64 ne, .int .i64 ph, .slice A n c, .slice B m d, .slice C k e])).run Tryz.prog w1 = .ok () w2 ∧ Fb w2 x st ve ne ph (.slice A n c) (.slice B m d) (.slice C k e) ∧ Ext w w2 := by
  have hb := heap_alloc_new w zfind
  have hth : (w.alloc zfind).there w.heap.size 0 7 := fun j hj => ⟨by
    rw [cell_of_row _ _ _ _ _ _ hb]
    have hl : 0 + j < (#[.int .i64 0, .int .i64 0, .int .i64 0, .int .i64 0, .slice none 0 0, .slice none 0 0, .slice none 0 0] : Array Value).size := by show 0 + j < 7; omega
    rw [Array.getElem?_eq_getElem hl]; rfl, frozen_of_row _ _ _ _ _ hb⟩
  have hall : ([.int .i64 st, .int .i64 ve, .int .i64 ne, .int .i64 ph, .slice A n c, .slice B m d, .slice C k e] : List Value).toArray.all (·.oneCell') = true := all_oneCell_toArray (fun v hv => by
    simp only [List.mem_cons, List.not_mem_nil, or_false] at hv
    rcases hv with rfl | rfl | rfl | rfl | rfl | rfl | rfl <;> rfl)
  have hr := run_storeVar_mid (P := Tryz.prog) (w.alloc zfind) w.heap.size 0 25 ([.int .i64 st, .int .i64 ve, .int .i64 ne, .int .i64 ph, .slice A n c, .slice B m d, .slice C k e] : List Value).toArray hth find_info hall
  exact ⟨w.heap.size, _, _, rfl, run_alloc_find w, by simp only [Instr.storeAt, Instr.sureAddr, Sem.run_bind, Sem.run_pure, Result.andThen_ok, hr], ⟨setCells_seven hb _ rfl⟩, setCells_far _ _ _ _ _ _ (Ext.alloc w _) (Nat.le_refl _)⟩
/-- A find is read out of its box. -/
theorem Fb.run {w : World} {g : Nat} {st ve ne ph : Int} {U V S : Value} (h : Fb w g st ve ne ph U V S) : (Instr.loadAt 25 (.pointer (some ⟨g, 0, none⟩))).run Tryz.prog w = .ok (fval st ve ne ph U V S) w := by
  simp only [Instr.loadAt, Instr.sureAddr, Sem.run_bind, Sem.run_pure, Result.andThen_ok, h.res]
/-- The end of a function whose first answer is the find in its box: its lists lie elsewhere. -/
theorem gives_z {Z : Nat → Prop} {w W : World} {g : Nat} {f : Finds.F} {A : Option Addr} {n c : Nat} {B : Option Addr} {m d : Nat} {C : Option Addr} {k e : Nat} (er : Int) (h : FdZ (fun q => Z q ∨ q = g) W f A n c B m d C k e) (hx : Ext w W) (hg : w.heap.size ≤ g) :
    GivesZ Z f er w (.returned (.tuple #[fval f.stripe f.version f.need f.phase (.slice A n c) (.slice B m d) (.slice C k e), .int .i64 er])) (W.setRow g (frow f.stripe f.version f.need f.phase (.slice A n c) (.slice B m d) (.slice C k e))) :=
  ⟨_, _, _, _, _, _, _, _, _, rfl, by
    obtain ⟨cs, h⟩ := h
    exact ⟨cs, fun V hV => h V ((Aw.row W (Or.inr rfl) _).trans ⟨hV.os, hV.tape, hV.output, hV.size, fun i hi hn => hV.block i hi (fun z => hn (Or.inl z))⟩)⟩, hx.row hg _⟩
theorem GivesZ.fd {Z : Nat → Prop} {f : Finds.F} {er : Int} {w w' : World} {e : Ending} (h : GivesZ Z f er w e w') : GivesL f er w e w' := by
  obtain ⟨A, n, c, B, m, d, C, k, e9, h1, h2, h3⟩ := h
  exact ⟨A, n, c, B, m, d, C, k, e9, h1, h2.fd, h3⟩
theorem FdZ.less {Z Z' : Nat → Prop} {w : World} {f : Finds.F} {A : Option Addr} {n c : Nat} {B : Option Addr} {m d : Nat} {C : Option Addr} {k e : Nat} (h : FdZ Z w f A n c B m d C k e) (hz : ∀ q, Z' q → Z q) : FdZ Z' w f A n c B m d C k e := by
  obtain ⟨cs, h⟩ := h
  exact ⟨cs, fun V hV => h V ⟨hV.os, hV.tape, hV.output, hV.size, fun i hi hn => hV.block i hi (fun z => hn (hz _ z))⟩⟩
/-- A block that is newer than the lists holds none of them. -/
theorem FdZ.newer {Z : Nat → Prop} {w W : World} {g : Nat} {f : Finds.F} {A : Option Addr} {n c : Nat} {B : Option Addr} {m d : Nat} {C : Option Addr} {k e : Nat} (h : FdZ Z w f A n c B m d C k e) (hx : Ext w W) (hg : w.heap.size ≤ g) : FdZ (fun q => Z q ∨ q = g) W f A n c B m d C k e := by
  obtain ⟨cs, h⟩ := h
  exact ⟨cs, fun V hV => h V ⟨hV.os.trans hx.os, hV.tape.trans hx.tape, hV.output.trans hx.output, Nat.le_trans hx.size hV.size, fun i hi hn => (hV.block i (Nat.lt_of_lt_of_le hi hx.size) (fun z => z.elim hn (fun e => by omega))).trans (hx.block i hi)⟩⟩
/-- A find under way in its box h: its lists are one's own. -/
structure Tx (w1 W : World) (h base : Nat) (st ve ne ph : Int) (U V S : Value) (lu lv : List Int) (cs : List Value) : Prop where
  fb : Fb W h st ve ne ph U V S
  u : W.ownsRow base 3 1 U lu.length (icells lu)
  v : W.ownsRow base 3 1 V lv.length (icells lv)
  s : W.ownsRow base 46 1 S cs.length cs
  ap : ∀ b, U.ownBlock = some b → V.ownBlock ≠ some b
  x : Ext w1 W
  hb : h < base
  hw : w1.heap.size ≤ h
  hs : base ≤ W.heap.size
section
variable {w1 W W4 W5 : World} {h base : Nat} {st ve ne ph : Int} {U V S U' : Value} {lu lv lu' : List Int} {cs cs' : List Value}
theorem Tx.ext (t : Tx w1 W h base st ve ne ph U V S lu lv cs) (hx : Ext W W4) : Tx w1 W4 h base st ve ne ph U V S lu lv cs :=
  ⟨t.fb.ext hx, ownsRow_ext t.u hx, ownsRow_ext t.v hx, ownsRow_ext t.s hx, t.ap, t.x.trans hx, t.hb, t.hw, Nat.le_trans t.hs hx.size⟩
theorem Tx.phase (t : Tx w1 W h base st ve ne ph U V S lu lv cs) (p : Int) : Tx w1 (W.setCell ⟨h, 3, none⟩ (.int .i64 p)) h base st ve ne p U V S lu lv cs :=
  ⟨t.fb.set3 p, ownsRow_far t.u (p := ⟨h, 3, none⟩) t.hb _, ownsRow_far t.v (p := ⟨h, 3, none⟩) t.hb _, ownsRow_far t.s (p := ⟨h, 3, none⟩) t.hb _, t.ap, t.x.set_ (p := ⟨h, 3, none⟩) t.hw _, t.hb, t.hw, by simpa using t.hs⟩
theorem keep_or {a b : Option Nat} (h : ∀ q, b = some q → a ≠ some q) : a = none ∨ a ≠ b := by
  match a with
  | none => exact .inl rfl
  | some q => exact .inr (fun e => h q e.symm rfl)
theorem Tx.keptU (t : Tx w1 W h base st ve ne ph U V S lu lv cs) (hgr : W.grownBy W5 U.ownBlock) : Fb W5 h st ve ne ph U V S := t.fb.kept hgr (fun e => by have := (t.u.lt h e).1; have := t.hb; omega)
theorem Tx.keptV (t : Tx w1 W h base st ve ne ph U V S lu lv cs) (hgr : W.grownBy W5 V.ownBlock) : Fb W5 h st ve ne ph U V S := t.fb.kept hgr (fun e => by have := (t.v.lt h e).1; have := t.hb; omega)
theorem Tx.keptS (t : Tx w1 W h base st ve ne ph U V S lu lv cs) (hgr : W.grownBy W5 S.ownBlock) : Fb W5 h st ve ne ph U V S := t.fb.kept hgr (fun e => by have := (t.s.lt h e).1; have := t.hb; omega)
theorem Tx.growU (t : Tx w1 W h base st ve ne ph U V S lu lv cs) (hgr : W.grownBy W5 U.ownBlock) (hown : W5.ownsRow base 3 1 U' lu'.length (icells lu')) (hat : U'.ownBlock = U.ownBlock ∨ U'.ownBlock = some W.heap.size) :
    Tx w1 (W5.setCell ⟨h, 4, none⟩ U') h base st ve ne ph U' V S lu' lv cs := by
  have hsz := hgr.size
  have hbs := t.hb
  have hss := t.hs
  have hww := t.hw
  refine ⟨(t.keptU hgr).set4 U', ownsRow_far hown (p := ⟨h, 4, none⟩) t.hb _, ownsRow_far (ownsRow_grown t.v hgr (keep_or (fun q hq => t.ap q hq))) (p := ⟨h, 4, none⟩) t.hb _,
    ownsRow_far (ownsRow_grown t.s hgr (keep_or (fun q hq => own_types (by decide) t.u t.s hq))) (p := ⟨h, 4, none⟩) t.hb _, fun b hb hv => ?_, (t.x.ofGrown hgr (fun q hq => by have := (t.u.lt q hq).1; omega)).set_ (p := ⟨h, 4, none⟩) t.hw _, t.hb, t.hw, ?_⟩
  · rcases hat with e | e
    · exact t.ap b (by rw [← e]; exact hb) hv
    · rw [e] at hb; injection hb with hb; have := (t.v.lt b hv).2; omega
  · simp; omega
theorem Tx.growV (t : Tx w1 W h base st ve ne ph U V S lu lv cs) (hgr : W.grownBy W5 V.ownBlock) (hown : W5.ownsRow base 3 1 U' lu'.length (icells lu')) (hat : U'.ownBlock = V.ownBlock ∨ U'.ownBlock = some W.heap.size) :
    Tx w1 (W5.setCell ⟨h, 5, none⟩ U') h base st ve ne ph U U' S lu lu' cs := by
  have hsz := hgr.size
  have hbs := t.hb
  have hss := t.hs
  have hww := t.hw
  refine ⟨(t.keptV hgr).set5 U', ownsRow_far (ownsRow_grown t.u hgr (keep_or (fun q hq he => t.ap q he hq))) (p := ⟨h, 5, none⟩) t.hb _, ownsRow_far hown (p := ⟨h, 5, none⟩) t.hb _,
    ownsRow_far (ownsRow_grown t.s hgr (keep_or (fun q hq => own_types (by decide) t.v t.s hq))) (p := ⟨h, 5, none⟩) t.hb _, fun b hb hv => ?_, (t.x.ofGrown hgr (fun q hq => by have := (t.v.lt q hq).1; omega)).set_ (p := ⟨h, 5, none⟩) t.hw _, t.hb, t.hw, ?_⟩
  · rcases hat with e | e
    · exact t.ap b hb (by rw [← e]; exact hv)
    · rw [e] at hv; injection hv with hv; have := (t.u.lt b hb).2; omega
  · simp; omega
theorem Tx.growS (t : Tx w1 W h base st ve ne ph U V S lu lv cs) (hgr : W.grownBy W5 S.ownBlock) (hown : W5.ownsRow base 46 1 U' cs'.length cs') :
    Tx w1 (W5.setCell ⟨h, 6, none⟩ U') h base st ve ne ph U V U' lu lv cs' := by
  have hsz := hgr.size
  have hbs := t.hb
  have hss := t.hs
  have hww := t.hw
  refine ⟨(t.keptS hgr).set6 U', ownsRow_far (ownsRow_grown t.u hgr (keep_or (fun q hq => own_types (by decide) t.s t.u hq))) (p := ⟨h, 6, none⟩) t.hb _, ownsRow_far (ownsRow_grown t.v hgr (keep_or (fun q hq => own_types (by decide) t.s t.v hq))) (p := ⟨h, 6, none⟩) t.hb _,
    ownsRow_far hown (p := ⟨h, 6, none⟩) t.hb _, t.ap, (t.x.ofGrown hgr (fun q hq => by have := (t.s.lt q hq).1; omega)).set_ (p := ⟨h, 6, none⟩) t.hw _, t.hb, t.hw, ?_⟩
  simp; omega
/-- It is done: laid into the answer's box g. -/
theorem Tx.fin {Z : Nat → Prop} {w : World} {g : Nat} {ls : Gm.L} {A : Option Addr} {n c : Nat} {B : Option Addr} {m d : Nat} {C : Option Addr} {k e : Nat} (t : Tx w1 W h base st ve ne ph (.slice A n c) (.slice B m d) (.slice C k e) lu lv cs) (hx : Ext w w1) (hz : ∀ q, Z q → q < w.heap.size) (hrows : ∀ X, Aw Z w X → Rows X cs ls) (hg : w.heap.size ≤ g) (hgb : g < base) (F : Finds.F) (hF : F = ⟨st, ve, ne, ph, lu, lv, ls⟩) (er : Int) :
    GivesZ Z F er w (.returned (.tuple #[fval st ve ne ph (.slice A n c) (.slice B m d) (.slice C k e), .int .i64 er])) (W.setRow g (frow st ve ne ph (.slice A n c) (.slice B m d) (.slice C k e))) := by
  subst hF
  have hzb : ∀ q, Z q → q < base := fun q hq => by have := hz q hq; omega
  have xx : Ext w (W.setRow g (frow st ve ne ph (.slice A n c) (.slice B m d) (.slice C k e))) := (hx.trans t.x).row hg _
  have og := fun {e' : TypeId} {v : Value} {nn : Nat} {xs : List Value} (o : W.ownsRow base e' 1 v nn xs) => ownsRow_grown o (grown_row W g (frow st ve ne ph (.slice A n c) (.slice B m d) (.slice C k e))) (keep_or (fun q hq he => by injection hq with hq; have := (o.lt q he).1; omega))
  refine ⟨_, _, _, _, _, _, _, _, _, rfl, ⟨cs, fun X hX => ?_⟩, xx⟩
  have ou := ownsRow_aw (og t.u) hX hzb
  have ov := ownsRow_aw (og t.v) hX hzb
  have os := ownsRow_aw (og t.s) hX hzb
  obtain ⟨A2, c2, e2, _, _⟩ := ownsRow_slice ou
  injection e2 with e2 e3 e4
  subst e2 e3 e4
  obtain ⟨A2, c2, e2, _, _⟩ := ownsRow_slice ov
  injection e2 with e2 e3 e4
  subst e2 e3 e4
  obtain ⟨A2, c2, e2, hk1, hk2⟩ := ownsRow_slice os
  injection e2 with e2 e3 e4
  subst e2 e3 e4
  have hr := hrows X ((Aw.of xx).trans hX)
  exact ⟨(Own.mk (base := base) (e := 3) ou).ints, (Own.mk (base := base) (e := 3) ov).ints, hr.len.symm, hk1, hk2, Rd.of_own os, hr⟩
end
end Go.Proofs.YtfpglkacjecoeaaGreat
namespace Go.Proofs.YtfpglkacjecoeaaGreat
open Go.RowKit

def rA (a b : Nat) : Nat → Nat
  | 0 => 0
  | i + 1 => if b / 2 ^ i % 2 = 1 then rA a b i ^^^ (a * 2 ^ i) else rA a b i
def rB (p : Nat) : Nat → Nat
  | 0 => p
  | t + 1 => if rB p t / 2 ^ (14 - t) % 2 = 1 then rB p t ^^^ (285 * 2 ^ (14 - t - 8)) else rB p t

theorem shr_nat (y k : Nat) : ((y : Int) / 2 ^ k).tmod 2 = ((y / 2 ^ k % 2 : Nat) : Int) := by
  have e : ((y : Int) / 2 ^ k) = ((y / 2 ^ k : Nat) : Int) := by simp
  rw [e]
  generalize y / 2 ^ k = z
  rw [Int.tmod_eq_emod_of_nonneg (by omega)]
  simp
theorem shr_yes {y k : Nat} (h : (((y : Int) / 2 ^ k).tmod 2 == 1) = true) : y / 2 ^ k % 2 = 1 := by
  rw [shr_nat, beq_iff_eq] at h
  exact_mod_cast h
theorem shr_no {y k : Nat} (h : (((y : Int) / 2 ^ k).tmod 2 == 1) = false) : ¬ y / 2 ^ k % 2 = 1 := by
  rw [shr_nat, beq_eq_false_iff_ne] at h
  intro e
  rw [e] at h
  exact h rfl
theorem pow_le_of {k : Nat} (h : k ≤ 7) : 2 ^ k ≤ 128 := by
  have : 2 ^ k ≤ 2 ^ 7 := Nat.pow_le_pow_right (by omega) h
  exact this
theorem rA_lt (a b : Nat) (ha : a < 256) : ∀ k, k ≤ 8 → rA a b k < 2 ^ 15
  | 0, _ => by unfold rA; omega
  | k + 1, h => by
    have ih := rA_lt a b ha k (by omega)
    have hp := pow_le_of (k := k) (by omega)
    have hm : a * 2 ^ k ≤ 255 * 128 := Nat.mul_le_mul (by omega) hp
    unfold rA
    split
    · exact Nat.xor_lt_two_pow ih (by omega)
    · exact ih
theorem rA_yes {a b k : Nat} (ha : a < 256) (hk : k < 8) (h : (((b : Int) / 2 ^ k).tmod 2 == 1) = true) :
    bits .xor .i64 (rA a b k : Int) (wrap64 ((a : Int) * 2 ^ k)) = (rA a b (k + 1) : Int) := by
  have hp := pow_le_of (k := k) (by omega)
  have hm : a * 2 ^ k ≤ 255 * 128 := Nat.mul_le_mul (by omega) hp
  have e : ((a : Int) * 2 ^ k) = ((a * 2 ^ k : Nat) : Int) := by simp
  have hr := rA_lt a b ha k (by omega)
  rw [e, IntWalk.wrap64_in _ (by omega), xor_i64 _ _ (by omega) (by omega)]
  conv => rhs; unfold rA
  rw [if_pos (shr_yes h)]
theorem rA_no {a b k : Nat} (h : (((b : Int) / 2 ^ k).tmod 2 == 1) = false) : (rA a b k : Int) = (rA a b (k + 1) : Int) := by
  conv => rhs; unfold rA
  rw [if_neg (shr_no h)]

theorem rB_lt (p : Nat) (hp : p < 2 ^ 15) : ∀ t, t ≤ 7 → rB p t < 2 ^ 15
  | 0, _ => hp
  | t + 1, h => by
    have ih := rB_lt p hp t (by omega)
    have h2 := pow_le_of (k := 14 - t - 8) (by omega)
    unfold rB
    split
    · by_cases e : t = 0
      · subst e; exact Nat.xor_lt_two_pow ih (by omega)
      · have h3 : 2 ^ (14 - t - 8) ≤ 2 ^ 5 := Nat.pow_le_pow_right (by omega) (by omega)
        exact Nat.xor_lt_two_pow ih (by omega)
    · exact ih
theorem rB_yes {p t : Nat} (hp : p < 2 ^ 15) (ht : t < 7) (h : (((rB p t : Nat) : Int) / 2 ^ (14 - t)).tmod 2 = 1) :
    bits .xor .i64 (rB p t : Int) (wrap64 (285 * 2 ^ (14 - t - 8))) = (rB p (t + 1) : Int) := by
  have h2 := pow_le_of (k := 14 - t - 8) (by omega)
  have e : ((285 : Int) * 2 ^ (14 - t - 8)) = ((285 * 2 ^ (14 - t - 8) : Nat) : Int) := by simp
  have hr := rB_lt p hp t (by omega)
  rw [e, IntWalk.wrap64_in _ (by omega), xor_i64 _ _ (by omega) (by omega)]
  conv => rhs; unfold rB
  rw [if_pos (shr_yes (by rw [h]; rfl))]
theorem rB_no {p t : Nat} (h : (((rB p t : Nat) : Int) / 2 ^ (14 - t)).tmod 2 ≠ 1) : (rB p t : Int) = (rB p (t + 1) : Int) := by
  conv => rhs; unfold rB
  rw [if_neg (shr_no (beq_eq_false_iff_ne.2 h))]

/-! What the loops come to is the product. -/
theorem bit_test (p i : Nat) : (p / 2 ^ i % 2 = 1) = (p.testBit i = true) := by
  rw [Nat.testBit_eq_decide_div_mod_eq]; simp
theorem rB_xor (p q : Nat) : ∀ t, rB (p ^^^ q) t = rB p t ^^^ rB q t
  | 0 => rfl
  | t + 1 => by
    have ih := rB_xor p q t
    unfold rB
    rw [ih]
    simp only [bit_test, Nat.testBit_xor]
    generalize rB p t = x
    generalize rB q t = y
    generalize 285 * 2 ^ (14 - t - 8) = z
    cases x.testBit (14 - t) <;> cases y.testBit (14 - t) <;> simp only [Bool.xor_false, Bool.xor_true, Bool.not_false, Bool.not_true, Bool.false_eq_true, ↓reduceIte]
    · rw [Nat.xor_assoc]
    · rw [Nat.xor_assoc, Nat.xor_assoc, Nat.xor_comm y z]
    · rw [Nat.xor_comm y z, Nat.xor_assoc, ← Nat.xor_assoc z, Nat.xor_self, Nat.zero_xor]
def ps (a b : UInt8) : Nat → UInt8
  | 0 => 0
  | k + 1 => ps a b k ^^^ Gf.bitv b k (Gf.xts k a)
theorem ps_mul (a b : UInt8) : ps a b 8 = Gf.mul a b := by
  simp only [ps, Gf.mul, Gf.sum8, UInt8.zero_xor]
theorem rB_base (a : UInt8) (k : Nat) (hk : k < 8) : rB (a.toNat * 2 ^ k) 7 % 256 = (Gf.xts k a).toNat := by
  have hc : (List.range 256).all (fun i => (List.range 8).all fun k => rB (i * 2 ^ k) 7 % 256 == (Gf.xts k (UInt8.ofNat i)).toNat) = true := by decide +kernel
  have h1 := List.all_eq_true.1 hc a.toNat (List.mem_range.2 a.toNat_lt)
  have h2 := List.all_eq_true.1 h1 k (List.mem_range.2 hk)
  simpa using h2
theorem rAB (a b : UInt8) : ∀ k, k ≤ 8 → rB (rA a.toNat b.toNat k) 7 % 256 = (ps a b k).toNat
  | 0, _ => by simp only [rA, ps]; decide
  | k + 1, h => by
    have ih := rAB a b k (by omega)
    have hb := rB_base a k (by omega)
    simp only [ps, rA, Gf.bitv, bit_test]
    cases hbit : b.toNat.testBit k
    · simp only [Bool.false_eq_true, ↓reduceIte, UInt8.xor_zero]
      exact ih
    · simp only [↓reduceIte]
      rw [rB_xor, UInt8.toNat_xor, ← ih, ← hb]
      exact Nat.xor_mod_two_pow (n := 8)
theorem ref_mul (a b : UInt8) : rB (rA a.toNat b.toNat 8) 7 % 256 = (Gf.mul a b).toNat := by rw [rAB a b 8 (by omega), ps_mul]

set_option maxRecDepth 100000 in
set_option maxHeartbeats 1000000 in
theorem refMul_any (w : World) (x y : UInt8) :
    Calls Tryz.prog 92 #[.int .u8 (x.toNat : Int), .int .u8 (y.toNat : Int)] w fun e w' => e = .returned (.int .u8 ((Gf.mul x y).toNat : Int)) ∧ w = w' := by
  have hx := u8_int_lt x
  have hy := u8_int_lt y
  rw [← ref_mul]
  have hp15 := rA_lt x.toNat y.toNat x.toNat_lt 8 (by omega)
  go_enter Tryz.func92, Tryz.ntmps92
  go_wp2
  go_loop [5, 6] (fun p i => ∃ k : Nat, k ≤ 8 ∧ i = .int .i64 k ∧ p = .int .i64 (rA x.toNat y.toNat k : Int)) (fun _ i => 8 - (intOf i).toNat)
  case atStart => exact ⟨0, by omega, rfl, rfl⟩
  case round =>
    obtain ⟨k, hk, rfl, rfl⟩ := hrel
    by_cases hlt : k < 8
    · have hz : (k : Int) < 8 := by omega
      clear hp15
      go_wp2
      · refine ⟨⟨k + 1, by omega, by go_num, ?_⟩, by simp [intOf]; omega⟩
        rw [rA_yes x.toNat_lt hlt (by assumption)]
      · refine ⟨⟨k + 1, by omega, by go_num, ?_⟩, by simp [intOf]; omega⟩
        rw [← rA_no (by assumption)]
    · have hz : ¬ (k : Int) < 8 := by omega
      obtain rfl : k = 8 := by omega
      generalize hp : rA x.toNat y.toNat 8 = p at *
      have Hp := Lib.hid hp
      clear hp
      go_wp2
      go_loop [5, 7] (fun q i => ∃ t : Nat, t ≤ 7 ∧ i = .int .i64 (14 - (t : Int)) ∧ q = .int .i64 (rB p t : Int)) (fun _ i => (intOf i - 7).toNat)
      case atStart => exact ⟨0, by omega, rfl, rfl⟩
      case round =>
        obtain ⟨t, ht, rfl, rfl⟩ := hrel
        by_cases hlt : t < 7
        · have hz : 8 ≤ 14 - (t : Int) := by omega
          by_cases hbit : ((rB p t : Int) / 2 ^ (14 - t)).tmod 2 = 1
          · have hb := rB_yes hp15 hlt hbit
            have H := Lib.hid hb
            have h1 : (((rB p t : Int) / 2 ^ (14 - t)).tmod 2 == 1) = true := by rw [hbit]; rfl
            clear hb hbit hp15
            go_wp2
            refine ⟨⟨t + 1, by omega, by rw [show (14 : Int) - (t : Int) - 1 = 14 - ((t + 1 : Nat) : Int) by omega], ?_⟩, by simp [intOf]; omega⟩
            rw [H.out]
          · have h1 : (((rB p t : Int) / 2 ^ (14 - t)).tmod 2 == 1) = false := by rw [beq_eq_false_iff_ne]; exact hbit
            have H := Lib.hid (rB_no hbit)
            clear hbit hp15
            go_wp2
            refine ⟨⟨t + 1, by omega, by rw [show (14 : Int) - (t : Int) - 1 = 14 - ((t + 1 : Nat) : Int) by omega], ?_⟩, by simp [intOf]; omega⟩
            rw [← H.out]
        · have hz : ¬ 8 ≤ 14 - (t : Int) := by omega
          go_wp2
          go_ret
          obtain rfl : t = 7 := by omega
          exact ⟨ret_int (show ((rB p 7 : Nat) : Int) % 256 = ((rB (rA x.toNat y.toNat 8) 7 % 256 : Nat) : Int) by rw [Hp.out]; simp), rfl⟩
end Go.Proofs.YtfpglkacjecoeaaGreat
namespace Go.Proofs.YtfpglkacjecoeaaGreat
open Go.RowKit

set_option maxRecDepth 100000 in
set_option maxHeartbeats 400000 in
theorem refPow_low (w : World) (x : UInt8) (n : Int) (hn : n ≤ 0) :
    Calls Tryz.prog 71 #[.int .u8 (x.toNat : Int), .int .i64 n] w fun e w' => e = .returned (.int .u8 1) ∧ w = w' := by
  have h1 : ¬ 0 < n := by omega
  go_enter Tryz.func71, Tryz.ntmps71
  go_wp2
  go_loop [0, 1, 5] (fun a m s => m = .int .i64 n ∧ s = .int .u8 1) (fun _ _ _ => 0)
  case atStart => exact ⟨rfl, rfl⟩
  case round =>
    obtain ⟨rfl, rfl⟩ := hrel
    go_wp2
    go_ret
    exact ⟨rfl, rfl⟩
theorem emod_facts (k : Nat) : (k % 2 = 1 → (((k : Int) % 2 == 1) = true)) ∧ (¬ k % 2 = 1 → (((k : Int) % 2 == 1) = false)) := by
  constructor
  · intro h; rw [beq_iff_eq]; omega
  · intro h; rw [beq_eq_false_iff_ne]; omega
set_option maxRecDepth 100000 in
set_option maxHeartbeats 400000 in
theorem refPow_nat (w : World) (x : UInt8) (n : Nat) (hmax : n ≤ 9223372036854775807) :
    Calls Tryz.prog 71 #[.int .u8 (x.toNat : Int), .int .i64 (n : Int)] w fun e w' => e = .returned (.int .u8 ((Gf.pow x n).toNat : Int)) ∧ w = w' := by
  go_enter Tryz.func71, Tryz.ntmps71
  go_wp2
  go_loop [0, 1, 5] (fun a m s => ∃ (k : Nat) (a' x' : UInt8), k ≤ n ∧ a = .int .u8 (a'.toNat : Int) ∧ m = .int .i64 k ∧ s = .int .u8 (x'.toNat : Int) ∧ Gf.mul x' (Gf.pow a' k) = Gf.pow x n) (fun _ m _ => (intOf m).toNat)
  case atStart => exact ⟨n, x, 1, by omega, rfl, rfl, rfl, Gf.one_mul _⟩
  case round =>
    obtain ⟨k, a', x', hk, rfl, rfl, rfl, hinv⟩ := hrel
    have Hinv := Lib.hid hinv
    clear hinv
    by_cases hlt : 0 < k
    · have hz : 0 < (k : Int) := by omega
      have hp : Gf.pow a' k = Gf.mul (if k % 2 = 1 then a' else 1) (Gf.pow (Gf.mul a' a') (k / 2)) := by
        rw [Gf.pow_square]
        by_cases ho : k % 2 = 1
        · rw [if_pos ho]
          conv => lhs; rw [show k = 2 * (k / 2) + 1 by omega]
          rw [Gf.pow, Gf.mul_comm]
        · rw [if_neg ho, Gf.one_mul]
          conv => lhs; rw [show k = 2 * (k / 2) by omega]
      have Hp := Lib.hid hp
      clear hp
      by_cases ho : k % 2 = 1
      · have h1 := (emod_facts k).1 ho
        have Ho := Lib.hid ho
        clear ho
        go_wp2_with (first
          | (go_at_call_of 92 (Value.int .u8 (x'.toNat : Int)); refine (refMul_any _ x' a').mono ?_; rintro e w' ⟨rfl, rfl⟩)
          | (go_at_call 92; refine (refMul_any _ a' a').mono ?_; rintro e w' ⟨rfl, rfl⟩))
        refine ⟨⟨k / 2, Gf.mul a' a', Gf.mul x' a', by omega, rfl, by go_num, rfl, ?_⟩, by simp [intOf]; omega⟩
        rw [← Hinv.out, Hp.out, if_pos Ho.out, Gf.mul_assoc]
      · have h1 := (emod_facts k).2 ho
        have Ho := Lib.hid ho
        clear ho
        go_wp2_with (go_at_call 92; refine (refMul_any _ a' a').mono ?_; rintro e w' ⟨rfl, rfl⟩)
        refine ⟨⟨k / 2, Gf.mul a' a', x', by omega, rfl, by go_num, rfl, ?_⟩, by simp [intOf]; omega⟩
        rw [← Hinv.out, Hp.out, if_neg Ho.out, Gf.one_mul]
    · have hz : ¬ 0 < (k : Int) := by omega
      obtain rfl : k = 0 := by omega
      go_wp2
      go_ret
      exact ⟨ret_int (show (x'.toNat : Int) = ((Gf.pow x n).toNat : Int) by rw [← Hinv.out, Gf.pow, Gf.mul_one]), rfl⟩
theorem refPow_any (w : World) (x : UInt8) (n : Int) (hmax : n ≤ 9223372036854775807) :
    Calls Tryz.prog 71 #[.int .u8 (x.toNat : Int), .int .i64 n] w fun e w' => e = .returned (.int .u8 ((Gf.pow x n.toNat).toNat : Int)) ∧ w = w' := by
  by_cases hn : n ≤ 0
  · rw [show n.toNat = 0 by omega]
    exact refPow_low w x n hn
  · obtain ⟨m, rfl⟩ := Int.eq_ofNat_of_zero_le (show 0 ≤ n by omega)
    rw [Int.toNat_natCast]
    exact refPow_nat w x m (by omega)
end Go.Proofs.YtfpglkacjecoeaaGreat
