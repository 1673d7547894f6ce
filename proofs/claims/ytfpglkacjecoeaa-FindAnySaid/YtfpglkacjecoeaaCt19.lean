/- Several texts in one: Variables that hold finds, written over and over. No statement of the seat is proved here. Arguments that came in, opened: arrays of integers, slices of whatever. -/
import Derived.Test.YtfpglkacjecoeaaCt17
import Derived.Test.YtfpglkacjecoeaaCt18
import Derived.Test.YtfpglkacjecoeaaCt2
import Derived.Deep.Slices
namespace Go.Proofs.Ytfpglkacjecoeaa
open Go.RowKit

/-- The worlds that have grown, and have turned no block but those from lo to hi. -/
structure Away (lo hi : Nat) (w w' : World) : Prop where
  os : w'.os = w.os
  tape : w'.tape = w.tape
  output : w'.output = w.output
  size : w.heap.size ≤ w'.heap.size
  block : ∀ i, i < w.heap.size → ¬ (lo ≤ i ∧ i < hi) → w'.heap[i]? = w.heap[i]?
section
variable {w w' W : World} {lo hi base g : Nat}
theorem Away.refl (w : World) : Away lo hi w w := ⟨rfl, rfl, rfl, Nat.le_refl _, fun _ _ _ => rfl⟩
theorem Away.trans (h : Away lo hi w w') (k : Away lo hi w' W) : Away lo hi w W :=
  ⟨k.os.trans h.os, k.tape.trans h.tape, k.output.trans h.output, Nat.le_trans h.size k.size, fun i hi hn => (k.block i (Nat.lt_of_lt_of_le hi h.size) hn).trans (h.block i hi hn)⟩
theorem Away.of (h : Ext w w') : Away lo hi w w' := ⟨h.os, h.tape, h.output, h.size, fun i hi _ => h.block i hi⟩
theorem Away.row (w : World) (hl : lo ≤ g) (hh : g < hi) (cs : Array Value) : Away lo hi w (w.setRow g cs) :=
  ⟨rfl, rfl, rfl, by simp, fun i _ hn => setRow_other w g i cs (fun e => hn (by omega))⟩
theorem Away.set (w : World) (p : Addr) (hl : lo ≤ p.block) (hh : p.block < hi) (v : Value) : Away lo hi w (w.setCell p v) :=
  ⟨rfl, rfl, rfl, by simp, fun i _ hn => heap_setCell_other w p i v (fun e => hn (by omega))⟩
theorem Away.ext (h : Away lo hi w w') (hx : Ext W w) (hl : W.heap.size ≤ lo) : Ext W w' :=
  ⟨h.os.trans hx.os, h.tape.trans hx.tape, h.output.trans hx.output, Nat.le_trans hx.size h.size, fun i hi => (h.block i (Nat.lt_of_lt_of_le hi hx.size) (by omega)).trans (hx.block i hi)⟩
theorem ownsRow_away {size n : Nat} {e : TypeId} {v : Value} {xs : List Value} (h : w.ownsRow base e size v n xs) (ha : Away lo hi w w') (hb : hi ≤ base) : w'.ownsRow base e size v n xs := by
  refine ⟨h.1, ?_⟩
  rcases h.2 with h1 | ⟨g, cap, cur, h1, h2, h3, h4⟩
  · exact .inl h1
  · refine .inr ⟨g, cap, cur, h1, h2, ?_, h4⟩
    rw [ha.block g ?_ (by omega)]
    · exact h3
    · rcases Nat.lt_or_ge g w.heap.size with hl | hl
      · exact hl
      · rw [Array.getElem?_eq_none hl] at h3; cases h3
theorem Fo.away {f : Finds.F} {U V S : Value} (h : Fo w base f U V S) (ha : Away lo hi w w') (hb : hi ≤ base) : Fo w' base f U V S := by
  obtain ⟨h1, h2, ⟨cs, h3⟩, h4⟩ := h
  exact ⟨ownsRow_away h1 ha hb, ownsRow_away h2 ha hb, ⟨cs, h3.len, ownsRow_away h3.own ha hb, fun i hi => by
    obtain ⟨A, c, e, ho⟩ := h3.row i hi
    exact ⟨A, c, e, ownsRow_away ho ha hb⟩, h3.cool, h3.hot, h3.apart⟩, h4⟩
theorem Fb.away {st ve ne ph : Int} {U V S : Value} (h : Fb w g st ve ne ph U V S) (ha : Away lo hi w w') (hb : ¬ (lo ≤ g ∧ g < hi)) : Fb w' g st ve ne ph U V S := ⟨(ha.block g h.lt hb).trans h.blk⟩
end
/-- The lists of a find, whatever the blocks from lo to hi hold. -/
def FdX (w : World) (lo hi : Nat) (f : Finds.F) (A : Option Addr) (n c : Nat) (B : Option Addr) (m d : Nat) (C : Option Addr) (k e : Nat) : Prop := ∀ W, Away lo hi w W → Fd W f A n c B m d C k e
section
variable {w w' W : World} {lo hi b1 : Nat} {f : Finds.F} {A : Option Addr} {n c : Nat} {B : Option Addr} {m d : Nat} {C : Option Addr} {k e : Nat}
theorem FdX.away (h : FdX w lo hi f A n c B m d C k e) (ha : Away lo hi w w') : FdX w' lo hi f A n c B m d C k e := fun W hW => h W (ha.trans hW)
theorem FdX.ext (h : FdX w lo hi f A n c B m d C k e) (hx : Ext w w') : FdX w' lo hi f A n c B m d C k e := h.away (.of hx)
theorem FdX.fd (h : FdX w lo hi f A n c B m d C k e) : Fd w f A n c B m d C k e := h w (.refl w)
theorem Fd.x (h : Fd w f A n c B m d C k e) (hx : Ext w W) (hg : w.heap.size ≤ lo) : FdX W lo hi f A n c B m d C k e := fun _ hW => h.ext (hW.ext hx hg)
theorem Fo.fdOf (h : Fo W b1 f (.slice A n c) (.slice B m d) (.slice C k e)) : Fd W f A n c B m d C k e := by
  obtain ⟨A', c', B', d', C', e', e1, e2, e3, hd⟩ := h.fd
  injection e1 with a1 a2 a3
  injection e2 with b1 b2 b3
  injection e3 with c1 c2 c3
  rw [← a1, ← a2, ← a3, ← b1, ← b2, ← b3, ← c1, ← c2, ← c3] at hd
  exact hd
theorem Fo.x (h : Fo W b1 f (.slice A n c) (.slice B m d) (.slice C k e)) (hg : hi ≤ b1) : FdX W lo hi f A n c B m d C k e := fun _ hW => (h.away hW hg).fdOf
end
/-- A variable at block g that holds a find; its lists are not in the blocks from lo to hi. -/
def Fh (w : World) (lo hi g : Nat) (f : Finds.F) : Prop := ∃ A n c B m d C k e, Fb w g f.stripe f.version f.need f.phase (.slice A n c) (.slice B m d) (.slice C k e) ∧ FdX w lo hi f A n c B m d C k e
section
variable {w w' W : World} {lo hi g b1 : Nat} {f F : Finds.F}
theorem Fh.lt (h : Fh w lo hi g f) : g < w.heap.size := by obtain ⟨_, _, _, _, _, _, _, _, _, h, _⟩ := h; exact h.lt
theorem Fh.ext (h : Fh w lo hi g f) (hx : Ext w w') : Fh w' lo hi g f := by
  obtain ⟨A, n, c, B, m, d, C, k, e, h1, h2⟩ := h
  exact ⟨A, n, c, B, m, d, C, k, e, h1.ext hx, h2.ext hx⟩
theorem Fh.row (h : Fh w lo hi g f) {q : Nat} (hl : lo ≤ q) (hh : q < hi) (hq : q ≠ g) (cs : Array Value) : Fh (w.setRow q cs) lo hi g f := by
  obtain ⟨A, n, c, B, m, d, C, k, e, h1, h2⟩ := h
  exact ⟨A, n, c, B, m, d, C, k, e, ⟨(setRow_other w q g cs (fun e => hq e.symm)).trans h1.blk⟩, h2.away (.row w hl hh cs)⟩
theorem Fh.new {A : Option Addr} {n c : Nat} {B : Option Addr} {m d : Nat} {C : Option Addr} {k e : Nat} (h : FdX w lo hi f A n c B m d C k e) (hg : w.heap.size = g) : Fh (w.alloc (.cells #[.int .i64 f.stripe, .int .i64 f.version, .int .i64 f.need, .int .i64 f.phase, .slice A n c, .slice B m d, .slice C k e] 27)) lo hi g f :=
  ⟨A, n, c, B, m, d, C, k, e, Fb.new w _ _ _ _ _ _ _ hg, h.ext (Ext.alloc _ _)⟩
/-- The variable is written. -/
theorem Fh.put (h : Fh W lo hi g f) {A : Option Addr} {n c : Nat} {B : Option Addr} {m d : Nat} {C : Option Addr} {k e : Nat} (ho : FdX W lo hi F A n c B m d C k e) (hl : lo ≤ g) (hh : g < hi) : Fh (W.setRow g (frow F.stripe F.version F.need F.phase (.slice A n c) (.slice B m d) (.slice C k e))) lo hi g F := by
  obtain ⟨_, _, _, _, _, _, _, _, _, h1, _⟩ := h
  exact ⟨A, n, c, B, m, d, C, k, e, h1.row _ _ _ _ _ _ _, ho.away (.row W hl hh _)⟩
end
end Go.Proofs.Ytfpglkacjecoeaa
namespace Go.Proofs.Ytfpglkacjecoeaa
open Go.ChangeShapes Go.WideShapes Go.ChangeAt Go.RowKit
section
variable {H : Type} {enc : TypeId × Value → H} {P : Program} {w : World} {base : Nat} {spare : Nat → Bool} {held : Bool}

theorem okWide_array {r : Reach} {b0 n : Nat} {t e : TypeId} {v : Value} (ht : P.underlying t = some (.array n e)) (h : Value.okWide P w r b0 t v) : ∃ cs, v = .agg cs ∧ cs.size = P.cellsOf t := by
  simp only [Value.okWide, ht] at h
  obtain ⟨cs, h1, h2, _⟩ := h
  exact ⟨cs, h1, h2⟩
theorem cells_spot {a : Addr} {v : Value} (h : w.cell? (a.add 0) = some v) : a = ⟨a.block, a.off, none⟩ := by
  obtain ⟨b, off, sp⟩ := a
  cases sp with
  | none => rfl
  | some s =>
    exfalso
    have e : (⟨b, off, some s⟩ : Addr).add 0 = ⟨b, off, some s⟩ := by unfold Addr.add; split <;> simp_all
    rw [e] at h
    unfold World.cell? at h
    split at h <;> simp at h
/-- An array of integers. -/
theorem trod_int_array {t e : TypeId} {k : IntKind} {n fuel : Nat} {cs : List Value} {x : DataW H × List MemPlace} (ht : P.underlying t = some (.array n e)) (he : P.underlying e = some (.int k)) (hc : P.cellsOf e = 1) (hct : P.cellsOf t = n)
    (h : DataW.trod enc P w base spare held fuel t cs = some x) : ∃ zs : List Int, zs.length = n ∧ cs = zs.map (Value.int k) ∧ ∀ z ∈ zs, (Lit.int k z).wf = true := by
  obtain ⟨xs, m, _, _, hl, hxl, hel⟩ := DataW.trod_array ht h
  rw [hct] at hl
  have each : ∀ i, i < n → ∃ z : Int, cs[i]? = some (.int k z) ∧ (Lit.int k z).wf = true := by
    intro i hi
    have h1 := hel i hi
    rw [hc, Nat.mul_one] at h1
    have hxi : i < xs.length := by omega
    rw [List.getElem?_eq_getElem hxi] at h1
    obtain ⟨z, hz, _, hw⟩ := DataW.trod_int he h1
    refine ⟨z, ?_, hw⟩
    have hci : i < cs.length := by omega
    have h2 : (cs.drop i).take 1 = [cs[i]] := by rw [List.drop_eq_getElem_cons hci]; rfl
    rw [h2] at hz
    injection hz with hz
    rw [List.getElem?_eq_getElem hci, hz]
  obtain ⟨f, hf⟩ := Go.Deep.choose_lt each
  refine ⟨(List.range n).map f, by simp, ?_, ?_⟩
  · apply List.ext_getElem (by simp [hl])
    intro i h1 h2
    have := (hf i (by omega)).1
    rw [List.getElem?_eq_getElem h1] at this
    injection this with this
    rw [this]
    simp
  · intro z hz
    simp only [List.mem_map, List.mem_range] at hz
    obtain ⟨i, hi, rfl⟩ := hz
    exact (hf i hi).2
end
set_option maxRecDepth 100000 in
theorem open_u8x3 {H : Type} {enc : TypeId × Value → H} {W : World} {r : Reach} {b0 : Nat} {t e : TypeId} {v : Value} {d : DataW H} {p : List MemPlace} (ht : Try.prog.underlying t = some (.array 3 e)) (he : Try.prog.underlying e = some (.int .u8)) (hc : Try.prog.cellsOf e = 1) (hct : Try.prog.cellsOf t = 3)
    (hv : Value.okWide Try.prog W r b0 t v) (h : DataW.Trod enc Try.prog W 0 (fun _ => true) true t v d p) : ∃ x y z : UInt8, v = .agg #[.int .u8 (x.toNat : Int), .int .u8 (y.toNat : Int), .int .u8 (z.toNat : Int)] := by
  obtain ⟨cs, rfl, _⟩ := okWide_array ht hv
  obtain ⟨fuel, hf⟩ := h
  obtain ⟨zs, hl, hcs, hw⟩ := trod_int_array ht he hc hct hf
  match zs, hl with
  | [a, b, c], _ =>
    obtain ⟨x, rfl⟩ := wf_u8 (hw a (by simp))
    obtain ⟨y, rfl⟩ := wf_u8 (hw b (by simp))
    obtain ⟨z, rfl⟩ := wf_u8 (hw c (by simp))
    refine ⟨x, y, z, ?_⟩
    have : cs = ([Value.int .u8 (x.toNat : Int), .int .u8 (y.toNat : Int), .int .u8 (z.toNat : Int)]).toArray := by
      rw [← Array.toList_inj]
      exact hcs
    rw [this]
end Go.Proofs.Ytfpglkacjecoeaa
