/- Several texts in one: Words of our own for memory that is read, and small facts on bytes; no statement of the seat is proved here. Lists of whole numbers, in plain words. No program in sight. Slices of int: how they read. More words for memory: stores into what is new, rows that grow, draws. No statement of the seat is proved here. Slices of slices of bytes: how they read, and how they are written. No statement of the seat is proved here. -/
import Derived.Test.YtfpcldkfmcnjkaaChecked
import Derived.Test.YtfpcldkfmcnjkaaCt1
import Derived.WalkKit
import Derived.WalkLawsBesides
import Derived.WalkSpells
import Derived.BigQuiet
import Derived.Lib.Hide
import Derived.Deep.DeepFit
import Derived.Deep.LoopGhost
import Derived.Deep.OwnShut
import Derived.Deep.Light
import Derived.Deep.RegionWith
import Derived.Deep.RegionHeld3
import Derived.BigRegion
import Derived.Deep.AppendLies
import Derived.Maps.AppendAt
namespace Go.Proofs.Ytfpcldkfmcnjkaa
open Go.RowKit

theorem ret_int {k : IntKind} {a b : Int} (h : a = b) : Ending.returned (.int k a) = .returned (.int k b) := by rw [h]
theorem ret_bool {a b : Bool} (h : a = b) : Ending.returned (.bool a) = .returned (.bool b) := by rw [h]

theorem ret_ii {k l : IntKind} {a b c d : Int} (h : a = b) (h' : c = d) : Ending.returned (.tuple #[.int k a, .int l c]) = .returned (.tuple #[.int k b, .int l d]) := by rw [h, h']

theorem xor_u8 (x y : UInt8) : bits .xor .u8 (x.toNat : Int) (y.toNat : Int) = ((x ^^^ y).toNat : Int) := by
  rw [u8_xor_nat _ _ x.toNat_lt y.toNat_lt, UInt8.toNat_xor]
theorem eq_u8 (x y : UInt8) : ((x.toNat : Int) == (y.toNat : Int)) = (x == y) := by
  by_cases h : x = y
  · subst h; simp
  · have h1 : x.toNat ≠ y.toNat := fun e => h (UInt8.toNat_inj.1 e)
    have h2 : (x.toNat : Int) ≠ (y.toNat : Int) := by omega
    rw [beq_eq_false_iff_ne.2 h, beq_eq_false_iff_ne.2 h2]
theorem ne_u8 (x y : UInt8) : ((x.toNat : Int) != (y.toNat : Int)) = (x != y) := by
  unfold bne; rw [eq_u8]
theorem u8_zero (x : UInt8) (h : x = 0) : ((x.toNat : Int) == 0) = true := by subst h; rfl
theorem u8_nonzero (x : UInt8) (h : x ≠ 0) : ((x.toNat : Int) == 0) = false := by
  have := eq_u8 x 0
  rw [beq_eq_false_iff_ne.2 h] at this
  exact this
theorem u8_zero' (x : UInt8) (h : x = 0) : ((x.toNat : Int) != 0) = false := by unfold bne; rw [u8_zero x h]; rfl
theorem u8_nonzero' (x : UInt8) (h : x ≠ 0) : ((x.toNat : Int) != 0) = true := by unfold bne; rw [u8_nonzero x h]; rfl
theorem u8_int_lt (x : UInt8) : (x.toNat : Int) < 256 := by have := x.toNat_lt; omega
theorem xor_i64 (a b : Nat) (ha : a < 2 ^ 62) (hb : b < 2 ^ 62) : bits .xor .i64 (a : Int) (b : Int) = ((a ^^^ b : Nat) : Int) := by
  have hx : a ^^^ b < 2 ^ 62 := Nat.xor_lt_two_pow ha hb
  show IntKind.i64.wrap ((BitVec.ofInt 64 (a : Int) ^^^ BitVec.ofInt 64 (b : Int)).toNat : Int) = _
  rw [BitVec.toNat_xor, ofInt_u64 a (by omega), ofInt_u64 b (by omega), IntWalk.i64_in _ (by omega)]
theorem wrap_u8_nat (n : Nat) : IntKind.u8.wrap (n : Int) = ((UInt8.ofNat n).toNat : Int) := by
  rw [IntKind.wrap_u8']
  simp

/-- The world has grown: what was there is as it was. -/
abbrev Ext (w w' : World) : Prop := Below w.heap.size w w'
theorem Ext.refl (w : World) : Ext w w := Below.refl _ _
theorem Ext.trans {a b c : World} (h : Ext a b) (k : Ext b c) : Ext a c := Below.trans h (Below.mono k h.size)
theorem Ext.cell {w w' : World} (h : Ext w w') {p : Addr} {v : Value} (hc : w.cell? p = some v) : w'.cell? p = some v := by
  rw [Below.cell h (World.block_lt_of_cell? _ _ hc)]; exact hc
theorem Ext.frozen {w w' : World} (h : Ext w w') {p : Addr} {v : Value} (hc : w.cell? p = some v) : w'.frozen? p = w.frozen? p :=
  Below.frozen h (World.block_lt_of_cell? _ _ hc)
theorem Ext.drewN (w : World) (n : Nat) : Ext w (w.drewN n) := ⟨rfl, rfl, rfl, Nat.le_refl _, fun _ _ => rfl⟩
theorem Ext.thenDrewN {w w1 : World} (h : Ext w w1) (n : Nat) : Ext w (w1.drewN n) := Ext.trans h (Ext.drewN w1 n)
theorem Ext.alloc (w : World) (o : Obj) : Ext w (w.alloc o) := (Below.refl _ _).alloc (Nat.le_refl _) o
theorem Ext.thenAlloc {w w1 : World} (h : Ext w w1) (o : Obj) : Ext w (w1.alloc o) := Ext.trans h (Ext.alloc w1 o)

/-- The world has moved on by draws alone. -/
def Dr (w w' : World) : Prop := ∃ q, w' = w.drewN q
theorem Dr.refl (w : World) : Dr w w := ⟨0, rfl⟩
theorem Dr.more {w w' : World} (h : Dr w w') (n : Nat) : Dr w (w'.drewN n) := by obtain ⟨q, rfl⟩ := h; exact ⟨q + n, World.drewN_drewN _ _ _⟩
theorem Dr.ext {w w' : World} (h : Dr w w') : Ext w w' := by obtain ⟨q, rfl⟩ := h; exact Ext.drewN _ _
theorem Dr.trans {a b c : World} (h : Dr a b) (k : Dr b c) : Dr a c := by obtain ⟨q, rfl⟩ := k; exact h.more q

/-- A slice's address and length: its cells are xs (elements of 'size' cells). -/
def Rd (w : World) (size : Nat) (A : Option Addr) (n : Nat) (xs : List Value) : Prop :=
  xs.length = n * size ∧ (0 < n → ∃ b off, A = some ⟨b, off, none⟩ ∧ ∀ j u, xs[j]? = some u → w.cell? ⟨b, off + j, none⟩ = some u)
theorem Rd.ext {w w' : World} {size n : Nat} {A : Option Addr} {xs : List Value} (h : Rd w size A n xs) (hx : Ext w w') : Rd w' size A n xs :=
  ⟨h.1, fun hn => by
    obtain ⟨b, off, e, hc⟩ := h.2 hn
    exact ⟨b, off, e, fun j u hu => hx.cell (hc j u hu)⟩⟩
theorem Rd.nil (w : World) (size : Nat) (A : Option Addr) : Rd w size A 0 [] := ⟨by simp, fun h => absurd h (by omega)⟩
theorem Rd.of_own {w : World} {base size n c : Nat} {e : TypeId} {A : Option Addr} {xs : List Value} (h : w.ownsRow base e size (.slice A n c) n xs) : Rd w size A n xs := by
  refine ⟨h.1, fun hn => ?_⟩
  rcases h.2 with ⟨h1, h2⟩ | ⟨g, cap, cur, hv, _, hg, _, _, _, ht⟩
  · omega
  · injection hv with hA hn' hc
    subst hA
    refine ⟨g, 0, rfl, fun j u hu => ?_⟩
    have := h.cells (g := g) rfl j u hu
    have e : (⟨g, 0, none⟩ : Addr).add j = ⟨g, j, none⟩ := by unfold Addr.add; split <;> simp_all
    rw [e] at this
    simpa using this
theorem Rd.at_ {w : World} {n : Nat} {A : Option Addr} {xs : List Value} (h : Rd w 1 A n xs) {k : Nat} (hk : k < n) :
    ∃ b off u, A = some ⟨b, off, none⟩ ∧ xs[k]? = some u ∧ w.cell? ⟨b, off + k, none⟩ = some u := by
  obtain ⟨b, off, e, hc⟩ := h.2 (by omega)
  have hl : k < xs.length := by have := h.1; omega
  exact ⟨b, off, xs[k], e, List.getElem?_eq_getElem hl, hc k _ (List.getElem?_eq_getElem hl)⟩

theorem Rd.lit (w : World) (cs : Array Value) (t : TypeId) : Rd (w.alloc (.cells cs t)) 1 (some ⟨w.heap.size, 0, none⟩) cs.size cs.toList := by
  refine ⟨by simp, fun _ => ⟨w.heap.size, 0, rfl, fun j u hu => ?_⟩⟩
  rw [Nat.zero_add, World.cell?_alloc_new]
  simpa using hu

/-- Bytes as cells. -/
def bcells (l : List UInt8) : List Value := l.map fun x => .int .u8 (x.toNat : Int)
theorem bcells_length (l : List UInt8) : (bcells l).length = l.length := by simp [bcells]
theorem bcells_append (l m : List UInt8) : bcells (l ++ m) = bcells l ++ bcells m := by simp [bcells]
theorem bcells_one (l : List UInt8) : ∀ u ∈ bcells l, u.oneCell' = true := by
  intro u hu
  simp only [bcells, List.mem_map] at hu
  obtain ⟨x, _, rfl⟩ := hu
  rfl
theorem Rd.byte {w : World} {n : Nat} {A : Option Addr} {l : List UInt8} (h : Rd w 1 A n (bcells l)) {k : Nat} (hk : k < n) :
    ∃ b off, A = some ⟨b, off, none⟩ ∧ w.cell? ⟨b, off + k, none⟩ = some (.int .u8 ((Gf.get l k).toNat : Int)) := by
  obtain ⟨b, off, u, e, hu, hc⟩ := h.at_ hk
  refine ⟨b, off, e, ?_⟩
  rw [hc]
  simp only [bcells, List.getElem?_map, Option.map_eq_some_iff] at hu
  obtain ⟨x, hx, rfl⟩ := hu
  simp [Gf.get, hx]

/-- A slice of bytes. -/
structure Bs (w : World) (A : Option Addr) (n c : Nat) (l : List UInt8) : Prop where
  len : l.length = n
  le : n ≤ c
  max : c ≤ 9223372036854775807
  rd : Rd w 1 A n (bcells l)
theorem Bs.ext {w w' : World} {A : Option Addr} {n c : Nat} {l : List UInt8} (h : Bs w A n c l) (hx : Ext w w') : Bs w' A n c l := ⟨h.len, h.le, h.max, h.rd.ext hx⟩

/-- A slice of the call's own: in a block from 'base' on, or none. -/
structure Own (base : Nat) (w : World) (e : TypeId) (size : Nat) (A : Option Addr) (n c : Nat) (xs : List Value) : Prop where
  own : w.ownsRow base e size (.slice A n c) n xs
theorem Own.rd {base n c size : Nat} {w : World} {e : TypeId} {A : Option Addr} {xs : List Value} (h : Own base w e size A n c xs) : Rd w size A n xs := Rd.of_own h.own
theorem ownsRow_slice {w : World} {base size n : Nat} {e : TypeId} {v : Value} {xs : List Value} (h : w.ownsRow base e size v n xs) : ∃ A c, v = .slice A n c ∧ n ≤ c ∧ c ≤ 9223372036854775807 := by
  rcases h.2 with ⟨rfl, rfl⟩ | ⟨g, cap, cur, rfl, _, _, h1, h2, _⟩
  · exact ⟨_, _, rfl, Nat.le_refl _, by omega⟩
  · exact ⟨_, _, rfl, h1, by unfold maxLen at h2; omega⟩
theorem Own.caps {base n c size : Nat} {w : World} {e : TypeId} {A : Option Addr} {xs : List Value} (h : Own base w e size A n c xs) : n ≤ c ∧ c ≤ 9223372036854775807 := by
  rcases h.own.2 with ⟨h1, h2⟩ | ⟨g, cap, cur, h1, _, _, h2, h3, _⟩
  · injection h1 with _ h3 h4
    omega
  · injection h1 with _ h4 h5
    unfold maxLen at h3
    omega
theorem Own.bs {base n c : Nat} {w : World} {e : TypeId} {A : Option Addr} {l : List UInt8} (h : Own base w e 1 A n c (bcells l)) : Bs w A n c l :=
  ⟨by have := h.own.1; rw [bcells_length] at this; omega, h.caps.1, h.caps.2, h.rd⟩
theorem own_addr {w : World} {base size n c : Nat} {e : TypeId} {A : Option Addr} {xs : List Value} (h : w.ownsRow base e size (.slice A n c) n xs) (hn : 0 < n) : ∃ g, A = some ⟨g, 0, none⟩ ∧ base ≤ g ∧ g < w.heap.size := by
  obtain ⟨g, cap, hv, h1, h2⟩ := h.form hn
  injection hv with hA
  exact ⟨g, hA, h1, h2⟩
theorem ownsRow_ext {w w' : World} {base size n : Nat} {e : TypeId} {v : Value} {xs : List Value} (h : w.ownsRow base e size v n xs) (hx : Ext w w') : w'.ownsRow base e size v n xs := by
  refine ⟨h.1, ?_⟩
  rcases h.2 with h1 | ⟨g, cap, cur, h1, h2, h3, h4⟩
  · exact .inl h1
  · refine .inr ⟨g, cap, cur, h1, h2, ?_, h4⟩
    rw [hx.block g ?_]
    · exact h3
    · rcases Nat.lt_or_ge g w.heap.size with hl | hl
      · exact hl
      · rw [Array.getElem?_eq_none hl] at h3; cases h3
theorem Own.ext {base n c size : Nat} {w w' : World} {e : TypeId} {A : Option Addr} {xs : List Value} (h : Own base w e size A n c xs) (hx : Ext w w') : Own base w' e size A n c xs := ⟨ownsRow_ext h.own hx⟩
theorem ownsRow_base {w : World} {base base' size n : Nat} {e : TypeId} {v : Value} {xs : List Value} (h : w.ownsRow base e size v n xs) (hb : base' ≤ base) : w.ownsRow base' e size v n xs := by
  refine ⟨h.1, ?_⟩
  rcases h.2 with h1 | ⟨g, cap, cur, h1, h2, h4⟩
  · exact .inl h1
  · exact .inr ⟨g, cap, cur, h1, by omega, h4⟩
/-- What was owned from 'base' on may be written: what lies below stays. -/
theorem Ext.ofGrown {w0 w w' : World} {row : Option Nat} (h : Ext w0 w) (hg : w.grownBy w' row) (hr : ∀ k, row = some k → w0.heap.size ≤ k) : Ext w0 w' := Below.grown h hg h.size hr
theorem own_row {w : World} {base size n : Nat} {e : TypeId} {v : Value} {xs : List Value} (h : w.ownsRow base e size v n xs) : ∀ k, v.ownBlock = some k → base ≤ k := fun k hk => (h.lt k hk).1

section append
variable {P : Program} (w : World)
theorem addr_add (b off j : Nat) : (⟨b, off, none⟩ : Addr).add j = ⟨b, off + j, none⟩ := by unfold Addr.add; split <;> simp_all
theorem run_append_none (base : Nat) (t ty e : TypeId) (i : TypeInfo) (size : Nat) (ht : P.underlying t = some (.slice e)) (hi : P.info? e = some i)
    (v : Value) (n : Nat) (xs : List Value) (hown : w.ownsRow base e size v n xs) (c : Nat) : (Builtin.append_ #[t, t] ty #[v, .slice none 0 c]).run P w = .ok v w := by
  rcases hown.2 with ⟨rfl, rfl⟩ | ⟨g, cap, cur, rfl, _, _, hnc, _⟩
  · simp [Builtin.append_, run_underlying ht, sizeOf, typeInfo, hi, Builtin.lenOf, Builtin.firstCells]
  · simp [Builtin.append_, run_underlying ht, sizeOf, typeInfo, hi, Builtin.lenOf, Builtin.firstCells, hnc, storeCells]
theorem run_append_rd (base : Nat) (t ty e : TypeId) (i : TypeInfo) (z : Value) (size bytes : Nat) (ht : P.underlying t = some (.slice e)) (hi : P.info? e = some i) (hz : i.zero = some z)
    (hsize : i.size = size) (hby : i.bytes = bytes) (hzs : z.cells.size = size) (hsz : 0 < size)
    (v : Value) (n : Nat) (xs : List Value) (hown : w.ownsRow base e size v n xs)
    (A : Option Addr) (m c : Nat) (news : List Value) (hr : Rd w size A m news) (h1 : ∀ u ∈ news, u.oneCell' = true)
    (hbytes : (n + m) * bytes ≤ 140737488355328) (h63 : n + m ≤ maxLen) (hbase : base ≤ w.heap.size) :
    ∃ v' w', (Builtin.append_ #[t, t] ty #[v, .slice A m c]).run P w = .ok v' w' ∧ w'.ownsRow base e size v' (n + m) (xs ++ news) ∧ w.grownBy w' v.ownBlock ∧
      (v'.ownBlock = v.ownBlock ∨ v'.ownBlock = some w.heap.size) := by
  rcases A with _ | ad
  · have hm : m = 0 := by
      rcases Nat.eq_zero_or_pos m with h0 | h0
      · exact h0
      · obtain ⟨b, off, h, _⟩ := hr.2 h0
        cases h
    subst hm
    have hn : news = [] := List.eq_nil_of_length_eq_zero (by simpa using hr.1)
    subst hn
    exact ⟨v, w, run_append_none w base t ty e i size ht hi v n xs hown c, by simpa using hown, World.grownBy.refl w _, .inl rfl⟩
  · have hcells : ∀ j u, news[j]? = some u → w.cell? (ad.add j) = some u := by
      intro j u hu
      rcases Nat.eq_zero_or_pos m with h0 | h0
      · subst h0
        have hn : news = [] := List.eq_nil_of_length_eq_zero (by simpa using hr.1)
        subst hn
        simp at hu
      · obtain ⟨b, off, h, hc⟩ := hr.2 h0
        injection h with h
        subst h
        rw [addr_add]
        exact hc j u hu
    obtain ⟨v', w', hrun, h2, h3, _, h5⟩ := run_append_own_at (P := P) w base t ty e i z size bytes ht hi hz hsize hby hzs hsz v n xs hown ad m c news hr.1 hcells h1 h63 hbytes hbase
    exact ⟨v', w', hrun, h2, h3, h5⟩

/-- 'append(s, x...)', s of the call's own, x whatever can be read. -/
theorem wp_append_rd {o : Oper} {a : Act} {K : Act → World → Prop} {Q : Exit → Act → World → Prop} (s x : Operand) (t : TypeId)
    (ho : o.op = .call { callee := .builtin .append, args := #[s, x], argTypes := #[t, t] })
    (base : Nat) (e : TypeId) (i : TypeInfo) (z : Value) (size bytes : Nat) (ht : P.underlying t = some (.slice e)) (hi : P.info? e = some i) (hz : i.zero = some z)
    (hsize : i.size = size) (hby : i.bytes = bytes) (hzs : z.cells.size = size) (hsz : 0 < size)
    (v : Value) (n : Nat) (xs : List Value) (hs : a.eval s = v) (hown : w.ownsRow base e size v n xs)
    (A : Option Addr) (m c : Nat) (news : List Value) (hx : a.eval x = .slice A m c) (hr : Rd w size A m news) (h1 : ∀ u ∈ news, u.oneCell' = true)
    (hbytes : (n + m) * bytes ≤ 140737488355328) (h63 : n + m ≤ maxLen) (hbase : base ≤ w.heap.size)
    (h : ∀ v' w', w'.ownsRow base e size v' (n + m) (xs ++ news) → w.grownBy w' v.ownBlock → (v'.ownBlock = v.ownBlock ∨ v'.ownBlock = some w.heap.size) → K (a.put o.dst v') w') : o.wp P a w K Q := by
  obtain ⟨v', w', hrun, h2, h3, h4⟩ := run_append_rd (P := P) w base t o.type e i z size bytes ht hi hz hsize hby hzs hsz v n xs hown A m c news hr h1 hbytes h63 hbase
  unfold Oper.wp execOp
  simp only [ho, resolve, invoke, builtin, Sem.run_bind, Sem.run_pure, Result.andThen_ok, List.map_toArray, List.map_cons, List.map_nil, hs, hx, hrun]
  exact h v' w' h2 h3 h4
theorem wpList_append_rd {ops : Array Oper} {rest : List Oper} {o : Oper} {a : Act} {Q : Exit → Act → World → Prop} (hgd : o.guard = none) (s x : Operand) (t : TypeId)
    (ho : o.op = .call { callee := .builtin .append, args := #[s, x], argTypes := #[t, t] })
    (base : Nat) (e : TypeId) (i : TypeInfo) (z : Value) (size bytes : Nat) (ht : P.underlying t = some (.slice e)) (hi : P.info? e = some i) (hz : i.zero = some z)
    (hsize : i.size = size) (hby : i.bytes = bytes) (hzs : z.cells.size = size) (hsz : 0 < size)
    (v : Value) (n : Nat) (xs : List Value) (hs : a.eval s = v) (hown : w.ownsRow base e size v n xs)
    (A : Option Addr) (m c : Nat) (news : List Value) (hx : a.eval x = .slice A m c) (hr : Rd w size A m news) (h1 : ∀ u ∈ news, u.oneCell' = true)
    (hbytes : (n + m) * bytes ≤ 140737488355328) (h63 : n + m ≤ maxLen) (hbase : base ≤ w.heap.size)
    (h : ∀ v' w', w'.ownsRow base e size v' (n + m) (xs ++ news) → w.grownBy w' v.ownBlock → (v'.ownBlock = v.ownBlock ∨ v'.ownBlock = some w.heap.size) → wpList P ops Q rest (a.put o.dst v') w') : wpList P ops Q (o :: rest) a w :=
  wpList_plain hgd fun _ hK => wp_append_rd w s x t ho base e i z size bytes ht hi hz hsize hby hzs hsz v n xs hs hown A m c news hx hr h1 hbytes h63 hbase fun v' w' h2 h3 h4 => hK _ _ (h v' w' h2 h3 h4)
end append

/-- Bytes as a text. -/
def textOf (l : List UInt8) : ByteArray := ⟨l.toArray⟩
theorem strOfNums_text (l : List UInt8) : strOfNums (l.map fun x => (x.toNat : Int)) = textOf l := by
  have h : (l.map fun x => (x.toNat : Int)).map (fun n => UInt8.ofNat n.toNat) = l := by
    induction l with
    | nil => rfl
    | cons x l ih => rw [List.map_cons, List.map_cons, ih, Int.toNat_natCast, UInt8.ofNat_toNat]
  unfold strOfNums textOf
  rw [h]
theorem run_text {P : Program} (w : World) (src dst e : TypeId) (hs : P.underlying src = some (.slice e)) (he : P.underlying e = some (.int .u8)) (hd : P.underlying dst = some .string)
    (A : Option Addr) (n c : Nat) (l : List UInt8) (h : Bs w A n c l) : (convert src dst (.slice A n c)).run P w = .ok (.string (textOf l)) w := by
  rcases A with _ | ad
  · have hl : l = [] := by
      rcases Nat.eq_zero_or_pos n with h0 | h0
      · exact List.eq_nil_of_length_eq_zero (by rw [h.len]; exact h0)
      · obtain ⟨b, off, h, _⟩ := h.rd.2 h0
        cases h
    rw [run_convert_bytes_nil w src e hs he _ _ dst hd, hl]
    rfl
  · by_cases h0 : 0 < n
    · obtain ⟨b, off, hA, hc⟩ := h.rd.2 h0
      injection hA with hA
      subst hA
      rw [run_convert_bytes_arg w src e hs he b off n c (l.map fun x => (x.toNat : Int)) (by simp [h.len]) ?_ dst hd, strOfNums_text]
      intro i hi
      have hil : i < l.length := by rw [h.len]; exact hi
      rw [hc i (.int .u8 (l[i].toNat : Int)) (by simp [bcells, hil])]
      simp [hil]
    · have hn : n = 0 := by omega
      subst hn
      have hl : l = [] := List.eq_nil_of_length_eq_zero h.len
      subst hl
      have hld : (loadCells ad 0).run P w = .ok (([] : List Int).map (Value.int .u8)).toArray w := by simpa using run_loadCells_list (P := P) w ad [] (fun j v hj => by simp at hj)
      rw [run_convert_bytes_string w src dst e _ 0 c hs he hd, run_bytesToString w ad 0 c [] hld]
      rfl
theorem text_eq (l m : List UInt8) : ((textOf l).toList == (textOf m).toList) = (l == m) := by
  have h : ∀ l : List UInt8, (textOf l).toList = l := fun l => by
    unfold textOf
    exact ByteArray.toList_mk l
  rw [h, h]

/-- The first bytes of a slice of bytes. -/
theorem Bs.take {w : World} {A : Option Addr} {n c k : Nat} {l : List UInt8} (h : Bs w A n c l) (hk : k ≤ n) : Bs w A k c (l.take k) := by
  refine ⟨by rw [List.length_take, h.len]; omega, by have := h.le; omega, h.max, ?_, fun h0 => ?_⟩
  · rw [bcells_length, List.length_take, h.len]; omega
  · obtain ⟨b, off, e, hc⟩ := h.rd.2 (by omega)
    refine ⟨b, off, e, fun j u hu => hc j u ?_⟩
    simp only [bcells, List.getElem?_map, List.getElem?_take] at hu ⊢
    split at hu
    · exact hu
    · simp at hu
end Go.Proofs.Ytfpcldkfmcnjkaa
namespace Il

/-- The number at a place; nought where there is none. -/
def get (l : List Int) (k : Nat) : Int := l.getD k 0
theorem get_of_lt {l : List Int} {k : Nat} (h : k < l.length) : get l k = l[k] := by simp [get, h]
theorem get_of_ge {l : List Int} {k : Nat} (h : l.length ≤ k) : get l k = 0 := by simp [get, h]
theorem ext_get {l m : List Int} (hl : l.length = m.length) (h : ∀ k, k < l.length → get l k = get m k) : l = m := by
  apply List.ext_getElem hl
  intro i h1 h2
  have := h i h1
  rwa [get_of_lt h1, get_of_lt h2] at this
theorem get_map_range {n k : Nat} (f : Nat → Int) (h : k < n) : get ((List.range n).map f) k = f k := by simp [get, h]
theorem get_set {l : List Int} {k i : Nat} (v : Int) (hk : k < l.length) : get (l.set k v) i = if k = i then v else get l i := by
  unfold get
  rw [List.getD_eq_getElem?_getD, List.getD_eq_getElem?_getD, List.getElem?_set]
  by_cases e : k = i
  · rw [if_pos e, if_pos e, if_pos hk]; rfl
  · rw [if_neg e, if_neg e]
theorem get_mem {l : List Int} {k : Nat} (h : k < l.length) : get l k ∈ l := by rw [get_of_lt h]; exact List.getElem_mem h
theorem mem_get {l : List Int} {x : Int} (h : x ∈ l) : ∃ k, k < l.length ∧ get l k = x := by
  obtain ⟨k, hk, e⟩ := List.mem_iff_getElem.1 h
  exact ⟨k, hk, by rw [get_of_lt hk, e]⟩
theorem get_take {l : List Int} {n k : Nat} (h : k < n) : get (l.take n) k = get l k := by
  unfold get
  rw [List.getD_eq_getElem?_getD, List.getD_eq_getElem?_getD, List.getElem?_take, if_pos h]

/-- Where a number first is; less than nought where it is not. -/
def idx (l : List Int) (v : Int) : Int := if l.findIdx (· == v) < l.length then (l.findIdx (· == v) : Int) else -1
theorem idx_found {l : List Int} {v : Int} {k : Nat} (hk : k < l.length) (he : get l k = v) (hno : ∀ j, j < k → get l j ≠ v) : idx l v = (k : Int) := by
  have h : l.findIdx (· == v) = k := by
    rw [List.findIdx_eq hk]
    refine ⟨?_, fun j hj => ?_⟩
    · rw [← get_of_lt hk, he]; simp
    · have := hno j hj
      rw [get_of_lt (by omega)] at this
      simpa using this
  unfold idx
  rw [h, if_pos hk]
theorem idx_none {l : List Int} {v : Int} (hno : ∀ j, j < l.length → get l j ≠ v) : idx l v = -1 := by
  unfold idx
  rw [if_neg]
  intro h
  have h1 := List.findIdx_getElem (w := h)
  have h2 := hno _ h
  rw [get_of_lt h] at h2
  simp only [beq_iff_eq] at h1
  exact h2 h1
theorem idx_cases (l : List Int) (v : Int) : (∃ k, k < l.length ∧ idx l v = (k : Int) ∧ get l k = v ∧ ∀ j, j < k → get l j ≠ v) ∨ (idx l v = -1 ∧ ∀ j, j < l.length → get l j ≠ v) := by
  by_cases h : l.findIdx (· == v) < l.length
  · refine .inl ⟨_, h, ?_, ?_, fun j hj e => ?_⟩
    · unfold idx; rw [if_pos h]
    · have h1 := List.findIdx_getElem (w := h)
      rw [get_of_lt h]
      simpa using h1
    · have h2 := List.not_of_lt_findIdx hj
      rw [get_of_lt (by omega)] at e
      rw [e] at h2
      simp at h2
  · refine .inr ⟨?_, fun j hj e => ?_⟩
    · unfold idx; rw [if_neg h]
    · apply h
      have hm : ∃ x ∈ l, (x == v) = true := ⟨get l j, get_mem hj, by rw [e]; simp⟩
      exact List.findIdx_lt_length.2 hm
theorem idx_lt (l : List Int) (v : Int) : idx l v < l.length := by
  rcases idx_cases l v with ⟨k, hk, h, _⟩ | ⟨h, _⟩ <;> rw [h] <;> omega
theorem idx_ge (l : List Int) (v : Int) : -1 ≤ idx l v := by
  rcases idx_cases l v with ⟨k, hk, h, _⟩ | ⟨h, _⟩ <;> rw [h] <;> omega
theorem idx_mem (l : List Int) (v : Int) : (0 ≤ idx l v) ↔ v ∈ l := by
  rcases idx_cases l v with ⟨k, hk, h, e, _⟩ | ⟨h, e⟩
  · rw [h]
    exact ⟨fun _ => by rw [← e]; exact get_mem hk, fun _ => by omega⟩
  · rw [h]
    refine ⟨fun h => by omega, fun hm => ?_⟩
    obtain ⟨k, hk, e'⟩ := mem_get hm
    exact absurd e' (e k hk)
end Il
namespace Go.Proofs.Ytfpcldkfmcnjkaa
open Go.RowKit

/-- Whole numbers as cells. -/
def icells (l : List Int) : List Value := l.map fun x => .int .i64 x
theorem icells_length (l : List Int) : (icells l).length = l.length := by simp [icells]
theorem icells_append (l m : List Int) : icells (l ++ m) = icells l ++ icells m := by simp [icells]
theorem icells_set (l : List Int) (k : Nat) (x : Int) : icells (l.set k x) = (icells l).set k (.int .i64 x) := by simp [icells, List.map_set]
theorem icells_get {l : List Int} {k : Nat} (h : k < l.length) : (icells l)[k]? = some (.int .i64 (Il.get l k)) := by simp [icells, Il.get, h]
theorem icells_one (l : List Int) : ∀ u ∈ icells l, u.oneCell' = true := by
  intro u hu
  simp only [icells, List.mem_map] at hu
  obtain ⟨x, _, rfl⟩ := hu
  rfl
theorem Rd.intAt {w : World} {n : Nat} {A : Option Addr} {l : List Int} (h : Rd w 1 A n (icells l)) {k : Nat} (hk : k < n) :
    ∃ b off, A = some ⟨b, off, none⟩ ∧ w.cell? ⟨b, off + k, none⟩ = some (.int .i64 (Il.get l k)) := by
  obtain ⟨b, off, u, e, hu, hc⟩ := h.at_ hk
  refine ⟨b, off, e, ?_⟩
  rw [hc]
  simp only [icells, List.getElem?_map, Option.map_eq_some_iff] at hu
  obtain ⟨x, hx, rfl⟩ := hu
  simp [Il.get, hx]
/-- A slice of int. -/
structure Is (w : World) (A : Option Addr) (n c : Nat) (l : List Int) : Prop where
  len : l.length = n
  le : n ≤ c
  max : c ≤ 9223372036854775807
  rd : Rd w 1 A n (icells l)
theorem Is.ext {w w' : World} {A : Option Addr} {n c : Nat} {l : List Int} (h : Is w A n c l) (hx : Ext w w') : Is w' A n c l := ⟨h.len, h.le, h.max, h.rd.ext hx⟩
theorem Is.take {w : World} {A : Option Addr} {n c k : Nat} {l : List Int} (h : Is w A n c l) (hk : k ≤ n) : Is w A k c (l.take k) := by
  refine ⟨by rw [List.length_take, h.len]; omega, by have := h.le; omega, h.max, ?_, fun h0 => ?_⟩
  · rw [icells_length, List.length_take, h.len]; omega
  · obtain ⟨b, off, e, hc⟩ := h.rd.2 (by omega)
    refine ⟨b, off, e, fun j u hu => hc j u ?_⟩
    simp only [icells, List.getElem?_map, List.getElem?_take] at hu ⊢
    split at hu
    · exact hu
    · simp at hu
theorem Is.none (w : World) : Is w none 0 0 [] := ⟨rfl, Nat.le_refl _, by omega, Rd.nil _ _ _⟩
theorem Is.nil_of_none {w : World} {n c : Nat} {l : List Int} (h : Is w .none n c l) : l = [] := by
  rcases Nat.eq_zero_or_pos n with h0 | h0
  · exact List.eq_nil_of_length_eq_zero (by rw [h.len]; exact h0)
  · obtain ⟨b, off, h, _⟩ := h.rd.2 h0
    cases h
theorem Is.lit (w : World) (g : Nat) (hg : w.heap.size = g) (l : List Int) (cs : Array Value) (t : TypeId) (n : Nat) (hn : l.length = n) (h : cs.toList = icells l) (hl : n ≤ 1000) : Is (w.alloc (.cells cs t)) (some ⟨g, 0, .none⟩) n n l := by
  subst hn
  subst hg
  have hs : cs.size = l.length := by rw [← Array.length_toList, h, icells_length]
  refine ⟨rfl, Nat.le_refl _, by omega, ?_⟩
  have := Rd.lit w cs t
  rwa [h, hs] at this

theorem int_info : (Try.prog.info? 3).map (fun i => (i.zero, i.size, i.bytes)) = some (some (.int .i64 0), 1, 8) := by kernel_rfl
/-- A list of int handed back in memory of the call's own. -/
structure NewInts (w w' : World) (v : Value) (l : List Int) : Prop where
  own : w'.ownsRow w.heap.size 3 1 v l.length (icells l)
  ext : Ext w w'
theorem Own.ints {base n c : Nat} {w : World} {e : TypeId} {A : Option Addr} {l : List Int} (h : Own base w e 1 A n c (icells l)) : Is w A n c l :=
  ⟨by have := h.own.1; rw [icells_length] at this; omega, h.caps.1, h.caps.2, h.rd⟩
theorem NewInts.is {w w' : World} {v : Value} {l : List Int} (h : NewInts w w' v l) : ∃ A c, v = .slice A l.length c ∧ Is w' A l.length c l := by
  obtain ⟨A, c, rfl, _, _⟩ := ownsRow_slice h.own
  exact ⟨A, c, rfl, (Own.mk (base := w.heap.size) (e := 3) h.own).ints⟩

end Go.Proofs.Ytfpcldkfmcnjkaa
namespace Go.Proofs.Ytfpcldkfmcnjkaa
open Go.RowKit

theorem Ext.set_ {w w1 : World} (h : Ext w w1) {p : Addr} (hp : w.heap.size ≤ p.block) (v : Value) : Ext w (w1.setCell p v) := Below.setCell h hp v
/-- A row of one's own is not touched by a store below. -/
theorem ownsRow_far {w : World} {base size n : Nat} {e : TypeId} {v : Value} {xs : List Value} (h : w.ownsRow base e size v n xs) {p : Addr} (hp : p.block < base) (u : Value) : (w.setCell p u).ownsRow base e size v n xs := ownsRow_setCell_below h hp u

theorem Is.grown {w w' : World} {A : Option Addr} {n c : Nat} {l : List Int} (h : Is w A n c l) {row : Option Nat} (hg : w.grownBy w' row) (ho : 0 < n → ∀ b, (A.map (·.block)) = some b → row ≠ some b) : Is w' A n c l := by
  refine ⟨h.len, h.le, h.max, h.rd.1, fun hn => ?_⟩
  obtain ⟨b, off, e, hc⟩ := h.rd.2 hn
  refine ⟨b, off, e, fun j u hu => hg.cell (hc j u hu) ?_⟩
  subst e
  exact fun e => ho hn b rfl e.symm
/-- Another row of the call's own grows. -/
theorem ownsRow_grown {w w' : World} {base size n : Nat} {e : TypeId} {v : Value} {xs : List Value} {row : Option Nat} (h : w.ownsRow base e size v n xs) (hg : w.grownBy w' row) (hv : v.ownBlock = none ∨ v.ownBlock ≠ row) : w'.ownsRow base e size v n xs := by
  refine ⟨h.1, ?_⟩
  rcases h.2 with h1 | ⟨b, cap, cur, h1, h2, h3, h4⟩
  · exact .inl h1
  · refine .inr ⟨b, cap, cur, h1, h2, ?_, h4⟩
    have hb : b < w.heap.size := (Array.getElem?_eq_some_iff.1 h3).1
    rw [hg.block b hb ?_]
    · exact h3
    · intro e
      subst h1
      rcases hv with hv | hv
      · simp [Value.ownBlock] at hv
      · exact hv (by simpa [Value.ownBlock] using e)
/-- Two rows of the call's own that are apart. -/
theorem apart_symm {u v : Value} (h : u.ownBlock = none ∨ u.ownBlock ≠ v.ownBlock) : v.ownBlock = none ∨ v.ownBlock ≠ u.ownBlock := by
  rcases h with h | h
  · rw [h]
    cases hv : v.ownBlock with
    | none => exact .inl rfl
    | some q => exact .inr (by simp)
  · exact .inr (Ne.symm h)
theorem apart_step {u v v' : Value} {N : Nat} (h : u.ownBlock = none ∨ u.ownBlock ≠ v.ownBlock) (hat : v'.ownBlock = v.ownBlock ∨ v'.ownBlock = some N) (hlt : ∀ q, u.ownBlock = some q → q < N) : u.ownBlock = none ∨ u.ownBlock ≠ v'.ownBlock := by
  rcases hat with e | e <;> rw [e]
  · exact h
  · exact .inr (fun hu => by have := hlt _ hu; omega)
theorem cell_two (w : World) (x y : Value) (t s : TypeId) : ((w.alloc (.cells #[x] t)).alloc (.cells #[y] s)).cell? ⟨w.heap.size + 1, 0, none⟩ = some y := by
  have h : w.heap.size + 1 = (w.alloc (.cells #[x] t)).heap.size := by simp
  rw [h, World.cell?_alloc_new]; rfl
theorem Ext.drew (w : World) : Ext w w.drew := Below.drew (Ext.refl w)
theorem Ext.thenDrew {w w1 : World} (h : Ext w w1) : Ext w w1.drew := h.trans (Ext.drew _)
theorem Is.up {w : World} {A : Option Addr} {n c : Nat} {l : List Int} (h : Is w A n c l) (o : Obj) : Is (w.alloc o) A n c l := h.ext (Ext.alloc _ _)
theorem Is.drw {w : World} {A : Option Addr} {n c : Nat} {l : List Int} (h : Is w A n c l) : Is w.drew A n c l := h.ext (Ext.drew _)
theorem Is.drwN {w : World} {A : Option Addr} {n c : Nat} {l : List Int} (h : Is w A n c l) (q : Nat) : Is (w.drewN q) A n c l := h.ext (Ext.drewN _ _)
/-- One number, written out. -/
theorem is_one (w : World) (t : TypeId) (k : Int) {g : Nat} (hg : w.heap.size = g) : Is (w.alloc (.cells #[.int .i64 k] t)) (some ⟨g, 0, none⟩) 1 1 [k] := Is.lit w g hg [k] _ t 1 rfl rfl (by omega)
end Go.Proofs.Ytfpcldkfmcnjkaa
namespace Go.Proofs.Ytfpcldkfmcnjkaa
open Go.RowKit

/-- Cells that are slices, each of which reads as a row. -/
structure Rows (w : World) (cs : List Value) (m : Gm.L) : Prop where
  len : cs.length = m.length
  at_ : ∀ i, i < m.length → ∃ A n c, cs[i]? = some (.slice A n c) ∧ Bs w A n c (Gm.row m i)
theorem Rows.ext {w w' : World} {cs : List Value} {m : Gm.L} (h : Rows w cs m) (hx : Ext w w') : Rows w' cs m :=
  ⟨h.len, fun i hi => by obtain ⟨A, n, c, e, hb⟩ := h.at_ i hi; exact ⟨A, n, c, e, hb.ext hx⟩⟩
theorem Rows.nil (w : World) : Rows w [] [] := ⟨rfl, fun _ h => absurd h (Nat.not_lt_zero _)⟩
theorem row_append_last (m : Gm.L) (r : List UInt8) : Gm.row (m ++ [r]) m.length = r := by simp [Gm.row]
theorem row_append_lt {m : Gm.L} {i : Nat} (r : List UInt8) (h : i < m.length) : Gm.row (m ++ [r]) i = Gm.row m i := by simp [Gm.row, List.getD_eq_getElem?_getD, List.getElem?_append_left h]
theorem Rows.snoc {w : World} {cs : List Value} {m : Gm.L} (h : Rows w cs m) {A : Option Addr} {n c : Nat} {r : List UInt8} (hb : Bs w A n c r) : Rows w (cs ++ [.slice A n c]) (m ++ [r]) := by
  refine ⟨by simp [h.len], fun i hi => ?_⟩
  rw [List.length_append] at hi
  by_cases e : i < m.length
  · obtain ⟨A', n', c', e', hb'⟩ := h.at_ i e
    refine ⟨A', n', c', ?_, by rw [row_append_lt _ e]; exact hb'⟩
    rw [List.getElem?_append_left (by rw [h.len]; exact e)]
    exact e'
  · have hi' : i = m.length := by simp at hi; omega
    subst hi'
    refine ⟨A, n, c, ?_, by rw [row_append_last]; exact hb⟩
    rw [← h.len, List.getElem?_append_right (Nat.le_refl _)]
    simp
theorem Rows.one {w : World} {cs : List Value} {m : Gm.L} (h : Rows w cs m) : ∀ u ∈ cs, u.oneCell' = true := by
  intro u hu
  obtain ⟨i, hi, e⟩ := List.mem_iff_getElem.1 hu
  obtain ⟨A, n, c, e', _⟩ := h.at_ i (by rw [← h.len]; exact hi)
  rw [List.getElem?_eq_getElem hi] at e'
  injection e' with e'
  rw [← e, e']
  rfl
theorem Rows.set {w : World} {cs : List Value} {m : Gm.L} (h : Rows w cs m) (i : Nat) {A : Option Addr} {n c : Nat} {r : List UInt8} (hb : Bs w A n c r) : Rows w (cs.set i (.slice A n c)) (m.set i r) := by
  refine ⟨by simp [h.len], fun j hj => ?_⟩
  rw [List.length_set] at hj
  by_cases e : i = j
  · subst e
    exact ⟨A, n, c, by rw [List.getElem?_set, if_pos rfl, if_pos (by rw [h.len]; exact hj)], by rw [Gm.row_set _ hj, if_pos rfl]; exact hb⟩
  · obtain ⟨A', n', c', e', hb'⟩ := h.at_ j hj
    refine ⟨A', n', c', by rw [List.getElem?_set, if_neg e]; exact e', ?_⟩
    have : Gm.row (m.set i r) j = Gm.row m j := by
      unfold Gm.row
      rw [List.getD_eq_getElem?_getD, List.getD_eq_getElem?_getD, List.getElem?_set, if_neg e]
    rw [this]; exact hb'
/-- A slice of slices of bytes. -/
structure Mx (w : World) (A : Option Addr) (n c : Nat) (m : Gm.L) : Prop where
  len : m.length = n
  le : n ≤ c
  max : c ≤ 9223372036854775807
  rd : ∃ cs, Rd w 1 A n cs ∧ Rows w cs m
theorem Mx.ext {w w' : World} {A : Option Addr} {n c : Nat} {m : Gm.L} (h : Mx w A n c m) (hx : Ext w w') : Mx w' A n c m := by
  obtain ⟨cs, h1, h2⟩ := h.rd
  exact ⟨h.len, h.le, h.max, cs, h1.ext hx, h2.ext hx⟩
theorem Mx.at_ {w : World} {A : Option Addr} {n c : Nat} {m : Gm.L} (h : Mx w A n c m) {i : Nat} (hi : i < n) :
    ∃ b off Ai ni ci, A = some ⟨b, off, .none⟩ ∧ w.cell? ⟨b, off + i, .none⟩ = some (.slice Ai ni ci) ∧ Bs w Ai ni ci (Gm.row m i) := by
  obtain ⟨cs, h1, h2⟩ := h.rd
  obtain ⟨Ai, ni, ci, e, hb⟩ := h2.at_ i (by rw [h.len]; exact hi)
  obtain ⟨b, off, u, hA, hu, hc⟩ := h1.at_ hi
  rw [e] at hu
  injection hu with hu
  subst hu
  exact ⟨b, off, Ai, ni, ci, hA, hc, hb⟩
theorem Mx.none (w : World) : Mx w none 0 0 [] := ⟨rfl, Nat.le_refl _, by omega, [], Rd.nil _ _ _, Rows.nil _⟩
theorem Mx.own {w : World} {base : Nat} {e : TypeId} {v : Value} {m : Gm.L} {cs : List Value} (h : w.ownsRow base e 1 v m.length cs) (hr : Rows w cs m) : ∃ A c, v = .slice A m.length c ∧ Mx w A m.length c m := by
  obtain ⟨A, c, rfl, h1, h2⟩ := ownsRow_slice h
  exact ⟨A, c, rfl, rfl, h1, h2, cs, Rd.of_own h, hr⟩
theorem bytes_info : (Try.prog.info? 22).map (fun i => (i.zero, i.size, i.bytes)) = some (some (.slice none 0 0), 1, 24) := by kernel_rfl
/-- A matrix is handed back. -/
def GivesM (m : Gm.L) (w : World) (e : Ending) (w' : World) : Prop := ∃ A c, e = .returned (.slice A m.length c) ∧ Mx w' A m.length c m ∧ Ext w w'
/-- A matrix is handed back, with an error. -/
def GivesME (m : Gm.L) (err : Int) (w : World) (e : Ending) (w' : World) : Prop := ∃ A c, e = .returned (.tuple #[.slice A m.length c, .int .i64 err]) ∧ Mx w' A m.length c m ∧ Ext w w'
theorem GivesME.of {m m' : Gm.L} {e e' : Int} {w : World} {x : Ending} {w' : World} (h : GivesME m e w x w') (hm : m = m') (he : e = e') : GivesME m' e' w x w' := by rw [← hm, ← he]; exact h

/-- A matrix whose outer row is block g, whole; its rows are in no block of a kind. -/
structure Mo (w : World) (g n : Nat) (P : Nat → Prop) (m : Gm.L) : Prop where
  len : m.length = n
  blk : ∃ cs : Array Value, w.heap[g]? = some (.cells cs 22 (0, 0)) ∧ cs.size = n ∧ Rows w cs.toList m ∧ ∀ (i : Nat) (A : Option Addr) (k c : Nat), cs[i]? = some (.slice A k c) → 0 < k → ∀ b, A.map (·.block) = some b → ¬ P b
section
variable {w w' : World} {g n : Nat} {P : Nat → Prop} {m : Gm.L}
theorem Mo.lt (h : Mo w g n P m) : g < w.heap.size := by
  obtain ⟨cs, h1, _⟩ := h.blk
  exact (Array.getElem?_eq_some_iff.1 h1).1
theorem Mo.ext (h : Mo w g n P m) (hx : Ext w w') : Mo w' g n P m := by
  obtain ⟨cs, h1, h2, h3, h4⟩ := h.blk
  exact ⟨h.len, cs, (hx.block g h.lt).trans h1, h2, h3.ext hx, h4⟩
theorem Mo.at_ (h : Mo w g n P m) {i : Nat} (hi : i < n) : ∃ A k c, w.cell? ⟨g, i, none⟩ = some (.slice A k c) ∧ Bs w A k c (Gm.row m i) ∧ (0 < k → ∀ b, A.map (·.block) = some b → ¬ P b) := by
  obtain ⟨cs, h1, h2, h3, h4⟩ := h.blk
  obtain ⟨A, k, c, e, hb⟩ := h3.at_ i (by rw [h.len]; exact hi)
  have e' : cs[i]? = some (.slice A k c) := by simpa using e
  exact ⟨A, k, c, by rw [cell_of_row w _ _ _ _ _ h1]; simpa using e', hb, h4 i A k c e'⟩
theorem Mo.fz (h : Mo w g n P m) (j : Nat) : w.frozen? ⟨g, j, none⟩ = false := by
  obtain ⟨cs, h1, _⟩ := h.blk
  exact frozen_of_row w _ _ _ _ h1
theorem Mo.mx (h : Mo w g n P m) (hn : n ≤ 1000000) : Mx w (some ⟨g, 0, none⟩) n n m := by
  obtain ⟨cs, h1, h2, h3, _⟩ := h.blk
  refine ⟨h.len, Nat.le_refl _, by omega, cs.toList, ⟨by simp [h2], fun _ => ⟨g, 0, rfl, fun j u hu => ?_⟩⟩, h3⟩
  rw [Nat.zero_add, cell_of_row w _ _ _ _ _ h1]
  simpa using hu
theorem Bs.far {A : Option Addr} {k c : Nat} {r : List UInt8} (h : Bs w A k c r) {q : Addr} (hq : 0 < k → ∀ b, A.map (·.block) = some b → q.block ≠ b) (u : Value) : Bs (w.setCell q u) A k c r := by
  refine ⟨h.len, h.le, h.max, h.rd.1, fun hk => ?_⟩
  obtain ⟨b, o, e, hc⟩ := h.rd.2 hk
  subst e
  refine ⟨b, o, rfl, fun j x hx => ?_⟩
  rw [World.cell?_setCell_other _ _ _ _ (fun e => hq hk b rfl (by rw [e]))]
  exact hc j x hx
theorem Rows.far {cs : List Value} (h : Rows w cs m) {q : Addr} (hq : ∀ (i : Nat) (A : Option Addr) (k c : Nat), cs[i]? = some (.slice A k c) → 0 < k → ∀ b, A.map (·.block) = some b → q.block ≠ b) (u : Value) : Rows (w.setCell q u) cs m :=
  ⟨h.len, fun i hi => by obtain ⟨A, k, c, e, hb⟩ := h.at_ i hi; exact ⟨A, k, c, e, hb.far (hq i A k c e) u⟩⟩
/-- A store into another block of the kind. -/
theorem Mo.far (h : Mo w g n P m) {q : Addr} (hq : P q.block) (hg : q.block ≠ g) (u : Value) : Mo (w.setCell q u) g n P m := by
  obtain ⟨cs, h1, h2, h3, h4⟩ := h.blk
  refine ⟨h.len, cs, (heap_setCell_other w q g u (fun e => hg e.symm)).trans h1, h2, h3.far (fun i A k c e hk b hb e' => ?_) u, h4⟩
  exact h4 i A k c (by simpa using e) hk b hb (e' ▸ hq)
/-- A row is stored. -/
theorem Mo.set (h : Mo w g n P m) (hg : P g) {i : Nat} {A : Option Addr} {k c : Nat} {r : List UInt8} (hb : Bs w A k c r) (hp : 0 < k → ∀ b, A.map (·.block) = some b → ¬ P b) : Mo (w.setCell ⟨g, i, none⟩ (.slice A k c)) g n P (m.set i r) := by
  obtain ⟨cs, h1, h2, h3, h4⟩ := h.blk
  have hb' := hb.far (q := ⟨g, i, .none⟩) (fun hk b e e' => hp hk b e (by show P b; rw [← e']; exact hg)) (.slice A k c)
  have hr := h3.far (q := ⟨g, i, .none⟩) (fun j A k c e hk b hb e' => h4 j A k c (by simpa using e) hk b hb (by show P b; rw [← e']; exact hg)) (.slice A k c)
  refine ⟨by rw [List.length_set]; exact h.len, cs.setIfInBounds i (.slice A k c), heap_setCell_same w g i _ _ _ h1, by simp [h2], ?_, ?_⟩
  · have := hr.set i hb'
    simpa using this
  · intro j A' k' c' e hk b hb2
    rw [Array.getElem?_setIfInBounds] at e
    split at e
    · split at e
      · injection e with e
        injection e with e1 e2 e3
        subst e1 e2
        exact hp hk b hb2
      · cases e
    · exact h4 j A' k' c' e hk b hb2
theorem Mo.mono {P' : Nat → Prop} (h : Mo w g n P m) (hp : ∀ b, b < w.heap.size → P' b → P b) : Mo w g n P' m := by
  obtain ⟨cs, h1, h2, h3, h4⟩ := h.blk
  refine ⟨h.len, cs, h1, h2, h3, fun i A k c e hk b hb hP => h4 i A k c e hk b hb (hp b ?_ hP)⟩
  obtain ⟨A', k', c', e', hb'⟩ := h3.at_ i (by have := (Array.getElem?_eq_some_iff.1 e).1; rw [h.len, ← h2]; exact this)
  rw [show cs.toList[i]? = cs[i]? by simp, e] at e'
  injection e' with e'
  injection e' with e1 e2 e3
  subst e1 e2 e3
  obtain ⟨b', o, eA, hc⟩ := hb'.rd.2 hk
  subst eA
  injection hb with hb
  obtain ⟨_, o2, e3, hc2⟩ := hb'.rd.byte hk
  injection e3 with e3
  injection e3 with e3 e4
  have := World.block_lt_of_cell? _ _ hc2
  rw [← hb]
  have h9 : b' < w.heap.size := by rw [e3]; exact this
  exact h9
end
end Go.Proofs.Ytfpcldkfmcnjkaa
