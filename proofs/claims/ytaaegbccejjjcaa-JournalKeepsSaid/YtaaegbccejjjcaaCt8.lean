/- Several texts in one: A region that draws its order and ends in a store of what it loads: what is known of the world is asked up to the store alone. No program in sight. Steps at a disk: a sector is loaded, a sector is stored in the cache. -/
import Derived.Test.YtaaegbccejjjcaaChecked
import Derived.StillTail
import Derived.Deep.RegionHeld
import Derived.Test.YtaaegbccejjjcaaCt7
import Derived.Laws.Cover3
namespace Go.Proofs.Ytaaegbccejjjcaa
open Go
section
variable {P : Program} {ops : Array Oper} {Q : Exit → Act → World → Prop} {md : Region.Mode} {S : World → Prop} {t : Nat}

/-- All orders from here on; S holds behind every operation, as long as number t has not come up. -/
def wpAnyT (P : Program) (md : Region.Mode) (ops : Array Oper) (Q : Exit → Act → World → Prop) (S : World → Prop) (t : Nat) : Nat → Array Bool → Act → World → Prop
  | 0, listed, a, w => Region.ready md ops listed = [] ∧ Q .normal a w
  | f + 1, listed, a, w =>
    (Region.ready md ops listed = [] → Q .normal a w) ∧
    ∀ i ∈ Region.ready md ops listed, wpOp P ops Q i (fun a' w' => ((listed.setIfInBounds i true).getD t true = false → S w') ∧ wpAnyT P md ops Q S t f (listed.setIfInBounds i true) a' w') a w
theorem wpAny_of_T : ∀ (f : Nat) (listed : Array Bool) (a : Act) (w : World), wpAnyT P md ops Q S t f listed a w → wpAny P md ops Q f listed a w
  | 0, _, _, _, h => h
  | f + 1, _, _, _, h => ⟨h.1, fun i hi => wpOp_mono (fun a' w' h' => wpAny_of_T f _ a' w' h'.2) (h.2 i hi)⟩
/-- Number i first: it yields its value in every world that meets S', which is known here and wherever i has not come up. -/
theorem firstT {S' : World → Prop} {I : Array Bool → Prop} {i : Nat} {oi : Oper} {v : Value} (hi : ops[i]? = some oi) (hsel : ∀ (j : Nat) (o : Oper) cs b, ops[j]? = some o → o.op ≠ .select cs b)
    (hQ : ∀ c a w, Q (.panic c) (a.put oi.dst v) w → Q (.panic c) a w)
    (hI : ∀ (listed : Array Bool) (j : Nat), I listed → i ∈ Region.ready md ops listed → j ∈ Region.ready md ops listed → j ≠ i → I (listed.setIfInBounds j true))
    (hS' : ∀ (listed : Array Bool) (j : Nat) (w : World), I listed → i ∈ Region.ready md ops listed → j ∈ Region.ready md ops listed → j ≠ i → (((listed.setIfInBounds i true).setIfInBounds j true).getD t true = false → S w) → S' w ∧ ((listed.setIfInBounds j true).getD t true = false → S w)) :
    ∀ (f : Nat) (listed : Array Bool) (a : Act) (w : World), I listed →
      (∀ j oj, ops[j]? = some oj → j ≠ i → listed.getD j true = false → (∀ e ∈ oj.after, Region.binds md e = true → e.on ≠ i) → oi.apart ops oj = true) →
      i ∈ Region.ready md ops listed → YieldsIf P ops S' oi v a → S' w → ((listed.setIfInBounds i true).getD t true = false → S w) →
      wpAnyT P md ops Q S t f (listed.setIfInBounds i true) (a.put oi.dst v) w → wpAnyT P md ops Q S t (f + 1) listed a w := by
  intro f
  induction f with
  | zero =>
    intro listed a w hIl _ hr hy hw hSw H
    refine ⟨fun h => (by rw [h] at hr; cases hr), fun j hj => ?_⟩
    by_cases hji : j = i
    · subst hji
      exact hy.wpOp hi hw ⟨hSw, H⟩
    · have h0 := ready_mono hj hji
      rw [H.1] at h0
      cases h0
  | succ f ih =>
    intro listed a w hIl hfree hr hy hw hSw H
    refine ⟨fun h => (by rw [h] at hr; cases hr), fun j hj => ?_⟩
    by_cases hji : j = i
    · subst hji
      exact hy.wpOp hi hw ⟨hSw, H⟩
    · have h1 := H.2 j (ready_mono hj hji)
      obtain ⟨hjun, oj, hoj, hall⟩ := mem_ready.1 hj
      have hnot : ∀ e ∈ oj.after, Region.binds md e = true → e.on ≠ i := fun e he hb heq => by
        have h2 := hall e he hb
        rw [heq, getD_both (mem_ready.1 hr).1] at h2
        cases h2
      have h2 := wpOp_putIf hoj (hfree j oj hoj hji hjun hnot) (fun cs b => hsel i oi cs b hi) (fun cs b => hsel j oj cs b hoj) hQ hy h1
      have hfree' : ∀ k ok, ops[k]? = some ok → k ≠ i → (listed.setIfInBounds j true).getD k true = false →
          (∀ e ∈ ok.after, Region.binds md e = true → e.on ≠ i) → oi.apart ops ok = true := fun k ok hk hki hun hno => by
        refine hfree k ok hk hki ?_ hno
        by_cases hjk : j = k
        · subst hjk; exact hjun
        · rw [getD_set_ne true hjk] at hun; exact hun
      have hcomm : (listed.setIfInBounds i true).setIfInBounds j true = (listed.setIfInBounds j true).setIfInBounds i true := Array.setIfInBounds_comm _ _ (Ne.symm hji)
      refine wpOp_mono (fun a' w' h3 => ?_) h2
      refine ⟨(hS' listed j w' hIl hr hj hji h3.2.1).2, ih (listed.setIfInBounds j true) a' w' (hI listed j hIl hr hj hji) hfree' (ready_mono hr (Ne.symm hji)) h3.1 (hS' listed j w' hIl hr hj hji h3.2.1).1 (fun h => h3.2.1 (by rw [hcomm]; exact h)) ?_⟩
      rw [← hcomm]
      exact h3.2.2
theorem getD_set_in {listed : Array Bool} {i j : Nat} (h : listed.getD i true = false) (hne : j ≠ i) : (listed.setIfInBounds j true).getD i true = false := by rw [getD_set_ne true hne]; exact h
/-- While number i has not come up, number t, which waits for it, cannot come up. -/
theorem late_ne {i j : Nat} {listed : Array Bool} (hw : Region.waitsFor md ops t i = true) (hr : i ∈ Region.ready md ops listed) (hj : j ∈ Region.ready md ops listed) : j ≠ t := by
  rintro rfl
  obtain ⟨_, oj, hoj, hall⟩ := mem_ready.1 hj
  obtain ⟨o', ho', e, he, hb, hon⟩ := Region.waitsFor_spec hw
  have : o' = oj := Option.some.inj (ho'.symm.trans hoj)
  subst this
  have h2 := hall e he hb
  rw [hon, getD_both (mem_ready.1 hr).1] at h2
  cases h2
/-- Take number i, which number t waits for, first. -/
theorem takeT {i : Nat} {oi : Oper} {v : Value} {f : Nat} {listed : Array Bool} {a : Act} {w : World} (hi : ops[i]? = some oi)
    (hs : Region.noSelect ops = true) (hf : Region.free md ops listed i = true) (hr : (Region.ready md ops listed).contains i = true) (hw : Region.waitsFor md ops t i = true) (hti : t ≠ i)
    (hQ : ∀ c a w, Q (.panic c) (a.put oi.dst v) w → Q (.panic c) a w) (ht : listed.getD t true = false) (hy : YieldsIf P ops S oi v a) (hS : S w)
    (h : wpAnyT P md ops Q S t f (listed.setIfInBounds i true) (a.put oi.dst v) w) : wpAnyT P md ops Q S t (f + 1) listed a w :=
  firstT (S' := S) (I := fun listed => listed.getD t true = false) hi (Region.noSelect_spec hs) hQ
    (fun _ j hl hr hj _ => getD_set_in hl (late_ne hw hr hj))
    (fun _ j w' hl hr hj hji h1 => by
      have hjt := late_ne hw hr hj
      have h2 := h1 (getD_set_in (getD_set_in hl (Ne.symm hti)) hjt)
      exact ⟨h2, fun _ => h2⟩)
    f listed a w ht (Region.free_spec hi hf) (by simpa using hr) hy hS (fun _ => hS) h
/-- Take number i, which yields in whatever world, first. -/
theorem pureT {i : Nat} {oi : Oper} {v : Value} {f : Nat} {listed : Array Bool} {a : Act} {w : World} (hi : ops[i]? = some oi)
    (hs : Region.noSelect ops = true) (hf : Region.free md ops listed i = true) (hr : (Region.ready md ops listed).contains i = true) (hti : t ≠ i)
    (hQ : ∀ c a w, Q (.panic c) (a.put oi.dst v) w → Q (.panic c) a w) (hy : YieldsIf P ops (fun _ => True) oi v a) (hS : listed.getD t true = false → S w)
    (h : wpAnyT P md ops Q S t f (listed.setIfInBounds i true) (a.put oi.dst v) w) : wpAnyT P md ops Q S t (f + 1) listed a w :=
  firstT (S' := fun _ => True) (I := fun _ => True) hi (Region.noSelect_spec hs) hQ
    (fun _ _ _ _ _ _ => trivial)
    (fun l j w' _ _ _ hji h1 => ⟨trivial, fun h2 => h1 (by
      rw [Array.setIfInBounds_comm _ _ (Ne.symm hji)]
      exact getD_set_in h2 (Ne.symm hti))⟩)
    f listed a w trivial (Region.free_spec hi hf) (by simpa using hr) hy trivial (fun h2 => hS (by rwa [getD_set_ne true (Ne.symm hti)] at h2)) h
/-- Number i, alone, comes up. -/
theorem oneT {i : Nat} {o : Oper} {f : Nat} {listed : Array Bool} {a : Act} {w : World} (hi : ops[i]? = some o) (hr : Region.ready md ops listed = [i])
    (h : ∀ K' : Act → World → Prop, Shut (∀ a w, ((listed.setIfInBounds i true).getD t true = false → S w) → wpAnyT P md ops Q S t f (listed.setIfInBounds i true) a w → K' a w) → if Region.wanted o (yielded ops a.tmps) = true then Oper.wp P o a w K' Q else K' (a.put o.dst undef) w) :
    wpAnyT P md ops Q S t (f + 1) listed a w := by
  refine ⟨fun h0 => (by rw [h0] at hr; cases hr), fun j hj => ?_⟩
  rw [hr] at hj
  have e : j = i := by simpa using hj
  subst e
  exact wpOp_step hi (fun K' hK => h K' (fun a w hS hW => hK a w ⟨hS, hW⟩))
/-- All have come up. -/
theorem doneT {listed : Array Bool} {a : Act} {w : World} (hr : Region.ready md ops listed = []) (h : Q .normal a w) : ∀ f, wpAnyT P md ops Q S t f listed a w
  | 0 => ⟨hr, h⟩
  | _ + 1 => ⟨fun _ => h, by rw [hr]; simp⟩
theorem wp_region_T (t : Nat) {id n : Nat} {a : Act} {w : World} (hn : ops.size = n) (hm : P.follows .mixedOrders = true) (h : wpAnyT P .any ops Q S t n (Array.replicate n false) a w.drew) : (Code.region id ops true).wp P Q a w := by
  subst hn
  exact wp_region_any hm (wpAny_of_T _ _ _ _ h)
end
end Go.Proofs.Ytaaegbccejjjcaa
namespace Go.Proofs.Ytaaegbccejjjcaa
open Go.RowKit Go.Maps

theorem map_under : Try.prog.underlying 63 = some (.map 3 81) := by kernel_rfl
theorem int_under5 : Try.prog.underlying 3 = some (.int .i64) := by kernel_rfl
theorem sec_under : Try.prog.underlying 81 = some (.array 64 5) := by kernel_rfl
theorem int_key5 : Keyed Try.prog 3 := int_keyed int_under5
theorem lk_of {i : Int} (h1 : 0 ≤ i) (h2 : i < 65536) : keyOf Try.prog 3 (.int .i64 i) = some (lk i) := keyOf_int_mk int_under5 (by
  have a : decide (IntKind.i64.min ≤ i) = true := decide_eq_true (by have : IntKind.i64.min = -9223372036854775808 := rfl; omega)
  have c : decide (i ≤ IntKind.i64.max) = true := decide_eq_true (by have : IntKind.i64.max = 9223372036854775807 := rfl; omega)
  show (decide (IntKind.i64.min ≤ i) && decide (i ≤ IntKind.i64.max)) = true
  rw [a, c]
  rfl)
/-- A list lies away from the disk. -/
def Awy (g m b : Nat) (A : Option Addr) : Prop := ∀ p, A = some p → p.block ≠ g ∧ p.block ≠ m ∧ p.block ≠ b
theorem Dk.put {w w' : World} {g m b n : Nat} {D : DataW Nat} {d : Disks.D} (h : Dk w g m b n D d) {i : Nat} (hi : i < d.cac.length) (s : List UInt8) (hm : w'.ownsMap Try.prog 3 secR b (n + 1) (D.put (lk i) (.lit (.string s)))) (ht : w.mapTurned w' b) :
    Dk w' g m b (n + 1) (D.put (lk i) (.lit (.string s))) { d with cac := d.cac.set i (some s) } := by
  have hg := ht.grown
  exact ⟨(hg.block g h.lt (fun e => h.gb (by injection e))).trans h.box, h.md.same hg.size (hg.block m h.md.lt (fun e => h.mb (by injection e))), hm, h.tie.put h.mp.isMap hi s, h.gm, h.gb, h.mb⟩
theorem Bs.range {w : World} {A : Option Addr} {n c : Nat} {l : List UInt8} (h : Bs w A n c l) (hn : 0 < n) : ∃ k o, A = some ⟨k, o, none⟩ ∧ w.rangeAt k o (bcells l) := by
  obtain ⟨k, o, e, hc⟩ := h.rd.2 hn
  exact ⟨k, o, e, fun j v hv => hc j v hv⟩
theorem Bs.kp {w w' : World} {A : Option Addr} {n c : Nat} {l : List UInt8} {g m b : Nat} (h : Bs w A n c l) (hk : Kp g m b w w') (ha : Awy g m b A) : Bs w' A n c l := by
  refine ⟨h.len, h.le, h.max, h.rd.1, fun hn => ?_⟩
  obtain ⟨k, o, e, hc⟩ := h.rd.2 hn
  refine ⟨k, o, e, fun j v hv => ?_⟩
  have q := hc j v hv
  obtain ⟨a1, a2, a3⟩ := ha _ e
  rw [← q]
  exact World.cell?_of_block (hk.block k (World.block_lt_of_cell? _ _ q) a1 a2 a3)
set_option maxRecDepth 100000 in
theorem sec_load (W : World) (k o : Nat) (l : List UInt8) (hl : l.length = 64) (h : W.rangeAt k o (bcells l)) : (Instr.loadAt 81 (.pointer (some ⟨k, o, none⟩))).run Try.prog W = .ok (.agg (bcells l).toArray) W := by
  have hi : (Try.prog.info? 81).map (·.size) = some (bcells l).length := by
    rw [show (bcells l).length = 64 by simp [bcells, hl]]
    exact sec_info
  simp only [Instr.loadAt, Instr.sureAddr, Sem.run_bind, Sem.run_pure, Result.andThen_ok, run_loadVar_mid W k o 81 (bcells l) (.array 64 5) h sec_under (by decide) hi]
set_option maxRecDepth 100000 in
theorem Dk.store {w : World} {g m b n : Nat} {D : DataW Nat} {d : Disks.D} (h : Dk w g m b n D d) (hn : n < maxLen) {j : Nat} (hj : j < d.cac.length) (h6 : j < 65536) (l : List UInt8) (hl : l.length = 64) :
    ∃ w3, (Instr.mapUpdate 63 (.map (some b)) (.int .i64 (j : Int)) (.agg (bcells l).toArray)).run Try.prog w = .ok () w3 ∧ Dk w3 g m b (n + 1) (D.put (lk j) (.lit (.string l))) { d with cac := d.cac.set j (some l) } ∧ Kp g m b w w3 := by
  have hk := lk_of (i := (j : Int)) (by omega) (by omega)
  have hv : secR (.agg (bcells l).toArray) = some (.lit (.string l), []) := secR_mk hl
  obtain ⟨w3, r1, r2, r3⟩ := h.mp.store int_key5 map_under hn hk hv
  exact ⟨w3, r1, h.put hj l r2 r3, (Kp.refl g m b w).grown r3.grown (fun k e => .inr (.inr (.inl (by injection e with e; exact e.symm))))⟩
end Go.Proofs.Ytaaegbccejjjcaa
