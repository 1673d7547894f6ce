/- Several texts in one: A region that draws its order and whose last operation waits for all others: its other operations may be walked by themselves, the last one behind them. No program in sight. The contract of what matrix.cleared does to a list of rows: changed about and scaled. The contract of what matrix.cleared does to a list of rows: a row is cleared by the leading one. -/
import Derived.Test.YtfpglkacjecoeaaGreatChecked
import Derived.StillTail
import Derived.Deep.RegionHeld
import Derived.Test.YtfpglkacjecoeaaGreatCt16
import Derived.Deep.DrawnRows
import Derived.Deep.DeepCutAuto
namespace Go.Proofs.YtfpglkacjecoeaaGreat
open Go
section
variable {P : Program} {Q : Exit → Act → World → Prop} {S : World → Prop}

/-- What is asked behind all but the last one. -/
def Qt (P : Program) (ops : Array Oper) (Q : Exit → Act → World → Prop) (o : Oper) : Exit → Act → World → Prop
  | .normal, a, w => wpList P ops Q [o] a w
  | ex, a, w => Q ex a w
theorem Qt.exit {ops : Array Oper} {o : Oper} {ex : Exit} {a : Act} {w : World} (hne : ex ≠ .normal) (h : Qt P ops Q o ex a w) : Q ex a w := by
  cases ex <;> first | exact absurd rfl hne | exact h
/-- Edges lead to earlier operations; guards too; the last one waits for all. -/
def lastB (l : List Oper) (o : Oper) : Bool :=
  Region.sinkB .any (l ++ [o]).toArray l.length && Region.chainB .any (l ++ [o]).toArray l.length &&
  ((List.range (l.length + 1)).all fun i => (((l ++ [o])[i]?).map fun x => x.after.all fun e => decide (e.on < i)).getD true) &&
  (l.all fun x => match x.guard with | some (j, _) => decide (j < l.length) | none => true)
theorem wp_exits {o : Oper} {a : Act} {w : World} {K K' : Act → World → Prop} {Q' : Exit → Act → World → Prop} (h : ∀ a w, K a w → K' a w) (hQ : ∀ ex a w, ex ≠ .normal → Q ex a w → Q' ex a w)
    (hh : o.wp P a w K Q) : o.wp P a w K' Q' := by
  have hout : LetsOut Q → LetsOut Q' := fun ⟨a, w, h⟩ => ⟨a, w, hQ _ _ _ (by intro e; cases e) h⟩
  unfold Oper.wp at *
  generalize (execOp a.eval o).run P w = r at *
  cases r with
  | ok n w' =>
    cases n <;> simp only [Oper.upon] at hh ⊢
    case value => exact h _ _ hh
    case skip => exact h _ _ hh
    case defer => exact h _ _ hh
    case enter => exact Calls.mono hh (fun e w'' he => by
      cases e with
      | returned u => exact h _ _ he
      | panicked c => exact hQ _ _ _ (by intro e; cases e) he
      | outgrown => exact hout he)
    case row => exact Rows.mono hh (fun _ _ he => h _ _ he)
  | halt x w' =>
    cases x <;> simp only [Oper.upon] at hh ⊢
    case panic => exact hQ _ _ _ (by intro e; cases e) hh
theorem getD_agree {listed : Array Bool} {i : Nat} (h : i < listed.size) : listed.getD i true = listed.getD i false := by simp [h]
/-- The walk of all orders of the others serves for the whole. -/
theorem wpAny_last {l : List Oper} {o : Oper} (hB : lastB l o = true) :
    ∀ (f : Nat) (listed : Array Bool) (a : Act) (w : World), HeadInv .any (l ++ [o]).toArray l.length listed → wpAny P .any l.toArray (Qt P (l ++ [o]).toArray Q o) f listed a w → wpAny P .any (l ++ [o]).toArray Q (f + 1) listed a w := by
  have hB' := hB
  unfold lastB at hB'
  simp only [Bool.and_eq_true] at hB'
  obtain ⟨⟨⟨hs, hc⟩, hlow⟩, hg⟩ := hB'
  have low : ∀ (i : Nat) (x : Oper), (l ++ [o])[i]? = some x → ∀ e ∈ x.after, e.on < i := fun i x hx e he => by
    have hi : i < l.length + 1 := by have := (List.getElem?_eq_some_iff.1 hx).1; simpa using this
    have h1 := List.all_eq_true.1 hlow i (List.mem_range.2 hi)
    rw [hx] at h1
    simp only [Option.map_some, Option.getD_some, Array.all_eq_true_iff_forall_mem, decide_eq_true_eq] at h1
    exact h1 e he
  have same : ∀ i, i < l.length → (l ++ [o]).toArray[i]? = l.toArray[i]? := fun i hi => by simp [List.getElem?_append_left hi]
  have lastAt : (l ++ [o]).toArray[l.length]? = some o := by simp
  -- who is ready
  have toHead : ∀ (listed : Array Bool) (i : Nat), i < l.length → i ∈ Region.ready .any (l ++ [o]).toArray listed → i ∈ Region.ready .any l.toArray listed := fun listed i hi h => by
    obtain ⟨h1, x, hx, h2⟩ := mem_ready.1 h
    exact mem_ready.2 ⟨h1, x, by rw [← same i hi]; exact hx, h2⟩
  have toAll : ∀ (listed : Array Bool) (i : Nat), i ∈ Region.ready .any l.toArray listed → i < l.length ∧ i ∈ Region.ready .any (l ++ [o]).toArray listed := fun listed i h => by
    obtain ⟨h1, x, hx, h2⟩ := mem_ready.1 h
    have hi : i < l.length := by have := (Array.getElem?_eq_some_iff.1 hx).1; simpa using this
    exact ⟨hi, mem_ready.2 ⟨h1, x, by rw [same i hi]; exact hx, h2⟩⟩
  have allHead : ∀ (listed : Array Bool), HeadInv .any (l ++ [o]).toArray l.length listed → Region.ready .any l.toArray listed = [] → ∀ i, i < l.length → listed.getD i true = true := fun listed inv h0 i => by
    have hsz : listed.size = l.length + 1 := by rw [inv.size]; simp
    induction i using Nat.strongRecOn with
    | _ i ih =>
      intro hi
      cases hl : listed.getD i true with
      | true => rfl
      | false =>
        exfalso
        have hx : l.toArray[i]? = some l[i] := by simp [hi]
        have : i ∈ Region.ready .any l.toArray listed := mem_ready.2 ⟨hl, _, hx, fun e he _ => by
          have hlt := low i l[i] (by rw [List.getElem?_append_left hi]; simp) e he
          rw [← getD_agree (by omega)]
          exact ih e.on hlt (by omega)⟩
        rw [h0] at this
        cases this
  have fin : ∀ (f : Nat) (listed : Array Bool) (a : Act) (w : World), HeadInv .any (l ++ [o]).toArray l.length listed → Region.ready .any l.toArray listed = [] → wpList P (l ++ [o]).toArray Q [o] a w → wpAny P .any (l ++ [o]).toArray Q (f + 1) listed a w := fun f listed a w inv h0 h => by
    have hsz : listed.size = l.length + 1 := by rw [inv.size]; simp
    have hall := allHead listed inv h0
    have hn : l.length ∈ Region.ready .any (l ++ [o]).toArray listed := mem_ready.2 ⟨inv.tail _ (Nat.le_refl _) (by simp), o, lastAt, fun e he _ => by
      have hlt := low l.length o (by simp) e he
      rw [← getD_agree (by omega)]
      exact hall _ hlt⟩
    have hnone : Region.ready .any (l ++ [o]).toArray (listed.setIfInBounds l.length true) = [] := by
      cases hr : Region.ready .any (l ++ [o]).toArray (listed.setIfInBounds l.length true) with
      | nil => rfl
      | cons j js =>
        exfalso
        have hj : j ∈ Region.ready .any (l ++ [o]).toArray (listed.setIfInBounds l.length true) := by rw [hr]; simp
        obtain ⟨h1, x, hx, _⟩ := mem_ready.1 hj
        have hjn : j < l.length + 1 := by have := (Array.getElem?_eq_some_iff.1 hx).1; simpa using this
        by_cases e : j = l.length
        · subst e
          rw [show (listed.setIfInBounds l.length true).getD l.length true = true by simp [hsz]] at h1
          cases h1
        · rw [getD_set_ne true (Ne.symm e), hall j (by omega)] at h1
          cases h1
    have done : ∀ (a : Act) (w : World), Q .normal a w → wpAny P .any (l ++ [o]).toArray Q f (listed.setIfInBounds l.length true) a w := fun a w hq => by
      cases f with
      | zero => exact ⟨hnone, hq⟩
      | succ f => exact ⟨fun _ => hq, by rw [hnone]; simp⟩
    refine ⟨fun h1 => (by rw [h1] at hn; cases hn), fun i hi => ?_⟩
    have hin : i = l.length := by
      obtain ⟨h1, x, hx, _⟩ := mem_ready.1 hi
      have hjn : i < l.length + 1 := by have := (Array.getElem?_eq_some_iff.1 hx).1; simpa using this
      by_cases e : i = l.length
      · exact e
      · rw [hall i (by omega)] at h1; cases h1
    subst hin
    unfold wpList at h
    have hw : wpOp P (l ++ [o]).toArray Q l.length (wpList P (l ++ [o]).toArray Q []) a w := by unfold wpOp; simp only [lastAt]; exact h
    exact wpOp_mono (fun a' w' h' => done a' w' h') hw
  intro f
  induction f with
  | zero => exact fun listed a w inv h => fin 0 listed a w inv h.1 h.2
  | succ f ih =>
    intro listed a w inv h
    by_cases h0 : Region.ready .any l.toArray listed = []
    · exact fin (f + 1) listed a w inv h0 (h.1 h0)
    · obtain ⟨i0, hi0⟩ : ∃ i, i ∈ Region.ready .any l.toArray listed := by
        cases hr : Region.ready .any l.toArray listed with
        | nil => exact absurd hr h0
        | cons i is => exact ⟨i, by simp⟩
      obtain ⟨hi1, hi2⟩ := toAll listed i0 hi0
      refine ⟨fun h1 => (by rw [h1] at hi2; cases hi2), fun i hi => ?_⟩
      have hin : i < l.length := by
        rcases Nat.lt_or_ge i l.length with h1 | h1
        · exact h1
        · exact absurd hi (tail_waits hs hc (by simp) inv _ i0 rfl hi1 (mem_ready.1 hi2).1 i h1)
      have hop := h.2 i (toHead listed i hin hi)
      unfold wpOp at hop ⊢
      rw [same i hin]
      have hx : l.toArray[i]? = some l[i] := by simp [hin]
      rw [hx] at hop ⊢
      have hwd : Region.wanted l[i] (yielded (l ++ [o]).toArray a.tmps) = Region.wanted l[i] (yielded l.toArray a.tmps) := by
        unfold Region.wanted
        cases hgd : l[i].guard with
        | none => rfl
        | some p =>
          obtain ⟨j, b⟩ := p
          have h1 := List.all_eq_true.1 hg l[i] (List.getElem_mem hin)
          rw [hgd] at h1
          simp only [decide_eq_true_eq] at h1
          simp only [yielded, same j h1]
      simp only [hwd]
      have next : ∀ (a' : Act) (w' : World), wpAny P .any l.toArray (Qt P (l ++ [o]).toArray Q o) f (listed.setIfInBounds i true) a' w' → wpAny P .any (l ++ [o]).toArray Q (f + 1) (listed.setIfInBounds i true) a' w' := fun a' w' h' => ih _ a' w' (inv.set hi hin) h'
      split
      · rename_i hw
        simp only [hw, if_true] at hop
        rcases hop with hop | ⟨h1, a1, w1, h2⟩
        · exact .inl (wp_exits next (fun ex a w hne h => Qt.exit hne h) hop)
        · exact .inr ⟨h1, a1, w1, Qt.exit (by intro e; cases e) h2⟩
      · rename_i hw
        simp only [hw] at hop
        exact next _ _ hop
theorem wp_region_last {id n m : Nat} {a : Act} {w : World} {ops l : List Oper} {o : Oper} (h1 : ops.dropLast = l) (h2 : ops.getLast? = some o) (hn : l.length = n) (hn' : n + 1 = m) (hm : P.follows .mixedOrders = true) (hB : lastB l o = true) (hS : S w.drew)
    (h : S w.drew → wpAnyH P .any l.toArray (Qt P ops.toArray Q o) S n (Array.replicate m false) a w.drew) : (Code.region id ops.toArray true).wp P Q a w := by
  have hl : ops = l ++ [o] := by
    obtain ⟨ys, rfl⟩ := List.getLast?_eq_some_iff.1 h2
    rw [← h1, List.dropLast_concat]
  clear h1 h2
  subst hn' hn
  subst hl
  have inv0 : HeadInv .any (l ++ [o]).toArray l.length (Array.replicate (l.length + 1) false) :=
    ⟨by simp, fun j oj _ hl => (by rw [getD_replicate_false] at hl; cases hl), fun t _ ht => getD_in (by simpa using ht) (getD_replicate_false _ _)⟩
  have := wpAny_last hB l.length _ a w.drew inv0 (wpAny_of_held _ _ _ _ (h hS))
  refine wp_region_any hm ?_
  have e : (l ++ [o]).toArray.size = l.length + 1 := by simp
  rw [e]
  exact this
/-- Take number i first. -/
theorem takeL {l : List Oper} {i : Nat} {oi : Oper} {v : Value} {fuel : Nat} {listed : Array Bool} {a : Act} {w : World} {md : Region.Mode} (hi : l[i]? = some oi)
    (hs : Region.noSelect l.toArray = true) (hf : Region.free md l.toArray listed i = true) (hr : (Region.ready md l.toArray listed).contains i = true)
    (hQ : ∀ c a w, Q (.panic c) (a.put oi.dst v) w → Q (.panic c) a w) (hy : YieldsIf P l.toArray S oi v a) (hS : S w)
    (h : wpAnyH P md l.toArray Q S fuel (listed.setIfInBounds i true) (a.put oi.dst v) w) : wpAnyH P md l.toArray Q S (fuel + 1) listed a w :=
  wpAnyH_take (by simpa using hi) hs hf hr hQ hy hS h
/-- Number i, alone, comes up. -/
theorem callL {l : List Oper} {i : Nat} {o : Oper} {fuel : Nat} {listed : Array Bool} {a : Act} {w : World} {md : Region.Mode} (hi : l[i]? = some o) (hr : Region.ready md l.toArray listed = [i])
    (h : ∀ K' : Act → World → Prop, Shut (∀ a w, S w → (S w → wpAnyH P md l.toArray Q S fuel (listed.setIfInBounds i true) a w) → K' a w) → if Region.wanted o (yielded l.toArray a.tmps) = true then Oper.wp P o a w K' Q else K' (a.put o.dst undef) w) :
    wpAnyH P md l.toArray Q S (fuel + 1) listed a w :=
  wpAnyH_ready hr (by simp) (AllReadyH.cons (by simpa using hi) h AllReadyH.nil)
end
end Go.Proofs.YtfpglkacjecoeaaGreat
namespace Go.Proofs.YtfpglkacjecoeaaGreat
open Go.RowKit
set_option linter.unusedSimpArgs false
attribute [local go_sem ↓] Go.wp_at_zero Go.wp_at_succ

set_option maxRecDepth 100000 in
set_option maxHeartbeats 4000000 in
theorem clear2_any (fb : Nat) (w : World) (base : Nat) (P : Nat → Prop) (g c0 n : Nat) (cs : List Value) (m : Gm.L) (bl ba bf bi l t : Nat) (x : UInt8)
    (hQ : Mq w base P (.slice (some ⟨g, 0, none⟩) n c0) n cs m) (hP : ∀ b, P b → b < w.heap.size) (hbs : base ≤ w.heap.size) (hl : l < n) (ht : t < n) (hw : (Gm.row m t).length ≤ 1000)
    (k1 : w.cell? ⟨bl, 0, none⟩ = some (.int .i64 (l : Int))) (k2 : w.cell? ⟨ba, 0, none⟩ = some (.int .i64 (t : Int))) (k3 : w.cell? ⟨bf, 0, none⟩ = some (.pointer (some ⟨fb, 0, none⟩))) (k4 : w.cell? ⟨bi, 0, none⟩ = some (.int .u8 (x.toNat : Int)))
    (hf : FieldAt w fb) (n1 : bl ≠ g) (n2 : ba ≠ g) (n3 : bf ≠ g) (n4 : bi ≠ g) (n5 : fb ≠ g) :
    Calls Tryz.prog 104 #[.slice (some ⟨g, 0, none⟩) n c0, .pointer (some ⟨bl, 0, none⟩), .pointer (some ⟨ba, 0, none⟩), .pointer (some ⟨bf, 0, none⟩), .pointer (some ⟨bi, 0, none⟩)] w fun e w' =>
      e = .returned (.tuple #[]) ∧ (∃ cs', Mq w' base P (.slice (some ⟨g, 0, none⟩) n c0) n cs' (Gm.scaleL (Gm.swapL m t l) l x)) ∧ w.grownBy w' (some g) := by
  obtain ⟨Al, cl, hcl, hcellL, hfl, hol⟩ := hQ.cellAt hl
  obtain ⟨At, ct, hct, hcellT, hft, hot⟩ := hQ.cellAt ht
  have hcle := hQ.own
  have hn0 : n ≤ c0 ∧ c0 ≤ 9223372036854775807 := by
    obtain ⟨_, _, e, h1, h2⟩ := ownsRow_slice hQ.own
    injection e with _ _ e3
    omega
  have hsw := hQ.swap ht hl hct hcl
  have hgb : w.grownBy ((w.setCell ⟨g, t, none⟩ (.slice Al (Gm.row m l).length cl)).setCell ⟨g, l, none⟩ (.slice At (Gm.row m t).length ct)) (some g) := gb_set (gb_set (World.grownBy.refl w _) _ _) _ _
  have q1 : (l : Int) < n := by omega
  have q2 : (t : Int) < n := by omega
  have q3 : (0 : Int) ≤ (l : Int) := by omega
  have q4 : (0 : Int) ≤ (t : Int) := by omega
  obtain ⟨rl, hrl⟩ : ∃ rl, (Gm.row m l).length = rl := ⟨_, rfl⟩
  obtain ⟨rt, hrt⟩ : ∃ rt, (Gm.row m t).length = rt := ⟨_, rfl⟩
  rw [hrl] at hcl hcellL hgb hsw
  rw [hrt] at hct hcellT hgb hsw
  have HSW := Lib.hid hsw
  have HGB := Lib.hid hgb
  have HRT := Lib.hid hrt
  clear hsw hgb hcl hct hol hot hcle hrl hrt hQ
  have hsome : ∃ v', (w.setCell ⟨g, t, none⟩ (.slice Al rl cl)).cell? ⟨g, l, none⟩ = some v' := by
    by_cases e : t = l
    · subst e
      exact ⟨_, World.cell?_setCell_same _ _ _ hcellT⟩
    · exact ⟨_, by rw [World.cell?_setCell_other _ _ _ _ (fun h => e (by injection h))]; exact hcellL⟩
  obtain ⟨v', hv'⟩ := hsome
  go_enter Tryz.func104, Tryz.ntmps104
  go_wp2_with (fail)
  go_cut [] (fun wx => ∃ wv : World, wv = wx ∧ Mq wx base P (.slice (some ⟨g, 0, none⟩) n c0) n ((cs.set t (.slice Al rl cl)).set l (.slice At rt ct)) (Gm.swapL m t l) ∧ w.grownBy wx (some g))
  case first =>
    go_region
    all_goals
      go_wp2_with (fail)
      go_meet
      exact ⟨_, rfl, HSW.out.ext (Ext.drew _), grownBy_trans' HGB.out ((Ext.drew _).gb _)⟩
  case rest =>
    obtain ⟨W1, rfl, hQ1, hgb⟩ := hcut
    clear hv' hcellL hcellT hfl hft HSW HGB
    have k1' := hgb.cell k1 (fun e => n1 (by injection e))
    have k3' := hgb.cell k3 (fun e => n3 (by injection e))
    have k4' := hgb.cell k4 (fun e => n4 (by injection e))
    have hf1 := hf.gb hgb n5
    obtain ⟨Ar, cr, hcr, hcell, hfz, hor⟩ := hQ1.cellAt hl
    have hml : m.length = n := by have := hQ1.len; unfold Gm.swapL at this; rwa [List.length_set, List.length_set] at this
    have hrow : Gm.row (Gm.swapL m t l) l = Gm.row m t := by
      rw [Gm.row_swapL (by omega) (by omega)]
      unfold Gm.swapI
      by_cases e : l = t
      · rw [if_pos e, e]
      · rw [if_neg e, if_pos rfl]
    have hsc : (Gm.swapL m t l).set l (Gm.scaleRow (Gm.row m t) x) = Gm.scaleL (Gm.swapL m t l) l x := by unfold Gm.scaleL; rw [hrow]
    rw [hrow] at hcr hcell hor
    have hsl : (Gm.scaleRow (Gm.row m t) x).length = rt := by rw [Gm.scaleRow_length, HRT.out]
    have hlc := lay_any fb W1.drew Ar Ar _ cr _ cr (Gm.row m t) (Gm.row m t) (Gf.add x 1) (hf1.ext (Ext.drew _)) ((Own.mk (base := base) (e := 5) hor).bs.ext (Ext.drew _)) ((Own.mk (base := base) (e := 5) hor).bs.ext (Ext.drew _)) (by omega)
    rw [HRT.out] at hlc hcell
    have hac : Calls Tryz.prog 31 #[.pointer (some ⟨fb, 0, none⟩), .int .u8 (x.toNat : Int), .int .u8 1] W1.drew fun e w' => e = .returned (.int .u8 ((Gf.add x 1).toNat : Int)) ∧ W1.drew = w' := add_any fb W1.drew x 1 (hf1.ext (Ext.drew _))
    have HL := Lib.hid (show Calls Tryz.prog 89 #[.pointer (some ⟨fb, 0, none⟩), .slice Ar rt cr, .int .u8 ((Gf.add x 1).toNat : Int), .slice Ar rt cr] W1.drew fun e w' => ∃ v, e = .returned v ∧ NewBytes W1.drew w' v (Gm.scaleRow (Gm.row m t) x) from hlc)
    have HA := Lib.hid hac
    have HQ1 := Lib.hid hQ1
    have HGB := Lib.hid hgb
    have HSC := Lib.hid hsc
    have HSL := Lib.hid hsl
    clear hlc hac hQ1 hgb hsc hsl hcr hor hrow hml k1 k2 k3 k4
    have hS : ∀ W : World, Ext W1 W → (W.cell? ⟨bl, 0, none⟩ = some (.int .i64 (l : Int)) ∧ W.cell? ⟨bf, 0, none⟩ = some (.pointer (some ⟨fb, 0, none⟩)) ∧ W.cell? ⟨bi, 0, none⟩ = some (.int .u8 (x.toNat : Int)) ∧ W.cell? ⟨g, l, none⟩ = some (.slice Ar rt cr)) := fun W hW => ⟨hW.cell k1', hW.cell k3', hW.cell k4', hW.cell hcell⟩
    have HS := Lib.hid hS
    clear hS
    go_wp2_with (fail)
    refine wp_region_last (S := (fun W => W.cell? ⟨bl, 0, none⟩ = some (.int .i64 (l : Int)) ∧ W.cell? ⟨bf, 0, none⟩ = some (.pointer (some ⟨fb, 0, none⟩)) ∧ W.cell? ⟨bi, 0, none⟩ = some (.int .u8 (x.toNat : Int)) ∧ W.cell? ⟨g, l, none⟩ = some (.slice Ar rt cr))) (n := 16) (m := 17) (by simp only [List.dropLast]; rfl) (by simp only [List.getLast?, List.getLast]; rfl) rfl rfl (by kernel_rfl) (by kernel_rfl) (HS.out _ (Ext.drew _)) (fun hHeld => ?_)
    refine takeL (i := 0) (v := ?_) rfl (by kernel_rfl) (by kernel_rfl) (by kernel_rfl) (fun _ _ _ h => h) (Or.inl ⟨by rfl, ?_⟩) (by assumption) ?_
    rotate_left
    · (intro W9 hSw; (try dsimp only at hSw); go_simp; (try with_reducible rfl))
    try simp only [Act.put, List.setIfInBounds_toArray, List.set_cons_zero, List.set_cons_succ]
    refine takeL (i := 1) (v := ?_) rfl (by kernel_rfl) (by kernel_rfl) (by kernel_rfl) (fun _ _ _ h => h) (Or.inl ⟨by rfl, ?_⟩) (by assumption) ?_
    rotate_left
    · (intro W9 hSw; (try dsimp only at hSw); go_simp; (try with_reducible rfl))
    try simp only [Act.put, List.setIfInBounds_toArray, List.set_cons_zero, List.set_cons_succ]
    refine takeL (i := 2) (v := ?_) rfl (by kernel_rfl) (by kernel_rfl) (by kernel_rfl) (fun _ _ _ h => h) (Or.inl ⟨by rfl, ?_⟩) (by assumption) ?_
    rotate_left
    · (intro W9 hSw; (try dsimp only at hSw); go_simp; (try with_reducible rfl))
    try simp only [Act.put, List.setIfInBounds_toArray, List.set_cons_zero, List.set_cons_succ]
    refine takeL (i := 3) (v := ?_) rfl (by kernel_rfl) (by kernel_rfl) (by kernel_rfl) (fun _ _ _ h => h) (Or.inl ⟨by rfl, ?_⟩) (by assumption) ?_
    rotate_left
    · (intro W9 hSw; (try dsimp only at hSw); go_simp; (try with_reducible rfl))
    try simp only [Act.put, List.setIfInBounds_toArray, List.set_cons_zero, List.set_cons_succ]
    refine takeL (i := 4) (v := ?_) rfl (by kernel_rfl) (by kernel_rfl) (by kernel_rfl) (fun _ _ _ h => h) (Or.inl ⟨by rfl, ?_⟩) (by assumption) ?_
    rotate_left
    · (intro W9 hSw; (try dsimp only at hSw); go_simp; (try with_reducible rfl))
    try simp only [Act.put, List.setIfInBounds_toArray, List.set_cons_zero, List.set_cons_succ]
    refine takeL (i := 5) (v := ?_) rfl (by kernel_rfl) (by kernel_rfl) (by kernel_rfl) (fun _ _ _ h => h) (Or.inl ⟨by rfl, ?_⟩) (by assumption) ?_
    rotate_left
    · (intro W9 hSw; (try dsimp only at hSw); go_simp; (try with_reducible rfl))
    try simp only [Act.put, List.setIfInBounds_toArray, List.set_cons_zero, List.set_cons_succ]
    refine takeL (i := 6) (v := ?_) rfl (by kernel_rfl) (by kernel_rfl) (by kernel_rfl) (fun _ _ _ h => h) (Or.inl ⟨by rfl, ?_⟩) (by assumption) ?_
    rotate_left
    · (intro W9 hSw; (try dsimp only at hSw); go_simp; (try with_reducible rfl))
    try simp only [Act.put, List.setIfInBounds_toArray, List.set_cons_zero, List.set_cons_succ]
    refine takeL (i := 7) (v := ?_) rfl (by kernel_rfl) (by kernel_rfl) (by kernel_rfl) (fun _ _ _ h => h) (Or.inl ⟨by rfl, ?_⟩) (by assumption) ?_
    rotate_left
    · (intro W9 hSw; (try dsimp only at hSw); go_simp; (try with_reducible rfl))
    try simp only [Act.put, List.setIfInBounds_toArray, List.set_cons_zero, List.set_cons_succ]
    refine takeL (i := 8) (v := ?_) rfl (by kernel_rfl) (by kernel_rfl) (by kernel_rfl) (fun _ _ _ h => h) (Or.inl ⟨by rfl, ?_⟩) (by assumption) ?_
    rotate_left
    · (intro W9 hSw; (try dsimp only at hSw); go_simp; (try with_reducible rfl))
    try simp only [Act.put, List.setIfInBounds_toArray, List.set_cons_zero, List.set_cons_succ]
    refine takeL (i := 10) (v := ?_) rfl (by kernel_rfl) (by kernel_rfl) (by kernel_rfl) (fun _ _ _ h => h) (Or.inl ⟨by rfl, ?_⟩) (by assumption) ?_
    rotate_left
    · (intro W9 hSw; (try dsimp only at hSw); go_simp; (try with_reducible rfl))
    try simp only [Act.put, List.setIfInBounds_toArray, List.set_cons_zero, List.set_cons_succ]
    refine takeL (i := 11) (v := ?_) rfl (by kernel_rfl) (by kernel_rfl) (by kernel_rfl) (fun _ _ _ h => h) (Or.inl ⟨by rfl, ?_⟩) (by assumption) ?_
    rotate_left
    · (intro W9 hSw; (try dsimp only at hSw); go_simp; (try with_reducible rfl))
    try simp only [Act.put, List.setIfInBounds_toArray, List.set_cons_zero, List.set_cons_succ]
    refine takeL (i := 12) (v := ?_) rfl (by kernel_rfl) (by kernel_rfl) (by kernel_rfl) (fun _ _ _ h => h) (Or.inl ⟨by rfl, ?_⟩) (by assumption) ?_
    rotate_left
    · (intro W9 hSw; (try dsimp only at hSw); go_simp; (try with_reducible rfl))
    try simp only [Act.put, List.setIfInBounds_toArray, List.set_cons_zero, List.set_cons_succ]
    refine takeL (i := 13) (v := ?_) rfl (by kernel_rfl) (by kernel_rfl) (by kernel_rfl) (fun _ _ _ h => h) (Or.inl ⟨by rfl, ?_⟩) (by assumption) ?_
    rotate_left
    · (intro W9 hSw; (try dsimp only at hSw); go_simp; (try with_reducible rfl))
    try simp only [Act.put, List.setIfInBounds_toArray, List.set_cons_zero, List.set_cons_succ]
    refine callL (i := 9) rfl (by kernel_rfl) (fun K hK => ?_)
    go_wp2_with (((with_reducible refine HA.out.mono ?_); (rintro e w4 ⟨rfl, rfl⟩)))
    refine hK.out _ _ (HS.out _ (Ext.drew _)) ?_
    clear hK K hHeld HA
    intro hHeld
    try simp only [Act.put, List.setIfInBounds_toArray, List.set_cons_zero, List.set_cons_succ]
    refine callL (i := 14) rfl (by kernel_rfl) (fun K hK => ?_)
    rw [if_pos (by kernel_rfl)]
    go_wp2_with (((with_reducible refine HL.out.mono ?_); (rintro e w4 ⟨v4, rfl, hv⟩; obtain ⟨A4, c4, rfl, _⟩ := hv.bs; have x4 : Ext W1 w4 := (Ext.drew W1).trans hv.ext; have hco4 := x4.cell hcell; have hfo4 : w4.frozen? ⟨g, l, none⟩ = false := (x4.frozen hcell).trans hfz; rw [HSL.out])))
    refine hK.out _ _ (HS.out _ x4) ?_
    clear hK K hHeld
    intro hHeld
    try simp only [Act.put, List.setIfInBounds_toArray, List.set_cons_zero, List.set_cons_succ]
    refine takeL (i := 15) (v := ?_) rfl (by kernel_rfl) (by kernel_rfl) (by kernel_rfl) (fun _ _ _ h => h) (Or.inl ⟨by rfl, ?_⟩) (by assumption) ?_
    rotate_left
    · (intro W9 hSw; (try dsimp only at hSw); go_simp; (try with_reducible rfl))
    try simp only [Act.put, List.setIfInBounds_toArray, List.set_cons_zero, List.set_cons_succ]
    refine wpAnyH_done (by kernel_rfl) ?_ _
    change wpList _ _ _ _ _ _
    go_wp2_with (fail)
    all_goals
      have hsd : W1.heap.size ≤ W1.drew.heap.size := (Ext.drew W1).size
      have hput := (HQ1.out.ext x4).put hl hv.own (by have := HGB.out.size; omega) (fun b hb => by
        have hf := HQ1.out.fresh hv.own hsd (fun b hp => by have := hP b hp; have := HGB.out.size; omega) b hb
        exact ⟨hf.1, fun j u _ hu => hf.2 j u hu⟩)
      rw [HSC.out, HSL.out] at hput
      have hg2 := gb_set (grownBy_trans' HGB.out (x4.gb (some g))) l (.slice A4 rt c4)
      have HP := Lib.hid hput
      have HG2 := Lib.hid hg2
      clear hput hg2 hv
      go_wp2_with (fail)
      go_end0
      exact ⟨rfl, ⟨_, HP.out⟩, HG2.out⟩
end Go.Proofs.YtfpglkacjecoeaaGreat
namespace Go.Proofs.YtfpglkacjecoeaaGreat
open Go.RowKit
set_option linter.unusedSimpArgs false
attribute [local go_sem ↓] Go.wp_at_zero Go.wp_at_succ

set_option maxRecDepth 100000 in
set_option maxHeartbeats 4000000 in
theorem clear3_any (fb : Nat) (w : World) (base : Nat) (P : Nat → Prop) (g c0 n : Nat) (cs : List Value) (m : Gm.L) (bl bk bf bc l k : Nat) (x : UInt8)
    (hQ : Mq w base P (.slice (some ⟨g, 0, none⟩) n c0) n cs m) (hP : ∀ b, P b → b < w.heap.size) (hbs : base ≤ w.heap.size) (hl : l < n) (hk : k < n) (hlk : l ≠ k) (n1 : bf ≠ g) (n2 : bk ≠ g) (n3 : bc ≠ g) (n4 : bl ≠ g) (hw : (Gm.row m k).length ≤ 1000)
    (k1 : w.cell? ⟨bf, 0, none⟩ = some (.pointer (some ⟨fb, 0, none⟩))) (k2 : w.cell? ⟨bk, 0, none⟩ = some (.int .i64 (k : Int))) (k3 : w.cell? ⟨bc, 0, none⟩ = some (.int .u8 (x.toNat : Int))) (k4 : w.cell? ⟨bl, 0, none⟩ = some (.int .i64 (l : Int)))
    (hf : FieldAt w fb) :
    Calls Tryz.prog 105 #[.slice (some ⟨g, 0, none⟩) n c0, .pointer (some ⟨bf, 0, none⟩), .pointer (some ⟨bk, 0, none⟩), .pointer (some ⟨bc, 0, none⟩), .pointer (some ⟨bl, 0, none⟩)] w fun e w' =>
      e = .returned (.tuple #[]) ∧ (∃ cs', Mq w' base P (.slice (some ⟨g, 0, none⟩) n c0) n cs' (m.set k (Gf.lay (Gm.row m k) x (Gm.row m l)))) ∧ w.grownBy w' (some g) := by
  obtain ⟨Al, cl, hcl, hcellL, _, hol⟩ := hQ.cellAt hl
  obtain ⟨Ak, ck, hck, hcellK, hfz, hok⟩ := hQ.cellAt hk
  have hn0 : n ≤ c0 ∧ c0 ≤ 9223372036854775807 := by
    obtain ⟨_, _, e, h1, h2⟩ := ownsRow_slice hQ.own
    injection e with _ _ e3
    omega
  have q1 : (l : Int) < n := by omega
  have q2 : (k : Int) < n := by omega
  have q3 : (0 : Int) ≤ (l : Int) := by omega
  have q4 : (0 : Int) ≤ (k : Int) := by omega
  have hlc := lay_any fb w.drew Ak Al _ ck _ cl (Gm.row m k) (Gm.row m l) x (hf.ext (Ext.drew _)) ((Own.mk (base := base) (e := 5) hok).bs.ext (Ext.drew _)) ((Own.mk (base := base) (e := 5) hol).bs.ext (Ext.drew _)) (by omega)
  obtain ⟨rl, hrl⟩ : ∃ rl, (Gm.row m l).length = rl := ⟨_, rfl⟩
  obtain ⟨rk, hrk⟩ : ∃ rk, (Gm.row m k).length = rk := ⟨_, rfl⟩
  rw [hrl] at hlc hcellL
  rw [hrk] at hlc hcellK
  have hsl : (Gf.lay (Gm.row m k) x (Gm.row m l)).length = rk := by rw [Gf.lay_length, hrk]
  have HL := Lib.hid hlc
  have HSL := Lib.hid hsl
  have HQ := Lib.hid hQ
  have HF := Lib.hid hf
  clear hlc hsl hcl hck hol hok hrl hrk hQ hf
  have hS : ∀ W : World, Ext w W → (W.cell? ⟨bf, 0, none⟩ = some (.pointer (some ⟨fb, 0, none⟩)) ∧ W.cell? ⟨bk, 0, none⟩ = some (.int .i64 (k : Int)) ∧ W.cell? ⟨bc, 0, none⟩ = some (.int .u8 (x.toNat : Int)) ∧ W.cell? ⟨bl, 0, none⟩ = some (.int .i64 (l : Int)) ∧ W.cell? ⟨g, l, none⟩ = some (.slice Al rl cl) ∧ W.cell? ⟨g, k, none⟩ = some (.slice Ak rk ck)) := fun W hW => ⟨hW.cell k1, hW.cell k2, hW.cell k3, hW.cell k4, hW.cell hcellL, hW.cell hcellK⟩
  have HS := Lib.hid hS
  clear hS
  go_enter Tryz.func105, Tryz.ntmps105
  go_wp2_with (fail)
  refine wp_region_last (S := (fun W => W.cell? ⟨bf, 0, none⟩ = some (.pointer (some ⟨fb, 0, none⟩)) ∧ W.cell? ⟨bk, 0, none⟩ = some (.int .i64 (k : Int)) ∧ W.cell? ⟨bc, 0, none⟩ = some (.int .u8 (x.toNat : Int)) ∧ W.cell? ⟨bl, 0, none⟩ = some (.int .i64 (l : Int)) ∧ W.cell? ⟨g, l, none⟩ = some (.slice Al rl cl) ∧ W.cell? ⟨g, k, none⟩ = some (.slice Ak rk ck))) (n := 14) (m := 15) (by simp only [List.dropLast]; rfl) (by simp only [List.getLast?, List.getLast]; rfl) rfl rfl (by kernel_rfl) (by kernel_rfl) (HS.out _ (Ext.drew _)) (fun hHeld => ?_)
  refine takeL (i := 0) (v := ?_) rfl (by kernel_rfl) (by kernel_rfl) (by kernel_rfl) (fun _ _ _ h => h) (Or.inl ⟨by rfl, ?_⟩) (by assumption) ?_
  rotate_left
  · (intro W9 hSw; (try dsimp only at hSw); go_simp; (try with_reducible rfl))
  try simp only [Act.put, List.setIfInBounds_toArray, List.set_cons_zero, List.set_cons_succ]
  refine takeL (i := 1) (v := ?_) rfl (by kernel_rfl) (by kernel_rfl) (by kernel_rfl) (fun _ _ _ h => h) (Or.inl ⟨by rfl, ?_⟩) (by assumption) ?_
  rotate_left
  · (intro W9 hSw; (try dsimp only at hSw); go_simp; (try with_reducible rfl))
  try simp only [Act.put, List.setIfInBounds_toArray, List.set_cons_zero, List.set_cons_succ]
  refine takeL (i := 2) (v := ?_) rfl (by kernel_rfl) (by kernel_rfl) (by kernel_rfl) (fun _ _ _ h => h) (Or.inl ⟨by rfl, ?_⟩) (by assumption) ?_
  rotate_left
  · (intro W9 hSw; (try dsimp only at hSw); go_simp; (try with_reducible rfl))
  try simp only [Act.put, List.setIfInBounds_toArray, List.set_cons_zero, List.set_cons_succ]
  refine takeL (i := 3) (v := ?_) rfl (by kernel_rfl) (by kernel_rfl) (by kernel_rfl) (fun _ _ _ h => h) (Or.inl ⟨by rfl, ?_⟩) (by assumption) ?_
  rotate_left
  · (intro W9 hSw; (try dsimp only at hSw); go_simp; (try with_reducible rfl))
  try simp only [Act.put, List.setIfInBounds_toArray, List.set_cons_zero, List.set_cons_succ]
  refine takeL (i := 4) (v := ?_) rfl (by kernel_rfl) (by kernel_rfl) (by kernel_rfl) (fun _ _ _ h => h) (Or.inl ⟨by rfl, ?_⟩) (by assumption) ?_
  rotate_left
  · (intro W9 hSw; (try dsimp only at hSw); go_simp; (try with_reducible rfl))
  try simp only [Act.put, List.setIfInBounds_toArray, List.set_cons_zero, List.set_cons_succ]
  refine takeL (i := 5) (v := ?_) rfl (by kernel_rfl) (by kernel_rfl) (by kernel_rfl) (fun _ _ _ h => h) (Or.inl ⟨by rfl, ?_⟩) (by assumption) ?_
  rotate_left
  · (intro W9 hSw; (try dsimp only at hSw); go_simp; (try with_reducible rfl))
  try simp only [Act.put, List.setIfInBounds_toArray, List.set_cons_zero, List.set_cons_succ]
  refine takeL (i := 6) (v := ?_) rfl (by kernel_rfl) (by kernel_rfl) (by kernel_rfl) (fun _ _ _ h => h) (Or.inl ⟨by rfl, ?_⟩) (by assumption) ?_
  rotate_left
  · (intro W9 hSw; (try dsimp only at hSw); go_simp; (try with_reducible rfl))
  try simp only [Act.put, List.setIfInBounds_toArray, List.set_cons_zero, List.set_cons_succ]
  refine takeL (i := 7) (v := ?_) rfl (by kernel_rfl) (by kernel_rfl) (by kernel_rfl) (fun _ _ _ h => h) (Or.inl ⟨by rfl, ?_⟩) (by assumption) ?_
  rotate_left
  · (intro W9 hSw; (try dsimp only at hSw); go_simp; (try with_reducible rfl))
  try simp only [Act.put, List.setIfInBounds_toArray, List.set_cons_zero, List.set_cons_succ]
  refine takeL (i := 8) (v := ?_) rfl (by kernel_rfl) (by kernel_rfl) (by kernel_rfl) (fun _ _ _ h => h) (Or.inl ⟨by rfl, ?_⟩) (by assumption) ?_
  rotate_left
  · (intro W9 hSw; (try dsimp only at hSw); go_simp; (try with_reducible rfl))
  try simp only [Act.put, List.setIfInBounds_toArray, List.set_cons_zero, List.set_cons_succ]
  refine takeL (i := 9) (v := ?_) rfl (by kernel_rfl) (by kernel_rfl) (by kernel_rfl) (fun _ _ _ h => h) (Or.inl ⟨by rfl, ?_⟩) (by assumption) ?_
  rotate_left
  · (intro W9 hSw; (try dsimp only at hSw); go_simp; (try with_reducible rfl))
  try simp only [Act.put, List.setIfInBounds_toArray, List.set_cons_zero, List.set_cons_succ]
  refine takeL (i := 10) (v := ?_) rfl (by kernel_rfl) (by kernel_rfl) (by kernel_rfl) (fun _ _ _ h => h) (Or.inl ⟨by rfl, ?_⟩) (by assumption) ?_
  rotate_left
  · (intro W9 hSw; (try dsimp only at hSw); go_simp; (try with_reducible rfl))
  try simp only [Act.put, List.setIfInBounds_toArray, List.set_cons_zero, List.set_cons_succ]
  refine takeL (i := 11) (v := ?_) rfl (by kernel_rfl) (by kernel_rfl) (by kernel_rfl) (fun _ _ _ h => h) (Or.inl ⟨by rfl, ?_⟩) (by assumption) ?_
  rotate_left
  · (intro W9 hSw; (try dsimp only at hSw); go_simp; (try with_reducible rfl))
  try simp only [Act.put, List.setIfInBounds_toArray, List.set_cons_zero, List.set_cons_succ]
  refine callL (i := 12) rfl (by kernel_rfl) (fun K hK => ?_)
  go_wp2_with (((with_reducible refine HL.out.mono ?_); (rintro e w4 ⟨v4, rfl, hv⟩; obtain ⟨A4, c4, rfl, _⟩ := hv.bs; have x4 : Ext w w4 := (Ext.drew w).trans hv.ext; have hco4 := x4.cell hcellK; have hfo4 : w4.frozen? ⟨g, k, none⟩ = false := (x4.frozen hcellK).trans hfz; rw [HSL.out])))
  refine hK.out _ _ (HS.out _ x4) (fun hHeld => ?_)
  clear hK K
  try simp only [Act.put, List.setIfInBounds_toArray, List.set_cons_zero, List.set_cons_succ]
  refine takeL (i := 13) (v := ?_) rfl (by kernel_rfl) (by kernel_rfl) (by kernel_rfl) (fun _ _ _ h => h) (Or.inl ⟨by rfl, ?_⟩) (by assumption) ?_
  rotate_left
  · (intro W9 hSw; (try dsimp only at hSw); go_simp; (try with_reducible rfl))
  try simp only [Act.put, List.setIfInBounds_toArray, List.set_cons_zero, List.set_cons_succ]
  refine wpAnyH_done (by kernel_rfl) ?_ _
  change wpList _ _ _ _ _ _
  go_wp2_with (fail)
  all_goals
    have hsd : w.heap.size ≤ w.drew.heap.size := (Ext.drew w).size
    have hput := (HQ.out.ext x4).put hk hv.own (by omega) (fun b hb => by
      have hf := HQ.out.fresh hv.own hsd hP b hb
      exact ⟨hf.1, fun j u _ hu => hf.2 j u hu⟩)
    rw [HSL.out] at hput
    have hg2 := gb_set (x4.gb (some g)) k (.slice A4 rk c4)
    have HP := Lib.hid hput
    have HG2 := Lib.hid hg2
    clear hput hg2 hv
    go_wp2_with (fail)
    go_end0
    exact ⟨rfl, ⟨_, HP.out⟩, HG2.out⟩
end Go.Proofs.YtfpglkacjecoeaaGreat
