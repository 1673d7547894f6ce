/- Several texts in one: A find in a new variable, by run equations. A region that draws its order and ends in a store: two operations of which either may come up next. No program in sight. A region that draws its order and ends in a store: three operations of which any may come up next. No program in sight. -/
import Derived.Test.YtfpglkacjecoeaaCt23
import Derived.Test.YtfpglkacjecoeaaCt24
import Derived.Deep.MidRow
import Derived.Laws.MakeOwn
import Derived.Test.YtfpglkacjecoeaaCt9
namespace Go.Proofs.Ytfpglkacjecoeaa
open Go.RowKit

theorem find_under : ∃ d, Try.prog.underlying 27 = some d ∧ d.isRow = true := ⟨_, Try.underlying27, rfl⟩
theorem find_info : (Try.prog.info? 27).map (·.size) = some 7 := by kernel_rfl
abbrev fcells13 (f : Finds.F) (U V S : Value) : List Value := [.int .i64 f.stripe, .int .i64 f.version, .int .i64 f.need, .int .i64 f.phase, U, V, S]
theorem Fv.load {w : World} {g : Nat} {f : Finds.F} (h : Fv w g f) : ∃ A n c B m d C k e, (Instr.loadAt 27 (.pointer (some ⟨g, 0, none⟩))).run Try.prog w = .ok (fval f.stripe f.version f.need f.phase (.slice A n c) (.slice B m d) (.slice C k e)) w ∧ Fd w f A n c B m d C k e := by
  obtain ⟨A, n, c, B, m, d, C, k, e, hb, hf⟩ := h
  refine ⟨A, n, c, B, m, d, C, k, e, ?_, hf⟩
  simp only [Instr.loadAt, Instr.sureAddr, Sem.run_bind, Sem.run_pure, Result.andThen_ok, hb.res]
def zfind : Obj := .cells #[.int .i64 0, .int .i64 0, .int .i64 0, .int .i64 0, .slice none 0 0, .slice none 0 0, .slice none 0 0] 27 (0, 0)
theorem run_alloc_find (w : World) : (Instr.alloc 27 true (.tuple #[])).run Try.prog w = .ok (.pointer (some ⟨w.heap.size, 0, none⟩)) (w.alloc zfind) := by kernel_rfl
theorem setCells_seven {w : World} {p : Nat} {a b c d e f g : Value} {T : TypeId} (hb : w.heap[p]? = some (.cells #[a, b, c, d, e, f, g] T (0, 0))) (vs : List Value) (hv : vs.length = 7) : (w.setCells p 0 vs).heap[p]? = some (.cells vs.toArray T (0, 0)) := by
  match vs, hv with
  | [a', b', c', d', e', f', g'], _ =>
    have h1 := heap_setCell_same w p 0 _ _ a' hb
    simp only [List.setIfInBounds_toArray, List.set_cons_zero, List.set_cons_succ] at h1
    have h2 := heap_setCell_same _ p 1 _ _ b' h1
    simp only [List.setIfInBounds_toArray, List.set_cons_zero, List.set_cons_succ] at h2
    have h3 := heap_setCell_same _ p 2 _ _ c' h2
    simp only [List.setIfInBounds_toArray, List.set_cons_zero, List.set_cons_succ] at h3
    have h4 := heap_setCell_same _ p 3 _ _ d' h3
    simp only [List.setIfInBounds_toArray, List.set_cons_zero, List.set_cons_succ] at h4
    have h5 := heap_setCell_same _ p 4 _ _ e' h4
    simp only [List.setIfInBounds_toArray, List.set_cons_zero, List.set_cons_succ] at h5
    have h6 := heap_setCell_same _ p 5 _ _ f' h5
    simp only [List.setIfInBounds_toArray, List.set_cons_zero, List.set_cons_succ] at h6
    have h7 := heap_setCell_same _ p 6 _ _ g' h6
    simp only [List.setIfInBounds_toArray, List.set_cons_zero, List.set_cons_succ] at h7
    exact h7
theorem setCells_far (p : Nat) (base : Nat) : ∀ (vs : List Value) (k : Nat) (w w' : World), Below base w w' → base ≤ p → Below base w (w'.setCells p k vs)
  | [], _, _, _, h, _ => h
  | v :: r, k, w, w', h, hp => by
    rw [World.setCells]
    exact setCells_far p base r (k + 1) w _ (Below.setCell h hp v) hp
theorem setCells_other (p : Nat) : ∀ (vs : List Value) (k : Nat) (w : World) (q : Nat), q ≠ p → (w.setCells p k vs).heap[q]? = w.heap[q]?
  | [], _, _, _, _ => rfl
  | v :: r, k, w, q, hq => by
    rw [World.setCells]
    exact (setCells_other p r (k + 1) _ q hq).trans (heap_setCell_other w ⟨p, k, none⟩ q v (by show q ≠ p; exact hq))
/-- A new variable of a find, written. -/
theorem find_new (w : World) {f : Finds.F} {A : Option Addr} {n c : Nat} {B : Option Addr} {m d : Nat} {C : Option Addr} {k e : Nat} (h : Fd w f A n c B m d C k e) : ∃ x w1 w2, (Instr.alloc 27 true (.tuple #[])).run Try.prog w = .ok (.pointer (some ⟨x, 0, none⟩)) w1 ∧ (Instr.storeAt 27 (.pointer (some ⟨x, 0, none⟩)) (fval f.stripe f.version f.need f.phase (.slice A n c) (.slice B m d) (.slice C k e))).run Try.prog w1 = .ok () w2 ∧ Fv w2 x f ∧ Ext w w2 := by
  have hb := heap_alloc_new w zfind
  have hth : (w.alloc zfind).there w.heap.size 0 7 := fun j hj => ⟨by
    rw [cell_of_row _ _ _ _ _ _ hb]
    have hl : 0 + j < (#[.int .i64 0, .int .i64 0, .int .i64 0, .int .i64 0, .slice none 0 0, .slice none 0 0, .slice none 0 0] : Array Value).size := by show 0 + j < 7; omega
    rw [Array.getElem?_eq_getElem hl]; rfl, frozen_of_row _ _ _ _ _ hb⟩
  have hall : (fcells13 f (.slice A n c) (.slice B m d) (.slice C k e)).toArray.all (·.oneCell') = true := all_oneCell_toArray (fun v hv => by
    simp only [fcells13, List.mem_cons, List.not_mem_nil, or_false] at hv
    rcases hv with rfl | rfl | rfl | rfl | rfl | rfl | rfl <;> rfl)
  have hr := run_storeVar_mid (P := Try.prog) (w.alloc zfind) w.heap.size 0 27 (fcells13 f (.slice A n c) (.slice B m d) (.slice C k e)).toArray hth find_info hall
  have x2 : Ext w ((w.alloc zfind).setCells w.heap.size 0 (fcells13 f (.slice A n c) (.slice B m d) (.slice C k e))) := setCells_far _ _ _ _ _ _ (Ext.alloc w _) (Nat.le_refl _)
  refine ⟨w.heap.size, _, _, run_alloc_find w, by simp only [Instr.storeAt, Instr.sureAddr, Sem.run_bind, Sem.run_pure, Result.andThen_ok, hr], ⟨A, n, c, B, m, d, C, k, e, ⟨setCells_seven hb _ rfl⟩, h.ext x2⟩, x2⟩
/-- A find, written into a box of noughts. -/
theorem find_put (w : World) {x : Nat} (hb : w.heap[x]? = some zfind) (f : Finds.F) (A : Option Addr) (n c : Nat) (B : Option Addr) (m d : Nat) (C : Option Addr) (k e : Nat) : ∃ w2, (Instr.storeAt 27 (.pointer (some ⟨x, 0, none⟩)) (fval f.stripe f.version f.need f.phase (.slice A n c) (.slice B m d) (.slice C k e))).run Try.prog w = .ok () w2 ∧ (∀ cur : World, Ext cur w → cur.heap.size ≤ x → Ext cur w2) ∧ (∀ q, q ≠ x → w2.heap[q]? = w.heap[q]?) ∧ Fb w2 x f.stripe f.version f.need f.phase (.slice A n c) (.slice B m d) (.slice C k e) := by
  have hb2 : w.heap[x]? = some (.cells #[.int .i64 0, .int .i64 0, .int .i64 0, .int .i64 0, .slice none 0 0, .slice none 0 0, .slice none 0 0] 27 (0, 0)) := hb
  have hth : w.there x 0 7 := fun j hj => ⟨by
    rw [cell_of_row _ _ _ _ _ _ hb2]
    have hl : 0 + j < (#[.int .i64 0, .int .i64 0, .int .i64 0, .int .i64 0, .slice none 0 0, .slice none 0 0, .slice none 0 0] : Array Value).size := by show 0 + j < 7; omega
    rw [Array.getElem?_eq_getElem hl]; rfl, frozen_of_row _ _ _ _ _ hb2⟩
  have hall : (fcells13 f (.slice A n c) (.slice B m d) (.slice C k e)).toArray.all (·.oneCell') = true := all_oneCell_toArray (fun v hv => by
    simp only [fcells13, List.mem_cons, List.not_mem_nil, or_false] at hv
    rcases hv with rfl | rfl | rfl | rfl | rfl | rfl | rfl <;> rfl)
  have hr := run_storeVar_mid (P := Try.prog) w x 0 27 (fcells13 f (.slice A n c) (.slice B m d) (.slice C k e)).toArray hth find_info hall
  refine ⟨w.setCells x 0 (fcells13 f (.slice A n c) (.slice B m d) (.slice C k e)), by simp only [Instr.storeAt, Instr.sureAddr, Sem.run_bind, Sem.run_pure, Result.andThen_ok, hr], fun cur hx hl => setCells_far _ _ _ _ _ _ hx hl, fun q hq => ?_, ⟨setCells_seven hb2 _ rfl⟩⟩
  exact setCells_other x _ _ _ q hq
theorem u8_info13 : (Try.prog.info? 5).map (fun i => (i.zero, i.size, i.bytes)) = some (some (.int .u8 0), 1, 1) := by kernel_rfl
theorem made13_toList (c : Nat) (z : Value) : (madeCells #[z] c).toList = List.replicate c z := by
  unfold madeCells
  rw [Array.toList_map]
  have h : ∀ x ∈ (Array.range c).toList, (fun j => #[z][j % #[z].size]!) x = z := fun x _ => by simp [Nat.mod_one]
  rw [List.map_congr_left h, List.map_const']
  simp
/-- So many bytes, made. -/
theorem make_big (w : World) (n : Nat) (hn : n ≤ 100000) : ∃ x w', (Instr.makeSlice 35 (.int .i64 (n : Int)) (.int .i64 (n : Int))).run Try.prog w = .ok (.slice (some ⟨x, 0, none⟩) n n) w' ∧ Bs w' (some ⟨x, 0, none⟩) n n (List.replicate n 0) ∧ Ext w w' := by
  obtain ⟨i, hi, hz, h1, h2⟩ := info_parts u8_info13
  have h := run_make (P := Try.prog) w 35 5 i _ Try.underlying35 hi hz .i64 .i64 (n : Int) (n : Int) (by omega) (Int.le_refl _) (by rw [h2]; omega) (by omega)
  rw [h1] at h
  have hb : (madeCells #[.int .u8 0] n).toList = bcells (List.replicate n 0) := by rw [made13_toList]; simp [bcells]
  have hr : Rd (w.alloc (.cells (madeCells #[.int .u8 0] n) 5)) 1 (some ⟨w.heap.size, 0, none⟩) n (bcells (List.replicate n 0)) := by
    have h3 := Rd.lit w (madeCells #[.int .u8 0] n) 5
    have hs : (madeCells #[.int .u8 0] n).size = n := by rw [← Array.length_toList, hb]; simp [bcells]
    rwa [hs, hb] at h3
  exact ⟨w.heap.size, _, by simpa [Value.cells] using h, ⟨List.length_replicate, Nat.le_refl _, by omega, hr⟩, Ext.alloc _ _⟩
end Go.Proofs.Ytfpglkacjecoeaa
namespace Go.Proofs.Ytfpglkacjecoeaa
open Go
section
variable {P : Program} {ops : Array Oper} {Q : Exit → Act → World → Prop} {md : Region.Mode} {S : World → Prop} {t : Nat}
/-- What is asked of number i if it comes up. -/
abbrev Upcoming (P : Program) (md : Region.Mode) (ops : Array Oper) (Q : Exit → Act → World → Prop) (S : World → Prop) (t f : Nat) (listed : Array Bool) (a : Act) (w : World) (i : Nat) (o : Oper) : Prop :=
  ∀ K' : Act → World → Prop, Shut (∀ a w, ((listed.setIfInBounds i true).getD t true = false → S w) → wpAnyT P md ops Q S t f (listed.setIfInBounds i true) a w → K' a w) → if Region.wanted o (yielded ops a.tmps) = true then Oper.wp P o a w K' Q else K' (a.put o.dst undef) w
/-- Numbers i and j may come up, in either order. -/
theorem twoT {i j : Nat} {oi oj : Oper} {f : Nat} {listed : Array Bool} {a : Act} {w : World} (hi : ops[i]? = some oi) (hj : ops[j]? = some oj) (hr : Region.ready md ops listed = [i, j])
    (h1 : Upcoming P md ops Q S t f listed a w i oi) (h2 : Upcoming P md ops Q S t f listed a w j oj) : wpAnyT P md ops Q S t (f + 1) listed a w := by
  refine ⟨fun h0 => (by rw [h0] at hr; cases hr), fun k hk => ?_⟩
  rw [hr] at hk
  have e : k = i ∨ k = j := by simpa using hk
  rcases e with rfl | rfl
  · exact wpOp_step hi (fun K' hK => h1 K' (fun a w hS hW => hK a w ⟨hS, hW⟩))
  · exact wpOp_step hj (fun K' hK => h2 K' (fun a w hS hW => hK a w ⟨hS, hW⟩))
end
end Go.Proofs.Ytfpglkacjecoeaa
namespace Go.Proofs.Ytfpglkacjecoeaa
open Go
section
variable {P : Program} {ops : Array Oper} {Q : Exit → Act → World → Prop} {md : Region.Mode} {S : World → Prop} {t : Nat}
theorem threeT {i j k : Nat} {oi oj ok : Oper} {f : Nat} {listed : Array Bool} {a : Act} {w : World} (hi : ops[i]? = some oi) (hj : ops[j]? = some oj) (hk : ops[k]? = some ok) (hr : Region.ready md ops listed = [i, j, k])
    (h1 : Upcoming P md ops Q S t f listed a w i oi) (h2 : Upcoming P md ops Q S t f listed a w j oj) (h3 : Upcoming P md ops Q S t f listed a w k ok) : wpAnyT P md ops Q S t (f + 1) listed a w := by
  refine ⟨fun h0 => (by rw [h0] at hr; cases hr), fun x hx => ?_⟩
  rw [hr] at hx
  have e : x = i ∨ x = j ∨ x = k := by simpa using hx
  rcases e with rfl | rfl | rfl
  · exact wpOp_step hi (fun K' hK => h1 K' (fun a w hS hW => hK a w ⟨hS, hW⟩))
  · exact wpOp_step hj (fun K' hK => h2 K' (fun a w hS hW => hK a w ⟨hS, hW⟩))
  · exact wpOp_step hk (fun K' hK => h3 K' (fun a w hS hW => hK a w ⟨hS, hW⟩))
end
end Go.Proofs.Ytfpglkacjecoeaa
