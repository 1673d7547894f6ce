/- The contracts of round.Begin, and of what turns a round's phase. -/
import Derived.Test.YtgfhpgomlocllaaRoundRight
import Derived.Test.YtgfhpgomlocllaaRounds2
import Derived.Test.YtgfhpgomlocllaaIntsClone
import Derived.Laws.MakeOwn
namespace Go.Proofs.Ytgfhpgomlocllaa
open Go.RowKit

/-- A row that is the one that came, or a new one. -/
def FreshOr (w : World) (A : Option Addr) (n0 : Nat) (D : Option Addr) (n : Nat) : Prop := (D = A ∧ n = n0) ∨ (0 < n → ∃ b o, D = some ⟨b, o, none⟩ ∧ w.heap.size ≤ b)
/-- A round is handed back, with an error. -/
def GivesR (A : Option Addr) (n0 : Nat) (r : Rounds.R) (err : Int) (w : World) (e : Ending) (w' : World) : Prop := ∃ B n d, e = .returned (.tuple #[rval r B n d, .int .i64 err]) ∧ Is w' B n d r.marks ∧ FreshOr w A n0 B n ∧ Ext w w'
theorem FreshOr.none (w : World) (A : Option Addr) (n0 : Nat) (D : Option Addr) : FreshOr w A n0 D 0 := .inr (fun h => absurd h (Nat.lt_irrefl 0))
theorem FreshOr.same (w : World) (A : Option Addr) (n0 : Nat) : FreshOr w A n0 A n0 := .inl ⟨rfl, rfl⟩
theorem FreshOr.new {w : World} {A : Option Addr} {n0 b n : Nat} (h : w.heap.size ≤ b) : FreshOr w A n0 (some ⟨b, 0, .none⟩) n := .inr (fun _ => ⟨b, 0, rfl, h⟩)
theorem FreshOr.own {w W : World} {base : Nat} {A D : Option Addr} {n0 n c : Nat} {t : TypeId} {xs : List Value} (h : W.ownsRow base t 1 (.slice D n c) n xs) (hb : w.heap.size ≤ base) : FreshOr w A n0 D n := .inr (fun hn => by
  obtain ⟨g, rfl, h1, _⟩ := own_addr h hn
  exact ⟨g, 0, rfl, by omega⟩)
theorem FreshOr.from_ {w W : World} {A D : Option Addr} {n0 n : Nat} (h : FreshOr W A n0 D n) (hx : Ext w W) : FreshOr w A n0 D n := by
  rcases h with h | h
  · exact .inl h
  · exact .inr (fun hn => by obtain ⟨b, o, e, hb⟩ := h hn; exact ⟨b, o, e, Nat.le_trans hx.size hb⟩)
theorem Is.off {w : World} {D : Option Addr} {n c : Nat} {l : List Int} (h : Is w D n c l) {p : Addr} (hp : 0 < n → ∀ b, D.map (·.block) = some b → p.block ≠ b) (u : Value) : Is (w.setCell p u) D n c l := by
  refine ⟨h.len, h.le, h.max, h.rd.1, fun hn => ?_⟩
  obtain ⟨b, o, e, hc⟩ := h.rd.2 hn
  subst e
  refine ⟨b, o, rfl, fun j x hx => ?_⟩
  rw [World.cell?_setCell_other _ _ _ _ (fun e => hp hn b rfl (by rw [e]))]
  exact hc j x hx
/-- Where such a row is not: in what was made between. -/
theorem FreshOr.off {w W : World} {A D : Option Addr} {n0 c0 n : Nat} {l0 : List Int} (h : FreshOr W A n0 D n) (hl : Is w A n0 c0 l0) {q : Nat} (h1 : w.heap.size ≤ q) (h2 : q < W.heap.size) : 0 < n → ∀ b, D.map (·.block) = some b → q ≠ b := by
  intro hn b hb e
  rcases h with ⟨rfl, rfl⟩ | h
  · obtain ⟨b', o, rfl, hc⟩ := hl.rd.intAt hn
    injection hb with hb
    have hb' : b' = b := hb
    have := World.block_lt_of_cell? _ _ hc
    have h3 : b' < w.heap.size := this
    omega
  · obtain ⟨b', o, rfl, hb'⟩ := h hn
    injection hb with hb
    have h4 : b' = b := hb
    omega

/-- A row of one value, many times. -/
def made (c : Nat) (z : Value) : Array Value := madeCells #[z] c
theorem made_list (c : Nat) (k : Int) : (made c (.int .i64 k)).toList = icells (List.replicate c k) := by
  unfold made madeCells icells
  rw [Array.toList_map, Array.toList_range, List.map_replicate]
  apply List.ext_getElem (by simp)
  intro i h1 h2
  simp [Nat.mod_one]
theorem made_size (c : Nat) (z : Value) : (made c z).size = c := by simp [made, size_madeCells]
theorem run_make_ints (W : World) (c : Nat) (hc : c ≤ 1000) : (Instr.makeSlice 23 (.int .i64 (c : Int)) (.int .i64 (c : Int))).run Try.prog W = .ok (.slice (some ⟨W.heap.size, 0, none⟩) c c) (W.alloc (.cells (made c (.int .i64 0)) 3)) := by
  obtain ⟨i, hi, hz, h1, h2⟩ := info_parts int_info
  have h := run_make (P := Try.prog) W 23 3 i _ Try.underlying23 hi hz .i64 .i64 (c : Int) (c : Int) (by omega) (Int.le_refl _) (by rw [h2]; omega) (by omega)
  rw [h1] at h
  simpa [made, Value.cells] using h
theorem is_made (w : World) (c : Nat) (t : TypeId) (hc : c ≤ 1000) {g : Nat} (hg : w.heap.size = g) : Is (w.alloc (.cells (made c (.int .i64 0)) t)) (some ⟨g, 0, none⟩) c c (List.replicate c 0) :=
  Is.lit w g hg (List.replicate c 0) _ t c (by simp) (made_list c 0) hc

set_option maxHeartbeats 1000000 in
theorem begin_no (w : World) (s v n d : Int) (h : ¬ Rounds.named s v n d) :
    Calls Try.prog 14 #[.int .i64 s, .int .i64 v, .int .i64 n, .int .i64 d] w (GivesR none 0 Rounds.zero 130 w) := by
  have hn := named_any (w.alloc (.cells #[.int .i64 0, .int .i64 0, .int .i64 0, .int .i64 0, .slice none 0 0] 25)) s v n d
  rw [decide_eq_false h] at hn
  have HN := Lib.hid hn
  clear hn h
  go_enter Try.func14, Try.ntmps14
  go_wp2_with (fail)
  refine HN.out.mono ?_
  rintro r w' ⟨rfl, rfl⟩
  go_wp2_with (fail)
  exact bodyPost_ret (v := .tuple #[rval Rounds.zero none 0 0, .int .i64 130]) (by simp [results, Try.results14, go_sem, Rounds.zero]) rfl ⟨none, 0, 0, rfl, Is.none _, FreshOr.none _ _ _ _, Ext.alloc _ _⟩
set_option maxHeartbeats 1000000 in
theorem begin_ok (w : World) (s v d : Int) (n : Nat) (h : Rounds.named s v n d) :
    Calls Try.prog 14 #[.int .i64 s, .int .i64 v, .int .i64 (n : Int), .int .i64 d] w (GivesR none 0 (Rounds.begun s v d n) 0 w) := by
  have h255 : n ≤ 255 := by unfold Rounds.named at h; omega
  have hn := named_any (w.alloc (.cells #[.int .i64 0, .int .i64 0, .int .i64 0, .int .i64 0, .slice none 0 0] 25)) s v n d
  rw [decide_eq_true h] at hn
  have HN := Lib.hid hn
  have hmk := fun W => run_make_ints W n (by omega)
  clear hn h
  go_enter Try.func14, Try.ntmps14
  go_wp2_with (fail)
  refine HN.out.mono ?_
  rintro r w' ⟨rfl, rfl⟩
  go_wp2_with (fail)
  exact bodyPost_ret (v := .tuple #[rval (Rounds.begun s v d n) (some ⟨w.heap.size + 1, 0, none⟩) n n, .int .i64 0]) (by simp [results, Try.results14, go_sem, Rounds.begun]) rfl ⟨_, _, _, rfl, is_made _ n _ (by omega) (by simp), FreshOr.new (Nat.le_succ _), (Ext.alloc _ _).thenAlloc _⟩
theorem begin_any (w : World) (s v n d : Int) :
    Calls Try.prog 14 #[.int .i64 s, .int .i64 v, .int .i64 n, .int .i64 d] w (GivesR none 0 (if Rounds.named s v n d then Rounds.begun s v d n.toNat else Rounds.zero) (if Rounds.named s v n d then 0 else 130) w) := by
  by_cases h : Rounds.named s v n d
  · rw [if_pos h, if_pos h]
    obtain ⟨m, rfl⟩ := Int.eq_ofNat_of_zero_le (show 0 ≤ n by unfold Rounds.named at h; omega)
    rw [Int.toNat_natCast]
    exact begin_ok w s v d m h
  · rw [if_neg h, if_neg h]
    exact begin_no w s v n d h
end Go.Proofs.Ytgfhpgomlocllaa
