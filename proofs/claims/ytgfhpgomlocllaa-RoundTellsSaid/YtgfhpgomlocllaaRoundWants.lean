/- Slices of wants; the contract of round.Wants. -/
import Derived.Test.YtgfhpgomlocllaaRoundRight
import Derived.Test.YtgfhpgomlocllaaRoundWant
import Derived.Test.YtgfhpgomlocllaaRounds2
namespace Go.Proofs.Ytgfhpgomlocllaa
open Go.RowKit

/-- Wants as cells. -/
def wcells (l : List (Int × Int)) : List Value := l.flatMap fun x => [.int .i64 x.1, .int .u8 x.2]
theorem wcells_length (l : List (Int × Int)) : (wcells l).length = l.length * 2 := by
  induction l with
  | nil => rfl
  | cons x l ih => unfold wcells at *; rw [List.flatMap_cons, List.length_append, ih]; simp; omega
theorem wcells_append (l m : List (Int × Int)) : wcells (l ++ m) = wcells l ++ wcells m := by simp [wcells]
theorem wcells_one (l : List (Int × Int)) : ∀ u ∈ wcells l, u.oneCell' = true := by
  intro u hu
  simp only [wcells, List.mem_flatMap] at hu
  obtain ⟨x, _, hx⟩ := hu
  simp at hx
  rcases hx with rfl | rfl <;> rfl
theorem Rd.lit2w (w : World) (c0 c1 : Value) (t : TypeId) : Rd (w.alloc (.cells #[c0, c1] t)) 2 (some ⟨w.heap.size, 0, none⟩) 1 [c0, c1] := by
  refine ⟨rfl, fun _ => ⟨w.heap.size, 0, rfl, fun j u hu => ?_⟩⟩
  rw [Nat.zero_add, World.cell?_alloc_new]
  simpa using hu
def wget (l : List (Int × Int)) (k : Nat) : Int × Int := l.getD k (0, 0)
theorem wcells_get {l : List (Int × Int)} {k : Nat} (h : k < l.length) : (wcells l)[k * 2]? = some (.int .i64 (wget l k).1) ∧ (wcells l)[k * 2 + 1]? = some (.int .u8 (wget l k).2) := by
  induction l generalizing k with
  | nil => exact absurd h (Nat.not_lt_zero _)
  | cons x l ih =>
    cases k with
    | zero => exact ⟨rfl, rfl⟩
    | succ k =>
      have := ih (k := k) (by simpa using h)
      have e : (k + 1) * 2 = k * 2 + 2 := by omega
      rw [e]
      exact this
theorem want_info : (Try.prog.info? 62).map (fun i => (i.zero, i.size, i.bytes)) = some (some (.agg #[.int .i64 0, .int .u8 0]), 2, 16) := by kernel_rfl
/-- A slice of wants. -/
structure Ws (w : World) (A : Option Addr) (n c : Nat) (l : List (Int × Int)) : Prop where
  len : l.length = n
  le : n ≤ c
  max : c ≤ 9223372036854775807
  rd : Rd w 2 A n (wcells l)
theorem Ws.ext {w w' : World} {A : Option Addr} {n c : Nat} {l : List (Int × Int)} (h : Ws w A n c l) (hx : Ext w w') : Ws w' A n c l := ⟨h.len, h.le, h.max, h.rd.ext hx⟩
theorem Ws.none (w : World) : Ws w none 0 0 [] := ⟨rfl, Nat.le_refl _, by omega, Rd.nil _ _ _⟩
theorem Ws.at_ {w : World} {A : Option Addr} {n c : Nat} {l : List (Int × Int)} (h : Ws w A n c l) {k : Nat} (hk : k < n) :
    ∃ b off, A = some ⟨b, off, .none⟩ ∧ w.cell? ⟨b, off + k * 2, .none⟩ = some (.int .i64 (wget l k).1) ∧ w.cell? ⟨b, off + k * 2 + 1, .none⟩ = some (.int .u8 (wget l k).2) := by
  obtain ⟨b, off, e, hc⟩ := h.rd.2 (by omega)
  obtain ⟨h1, h2⟩ := wcells_get (l := l) (k := k) (by rw [h.len]; exact hk)
  exact ⟨b, off, e, hc _ _ h1, by rw [Nat.add_assoc]; exact hc _ _ h2⟩
theorem Ws.own {w : World} {base : Nat} {e : TypeId} {v : Value} {l : List (Int × Int)} (h : w.ownsRow base e 2 v l.length (wcells l)) : ∃ A c, v = .slice A l.length c ∧ Ws w A l.length c l := by
  obtain ⟨A, c, rfl, h1, h2⟩ := ownsRow_slice h
  exact ⟨A, c, rfl, rfl, h1, h2, Rd.of_own h⟩
/-- What Wants hands back. -/
def GivesW (l : List (Int × Int)) (w : World) (e : Ending) (w' : World) : Prop := ∃ A n c, e = .returned (.slice A n c) ∧ Ws w' A n c l ∧ Ext w w'

set_option maxRecDepth 100000 in
set_option maxHeartbeats 2000000 in
theorem wants_any (w : World) (r : Rounds.R) (A : Option Addr) (n c : Nat) (hl : Is w A n c r.marks) :
    Calls Try.prog 22 #[rval r A n c] w (GivesW (Rounds.wants r) w) := by
  obtain ⟨s, v, d, p, l⟩ := r
  show Calls Try.prog 22 #[.agg #[.int .i64 s, .int .i64 v, .int .i64 d, .int .i64 p, .slice A n c]] w _
  have hl' : Is w A n c l := hl
  have hR := right_any (w.alloc (.cells #[.int .i64 s, .int .i64 v, .int .i64 d, .int .i64 p, .slice A n c] 25)) ⟨s, v, d, p, l⟩ A n c (hl'.up _)
  unfold Rounds.wants
  by_cases hr : Rounds.Right ⟨s, v, d, p, l⟩
  · rw [if_pos hr]
    rw [decide_eq_true hr] at hR
    have HR := Lib.hid hR
    have hn : n ≤ 255 := by
      have h1 := hr.1
      have h2 := hl'.len
      unfold Rounds.named at h1
      simp only at h1
      omega
    have L := Lib.hid hl'.len
    have hmx := hl.max
    have hle := hl.le
    obtain ⟨i0, hi0, hz0, hz1, hz2⟩ := info_parts want_info
    clear hR hr hl
    go_enter Try.func22, Try.ntmps22
    try dsimp only [List.append]
    go_wp2_with (fail)
    refine HR.out.mono ?_
    rintro x w1 ⟨rfl, x1⟩
    have bx : w1.heap[w.heap.size]? = some (.cells #[.int .i64 s, .int .i64 v, .int .i64 d, .int .i64 p, .slice A n c] 25 (0, 0)) := (x1.block w.heap.size (by simp)).trans (heap_alloc_new w _)
    replace x1 := (Ext.alloc w _).trans x1
    have c3 : w1.cell? ⟨w.heap.size, 3, none⟩ = some (.int .i64 p) := by rw [cell_of_row w1 _ _ _ _ _ bx]; rfl
    have c4 : w1.cell? ⟨w.heap.size, 4, none⟩ = some (.slice A n c) := by rw [cell_of_row w1 _ _ _ _ _ bx]; rfl
    have hl1 := hl'.ext x1
    have g1 : w.heap.size < w1.heap.size := (Array.getElem?_eq_some_iff.1 bx).1
    have X1 := Lib.hid x1
    clear bx HR x1
    generalize hg : w.heap.size = g at *
    clear hg
    go_wp2_with (fail)
    clear c4
    go_loopw [3, 13] (fun q i wr => ∃ k : Nat, k ≤ n ∧ i = .int .i64 k ∧ wr.ownsRow w1.heap.size 62 2 q (Rounds.wantsOf p l k).length (wcells (Rounds.wantsOf p l k)) ∧ Ext w1 wr) (fun _ i _ => n - (intOf i).toNat)
    case atStart => exact ⟨0, by omega, rfl, World.ownsRow_nil _ _ _ _, Ext.refl w1⟩
    case round =>
      obtain ⟨k, hk, rfl, own, hx⟩ := hrel
      replace c3 := hx.cell c3
      by_cases hlt : k < n
      · have q1 : (k : Int) < n := by omega
        obtain ⟨b, o, rfl, hc⟩ := (hl1.ext hx).rd.intAt hlt
        have hs := Rounds.wantsOf_succ p l k
        have hln := Rounds.wantsOf_length p l k
        have hw := want_any wr p (Il.get l k)
        have hwr := Rounds.want_range p (Il.get l k)
        generalize hwt : Rounds.want p (Il.get l k) = t at *
        generalize Il.get l k = mk at *
        have HS := Lib.hid hs
        have HW := Lib.hid hw
        have OWN := Lib.hid own
        clear hs hw hwt own
        by_cases ht : t = 0
        · subst ht
          go_wp2_with (fail)
          refine HW.out.mono ?_
          rintro x w' ⟨rfl, rfl⟩
          go_wp2_with (fail)
          refine ⟨⟨k + 1, by omega, by go_num, ?_, hx⟩, by simp [intOf]; omega⟩
          rw [HS.out, if_neg (fun h => h rfl), List.append_nil]
          exact OWN.out
        · have hpos : 0 < t := by omega
          have hsz := hx.size
          go_wp2_with (fail)
          refine HW.out.mono ?_
          rintro x w' ⟨rfl, rfl⟩
          go_wp2_with (
            at_builtin
            refine wpList_append_rd _ rfl (.tmp 24) (.tmp 28) 47 rfl w1.heap.size 62 i0 _ 2 16 Try.underlying47 hi0 hz0 hz1 hz2 rfl (by omega) u3 (Rounds.wantsOf p l k).length (wcells (Rounds.wantsOf p l k)) rfl (ownsRow_ext OWN.out (Ext.alloc _ _))
              (some ⟨wr.heap.size, 0, none⟩) 1 1 [.int .i64 k, .int .u8 t] rfl (Rd.lit2w _ _ _ _) (by simp [Value.oneCell']) (by omega) (by unfold maxLen; omega) (by simp; omega) ?_
            intro v1 w2 hown hgr hat)
          refine ⟨⟨k + 1, by omega, by go_num, ?_, ?_⟩, by simp [intOf]; omega⟩
          · rw [HS.out, if_pos ht, wcells_append, List.length_append]
            exact hown
          · exact Ext.ofGrown (hx.thenAlloc _) hgr (own_row OWN.out)
      · have q1 : ¬ (k : Int) < n := by omega
        have hkl : k = l.length := by rw [L.out]; omega
        rw [hkl] at own
        clear hkl
        obtain ⟨D, e, rfl, hW⟩ := Ws.own own
        go_wp2_with (fail)
        go_ret
        exact ⟨D, _, e, rfl, hW, X1.out.trans hx⟩
  · rw [if_neg hr]
    rw [decide_eq_false hr] at hR
    have HR := Lib.hid hR
    clear hR hr
    go_enter Try.func22, Try.ntmps22
    try dsimp only [List.append]
    go_wp2_with (fail)
    refine HR.out.mono ?_
    rintro x w1 ⟨rfl, x1⟩
    go_wp2_with (fail)
    go_ret
    exact ⟨none, 0, 0, rfl, Ws.none _, (Ext.alloc _ _).trans x1⟩
end Go.Proofs.Ytgfhpgomlocllaa
