/- The contract of the laws' wants: does a round want that? -/
import Derived.Test.YtgfhpgomlocllaaRoundLow
namespace Go.Proofs.Ytgfhpgomlocllaa
open Go.RowKit

def pcells (l : List (Int × Int)) : List Value := l.flatMap fun x => [.int .i64 x.1, .int .i64 x.2]
theorem pcells_length (l : List (Int × Int)) : (pcells l).length = l.length * 2 := by
  induction l with
  | nil => rfl
  | cons x l ih => unfold pcells at *; rw [List.flatMap_cons, List.length_append, ih]; simp; omega
theorem pcells_get {l : List (Int × Int)} {k : Nat} (h : k < l.length) : (pcells l)[k * 2]? = some (.int .i64 (wget l k).1) ∧ (pcells l)[k * 2 + 1]? = some (.int .i64 (wget l k).2) := by
  induction l generalizing k with
  | nil => exact absurd h (Nat.not_lt_zero _)
  | cons x l ih =>
    cases k with
    | zero => exact ⟨rfl, rfl⟩
    | succ k =>
      have := ih (k := k) (by simpa using h)
      have e : (k + 1) * 2 = k * 2 + 2 := by omega
      rw [e]
      exact this
/-- A slice of pairs of int. -/
structure Qs (w : World) (A : Option Addr) (n c : Nat) (l : List (Int × Int)) : Prop where
  len : l.length = n
  le : n ≤ c
  max : c ≤ 9223372036854775807
  rd : Rd w 2 A n (pcells l)
theorem Qs.ext {w w' : World} {A : Option Addr} {n c : Nat} {l : List (Int × Int)} (h : Qs w A n c l) (hx : Ext w w') : Qs w' A n c l := ⟨h.len, h.le, h.max, h.rd.ext hx⟩
theorem Qs.at_ {w : World} {A : Option Addr} {n c : Nat} {l : List (Int × Int)} (h : Qs w A n c l) {k : Nat} (hk : k < n) :
    ∃ b off, A = some ⟨b, off, none⟩ ∧ w.cell? ⟨b, off + k * 2, none⟩ = some (.int .i64 (wget l k).1) ∧ w.cell? ⟨b, off + k * 2 + 1, none⟩ = some (.int .i64 (wget l k).2) := by
  obtain ⟨b, off, e, hc⟩ := h.rd.2 (by omega)
  obtain ⟨h1, h2⟩ := pcells_get (l := l) (k := k) (by rw [h.len]; exact hk)
  exact ⟨b, off, e, hc _ _ h1, by rw [Nat.add_assoc]; exact hc _ _ h2⟩
theorem Qs.lit (w : World) (l : List (Int × Int)) (cs : Array Value) (t : TypeId) (n : Nat) {g : Nat} (hg : w.heap.size = g) (hn : l.length = n) (h : cs.toList = pcells l) (hl : n ≤ 1000) : Qs (w.alloc (.cells cs t)) (some ⟨g, 0, none⟩) n n l := by
  subst hn
  subst hg
  refine ⟨rfl, Nat.le_refl _, by omega, pcells_length l, fun _ => ⟨w.heap.size, 0, rfl, fun j u hu => ?_⟩⟩
  rw [Nat.zero_add, World.cell?_alloc_new, ← h] at *
  simpa using hu
theorem take_wget {l : List (Int × Int)} {k : Nat} (h : k < l.length) : l.take (k + 1) = l.take k ++ [wget l k] := by
  rw [List.take_succ_eq_append_getElem h]
  simp [wget, h]

set_option maxRecDepth 100000 in
set_option maxHeartbeats 2000000 in
theorem lawWants_any (w : World) (r : Rounds.R) (A : Option Addr) (n c : Nat) (hl : Is w A n c r.marks) (B : Option Addr) (m d : Nat) (l : List (Int × Int)) (ht : Qs w B m d l) (hm : m ≤ 1000) (hb : ∀ k, k < l.length → 0 ≤ (wget l k).2 ∧ (wget l k).2 < 256) :
    Calls Try.prog 20 #[rval r A n c, .slice B m d] w fun e w' => e = .returned (.bool (decide (Rounds.wants r = l))) ∧ Ext w w' := by
  have hmx := ht.max
  have hle := ht.le
  have L := Lib.hid ht.len
  have bx := Bx.new w r.stripe r.version r.need r.phase (.slice A n c) rfl
  have x0 : Ext w (w.alloc (.cells #[.int .i64 r.stripe, .int .i64 r.version, .int .i64 r.need, .int .i64 r.phase, .slice A n c] 25)) := Ext.alloc _ _
  obtain ⟨i0, hi0, hz0, hz1, hz2⟩ := info_parts want_info
  have HB := Lib.hid hb
  clear hb
  go_enter Try.func20, Try.ntmps20
  try dsimp only [List.append]
  go_wp2_with (fail)
  generalize (w.alloc (.cells #[.int .i64 r.stripe, .int .i64 r.version, .int .i64 r.need, .int .i64 r.phase, .slice A n c] 25)) = W at *
  generalize hg : w.heap.size = g at *
  clear hg
  go_loopw [5, 10] (fun q i wr => ∃ k : Nat, k ≤ m ∧ i = .int .i64 k ∧ wr.ownsRow W.heap.size 62 2 q (l.take k).length (wcells (l.take k)) ∧ Ext W wr) (fun _ i _ => m - (intOf i).toNat)
  case atStart => exact ⟨0, by omega, rfl, World.ownsRow_nil _ _ _ _, Ext.refl W⟩
  case round =>
    obtain ⟨k, hk, rfl, own, hx⟩ := hrel
    by_cases hlk : k < m
    · have q1 : (k : Int) < m := by omega
      obtain ⟨b, o, rfl, t1, t2⟩ := ((ht.ext x0).ext hx).at_ hlk
      obtain ⟨hb0, hb1⟩ := HB.out k (by rw [L.out]; exact hlk)
      have htk := take_wget (l := l) (k := k) (by rw [L.out]; exact hlk)
      have hln : (l.take k).length ≤ k := List.length_take_le _ _
      generalize wget l k = x at *
      obtain ⟨y0, y1⟩ := x
      simp only at t1 t2 hb0 hb1 htk
      have HTK := Lib.hid htk
      have OWN := Lib.hid own
      have hsz := hx.size
      clear htk own
      go_wp2_with (
        at_builtin
        refine wpList_append_rd _ rfl (.tmp 14) (.tmp 21) 47 rfl W.heap.size 62 i0 _ 2 16 Try.underlying47 hi0 hz0 hz1 hz2 rfl (by omega) u5 (l.take k).length (wcells (l.take k)) rfl (ownsRow_ext OWN.out ((Ext.alloc _ _).thenAlloc _))
          (some ⟨wr.heap.size + 1, 0, none⟩) 1 1 [.int .i64 y0, .int .u8 y1] rfl (by simpa using Rd.lit2w (wr.alloc (.cells #[.int .i64 y0, .int .i64 y1] 45)) (.int .i64 y0) (.int .u8 y1) 62) (by simp [Value.oneCell']) (by omega) (by unfold maxLen; omega) (by simp; omega) ?_
        intro v1 w2 hown hgr hat)
      refine ⟨⟨k + 1, by omega, by go_num, ?_, ?_⟩, by simp [intOf]; omega⟩
      · rw [HTK.out, wcells_append, List.length_append]
        exact hown
      · exact Ext.ofGrown ((hx.thenAlloc _).thenAlloc _) hgr (own_row OWN.out)
    · have q1 : ¬ (k : Int) < m := by omega
      have hall : l.take k = l := List.take_of_length_le (by rw [L.out]; omega)
      rw [hall] at own
      clear hall
      obtain ⟨D, e, rfl, hW⟩ := Ws.own own
      have bx2 := bx.ext hx
      have c0 := bx2.c0
      have c1 := bx2.c1
      have c2 := bx2.c2
      have c3 := bx2.c3
      have c4 := bx2.c4
      have hc := wants_any wr r A n c ((hl.ext x0).ext hx)
      have HC := Lib.hid hc
      clear bx2 hc own
      go_wp2_with (fail)
      refine HC.out.mono ?_
      rintro y w2 ⟨E, f, h, rfl, hV, x2⟩
      go_wp2_with (fail)
      refine (sameWants_any w2 E D f h _ e _ _ hV (hW.ext x2)).mono ?_
      rintro y w3 ⟨rfl, hd⟩
      go_wp2_with (fail)
      go_ret
      exact ⟨rfl, ((x0.trans hx).trans x2).trans (Dr.ext hd)⟩
end Go.Proofs.Ytgfhpgomlocllaa
