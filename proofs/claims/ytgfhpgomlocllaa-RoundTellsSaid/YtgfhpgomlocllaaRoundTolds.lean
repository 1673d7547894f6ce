/- The contract of the laws' told: a round behind answers. -/
import Derived.Test.YtgfhpgomlocllaaRoundTold
import Derived.Test.YtgfhpgomlocllaaRoundLow
namespace Go.Proofs.Ytgfhpgomlocllaa
open Go.RowKit

/-- An answer: index, ask, error. -/
abbrev Ans := Int × Int × Int
def tcells (l : List Ans) : List Value := l.flatMap fun x => [.int .i64 x.1, .int .i64 x.2.1, .int .i64 x.2.2]
def tget (l : List Ans) (k : Nat) : Ans := l.getD k (0, 0, 0)
theorem tcells_length (l : List Ans) : (tcells l).length = l.length * 3 := by
  induction l with
  | nil => rfl
  | cons x l ih => unfold tcells at *; rw [List.flatMap_cons, List.length_append, ih]; simp; omega
theorem tcells_get {l : List Ans} {k : Nat} (h : k < l.length) : (tcells l)[k * 3]? = some (.int .i64 (tget l k).1) ∧ (tcells l)[k * 3 + 1]? = some (.int .i64 (tget l k).2.1) ∧ (tcells l)[k * 3 + 2]? = some (.int .i64 (tget l k).2.2) := by
  induction l generalizing k with
  | nil => exact absurd h (Nat.not_lt_zero _)
  | cons x l ih =>
    cases k with
    | zero => exact ⟨rfl, rfl, rfl⟩
    | succ k =>
      have := ih (k := k) (by simpa using h)
      have e : (k + 1) * 3 = k * 3 + 3 := by omega
      rw [e]
      exact this
/-- A slice of answers. -/
structure Ts (w : World) (A : Option Addr) (n c : Nat) (l : List Ans) : Prop where
  len : l.length = n
  le : n ≤ c
  max : c ≤ 9223372036854775807
  rd : Rd w 3 A n (tcells l)
theorem Ts.ext {w w' : World} {A : Option Addr} {n c : Nat} {l : List Ans} (h : Ts w A n c l) (hx : Ext w w') : Ts w' A n c l := ⟨h.len, h.le, h.max, h.rd.ext hx⟩
theorem Ts.at_ {w : World} {A : Option Addr} {n c : Nat} {l : List Ans} (h : Ts w A n c l) {k : Nat} (hk : k < n) :
    ∃ b off, A = some ⟨b, off, none⟩ ∧ w.cell? ⟨b, off + k * 3, none⟩ = some (.int .i64 (tget l k).1) ∧ w.cell? ⟨b, off + k * 3 + 1, none⟩ = some (.int .i64 (tget l k).2.1) ∧ w.cell? ⟨b, off + k * 3 + 2, none⟩ = some (.int .i64 (tget l k).2.2) := by
  obtain ⟨b, off, e, hc⟩ := h.rd.2 (by omega)
  obtain ⟨h1, h2, h3⟩ := tcells_get (l := l) (k := k) (by rw [h.len]; exact hk)
  exact ⟨b, off, e, hc _ _ h1, by rw [Nat.add_assoc]; exact hc _ _ h2, by rw [Nat.add_assoc]; exact hc _ _ h3⟩
theorem Ts.lit (w : World) (l : List Ans) (cs : Array Value) (t : TypeId) (n : Nat) {g : Nat} (hg : w.heap.size = g) (hn : l.length = n) (h : cs.toList = tcells l) (hl : n ≤ 1000) : Ts (w.alloc (.cells cs t)) (some ⟨g, 0, none⟩) n n l := by
  subst hn
  subst hg
  refine ⟨rfl, Nat.le_refl _, by omega, tcells_length l, fun _ => ⟨w.heap.size, 0, rfl, fun j u hu => ?_⟩⟩
  rw [Nat.zero_add, World.cell?_alloc_new, ← h] at *
  simpa using hu

theorem Two.whole {w W : World} {g : Nat} {s v d p : Int} {S : Value} (h : Two w W g s v d p S) (s' v' d' p' : Int) (S' : Value) :
    Two w (((((W.setCell ⟨g, 0, none⟩ (.int .i64 s')).setCell ⟨g, 1, none⟩ (.int .i64 v')).setCell ⟨g, 2, none⟩ (.int .i64 d')).setCell ⟨g, 3, none⟩ (.int .i64 p')).setCell ⟨g, 4, none⟩ S') g s' v' d' p' S' :=
  ⟨h.a.whole s' v' d' p' S', ((((h.b.far (q := ⟨g, 0, none⟩) (by show g ≠ g + 1; omega) _).far (q := ⟨g, 1, none⟩) (by show g ≠ g + 1; omega) _).far (q := ⟨g, 2, none⟩) (by show g ≠ g + 1; omega) _).far (q := ⟨g, 3, none⟩) (by show g ≠ g + 1; omega) _).far (q := ⟨g, 4, none⟩) (by show g ≠ g + 1; omega) _,
    h.x.five h.base _ _ _ _ _, h.base⟩
def toldsTo (r : Rounds.R) (l : List Ans) (k : Nat) : Rounds.R := (l.take k).foldl (fun r x => Rounds.told r x.1 x.2.1 x.2.2) r
def okTo (r : Rounds.R) (l : List Ans) : Nat → Bool
  | 0 => true
  | k + 1 => okTo r l k && (Rounds.toldE (toldsTo r l k) (tget l k).1 == 0)
theorem toldsTo_succ {r : Rounds.R} {l : List Ans} {k : Nat} (h : k < l.length) : toldsTo r l (k + 1) = Rounds.told (toldsTo r l k) (tget l k).1 (tget l k).2.1 (tget l k).2.2 := by
  have e : tget l k = l[k] := by simp [tget, h]
  unfold toldsTo
  rw [List.take_succ_eq_append_getElem h, List.foldl_append, List.foldl_cons, List.foldl_nil, e]
def tolds (r : Rounds.R) (l : List Ans) : Rounds.R := toldsTo r l l.length
def toldsOk (r : Rounds.R) (l : List Ans) : Bool := okTo r l l.length
theorem told_len (r : Rounds.R) (i o e : Int) : (Rounds.told r i o e).marks.length = r.marks.length := by
  unfold Rounds.told Rounds.told1 Rounds.next Rounds.setMark
  split <;> simp
theorem toldsTo_len (r : Rounds.R) (l : List Ans) (k : Nat) : (toldsTo r l k).marks.length = r.marks.length := by
  unfold toldsTo
  generalize l.take k = m
  induction m generalizing r with
  | nil => rfl
  | cons x m ih => rw [List.foldl_cons, ih, told_len]
/-- A round is handed back, and whether none erred. -/
def GivesT (r : Rounds.R) (ok : Bool) (w : World) (e : Ending) (w' : World) : Prop := ∃ B n d, e = .returned (.tuple #[rval r B n d, .bool ok]) ∧ Is w' B n d r.marks ∧ Ext w w'

set_option maxRecDepth 100000 in
set_option maxHeartbeats 4000000 in
theorem tolds_any (w : World) (r : Rounds.R) (A : Option Addr) (n c : Nat) (hl : Is w A n c r.marks) (hn : n ≤ 1000000) (B : Option Addr) (m d : Nat) (l : List Ans) (ht : Ts w B m d l) (hb : ∀ k, k < l.length → 0 ≤ (tget l k).2.1 ∧ (tget l k).2.1 < 256) :
    Calls Try.prog 18 #[rval r A n c, .slice B m d] w (GivesT (tolds r l) (toldsOk r l) w) := by
  have hmx := ht.max
  have hle := ht.le
  have L := Lib.hid ht.len
  have LM := Lib.hid hl.len
  have tw := Two.start w r.stripe r.version r.need r.phase (.slice A n c)
  have HB := Lib.hid hb
  have hl0 := hl.ext tw.x
  have hlt : w.heap.size + 1 < ((w.alloc (.cells #[.int .i64 r.stripe, .int .i64 r.version, .int .i64 r.need, .int .i64 r.phase, .slice A n c] 25)).alloc (.cells #[.int .i64 0, .int .i64 0, .int .i64 0, .int .i64 0, .slice none 0 0] 25)).heap.size := by simp
  clear hb
  go_enter Try.func18, Try.ntmps18
  try dsimp only [List.append]
  go_wp2_with (fail)
  generalize ((w.alloc (.cells #[.int .i64 r.stripe, .int .i64 r.version, .int .i64 r.need, .int .i64 r.phase, .slice A n c] 25)).alloc (.cells #[.int .i64 0, .int .i64 0, .int .i64 0, .int .i64 0, .slice none 0 0] 25)) = W at *
  generalize hg : w.heap.size = g at *
  have HG := Lib.hid hg
  clear hg
  go_loopw [6, 12] (fun ok i wr => ∃ (k : Nat) (D : Option Addr) (q e : Nat), k ≤ m ∧ i = .int .i64 k ∧ ok = .bool (okTo r l k) ∧ Two w wr g (toldsTo r l k).stripe (toldsTo r l k).version (toldsTo r l k).need (toldsTo r l k).phase (.slice D q e) ∧ Is wr D q e (toldsTo r l k).marks ∧ FreshOr W A n D q ∧ W.heap.size ≤ wr.heap.size) (fun _ i _ => m - (intOf i).toNat)
  case atStart => exact ⟨0, A, n, c, by omega, rfl, rfl, tw, hl0, FreshOr.same _ _ _, Nat.le_refl _⟩
  case round =>
    obtain ⟨k, D, q, e, hk, rfl, rfl, tw, hI, hfr, hsz⟩ := hrel
    clear hl0
    have hqn : q = n := by rw [← hI.len, toldsTo_len]; exact LM.out
    have HQ := Lib.hid hqn
    clear hqn
    by_cases hlk : k < m
    · have q1 : (k : Int) < m := by omega
      obtain ⟨b, o, rfl, t1, t2, t3⟩ := (ht.ext tw.x).at_ hlk
      have hbb := HB.out k (by rw [L.out]; exact hlk)
      have hst := toldsTo_succ (r := r) (l := l) (k := k) (by rw [L.out]; exact hlk)
      have hok : okTo r l (k + 1) = (okTo r l k && (Rounds.toldE (toldsTo r l k) (tget l k).1 == 0)) := rfl
      generalize tget l k = x at *
      obtain ⟨x0, x1, x2⟩ := x
      simp only at t1 t2 t3 hbb hst hok
      generalize toldsTo r l k = rk at *
      generalize okTo r l k = ok at *
      have HST := Lib.hid hst
      have HOK := Lib.hid hok
      clear hst hok
      obtain ⟨hb0, hb1⟩ := hbb
      have c0 := tw.a.c0
      have c1 := tw.a.c1
      have c2 := tw.a.c2
      have c3 := tw.a.c3
      have c4 := tw.a.c4
      have l0 := tw.a.lt
      have hcall := told_any (wr.alloc (.cells #[.int .i64 x0, .int .i64 x1, .int .i64 x2] 42)) rk D q e (hI.ext (Ext.alloc _ _)) (by have := HQ.out; omega) x0 x1 x2
      have HC := Lib.hid hcall
      have TW := Lib.hid tw
      have HI := Lib.hid hI
      obtain ⟨wo, rfl⟩ : ∃ wo : World, wo = wr := ⟨_, rfl⟩
      clear tw hcall hI
      go_wp2_with (fail)
      refine HC.out.mono ?_
      rintro y w2 ⟨E, f, h, rfl, hJ, hfr2, x2'⟩
      rw [← HST.out] at hJ ⊢
      have xx := (Ext.alloc wo (.cells #[.int .i64 x0, .int .i64 x1, .int .i64 x2] 42)).trans x2'
      have tw2 := TW.out.ext xx
      have hfr3 : FreshOr W A n E f := by
        rcases hfr2 with ⟨rfl, rfl⟩ | hh
        · exact hfr
        · exact .inr (fun hn => by
            obtain ⟨b', o', e1, e2⟩ := hh hn
            refine ⟨b', o', e1, ?_⟩
            simp at e2
            omega)
      have hsz2 := xx.size
      have d0 := tw2.a.c0
      have d1 := tw2.a.c1
      have d2 := tw2.a.c2
      have d3 := tw2.a.c3
      have d4 := tw2.a.c4
      have f0 := tw2.a.fz 0
      have f1 := tw2.a.fz 1
      have f2 := tw2.a.fz 2
      have f3 := tw2.a.fz 3
      have f4 := tw2.a.fz 4
      have l2 := tw2.a.lt
      have T2 := Lib.hid tw2
      have FR := Lib.hid hfr3
      clear c0 c1 c2 c3 c4 l0 TW HC tw2 hfr3 hfr2 x2' t1 t2 t3
      generalize Rounds.toldE rk x0 = er at *
      generalize hrn : toldsTo r l (k + 1) = rn at *
      have HRN := Lib.hid hrn
      clear hrn
      go_wp2_with (fail)
      all_goals
        refine ⟨⟨k + 1, E, f, h, by omega, by go_num, ?_, ?_, ?_, FR.out, ?_⟩, by simp [intOf]; omega⟩
        · rw [HOK.out]
          first
            | (rw [show ok = true by assumption]; simp; done)
            | (rw [show ok = false by simpa using (by assumption : ¬ ok = true)]; simp)
        · rw [HRN.out]
          exact T2.out.whole _ _ _ _ _
        · rw [HRN.out]
          exact hJ.five (FR.out.off hl (by rw [HG.out]; exact Nat.le_refl _) (by omega)) _ _ _ _ _
        · simp
          omega
    · have q1 : ¬ (k : Int) < m := by omega
      have hkl : k = l.length := by rw [L.out]; omega
      have hE : toldsTo r l k = tolds r l := by rw [hkl]; rfl
      have hO : okTo r l k = toldsOk r l := by rw [hkl]; rfl
      rw [hE] at tw hI
      rw [hO]
      clear hE hO hkl
      have c0 := tw.a.c0
      have c1 := tw.a.c1
      have c2 := tw.a.c2
      have c3 := tw.a.c3
      have c4 := tw.a.c4
      have d0 := tw.b.c0
      have d1 := tw.b.c1
      have d2 := tw.b.c2
      have d3 := tw.b.c3
      have d4 := tw.b.c4
      have f0 := tw.b.fz 0
      have f1 := tw.b.fz 1
      have f2 := tw.b.fz 2
      have f3 := tw.b.fz 3
      have f4 := tw.b.fz 4
      have l1 := tw.b.lt
      have TW := Lib.hid tw
      have HI := Lib.hid hI
      have FR := Lib.hid hfr
      clear tw hI hfr
      generalize tolds r l = rn at *
      generalize toldsOk r l = okn at *
      go_wp2_with (fail)
      exact bodyPost_ret (v := .tuple #[rval rn D q e, .bool okn]) (by simp [results, Try.results18, go_sem, d0, d1, d2, d3, d4]) rfl
        ⟨D, q, e, rfl, HI.out.five (FR.out.off hl (by rw [HG.out]; exact Nat.le_succ _) hlt) _ _ _ _ _, TW.out.done⟩
end Go.Proofs.Ytgfhpgomlocllaa
