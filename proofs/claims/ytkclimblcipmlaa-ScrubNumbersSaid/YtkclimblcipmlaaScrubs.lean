/- Which stripe is mended next, in plain words (chapter 16). No program in sight. -/
import Derived.Test.YtkclimblcipmlaaSrt
namespace Scrubs
open Il

structure S where
  cur : Int
  queue : Bool
  urged : List Int
  busy : List Int
abbrev great : Int := 1099511627776
def stripe (n : Int) : Prop := 0 ≤ n ∧ n ≤ great
instance (n : Int) : Decidable (stripe n) := by unfold stripe; infer_instance
def right (s : S) : Prop := (s.cur = -1 ∨ stripe s.cur) ∧ s.urged.length ≤ 1000 ∧ s.busy.length ≤ 1000 ∧ rising 0 great s.busy ∧ rising 0 great (srt s.urged)
instance (s : S) : Decidable (right s) := by unfold right; infer_instance
def new : S := ⟨-1, true, [], []⟩
/-- Urge. -/
def urgeOk (s : S) (n : Int) : Prop := right s ∧ stripe n
instance (s : S) (n : Int) : Decidable (urgeOk s n) := by unfold urgeOk; infer_instance
def urgeE (s : S) (n : Int) : Int := if urgeOk s n then (if n ∈ s.urged then 0 else if 1000 ≤ s.urged.length then 5 else 0) else 165
def urgeS (s : S) (n : Int) : S := if urgeOk s n ∧ n ∉ s.urged ∧ s.urged.length < 1000 then { s with urged := s.urged ++ [n] } else s
theorem urge_bad {s : S} {n : Int} (h : ¬ urgeOk s n) : urgeS s n = s ∧ urgeE s n = 165 := by
  unfold urgeS urgeE
  exact ⟨if_neg fun q => h q.1, if_neg h⟩
theorem urge_there {s : S} {n : Int} (h : urgeOk s n) (hm : n ∈ s.urged) : urgeS s n = s ∧ urgeE s n = 0 := by
  unfold urgeS urgeE
  exact ⟨if_neg fun q => q.2.1 hm, by rw [if_pos h, if_pos hm]⟩
theorem urge_full {s : S} {n : Int} (h : urgeOk s n) (hm : n ∉ s.urged) (hf : 1000 ≤ s.urged.length) : urgeS s n = s ∧ urgeE s n = 5 := by
  unfold urgeS urgeE
  exact ⟨if_neg fun q => by have := q.2.2; omega, by rw [if_pos h, if_neg hm, if_pos hf]⟩
theorem urge_new {s : S} {n : Int} (h : urgeOk s n) (hm : n ∉ s.urged) (hf : ¬ 1000 ≤ s.urged.length) : urgeS s n = { s with urged := s.urged ++ [n] } ∧ urgeE s n = 0 := by
  unfold urgeS urgeE
  exact ⟨if_pos ⟨h, hm, by omega⟩, by rw [if_pos h, if_neg hm, if_neg hf]⟩
/-- Take. -/
def free (s : S) (n : Int) : Bool := !decide (n ∈ s.busy)
def fromQ (s : S) : Int := idxf s.urged (free s)
def ahead (s : S) (l : List Int) : Int := idxf l (fun n => decide (s.cur < n) && free s n)
def fromC (s : S) (l : List Int) : Int := if ahead s l < 0 then idxf l (free s) else ahead s l
def takeE (s : S) (l : List Int) : Int := if right s then (if rising 0 great l then (if 1000 ≤ s.busy.length then 5 else if fromQ s < 0 ∧ fromC s l < 0 then 166 else 0) else 2) else 165
def viaQ (s : S) (l : List Int) : Prop := 0 ≤ fromQ s ∧ (s.queue = true ∨ fromC s l < 0)
instance (s : S) (l : List Int) : Decidable (viaQ s l) := by unfold viaQ; infer_instance
def taken (s : S) (l : List Int) : Int := if viaQ s l then get s.urged (fromQ s).toNat else get l (fromC s l).toNat
def takeN (s : S) (l : List Int) : Int := if takeE s l = 0 then taken s l else 0
def takenS (s : S) (l : List Int) : S :=
  if viaQ s l then ⟨s.cur, false, s.urged.eraseIdx (fromQ s).toNat, srt (s.busy ++ [taken s l])⟩ else ⟨taken s l, true, s.urged, srt (s.busy ++ [taken s l])⟩
def takeS (s : S) (l : List Int) : S := if takeE s l = 0 then takenS s l else s
theorem take_err {s : S} {l : List Int} (h : takeE s l ≠ 0) : takeS s l = s ∧ takeN s l = 0 := ⟨if_neg h, if_neg h⟩
theorem take_ok {s : S} {l : List Int} (h : takeE s l = 0) : takeS s l = takenS s l ∧ takeN s l = taken s l := ⟨if_pos h, if_pos h⟩
theorem takeE_right {s : S} {l : List Int} (h : ¬ right s) : takeE s l = 165 := if_neg h
theorem takeE_rising {s : S} {l : List Int} (h : right s) (h2 : ¬ rising 0 great l) : takeE s l = 2 := by unfold takeE; rw [if_pos h, if_neg h2]
theorem takeE_full {s : S} {l : List Int} (h : right s) (h2 : rising 0 great l) (h3 : 1000 ≤ s.busy.length) : takeE s l = 5 := by unfold takeE; rw [if_pos h, if_pos h2, if_pos h3]
theorem takeE_idle {s : S} {l : List Int} (h : right s) (h2 : rising 0 great l) (h3 : ¬ 1000 ≤ s.busy.length) (h4 : fromQ s < 0 ∧ fromC s l < 0) : takeE s l = 166 := by unfold takeE; rw [if_pos h, if_pos h2, if_neg h3, if_pos h4]
theorem takeE_ok {s : S} {l : List Int} (h : right s) (h2 : rising 0 great l) (h3 : ¬ 1000 ≤ s.busy.length) (h4 : ¬ (fromQ s < 0 ∧ fromC s l < 0)) : takeE s l = 0 := by unfold takeE; rw [if_pos h, if_pos h2, if_neg h3, if_neg h4]
theorem takenS_busy (s : S) (l : List Int) : (takenS s l).busy = srt (s.busy ++ [taken s l]) := by unfold takenS; split <;> rfl
theorem takenS_q {s : S} {l : List Int} {i : Nat} (h : viaQ s l) (hi : fromQ s = (i : Int)) : takenS s l = ⟨s.cur, false, s.urged.eraseIdx i, srt (s.busy ++ [taken s l])⟩ ∧ taken s l = get s.urged i := by
  unfold takenS taken
  rw [if_pos h, if_pos h, hi]
  exact ⟨rfl, rfl⟩
theorem takenS_c {s : S} {l : List Int} {i : Nat} (h : ¬ viaQ s l) (hi : fromC s l = (i : Int)) : takenS s l = ⟨get l i, true, s.urged, srt (s.busy ++ [taken s l])⟩ ∧ taken s l = get l i := by
  unfold takenS taken
  rw [if_neg h, if_neg h, hi]
  exact ⟨rfl, rfl⟩
theorem fromQ_lt (s : S) : fromQ s < s.urged.length := idxf_lt _ _
theorem fromC_lt (s : S) (l : List Int) : fromC s l < l.length := by unfold fromC; split <;> exact idxf_lt _ _
/-- Over. -/
def overOk (s : S) (n : Int) : Prop := right s ∧ n ∈ s.busy
instance (s : S) (n : Int) : Decidable (overOk s n) := by unfold overOk; infer_instance
def overE (s : S) (n : Int) : Int := if overOk s n then 0 else 165
def overS (s : S) (n : Int) : S := if overOk s n then { s with busy := s.busy.eraseIdx (idx s.busy n).toNat } else s
theorem over_bad {s : S} {n : Int} (h : ¬ overOk s n) : overS s n = s ∧ overE s n = 165 := ⟨if_neg h, if_neg h⟩
theorem over_ok {s : S} {n : Int} {i : Nat} (h : overOk s n) (hi : idx s.busy n = (i : Int)) : overS s n = { s with busy := s.busy.eraseIdx i } ∧ overE s n = 0 := by
  unfold overS overE
  rw [if_pos h, if_pos h, hi]
  exact ⟨rfl, rfl⟩
end Scrubs
