/- Steps at a disk: a sector is loaded, a sector is stored in the cache. -/
import Derived.Test.YtbfbiofndipaaaaDiskLow
import Derived.Test.YtbfbiofndipaaaaRegTail
import Derived.Laws.Cover3
namespace Go.Proofs.Ytbfbiofndipaaaa
open Go.RowKit Go.Maps

theorem map_under : Try.prog.underlying 65 = some (.map 3 77) := by kernel_rfl
theorem int_under5 : Try.prog.underlying 3 = some (.int .i64) := by kernel_rfl
theorem sec_under : Try.prog.underlying 77 = some (.array 64 5) := by kernel_rfl
theorem int_key5 : Keyed Try.prog 3 := int_keyed int_under5
theorem lk_of {i : Int} (h1 : 0 ≤ i) (h2 : i < 65536) : keyOf Try.prog 3 (.int .i64 i) = some (lk i) := keyOf_int_mk int_under5 (by
  have a : decide (IntKind.i64.min ≤ i) = true := decide_eq_true (by have : IntKind.i64.min = -9223372036854775808 := rfl; omega)
  have c : decide (i ≤ IntKind.i64.max) = true := decide_eq_true (by have : IntKind.i64.max = 9223372036854775807 := rfl; omega)
  show (decide (IntKind.i64.min ≤ i) && decide (i ≤ IntKind.i64.max)) = true
  rw [a, c]
  rfl)
/-- A list lies away from the disk. -/
def Awy (g m b : Nat) (A : Option Addr) : Prop := ∀ p, A = some p → p.block ≠ g ∧ p.block ≠ m ∧ p.block ≠ b
theorem Dk.put {w w' : World} {g m b n : Nat} {D : DataW Nat} {d : Disks.D} (h : Dk w g m b n D d) {i : Nat} (hi : i < d.cac.length) (s : List UInt8) (hm : w'.ownsMap Try.prog 3 secR b (n + 1) (D.put (lk i) (.lit (.string s)))) (ht : w.mapTurned w' b) :
    Dk w' g m b (n + 1) (D.put (lk i) (.lit (.string s))) { d with cac := d.cac.set i (some s) } := by
  have hg := ht.grown
  exact ⟨(hg.block g h.lt (fun e => h.gb (by injection e))).trans h.box, h.md.same hg.size (hg.block m h.md.lt (fun e => h.mb (by injection e))), hm, h.tie.put h.mp.isMap hi s, h.gm, h.gb, h.mb⟩
theorem Bs.range {w : World} {A : Option Addr} {n c : Nat} {l : List UInt8} (h : Bs w A n c l) (hn : 0 < n) : ∃ k o, A = some ⟨k, o, none⟩ ∧ w.rangeAt k o (bcells l) := by
  obtain ⟨k, o, e, hc⟩ := h.rd.2 hn
  exact ⟨k, o, e, fun j v hv => hc j v hv⟩
theorem Bs.kp {w w' : World} {A : Option Addr} {n c : Nat} {l : List UInt8} {g m b : Nat} (h : Bs w A n c l) (hk : Kp g m b w w') (ha : Awy g m b A) : Bs w' A n c l := by
  refine ⟨h.len, h.le, h.max, h.rd.1, fun hn => ?_⟩
  obtain ⟨k, o, e, hc⟩ := h.rd.2 hn
  refine ⟨k, o, e, fun j v hv => ?_⟩
  have q := hc j v hv
  obtain ⟨a1, a2, a3⟩ := ha _ e
  rw [← q]
  exact World.cell?_of_block (hk.block k (World.block_lt_of_cell? _ _ q) a1 a2 a3)
set_option maxRecDepth 100000 in
theorem sec_load (W : World) (k o : Nat) (l : List UInt8) (hl : l.length = 64) (h : W.rangeAt k o (bcells l)) : (Instr.loadAt 77 (.pointer (some ⟨k, o, none⟩))).run Try.prog W = .ok (.agg (bcells l).toArray) W := by
  have hi : (Try.prog.info? 77).map (·.size) = some (bcells l).length := by
    rw [show (bcells l).length = 64 by simp [bcells, hl]]
    exact sec_info
  simp only [Instr.loadAt, Instr.sureAddr, Sem.run_bind, Sem.run_pure, Result.andThen_ok, run_loadVar_mid W k o 77 (bcells l) (.array 64 5) h sec_under (by decide) hi]
set_option maxRecDepth 100000 in
theorem Dk.store {w : World} {g m b n : Nat} {D : DataW Nat} {d : Disks.D} (h : Dk w g m b n D d) (hn : n < maxLen) {j : Nat} (hj : j < d.cac.length) (h6 : j < 65536) (l : List UInt8) (hl : l.length = 64) :
    ∃ w3, (Instr.mapUpdate 65 (.map (some b)) (.int .i64 (j : Int)) (.agg (bcells l).toArray)).run Try.prog w = .ok () w3 ∧ Dk w3 g m b (n + 1) (D.put (lk j) (.lit (.string l))) { d with cac := d.cac.set j (some l) } ∧ Kp g m b w w3 := by
  have hk := lk_of (i := (j : Int)) (by omega) (by omega)
  have hv : secR (.agg (bcells l).toArray) = some (.lit (.string l), []) := secR_mk hl
  obtain ⟨w3, r1, r2, r3⟩ := h.mp.store int_key5 map_under hn hk hv
  exact ⟨w3, r1, h.put hj l r2 r3, (Kp.refl g m b w).grown r3.grown (fun k e => .inr (.inr (.inl (by injection e with e; exact e.symm))))⟩
end Go.Proofs.Ytbfbiofndipaaaa
