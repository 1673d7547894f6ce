/- Two fresh matrices with one kind. -/
import Derived.Test.YtiianhlppkocgaaMatCleared
namespace Go.Proofs.Ytiianhlppkocgaa
open Go.RowKit

theorem both_fresh {w1 w2 : World} {N g1 g2 c1 c2 n k : Nat} {cs1 cs2 : List Value} {a b : Gm.L} {P : Nat → Prop}
    (h1 : Mq w1 N (Hot N (.slice (some ⟨g1, 0, none⟩) n c1)) (.slice (some ⟨g1, 0, none⟩) n c1) n cs1 a) (hx : Ext w1 w2) (hN : N ≤ w1.heap.size)
    (h2 : Mq w2 w1.heap.size (Hot w1.heap.size (.slice (some ⟨g2, 0, none⟩) k c2)) (.slice (some ⟨g2, 0, none⟩) k c2) k cs2 b) (hP : ∀ b, P b ↔ b = g1 ∨ b = g2) :
    g1 < g2 ∧ N ≤ g1 ∧ Mq w2 N P (.slice (some ⟨g1, 0, none⟩) n c1) n cs1 a ∧ Mq w2 N P (.slice (some ⟨g2, 0, none⟩) k c2) k cs2 b := by
  have q1 := h1.own.lt g1 rfl
  have q2 := h2.own.lt g2 rfl
  refine ⟨by omega, q1.1, (h1.kind (P' := P) ?_ ?_).ext hx, (h2.kind (P' := P) ?_ ?_).base_le hN⟩
  · intro b hb hb' hp
    rcases (hP b).1 hp with rfl | rfl
    · exact .inl rfl
    · omega
  · intro b hb
    have hb' : some g1 = some b := hb
    injection hb' with hb'
    exact (hP b).2 (.inl hb'.symm)
  · intro b hb hb' hp
    rcases (hP b).1 hp with rfl | rfl
    · omega
    · exact .inl rfl
  · intro b hb
    have hb' : some g2 = some b := hb
    injection hb' with hb'
    exact (hP b).2 (.inr hb'.symm)
theorem right_rect {a : Gm.L} {n : Nat} (h : Gm.right a) (hl : a.length = n) : Gm.Rect n (Gm.cols a) a := ⟨hl, fun i hi => h.2.2.2.2 i (by omega)⟩
theorem zeros_rect (n k : Nat) : Gm.Rect n k (List.replicate n (zeros k)) := ⟨by simp, fun i hi => by rw [row_replicate _ hi]; simp [zeros]⟩
end Go.Proofs.Ytiianhlppkocgaa
