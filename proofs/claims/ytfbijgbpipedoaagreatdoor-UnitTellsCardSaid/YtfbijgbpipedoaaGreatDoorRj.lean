/- Walks of ratio's functions: Mul. -/
import Derived.Test.YtfbijgbpipedoaaGreatDoorRi
namespace Go.Proofs.YtfbijgbpipedoaaGreatDoor
open Go.RowKit Ra

/-- the boxes of a function on two ratios: its arguments, and its result -/
def Two (a b : Q) (w : World) : World := ((w.alloc (.cells #[.int .i64 a.n, .int .i64 a.d] 33)).alloc (.cells #[.int .i64 b.n, .int .i64 b.d] 33)).alloc (.cells #[.int .i64 0, .int .i64 0] 33)
structure TwoAt (a b : Q) (k : Nat) (w : World) : Prop where
  n1 : w.cell? ⟨k, 0, none⟩ = some (.int .i64 a.n)
  d1 : w.cell? ⟨k, 1, none⟩ = some (.int .i64 a.d)
  n2 : w.cell? ⟨k + 1, 0, none⟩ = some (.int .i64 b.n)
  d2 : w.cell? ⟨k + 1, 1, none⟩ = some (.int .i64 b.d)
  r0 : w.cell? ⟨k + 1 + 1, 0, none⟩ = some (.int .i64 0)
  r1 : w.cell? ⟨k + 1 + 1, 1, none⟩ = some (.int .i64 0)
  f0 : w.frozen? ⟨k + 1 + 1, 0, none⟩ = false
  f1 : w.frozen? ⟨k + 1 + 1, 1, none⟩ = false
  size : k + 3 ≤ w.heap.size
theorem two_at (a b : Q) (w : World) : TwoAt a b w.heap.size (Two a b w) := by
  constructor <;> simp [Two, go_sem]
theorem TwoAt.below {a b : Q} {k : Nat} {w w' : World} (h : TwoAt a b k w) (hb : Below w.heap.size w w') : TwoAt a b k w' := by
  have hs := h.size
  constructor
  · rw [hb.cell (by simp only; omega)]; exact h.n1
  · rw [hb.cell (by simp only; omega)]; exact h.d1
  · rw [hb.cell (by simp only; omega)]; exact h.n2
  · rw [hb.cell (by simp only; omega)]; exact h.d2
  · rw [hb.cell (by simp only; omega)]; exact h.r0
  · rw [hb.cell (by simp only; omega)]; exact h.r1
  · rw [hb.frozen (by simp only; omega)]; exact h.f0
  · rw [hb.frozen (by simp only; omega)]; exact h.f1
  · exact Nat.le_trans hs hb.size

end Go.Proofs.YtfbijgbpipedoaaGreatDoor
