/- Walks of ratio's functions: Add, of right ratios. -/
import Derived.Test.YtfbijgbpipedoaaDoorRp
import Derived.Deep.RegionHeld3
import Derived.Deep.DrawnRows
import Derived.Deep.DeepCutAuto
namespace Go.Proofs.YtfbijgbpipedoaaDoor
open Go.RowKit Ra
attribute [local go_sem ↓] Go.wp_at_zero Go.wp_at_succ

def Hold2 (a b : Q) (k : Nat) (w0 wx : World) : Prop := wx.cell? ⟨k, 0, none⟩ = some (.int .i64 a.n) ∧ wx.cell? ⟨k, 1, none⟩ = some (.int .i64 a.d) ∧ wx.cell? ⟨k + 1, 0, none⟩ = some (.int .i64 b.n) ∧ wx.cell? ⟨k + 1, 1, none⟩ = some (.int .i64 b.d) ∧ (∃ v, wx.cell? ⟨k + 1 + 1, 0, none⟩ = some v) ∧ (∃ v, wx.cell? ⟨k + 1 + 1, 1, none⟩ = some v) ∧ wx.frozen? ⟨k + 1 + 1, 0, none⟩ = false ∧ wx.frozen? ⟨k + 1 + 1, 1, none⟩ = false ∧ k + 3 ≤ wx.heap.size ∧ Below k w0 wx
theorem two_keep' {a b : Q} {k : Nat} {w0 wx w' : World} (h : wx.cell? ⟨k, 0, none⟩ = some (.int .i64 a.n) ∧ wx.cell? ⟨k, 1, none⟩ = some (.int .i64 a.d) ∧ wx.cell? ⟨k + 1, 0, none⟩ = some (.int .i64 b.n) ∧ wx.cell? ⟨k + 1, 1, none⟩ = some (.int .i64 b.d) ∧ (∃ v, wx.cell? ⟨k + 1 + 1, 0, none⟩ = some v) ∧ (∃ v, wx.cell? ⟨k + 1 + 1, 1, none⟩ = some v) ∧ wx.frozen? ⟨k + 1 + 1, 0, none⟩ = false ∧ wx.frozen? ⟨k + 1 + 1, 1, none⟩ = false ∧ k + 3 ≤ wx.heap.size ∧ Below k w0 wx) (hk : Below wx.heap.size wx w') : w'.cell? ⟨k, 0, none⟩ = some (.int .i64 a.n) ∧ w'.cell? ⟨k, 1, none⟩ = some (.int .i64 a.d) ∧ w'.cell? ⟨k + 1, 0, none⟩ = some (.int .i64 b.n) ∧ w'.cell? ⟨k + 1, 1, none⟩ = some (.int .i64 b.d) ∧ (∃ v, w'.cell? ⟨k + 1 + 1, 0, none⟩ = some v) ∧ (∃ v, w'.cell? ⟨k + 1 + 1, 1, none⟩ = some v) ∧ w'.frozen? ⟨k + 1 + 1, 0, none⟩ = false ∧ w'.frozen? ⟨k + 1 + 1, 1, none⟩ = false ∧ k + 3 ≤ w'.heap.size ∧ Below k w0 w' := two_keep hk rfl h

theorem Hold2.size {a b : Q} {k : Nat} {w0 wx : World} (h : Hold2 a b k w0 wx) : k + 3 ≤ wx.heap.size := h.2.2.2.2.2.2.2.2.1
theorem two_far {a b : Q} {k G : Nat} {w0 wx : World} (x y : Value) (h : wx.cell? ⟨k, 0, none⟩ = some (.int .i64 a.n) ∧ wx.cell? ⟨k, 1, none⟩ = some (.int .i64 a.d) ∧ wx.cell? ⟨k + 1, 0, none⟩ = some (.int .i64 b.n) ∧ wx.cell? ⟨k + 1, 1, none⟩ = some (.int .i64 b.d) ∧ (∃ v, wx.cell? ⟨k + 1 + 1, 0, none⟩ = some v) ∧ (∃ v, wx.cell? ⟨k + 1 + 1, 1, none⟩ = some v) ∧ wx.frozen? ⟨k + 1 + 1, 0, none⟩ = false ∧ wx.frozen? ⟨k + 1 + 1, 1, none⟩ = false ∧ k + 3 ≤ wx.heap.size ∧ Below k w0 wx) (hG : k + 3 ≤ G) : ((wx.setCell ⟨G, 0, none⟩ x).setCell ⟨G, 1, none⟩ y).cell? ⟨k, 0, none⟩ = some (.int .i64 a.n) ∧ ((wx.setCell ⟨G, 0, none⟩ x).setCell ⟨G, 1, none⟩ y).cell? ⟨k, 1, none⟩ = some (.int .i64 a.d) ∧ ((wx.setCell ⟨G, 0, none⟩ x).setCell ⟨G, 1, none⟩ y).cell? ⟨k + 1, 0, none⟩ = some (.int .i64 b.n) ∧ ((wx.setCell ⟨G, 0, none⟩ x).setCell ⟨G, 1, none⟩ y).cell? ⟨k + 1, 1, none⟩ = some (.int .i64 b.d) ∧ (∃ v, ((wx.setCell ⟨G, 0, none⟩ x).setCell ⟨G, 1, none⟩ y).cell? ⟨k + 1 + 1, 0, none⟩ = some v) ∧ (∃ v, ((wx.setCell ⟨G, 0, none⟩ x).setCell ⟨G, 1, none⟩ y).cell? ⟨k + 1 + 1, 1, none⟩ = some v) ∧ ((wx.setCell ⟨G, 0, none⟩ x).setCell ⟨G, 1, none⟩ y).frozen? ⟨k + 1 + 1, 0, none⟩ = false ∧ ((wx.setCell ⟨G, 0, none⟩ x).setCell ⟨G, 1, none⟩ y).frozen? ⟨k + 1 + 1, 1, none⟩ = false ∧ k + 3 ≤ ((wx.setCell ⟨G, 0, none⟩ x).setCell ⟨G, 1, none⟩ y).heap.size ∧ Below k w0 ((wx.setCell ⟨G, 0, none⟩ x).setCell ⟨G, 1, none⟩ y) := by
  obtain ⟨h1, h2, h3, h4, ⟨v1, h5⟩, ⟨v2, h6⟩, h7, h8, h9, hb⟩ := h
  have n0 : ¬ G = k := by omega
  have n1 : ¬ G = k + 1 := by omega
  have n2 : ¬ G = k + 1 + 1 := by omega
  have m0 : ¬ k = G := by omega
  have m1 : ¬ k + 1 = G := by omega
  have m2 : ¬ k + 1 + 1 = G := by omega
  refine ⟨?_, ?_, ?_, ?_, ⟨v1, ?_⟩, ⟨v2, ?_⟩, ?_, ?_, ?_, Below.setCell (Below.setCell hb (by simp only; omega) _) (by simp only; omega) _⟩ <;> first | (simp [go_sem, *]; done) | (simp only [World.size_setCell]; omega)
theorem pair_new {X wt : World} {B : Nat} {x y : Value} {t : TypeId} (h : Below B (X.alloc (.cells #[x, y] t)) wt) (hB : X.heap.size < B) : wt.cell? ⟨X.heap.size, 0, none⟩ = some x ∧ wt.cell? ⟨X.heap.size, 1, none⟩ = some y ∧ wt.frozen? ⟨X.heap.size, 0, none⟩ = false ∧ wt.frozen? ⟨X.heap.size, 1, none⟩ = false := by
  refine ⟨?_, ?_, ?_, ?_⟩
  · rw [h.cell (by simp only; omega)]; simp
  · rw [h.cell (by simp only; omega)]; simp
  · rw [h.frozen (by simp only; omega)]; simp
  · rw [h.frozen (by simp only; omega)]; simp
theorem pair_newd {X wt : World} {B : Nat} {x y : Value} {t : TypeId} (h : Below B (X.alloc (.cells #[x, y] t)).drew wt) (hB : X.heap.size < B) : wt.cell? ⟨X.heap.size, 0, none⟩ = some x ∧ wt.cell? ⟨X.heap.size, 1, none⟩ = some y ∧ wt.frozen? ⟨X.heap.size, 0, none⟩ = false ∧ wt.frozen? ⟨X.heap.size, 1, none⟩ = false := by
  refine ⟨?_, ?_, ?_, ?_⟩
  · rw [h.cell (by simp only; omega)]; simp
  · rw [h.cell (by simp only; omega)]; simp
  · rw [h.frozen (by simp only; omega)]; simp
  · rw [h.frozen (by simp only; omega)]; simp
theorem pair_old {X wt : World} {B G : Nat} {x y : Value} (h : Below B X wt) (hB : X.heap.size = B) (h0 : X.cell? ⟨G, 0, none⟩ = some x) (h1 : X.cell? ⟨G, 1, none⟩ = some y) (h2 : X.frozen? ⟨G, 0, none⟩ = false) (h3 : X.frozen? ⟨G, 1, none⟩ = false) :
    wt.cell? ⟨G, 0, none⟩ = some x ∧ wt.cell? ⟨G, 1, none⟩ = some y ∧ wt.frozen? ⟨G, 0, none⟩ = false ∧ wt.frozen? ⟨G, 1, none⟩ = false := by
  have hl := World.block_lt_of_cell? X _ h0
  simp only at hl
  refine ⟨?_, ?_, ?_, ?_⟩
  · rw [h.cell (by simp only; omega)]; exact h0
  · rw [h.cell (by simp only; omega)]; exact h1
  · rw [h.frozen (by simp only; omega)]; exact h2
  · rw [h.frozen (by simp only; omega)]; exact h3

theorem three_keep {a b : Q} {k B G : Nat} {x y : Value} {w0 wx w' : World} (hk : Below B wx w') (hB : B = wx.heap.size) (h : (wx.cell? ⟨G, 0, none⟩ = some x ∧ wx.cell? ⟨G, 1, none⟩ = some y) ∧ wx.cell? ⟨k, 0, none⟩ = some (.int .i64 a.n) ∧ wx.cell? ⟨k, 1, none⟩ = some (.int .i64 a.d) ∧ wx.cell? ⟨k + 1, 0, none⟩ = some (.int .i64 b.n) ∧ wx.cell? ⟨k + 1, 1, none⟩ = some (.int .i64 b.d) ∧ (∃ v, wx.cell? ⟨k + 1 + 1, 0, none⟩ = some v) ∧ (∃ v, wx.cell? ⟨k + 1 + 1, 1, none⟩ = some v) ∧ wx.frozen? ⟨k + 1 + 1, 0, none⟩ = false ∧ wx.frozen? ⟨k + 1 + 1, 1, none⟩ = false ∧ k + 3 ≤ wx.heap.size ∧ Below k w0 wx) : (w'.cell? ⟨G, 0, none⟩ = some x ∧ w'.cell? ⟨G, 1, none⟩ = some y) ∧ w'.cell? ⟨k, 0, none⟩ = some (.int .i64 a.n) ∧ w'.cell? ⟨k, 1, none⟩ = some (.int .i64 a.d) ∧ w'.cell? ⟨k + 1, 0, none⟩ = some (.int .i64 b.n) ∧ w'.cell? ⟨k + 1, 1, none⟩ = some (.int .i64 b.d) ∧ (∃ v, w'.cell? ⟨k + 1 + 1, 0, none⟩ = some v) ∧ (∃ v, w'.cell? ⟨k + 1 + 1, 1, none⟩ = some v) ∧ w'.frozen? ⟨k + 1 + 1, 0, none⟩ = false ∧ w'.frozen? ⟨k + 1 + 1, 1, none⟩ = false ∧ k + 3 ≤ w'.heap.size ∧ Below k w0 w' := by
  obtain ⟨⟨g0, g1⟩, h⟩ := h
  have hl := World.block_lt_of_cell? wx _ g0
  simp only at hl
  refine ⟨⟨?_, ?_⟩, two_keep hk hB h⟩
  · rw [hk.cell (by simp only; omega)]; exact g0
  · rw [hk.cell (by simp only; omega)]; exact g1
theorem three_set {a b : Q} {k G : Nat} {x y : Value} {w0 wx : World} (n1 n2 : Value) (h : (wx.cell? ⟨G, 0, none⟩ = some x ∧ wx.cell? ⟨G, 1, none⟩ = some y) ∧ wx.cell? ⟨k, 0, none⟩ = some (.int .i64 a.n) ∧ wx.cell? ⟨k, 1, none⟩ = some (.int .i64 a.d) ∧ wx.cell? ⟨k + 1, 0, none⟩ = some (.int .i64 b.n) ∧ wx.cell? ⟨k + 1, 1, none⟩ = some (.int .i64 b.d) ∧ (∃ v, wx.cell? ⟨k + 1 + 1, 0, none⟩ = some v) ∧ (∃ v, wx.cell? ⟨k + 1 + 1, 1, none⟩ = some v) ∧ wx.frozen? ⟨k + 1 + 1, 0, none⟩ = false ∧ wx.frozen? ⟨k + 1 + 1, 1, none⟩ = false ∧ k + 3 ≤ wx.heap.size ∧ Below k w0 wx) (hG : k + 3 ≤ G) : (((wx.setCell ⟨k + 1 + 1, 0, none⟩ n1).setCell ⟨k + 1 + 1, 1, none⟩ n2).cell? ⟨G, 0, none⟩ = some x ∧ ((wx.setCell ⟨k + 1 + 1, 0, none⟩ n1).setCell ⟨k + 1 + 1, 1, none⟩ n2).cell? ⟨G, 1, none⟩ = some y) ∧ ((wx.setCell ⟨k + 1 + 1, 0, none⟩ n1).setCell ⟨k + 1 + 1, 1, none⟩ n2).cell? ⟨k, 0, none⟩ = some (.int .i64 a.n) ∧ ((wx.setCell ⟨k + 1 + 1, 0, none⟩ n1).setCell ⟨k + 1 + 1, 1, none⟩ n2).cell? ⟨k, 1, none⟩ = some (.int .i64 a.d) ∧ ((wx.setCell ⟨k + 1 + 1, 0, none⟩ n1).setCell ⟨k + 1 + 1, 1, none⟩ n2).cell? ⟨k + 1, 0, none⟩ = some (.int .i64 b.n) ∧ ((wx.setCell ⟨k + 1 + 1, 0, none⟩ n1).setCell ⟨k + 1 + 1, 1, none⟩ n2).cell? ⟨k + 1, 1, none⟩ = some (.int .i64 b.d) ∧ (∃ v, ((wx.setCell ⟨k + 1 + 1, 0, none⟩ n1).setCell ⟨k + 1 + 1, 1, none⟩ n2).cell? ⟨k + 1 + 1, 0, none⟩ = some v) ∧ (∃ v, ((wx.setCell ⟨k + 1 + 1, 0, none⟩ n1).setCell ⟨k + 1 + 1, 1, none⟩ n2).cell? ⟨k + 1 + 1, 1, none⟩ = some v) ∧ ((wx.setCell ⟨k + 1 + 1, 0, none⟩ n1).setCell ⟨k + 1 + 1, 1, none⟩ n2).frozen? ⟨k + 1 + 1, 0, none⟩ = false ∧ ((wx.setCell ⟨k + 1 + 1, 0, none⟩ n1).setCell ⟨k + 1 + 1, 1, none⟩ n2).frozen? ⟨k + 1 + 1, 1, none⟩ = false ∧ k + 3 ≤ ((wx.setCell ⟨k + 1 + 1, 0, none⟩ n1).setCell ⟨k + 1 + 1, 1, none⟩ n2).heap.size ∧ Below k w0 ((wx.setCell ⟨k + 1 + 1, 0, none⟩ n1).setCell ⟨k + 1 + 1, 1, none⟩ n2) := by
  obtain ⟨⟨g0, g1⟩, h⟩ := h
  have n2 : ¬ G = k + 1 + 1 := by omega
  have m2 : ¬ k + 1 + 1 = G := by omega
  refine ⟨⟨?_, ?_⟩, two_set _ _ h⟩ <;> simp [go_sem, *]

end Go.Proofs.YtfbijgbpipedoaaDoor
