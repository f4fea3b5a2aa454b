/- Walks of ratio's functions: Floor, Ceil, Nearest. -/
import Derived.Test.YtfbijgbpipedoaaGreatDoorRt
namespace Go.Proofs.YtfbijgbpipedoaaGreatDoor
open Go.RowKit Ra

/-- the box of a function's ratio -/
def Box1 (a : Q) (w : World) : World := w.alloc (.cells #[.int .i64 a.n, .int .i64 a.d] 33)
def HoldB (a : Q) (k : Nat) (w0 wx : World) : Prop := wx.cell? ⟨k, 0, none⟩ = some (.int .i64 a.n) ∧ wx.cell? ⟨k, 1, none⟩ = some (.int .i64 a.d) ∧ k + 1 ≤ wx.heap.size ∧ Below k w0 wx
theorem box_at (a : Q) (w : World) : HoldB a w.heap.size w (Box1 a w) := by
  refine ⟨?_, ?_, ?_, Below.alloc (Below.refl _ _) (Nat.le_refl _) _⟩ <;> simp [Box1, go_sem]
theorem box_keep {a : Q} {k B : Nat} {w0 wx w' : World} (hk : Below B wx w') (hB : B = wx.heap.size) (h : HoldB a k w0 wx) : HoldB a k w0 w' := by
  subst hB
  obtain ⟨h1, h2, h9, hb⟩ := h
  refine ⟨?_, ?_, ?_, Below.trans hb (hk.mono (by omega))⟩
  · rw [hk.cell (by simp only; omega)]; exact h1
  · rw [hk.cell (by simp only; omega)]; exact h2
  · exact Nat.le_trans h9 hk.size

theorem tdiv_floor {n d : Int} (h : 0 < d) : (if n.tmod d < 0 then n.tdiv d - 1 else n.tdiv d) = n / d := by
  have h1 := Int.mul_tdiv_add_tmod n d
  have h0 := Int.mul_comm d (n.tdiv d)
  have h2 := Int.tmod_lt_of_pos n h
  have h3 := Int.lt_tmod_of_pos n h
  by_cases hr : n.tmod d < 0
  · rw [if_pos hr]
    symm
    refine (Int.ediv_eq_iff_of_pos h).2 ?_
    rw [Int.sub_mul]
    constructor <;> omega
  · rw [if_neg hr]
    symm
    refine (Int.ediv_eq_iff_of_pos h).2 ?_
    constructor <;> omega

theorem floor_bound {a : Q} (h : Right a) : -1152921504606846976 ≤ floorV a ∧ floorV a ≤ 1152921504606846976 := by
  have l1 := h.lo; have l2 := h.hi; have pA := h.pos
  unfold floorV
  rw [(right_iff a).2 h, if_pos rfl]
  constructor
  · rw [Int.le_ediv_iff_mul_le (by omega)]
    have : -1152921504606846976 * a.d ≤ -1152921504606846976 * 1 := Int.mul_le_mul_of_nonpos_left (by omega) (by omega)
    omega
  · have : a.n / a.d ≤ 1152921504606846976 := by
      apply Int.ediv_le_of_le_mul (by omega)
      have : 1152921504606846976 * 1 ≤ 1152921504606846976 * a.d := Int.mul_le_mul_of_nonneg_left (by omega) (by omega)
      omega
    exact this

def nearR (f r d : Int) : Int := if d < 2 * r ∨ 2 * r = d ∧ f.tmod 2 ≠ 0 then f + 1 else f
end Go.Proofs.YtfbijgbpipedoaaGreatDoor
