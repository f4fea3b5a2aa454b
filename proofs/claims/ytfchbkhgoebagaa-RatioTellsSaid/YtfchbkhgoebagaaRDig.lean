/- Numbers of five digits, the least one first, to the base 2^30: in plain words, and in memory. -/
import Derived.Test.YtfchbkhgoebagaaRDef
import Derived.Test.YtfchbkhgoebagaaOwn
namespace Go.Proofs.Ytfchbkhgoebagaa
open Go.RowKit

/-- a digit -/
def dig (x j : Nat) : Nat := x / 1073741824 ^ j % 1073741824
theorem dig_lt (x j : Nat) : dig x j < 1073741824 := Nat.mod_lt _ (by decide)
theorem dig_mod (x j : Nat) : x % 1073741824 ^ (j + 1) = x % 1073741824 ^ j + 1073741824 ^ j * dig x j := by
  rw [Nat.pow_succ, Nat.mod_mul]
  rfl
theorem pow_pos' (k : Nat) : 0 < 1073741824 ^ k := Nat.pow_pos (by decide)
theorem dig_high {x k : Nat} (h : x < 1073741824 ^ k) {j : Nat} (hj : k ≤ j) : dig x j = 0 := by
  unfold dig
  rw [Nat.div_eq_of_lt (Nat.lt_of_lt_of_le h (Nat.pow_le_pow_right (by decide) hj))]
/-- a sum's carry and digit -/
def carry (x y k : Nat) : Nat := (x % 1073741824 ^ k + y % 1073741824 ^ k) / 1073741824 ^ k
theorem carry_le (x y k : Nat) : carry x y k ≤ 1 := by
  unfold carry
  have h1 := Nat.mod_lt x (pow_pos' k)
  have h2 := Nat.mod_lt y (pow_pos' k)
  have : (x % 1073741824 ^ k + y % 1073741824 ^ k) / 1073741824 ^ k < 2 := Nat.div_lt_of_lt_mul (by omega)
  omega
theorem carry_zero (x y : Nat) : carry x y 0 = 0 := by simp [carry, Nat.mod_one]
theorem sum_step (x y k : Nat) : (x % 1073741824 ^ (k + 1) + y % 1073741824 ^ (k + 1)) / 1073741824 ^ k = carry x y k + dig x k + dig y k := by
  rw [dig_mod, dig_mod]
  unfold carry
  rw [show x % 1073741824 ^ k + 1073741824 ^ k * dig x k + (y % 1073741824 ^ k + 1073741824 ^ k * dig y k) = (x % 1073741824 ^ k + y % 1073741824 ^ k) + 1073741824 ^ k * (dig x k + dig y k) by grind, Nat.add_mul_div_left _ _ (pow_pos' k), Nat.add_assoc]
theorem carry_step (x y k : Nat) : (carry x y k + dig x k + dig y k) / 1073741824 = carry x y (k + 1) := by
  rw [← sum_step, Nat.div_div_eq_div_mul, ← Nat.pow_succ]
  rfl
theorem dig_sum (x y k : Nat) : (carry x y k + dig x k + dig y k) % 1073741824 = dig (x + y) k := by
  unfold carry
  have h : (x + y) / 1073741824 ^ k = (x % 1073741824 ^ k + y % 1073741824 ^ k) / 1073741824 ^ k + (x / 1073741824 ^ k + y / 1073741824 ^ k) := by
    have h1 := Nat.div_add_mod x (1073741824 ^ k)
    have h2 := Nat.div_add_mod y (1073741824 ^ k)
    rw [← Nat.add_mul_div_left _ _ (pow_pos' k)]
    congr 1
    grind
  have e1 : dig x k = x / 1073741824 ^ k % 1073741824 := rfl
  have e2 : dig y k = y / 1073741824 ^ k % 1073741824 := rfl
  unfold dig at *
  rw [h]
  omega

/-- a block holds five numbers, and may be written -/
def Row5 (w : World) (g : Nat) (f : Nat → Int) : Prop := ∀ j, j < 5 → w.cell? ⟨g, j, none⟩ = some (.int .i64 (f j)) ∧ w.frozen? ⟨g, j, none⟩ = false
def Num (w : World) (g x : Nat) : Prop := Row5 w g fun j => (dig x j : Nat)
theorem Row5.lt {w : World} {g : Nat} {f : Nat → Int} (h : Row5 w g f) : g < w.heap.size := by
  have := World.block_lt_of_cell? w _ (h 0 (by decide)).1
  simpa using this
theorem Row5.below {w w' : World} {g B : Nat} {f : Nat → Int} (h : Row5 w g f) (hb : Below B w w') (hg : g < B) : Row5 w' g f := fun j hj =>
  ⟨by rw [hb.cell (by simp only; omega)]; exact (h j hj).1, by rw [hb.frozen (by simp only; omega)]; exact (h j hj).2⟩
theorem Num.below {w w' : World} {g x B : Nat} (h : Num w g x) (hb : Below B w w') (hB : B = w.heap.size) : Num w' g x := Row5.below h hb (by rw [hB]; exact Row5.lt h)
theorem Row5.drew {w : World} {g : Nat} {f : Nat → Int} (h : Row5 w g f) (n : Nat) : Row5 (w.drewN n) g f := h.below (below_drewN (Below.refl _ _) n) h.lt
theorem row_congr {w : World} {g : Nat} {f f' : Nat → Int} (h : Row5 w g f) (he : ∀ j, j < 5 → f j = f' j) : Row5 w g f' := fun j hj => by
  rw [← he j hj]; exact h j hj
theorem row_set {w : World} {g k : Nat} {f : Nat → Int} (h : Row5 w g f) (hk : k < 5) (v : Int) : Row5 (w.setCell ⟨g, k, none⟩ (.int .i64 v)) g fun j => if j = k then v else f j := by
  intro j hj
  by_cases e : j = k
  · subst e
    have hc := (h j hj).1
    refine ⟨?_, ?_⟩
    · simp [go_sem, hc]
    · simp [go_sem, (h j hj).2]
  · simp only [if_neg e]
    refine ⟨?_, ?_⟩
    · have hne : (⟨g, k, none⟩ : Addr) ≠ ⟨g, j, none⟩ := by intro he; injection he with _ h2; omega
      rw [World.cell?_setCell_other _ _ _ _ hne]
      exact (h j hj).1
    · simp [go_sem, (h j hj).2]

end Go.Proofs.Ytfchbkhgoebagaa
