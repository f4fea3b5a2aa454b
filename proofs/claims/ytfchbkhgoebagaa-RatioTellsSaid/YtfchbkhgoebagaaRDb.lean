/- Walks of the reference: Minus, Cmp, Zero, Of. -/
import Derived.Test.YtfchbkhgoebagaaRDa
namespace Go.Proofs.Ytfchbkhgoebagaa
open Go.RowKit

/-! ### a difference -/
def borrow (x y k : Nat) : Nat := if x % 1073741824 ^ k < y % 1073741824 ^ k then 1 else 0
theorem borrow_le (x y k : Nat) : borrow x y k ≤ 1 := by unfold borrow; split <;> omega
theorem borrow_zero (x y : Nat) : borrow x y 0 = 0 := by simp [borrow, Nat.mod_one]
theorem borrow_step (x y k : Nat) : borrow x y (k + 1) = if dig x k < dig y k + borrow x y k then 1 else 0 := by
  have h1 := dig_mod x k
  have h2 := dig_mod y k
  have l1 := Nat.mod_lt x (pow_pos' k)
  have l2 := Nat.mod_lt y (pow_pos' k)
  unfold borrow
  rw [h1, h2]
  generalize x % 1073741824 ^ k = p at *
  generalize y % 1073741824 ^ k = q at *
  generalize dig x k = d at *
  generalize dig y k = e at *
  generalize 1073741824 ^ k = P at *
  rcases Nat.lt_trichotomy d e with h | h | h
  · have := Nat.mul_le_mul_left P (show d + 1 ≤ e by omega)
    rw [Nat.mul_add, Nat.mul_one] at this
    rw [if_pos (by omega), if_pos (by split <;> omega)]
  · subst h
    by_cases c : p < q
    · rw [if_pos c, if_pos (by omega), if_pos (by omega)]
    · rw [if_neg c, if_neg (by omega), if_neg (by omega)]
  · have := Nat.mul_le_mul_left P (show e + 1 ≤ d by omega)
    rw [Nat.mul_add, Nat.mul_one] at this
    rw [if_neg (by omega), if_neg (by split <;> omega)]
theorem diff_div {x y : Nat} (h : y ≤ x) (k : Nat) : ((x - y : Nat) : Int) / ((1073741824 ^ k : Nat) : Int) = (x / 1073741824 ^ k : Nat) - (y / 1073741824 ^ k : Nat) - (borrow x y k : Nat) := by
  have h1 := Nat.div_add_mod x (1073741824 ^ k)
  have h2 := Nat.div_add_mod y (1073741824 ^ k)
  have l1 := Nat.mod_lt x (pow_pos' k)
  have l2 := Nat.mod_lt y (pow_pos' k)
  have hp := pow_pos' k
  unfold borrow
  generalize x % 1073741824 ^ k = p at *
  generalize y % 1073741824 ^ k = q at *
  generalize x / 1073741824 ^ k = X at *
  generalize y / 1073741824 ^ k = Y at *
  generalize 1073741824 ^ k = P at *
  have e1 : (X : Int) * P = ((P * X : Nat) : Int) := by rw [Nat.mul_comm, Int.natCast_mul]
  have e2 : (Y : Int) * P = ((P * Y : Nat) : Int) := by rw [Nat.mul_comm, Int.natCast_mul]
  rw [Int.ediv_eq_iff_of_pos (by omega), Int.sub_mul, Int.sub_mul, e1, e2]
  generalize P * X = PX at *
  generalize P * Y = PY at *
  by_cases c : p < q
  · rw [if_pos c]; omega
  · rw [if_neg c]; omega
theorem dig_diff {x y : Nat} (h : y ≤ x) (k : Nat) : ((dig (x - y) k : Nat) : Int) = if dig x k < dig y k + borrow x y k then (dig x k : Int) - dig y k - borrow x y k + 1073741824 else (dig x k : Int) - dig y k - borrow x y k := by
  have hd := diff_div h k
  have hb := borrow_le x y k
  have e : ((dig (x - y) k : Nat) : Int) = ((x / 1073741824 ^ k : Nat) - (y / 1073741824 ^ k : Nat) - (borrow x y k : Nat) : Int) % 1073741824 := by
    unfold dig
    rw [Int.natCast_emod, Int.natCast_ediv, hd]
    rfl
  rw [e]
  unfold dig
  split <;> omega

set_option maxHeartbeats 2000000 in
theorem minus_num (g h x y : Nat) (w : World) (hx : Num w g x) (hy : Num w h y) (hle : y ≤ x) :
    Calls Try.prog 52 #[.slice (some ⟨g, 0, none⟩) 5 5, .slice (some ⟨h, 0, none⟩) 5 5] w fun e w' => ∃ k, e = .returned (.slice (some ⟨k, 0, none⟩) 5 5) ∧ w.heap.size ≤ k ∧ Num w' k (x - y) ∧ Below w.heap.size w w' := by
  have HX := Lib.hid hx
  have HY := Lib.hid hy
  have HL := Lib.hid hle
  clear hx hy hle
  have hmk := mk5
  go_enter Try.func52, Try.ntmps52
  go_wp2_with fail
  have R0 := Lib.hid (row_new w)
  have B0 : Below w.heap.size w (w.alloc (.cells #[.int .i64 0, .int .i64 0, .int .i64 0, .int .i64 0, .int .i64 0] 3)) := (Below.refl _ _).alloc (Nat.le_refl _) _
  go_loopw [6, 7, 8] (fun c i _ wr => ∃ k : Nat, k ≤ 5 ∧ i = .int .i64 k ∧ c = .int .i64 (borrow x y k : Nat) ∧ Hid (Row5 wr w.heap.size fun j => if j < k then ((dig (x - y) j : Nat) : Int) else 0) ∧ Below w.heap.size w wr) (fun _ i _ _ => 5 - (intOf i).toNat)
  case atStart => exact ⟨0, by decide, rfl, by rw [borrow_zero]; rfl, Lib.hid (row_congr R0.out fun j _ => by rw [if_neg (by omega)]), B0⟩
  case round =>
    obtain ⟨k, hk, rfl, rfl, HR, hb⟩ := hrel
    have hc1 := borrow_le x y k
    by_cases hlt : k < 5
    · have d1 := dig_lt x k
      have d2 := dig_lt y k
      have e1 := (HX.out.below hb rfl k hlt).1
      have e2 := (HY.out.below hb rfl k hlt).1
      obtain ⟨e3, e4⟩ := HR.out k hlt
      have k0 : (0 : Int) ≤ (k : Int) := by omega
      have k1 : (k : Int) < 5 := by omega
      have hs := Lib.hid (borrow_step x y k)
      have hd := Lib.hid (dig_diff HL.out k)
      by_cases hn : dig x k < dig y k + borrow x y k
      · have i1 : ((dig x k : Nat) : Int) - ((dig y k : Nat) : Int) - ((borrow x y k : Nat) : Int) < 0 := by omega
        go_wp2_with fail
        go_quiet (fail)
        go_wp2_with fail
        have hs' := hs.out
        have hd' := hd.out
        rw [if_pos hn] at hs' hd'
        refine ⟨⟨k + 1, by omega, congrArg (Value.int .i64) (by omega), congrArg (Value.int .i64) (by omega), Lib.hid (row_congr (row_set (HR.out.drew nq) hlt _) fun j hj => ?_), Below.setCell (below_drewN hb nq) (Nat.le_refl _) _⟩, by simp [intOf]; omega⟩
        by_cases hj : j = k
        · subst hj
          rw [if_pos rfl, if_pos (by omega)]
          omega
        · rw [if_neg hj]
          by_cases h2 : j < k
          · rw [if_pos h2, if_pos (by omega)]
          · rw [if_neg h2, if_neg (by omega)]
      · have i1 : ¬ ((dig x k : Nat) : Int) - ((dig y k : Nat) : Int) - ((borrow x y k : Nat) : Int) < 0 := by omega
        go_wp2_with fail
        go_quiet (fail)
        go_wp2_with fail
        have hs' := hs.out
        have hd' := hd.out
        rw [if_neg hn] at hs' hd'
        refine ⟨⟨k + 1, by omega, congrArg (Value.int .i64) (by omega), congrArg (Value.int .i64) (by omega), Lib.hid (row_congr (row_set (HR.out.drew nq) hlt _) fun j hj => ?_), Below.setCell (below_drewN hb nq) (Nat.le_refl _) _⟩, by simp [intOf]; omega⟩
        by_cases hj : j = k
        · subst hj
          rw [if_pos rfl, if_pos (by omega)]
          omega
        · rw [if_neg hj]
          by_cases h2 : j < k
          · rw [if_pos h2, if_pos (by omega)]
          · rw [if_neg h2, if_neg (by omega)]
    · have e5 : k = 5 := by omega
      subst e5
      go_wp2_with fail
      go_ret
      exact ⟨_, rfl, Nat.le_refl _, row_congr HR.out fun j hj => by rw [if_pos hj], hb⟩

end Go.Proofs.Ytfchbkhgoebagaa
