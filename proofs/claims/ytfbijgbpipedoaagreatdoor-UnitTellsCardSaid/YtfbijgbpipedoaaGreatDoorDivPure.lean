/- Plain arithmetic behind the division of a 128-bit number by a 64-bit one, digit by digit (base 2 to the 32). -/
import Derived.Lib.BitFns
import Derived.Lib.ItoaNum
namespace Go.Proofs.YtfbijgbpipedoaaGreatDoor.Dv

/-- one digit: what an estimate that is too great, by the leading digit alone, says -/
theorem too_great (U1 U0 q r v1 v0 Y : Int) (hY : Y = v1 * 4294967296 + v0) (hU : U1 = q * v1 + r)
    (hYp : 0 < Y)
    (h : r * 4294967296 + U0 < q * v0) : (U1 * 4294967296 + U0) / Y < q := by
  apply Int.ediv_lt_of_lt_mul hYp
  subst hY; subst hU
  rw [Int.mul_add]
  have e : q * (v1 * 4294967296) = q * v1 * 4294967296 := by rw [Int.mul_assoc]
  rw [e]
  omega
theorem fits (U1 U0 q r v1 v0 Y : Int) (hY : Y = v1 * 4294967296 + v0) (hU : U1 = q * v1 + r)
    (hYp : 0 < Y)
    (h : q * v0 ≤ r * 4294967296 + U0) : q ≤ (U1 * 4294967296 + U0) / Y := by
  apply Int.le_ediv_of_mul_le hYp
  subst hY; subst hU
  rw [Int.mul_add]
  have e : q * (v1 * 4294967296) = q * v1 * 4294967296 := by rw [Int.mul_assoc]
  rw [e]
  omega
/-- the quotient is less than the base -/
theorem digit_lt (U1 U0 Y : Int) (h1 : U1 < Y) (h0 : U0 < 4294967296) (hYp : 0 < Y) : (U1 * 4294967296 + U0) / Y < 4294967296 := by
  apply Int.ediv_lt_of_lt_mul hYp
  omega
theorem digit_nonneg (U1 U0 Y : Int) (h1 : 0 ≤ U1) (h0 : 0 ≤ U0) (hYp : 0 < Y) : 0 ≤ (U1 * 4294967296 + U0) / Y := by
  apply Int.ediv_nonneg <;> omega
/-- the first estimate -/
theorem first_ge (U1 U0 v1 v0 Y : Int) (hY : Y = v1 * 4294967296 + v0) (hv1 : 0 < v1) (hv0 : 0 ≤ v0) (hU1 : 0 ≤ U1) (hU0 : U0 < 4294967296) :
    (U1 * 4294967296 + U0) / Y ≤ U1 / v1 := by
  have hYp : 0 < Y := by omega
  have hq : 0 ≤ U1 / v1 := Int.ediv_nonneg hU1 (by omega)
  apply Int.le_of_lt_add_one
  apply Int.ediv_lt_of_lt_mul hYp
  have hm := Int.mul_ediv_add_emod U1 v1
  have hr := Int.emod_lt_of_pos U1 hv1
  generalize U1 / v1 = q at *
  generalize U1 % v1 = r at *
  subst hY
  rw [Int.mul_add, ← Int.mul_assoc]
  have hp : 0 ≤ (q + 1) * v0 := Int.mul_nonneg (by omega) hv0
  have e : (q + 1) * v1 = v1 * q + v1 := by rw [Int.add_mul, Int.mul_comm q]; omega
  rw [e]
  omega
theorem first_le (U1 v1 v0 Y : Int) (hY : Y = v1 * 4294967296 + v0) (hv1 : 2147483648 ≤ v1) (hv0 : v0 < 4294967296) (hU1 : U1 < Y) :
    U1 / v1 ≤ 4294967297 := by
  apply Int.le_of_lt_add_one
  apply Int.ediv_lt_of_lt_mul (by omega)
  omega
/-- after a step down -/
theorem down (U1 q r v1 : Int) (hU : U1 = q * v1 + r) : U1 = (q - 1) * v1 + (r + v1) := by
  rw [Int.sub_mul]; omega
/-- the last step: the remainder has left the base -/
theorem at_break (U1 U0 q r v1 v0 Y : Int) (hY : Y = v1 * 4294967296 + v0) (hU : U1 = q * v1 + r) (hYp : 0 < Y)
    (hq : q ≤ 4294967296) (hv0 : 0 ≤ v0) (hv : v0 < 4294967296) (hr : 4294967296 ≤ r) (hU0 : 0 ≤ U0) : q ≤ (U1 * 4294967296 + U0) / Y := by
  refine fits U1 U0 q r v1 v0 Y hY hU hYp ?_
  have h1 : q * v0 ≤ 4294967296 * v0 := Int.mul_le_mul_of_nonneg_right hq hv0
  omega

theorem or_disj (a b s : Nat) (hb : b < 2 ^ s) : (a * 2 ^ s) ||| b = a * 2 ^ s + b := by
  rw [Nat.mul_comm, Nat.two_pow_add_eq_or_of_lt hb]

theorem len_spec (y : Nat) (h0 : 0 < y) (h1 : y < 18446744073709551616) :
    1 ≤ Lib.bitLen y ∧ Lib.bitLen y ≤ 64 ∧ 2 ^ (Lib.bitLen y - 1) ≤ y ∧ y < 2 ^ Lib.bitLen y := by
  obtain ⟨a, b, c⟩ := Lib.bitLenAux_bounds 64 y (by simpa using h1) (by omega)
  refine ⟨a, ?_, b, c⟩
  show Lib.bitLen y ≤ 64
  have : ¬ 65 ≤ Lib.bitLenAux 64 y := by
    intro h
    have h2 : 2 ^ 64 ≤ 2 ^ (Lib.bitLenAux 64 y - 1) := Nat.pow_le_pow_right (by omega) (by omega)
    have h3 : (2:Nat) ^ 64 = 18446744073709551616 := by decide
    omega
  show Lib.bitLenAux 64 y ≤ 64
  omega

/-- the shift of the divisor: its leading bit is the 64th -/
theorem norm (y : Nat) (h0 : 0 < y) (h1 : y < 18446744073709551616) (s : Nat) (hs : s = 64 - Lib.bitLen y) :
    s < 64 ∧ 9223372036854775808 ≤ y * 2 ^ s ∧ y * 2 ^ s < 18446744073709551616 ∧ 2 ^ s * 2 ^ (64 - s) = 18446744073709551616 := by
  obtain ⟨a, b, c, d⟩ := len_spec y h0 h1
  have e : 2 ^ s * 2 ^ (64 - s) = 18446744073709551616 := by
    rw [← Nat.pow_add, show s + (64 - s) = 64 by omega]
  refine ⟨by omega, ?_, ?_, e⟩
  · have h2 : 2 ^ (Lib.bitLen y - 1) * 2 ^ s ≤ y * 2 ^ s := Nat.mul_le_mul_right _ c
    rw [← Nat.pow_add, show Lib.bitLen y - 1 + s = 63 by omega] at h2
    exact h2
  · have h2 : y * 2 ^ s < 2 ^ Lib.bitLen y * 2 ^ s := Nat.mul_lt_mul_of_pos_right d (Nat.two_pow_pos s)
    rw [← Nat.pow_add, show Lib.bitLen y + s = 64 by omega] at h2
    exact h2

/-- the dividend, shifted by as much, in two halves -/
theorem halves (hi lo y P C : Nat) (hP : P * C = 18446744073709551616) (hC : 0 < C) (hPp : 0 < P) (hhi : hi < y) (hlo : lo < 18446744073709551616) :
    lo / C < P ∧ hi * P + lo / C < y * P ∧ (hi * P + lo / C) * 18446744073709551616 + lo * P % 18446744073709551616 = (hi * 18446744073709551616 + lo) * P := by
  have a : lo / C < P := by rw [Nat.div_lt_iff_lt_mul hC, hP]; exact hlo
  refine ⟨a, ?_, ?_⟩
  · have : (hi + 1) * P ≤ y * P := Nat.mul_le_mul_right _ hhi
    rw [Nat.add_mul] at this; omega
  · have h1 := Nat.div_add_mod lo C
    have h2 := Nat.mod_lt lo hC
    have h3 : lo * P = (lo / C) * 18446744073709551616 + (lo % C) * P := by
      conv => lhs; rw [← h1]
      rw [Nat.add_mul, ← hP]
      congr 1
      rw [Nat.mul_comm C, Nat.mul_assoc, Nat.mul_comm C]
    have h4 : (lo % C) * P < 18446744073709551616 := by
      rw [← hP, Nat.mul_comm P]; exact Nat.mul_lt_mul_of_pos_right h2 hPp
    rw [h3, Nat.mul_comm (lo / C) 18446744073709551616, Nat.mul_add_mod, Nat.mod_eq_of_lt h4, Nat.add_mul, Nat.add_mul]
    have h5 : hi * P * 18446744073709551616 = hi * 18446744073709551616 * P := by rw [Nat.mul_assoc, Nat.mul_comm P, Nat.mul_assoc]
    rw [h5, h3]; omega

/-- the two digits together, with the shift taken back -/
theorem together' (B N y P Y U1 U01 U00 q1 q0 r1 r0 : Nat) (hY : Y = y * P) (hP : 0 < P) (hy : 0 < y)
    (hN : N * P = (U1 * B + U01) * B + U00)
    (e1 : U1 * B + U01 = Y * q1 + r1) (e0 : r1 * B + U00 = Y * q0 + r0) (hr0 : r0 < Y) :
    q1 * B + q0 = N / y ∧ r0 / P = N % y := by
  have h : N * P = Y * (q1 * B + q0) + r0 := by
    rw [hN, e1, Nat.add_mul, Nat.add_assoc, e0, Nat.mul_add, Nat.mul_assoc, Nat.add_assoc]
  have hd : N / y = (N * P) / (y * P) := (Nat.mul_div_mul_right N y hP).symm
  have hm : (N * P) % (y * P) = (N % y) * P := Nat.mul_mod_mul_right P N y
  have hq : (N * P) / Y = q1 * B + q0 := by
    rw [h, Nat.mul_add_div (by rw [hY]; exact Nat.mul_pos hy hP), Nat.div_eq_of_lt hr0, Nat.add_zero]
  have hr : (N * P) % Y = r0 := by rw [h, Nat.mul_add_mod, Nat.mod_eq_of_lt hr0]
  refine ⟨by rw [hd, ← hY, hq], ?_⟩
  rw [← hY, hr] at hm
  rw [hm, Nat.mul_div_cancel _ hP]

end Go.Proofs.YtfbijgbpipedoaaGreatDoor.Dv
