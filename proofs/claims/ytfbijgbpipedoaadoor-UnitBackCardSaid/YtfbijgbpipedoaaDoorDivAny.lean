/- bits.Div64: the contract. -/
import Derived.Test.YtfbijgbpipedoaaDoorDivWalk
import Derived.Test.YtfbijgbpipedoaaDoorShelf
namespace Go.Proofs.YtfbijgbpipedoaaDoor
open Go.RowKit

theorem wrap_mod (a : Int) (m : Nat) (h : a % 18446744073709551616 = m) : IntKind.u64.wrap a = m := by
  rw [IntKind.wrap_u64, h]

theorem wraps (U1 u1 D Y R : Nat) (h : U1 * 4294967296 + u1 = Y * D + R) (hR : R < 18446744073709551616) :
    IntKind.u64.wrap (IntKind.u64.wrap (IntKind.u64.wrap ((U1 : Int) * 4294967296) + u1) - IntKind.u64.wrap (D * Y)) = (R : Int) := by
  have hc : (D : Int) * Y = ((Y * D : Nat) : Int) := by rw [Int.natCast_mul, Int.mul_comm]
  rw [hc]
  generalize Y * D = p at *
  simp only [IntKind.wrap_u64]
  omega

theorem and_mask (a : Nat) (ha : a < 18446744073709551616) : bits BinOp.and IntKind.u64 (a : Int) 4294967295 = ((a % 4294967296 : Nat) : Int) := by
  have h := u64_and_nat a 4294967295 ha (by omega)
  have e : ((4294967295 : Nat) : Int) = 4294967295 := rfl
  rw [e] at h
  rw [h]
  have h2 := Nat.and_two_pow_sub_one_eq_mod a 32
  rw [show (2:Nat) ^ 32 - 1 = 4294967295 by decide, show (2:Nat) ^ 32 = 4294967296 by decide] at h2
  rw [h2]

theorem digit (U1 u1 v1 v0 Y : Nat) (hYp : 0 < Y) (hU : U1 < Y) (hu : u1 < 4294967296) (hY : (Y : Int) = v1 * 4294967296 + v0) (hv1 : 2147483648 ≤ v1) (hv0 : v0 < 4294967296) :
    ∃ D R q r : Nat, Y * D + R = U1 * 4294967296 + u1 ∧ R < Y ∧ ((U1 : Int) * 4294967296 + u1) / Y = D ∧ (D : Int) < 4294967296 ∧ (D : Int) ≤ q ∧
      v1 * q + r = U1 ∧ r < v1 ∧ (q : Int) ≤ 4294967297 ∧ (U1 : Int) / v1 = q := by
  have d3 : ((U1 : Int) * 4294967296 + u1) / Y = (((U1 * 4294967296 + u1) / Y : Nat) : Int) := by simp [Int.natCast_ediv, Int.natCast_add, Int.natCast_mul]
  have d4 := Dv.digit_lt U1 u1 Y (by omega) (by omega) (by omega)
  have d5 := Dv.first_ge U1 u1 v1 v0 Y hY (by omega) (by omega) (by omega) (by omega)
  have k3 := Dv.first_le U1 v1 v0 Y hY (by omega) (by omega) (by omega)
  have k4 : (U1 : Int) / v1 = ((U1 / v1 : Nat) : Int) := by rw [Int.natCast_ediv]
  rw [d3] at d4 d5
  rw [k4] at k3 d5
  exact ⟨_, _, _, _, Nat.div_add_mod _ Y, Nat.mod_lt _ hYp, d3, d4, d5, Nat.div_add_mod U1 v1, Nat.mod_lt _ (by omega), k3, k4⟩

end Go.Proofs.YtfbijgbpipedoaaDoor
