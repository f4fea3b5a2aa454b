/- bits.Div64: the contract. -/
import Derived.Test.YtfbijgbpipedoaaGreatDoorDivWalk
import Derived.Test.YtfbijgbpipedoaaGreatDoorShelf
namespace Go.Proofs.YtfbijgbpipedoaaGreatDoor
open Go.RowKit

theorem lz_any (y : Nat) (w : World) (h0 : 0 < y) (h1 : y < 18446744073709551616) :
    Calls Tryz.prog 93 #[.int .u64 y] w fun e w' => e = .returned (.int .i64 ((64 - Lib.bitLen y : Nat) : Int)) ∧ w = w' := by
  refine (Tryz.bits_LeadingZeros64 (y : Int) w (by omega) (by omega)).mono ?_
  rintro e w' ⟨rfl, rfl⟩
  refine ⟨?_, rfl⟩
  have := (Dv.len_spec y h0 h1).2.1
  rw [Int.toNat_natCast, show (64 : Int) - (Lib.bitLen y : Int) = ((64 - Lib.bitLen y : Nat) : Int) by omega]

theorem wrap_mod (a : Int) (m : Nat) (h : a % 18446744073709551616 = m) : IntKind.u64.wrap a = m := by
  rw [IntKind.wrap_u64, h]

theorem wraps (U1 u1 D Y R : Nat) (h : U1 * 4294967296 + u1 = Y * D + R) (hR : R < 18446744073709551616) :
    IntKind.u64.wrap (IntKind.u64.wrap (IntKind.u64.wrap ((U1 : Int) * 4294967296) + u1) - IntKind.u64.wrap (D * Y)) = (R : Int) := by
  have hc : (D : Int) * Y = ((Y * D : Nat) : Int) := by rw [Int.natCast_mul, Int.mul_comm]
  rw [hc]
  generalize Y * D = p at *
  simp only [IntKind.wrap_u64]
  omega

theorem and_mask (a : Nat) (ha : a < 18446744073709551616) : bits BinOp.and IntKind.u64 (a : Int) 4294967295 = ((a % 4294967296 : Nat) : Int) := by
  have h := u64_and_nat a 4294967295 ha (by omega)
  have e : ((4294967295 : Nat) : Int) = 4294967295 := rfl
  rw [e] at h
  rw [h]
  have h2 := Nat.and_two_pow_sub_one_eq_mod a 32
  rw [show (2:Nat) ^ 32 - 1 = 4294967295 by decide, show (2:Nat) ^ 32 = 4294967296 by decide] at h2
  rw [h2]

set_option maxHeartbeats 1000000 in
theorem div64_small (lo y : Nat) (w : World) (h0 : 0 < y) (h2 : y < 18446744073709551616) (h3 : lo < 18446744073709551616) :
    Calls Tryz.prog 84 #[.int .u64 (0 : Int), .int .u64 lo, .int .u64 y] w fun e w' => e = .returned (.tuple #[.int .u64 ((lo / y : Nat) : Int), .int .u64 ((lo % y : Nat) : Int)]) ∧ ∃ n, w' = w.drewN n := by
  have hb0 : ((y : Int) == 0) = false := by simp; omega
  have hle : ¬ (y : Int) ≤ 0 := by omega
  have hy : (1 : Int) ≤ y := by omega
  have hx : (0 : Int) ≤ lo := by omega
  have hd : IntKind.u64.wrap ((lo : Int) / y) = (lo : Int) / y := by
    have h4 : lo / y ≤ lo := Nat.div_le_self _ _
    have h5 : (lo : Int) / y = ((lo / y : Nat) : Int) := by rw [Int.natCast_ediv]
    rw [h5]; exact IntWalk.u64_in _ ⟨Int.natCast_nonneg _, by generalize lo / y = z at *; omega⟩
  go_enter Tryz.func84, Tryz.ntmps84
  go_wp2
  go_quiet (fail)
  go_wp2
  go_ret2
  exact ⟨rfl, _, rfl⟩

theorem digit (U1 u1 v1 v0 Y : Nat) (hYp : 0 < Y) (hU : U1 < Y) (hu : u1 < 4294967296) (hY : (Y : Int) = v1 * 4294967296 + v0) (hv1 : 2147483648 ≤ v1) (hv0 : v0 < 4294967296) :
    ∃ D R q r : Nat, Y * D + R = U1 * 4294967296 + u1 ∧ R < Y ∧ ((U1 : Int) * 4294967296 + u1) / Y = D ∧ (D : Int) < 4294967296 ∧ (D : Int) ≤ q ∧
      v1 * q + r = U1 ∧ r < v1 ∧ (q : Int) ≤ 4294967297 ∧ (U1 : Int) / v1 = q := by
  have d3 : ((U1 : Int) * 4294967296 + u1) / Y = (((U1 * 4294967296 + u1) / Y : Nat) : Int) := by simp [Int.natCast_ediv, Int.natCast_add, Int.natCast_mul]
  have d4 := Dv.digit_lt U1 u1 Y (by omega) (by omega) (by omega)
  have d5 := Dv.first_ge U1 u1 v1 v0 Y hY (by omega) (by omega) (by omega) (by omega)
  have k3 := Dv.first_le U1 v1 v0 Y hY (by omega) (by omega) (by omega)
  have k4 : (U1 : Int) / v1 = ((U1 / v1 : Nat) : Int) := by rw [Int.natCast_ediv]
  rw [d3] at d4 d5
  rw [k4] at k3 d5
  exact ⟨_, _, _, _, Nat.div_add_mod _ Y, Nat.mod_lt _ hYp, d3, d4, d5, Nat.div_add_mod U1 v1, Nat.mod_lt _ (by omega), k3, k4⟩

theorem div64_any (hi lo y : Nat) (w : World) (h1 : hi < y) (h2 : y < 18446744073709551616) (h3 : lo < 18446744073709551616) :
    Calls Tryz.prog 84 #[.int .u64 hi, .int .u64 lo, .int .u64 y] w fun e w' =>
      e = .returned (.tuple #[.int .u64 (((hi * 18446744073709551616 + lo) / y : Nat) : Int), .int .u64 (((hi * 18446744073709551616 + lo) % y : Nat) : Int)]) ∧ ∃ n, w' = w.drewN n := by
  by_cases h0 : hi = 0
  · subst h0
    simpa using div64_small lo y w (by omega) h2 h3
  · obtain ⟨s, hs⟩ : ∃ s, s = 64 - Lib.bitLen y := ⟨_, rfl⟩
    obtain ⟨n1, n2, n3, n4⟩ := Dv.norm y (by omega) h2 s hs
    have hlz := lz_any y w (by omega) h2
    rw [← hs] at hlz
    have hP := Nat.two_pow_pos s
    have hC := Nat.two_pow_pos (64 - s)
    obtain ⟨g1, g2, g3⟩ := Dv.halves hi lo y (2 ^ s) (2 ^ (64 - s)) n4 hC hP h1 h3
    have hhi : hi * 2 ^ s < 18446744073709551616 := Nat.lt_of_le_of_lt (Nat.le_add_right _ _) (Nat.lt_trans g2 n3)
    have hlc : lo / 2 ^ (64 - s) < 18446744073709551616 := Nat.lt_of_le_of_lt (Nat.div_le_self _ _) h3
    have e5 : IntKind.u64.wrap ((lo : Int) * 2 ^ s) = ((lo * 2 ^ s % 18446744073709551616 : Nat) : Int) := by
      refine wrap_mod _ _ ?_
      simp [Int.natCast_emod, Int.natCast_mul, Int.natCast_pow]
    have e1 : IntKind.u64.wrap ((y : Int) * 2 ^ s) = ((y * 2 ^ s : Nat) : Int) := by
      have : (y : Int) * 2 ^ s = ((y * 2 ^ s : Nat) : Int) := by simp [Int.natCast_mul, Int.natCast_pow]
      rw [this]; exact IntWalk.u64_in _ (by omega)
    have e4 : bits BinOp.or IntKind.u64 (IntKind.u64.wrap ((hi : Int) * 2 ^ s)) ((lo : Int) / 2 ^ (64 - s)) = ((hi * 2 ^ s + lo / 2 ^ (64 - s) : Nat) : Int) := by
      have a1 : (hi : Int) * 2 ^ s = ((hi * 2 ^ s : Nat) : Int) := by simp [Int.natCast_mul, Int.natCast_pow]
      have a2 : (lo : Int) / 2 ^ (64 - s) = ((lo / 2 ^ (64 - s) : Nat) : Int) := by simp [Int.natCast_ediv, Int.natCast_pow]
      rw [a1, a2, IntWalk.u64_in _ ⟨Int.natCast_nonneg _, by generalize hi * 2 ^ s = z at *; omega⟩, u64_or_nat _ _ hhi hlc, Dv.or_disj _ _ _ g1]
    generalize hYe : y * 2 ^ s = Y at *
    generalize hU1e : hi * 2 ^ s + lo / 2 ^ (64 - s) = U1 at *
    have hU0b := Nat.mod_lt (lo * 2 ^ s) (show 18446744073709551616 > 0 by omega)
    generalize lo * 2 ^ s % 18446744073709551616 = U0 at *
    clear hlc hhi g1 n4
    have hYp : 0 < Y := by omega
    have y1 := Nat.div_add_mod Y 4294967296
    have y2 := Nat.mod_lt Y (show 4294967296 > 0 by omega)
    have hv1 : 2147483648 ≤ Y / 4294967296 := by omega
    have hv1b : Y / 4294967296 < 4294967296 := by omega
    have e2 : (Y : Int) / 4294967296 = ((Y / 4294967296 : Nat) : Int) := by omega
    have e3 := and_mask Y n3
    have e6 : (U0 : Int) / 4294967296 = ((U0 / 4294967296 : Nat) : Int) := by omega
    have e7 := and_mask U0 hU0b
    have u1b : U0 / 4294967296 < 4294967296 := by omega
    have u0b := Nat.mod_lt U0 (show 4294967296 > 0 by omega)
    have hN : (hi * 18446744073709551616 + lo) * 2 ^ s = (U1 * 4294967296 + U0 / 4294967296) * 4294967296 + U0 % 4294967296 := by
      rw [← g3]; omega
    generalize Y / 4294967296 = v1 at *
    generalize Y % 4294967296 = v0 at *
    generalize U0 / 4294967296 = u1 at *
    generalize hu0 : U0 % 4294967296 = u0 at *
    have hY : (Y : Int) = v1 * 4294967296 + v0 := by omega
    obtain ⟨D1, R1, q, r, d1, d2, d3, d4, d5, k1, k2, k3, k4⟩ := digit U1 u1 v1 v0 Y hYp g2 u1b hY hv1 y2
    obtain ⟨D0, R0, q', r', c1, c2, c3, c4, c5, m1, m2, m3, m4⟩ := digit R1 u0 v1 v0 Y hYp d2 u0b hY hv1 y2
    have mulc : ∀ a b : Nat, (a : Int) * b = ((b * a : Nat) : Int) := fun a b => by rw [Int.natCast_mul, Int.mul_comm]
    have e9 : (U1 : Int) - IntKind.u64.wrap (q * v1) = r := by
      rw [mulc, IntWalk.u64_in _ ⟨Int.natCast_nonneg _, by generalize v1 * q = z at *; omega⟩]
      generalize v1 * q = z at *; omega
    have f9 : (R1 : Int) - IntKind.u64.wrap (q' * v1) = r' := by
      rw [mulc, IntWalk.u64_in _ ⟨Int.natCast_nonneg _, by generalize v1 * q' = z at *; omega⟩]
      generalize v1 * q' = z at *; omega
    have q1 : (U1 : Int) = q * v1 + r := by rw [mulc]; generalize v1 * q = z at *; omega
    have p1 : (R1 : Int) = q' * v1 + r' := by rw [mulc]; generalize v1 * q' = z at *; omega
    have ht := Dv.together' 4294967296 (hi * 18446744073709551616 + lo) y (2 ^ s) Y U1 u1 u0 D1 D0 R1 R0 hYe.symm hP (by omega) hN d1.symm c1.symm c2
    have e11 := wraps U1 u1 D1 Y R1 d1.symm (by omega)
    have f11 := wraps R1 u0 D0 Y R0 c1.symm (by omega)
    refine (div64_core hi lo y s Y v1 v0 U1 U0 u1 u0 q r D1 R1 q' r' D0 R0 w (by omega) h1 n1 n2 n3 hv1 hv1b y2 u1b u0b e1 e2 e3 e4 e5 e6 (by rw [e7]) k4 e9 d3 (by omega) e11 m4 f9 c3 (by omega) f11 hY q1 (by omega) k2 (by omega) p1 (by omega) m2 (by omega) hlz).mono ?_
    rintro e w' ⟨rfl, rfl⟩
    refine ⟨?_, 0, rfl⟩
    obtain ⟨t1, t2⟩ := ht
    rw [← t1, ← t2]
    simp [Int.natCast_ediv, Int.natCast_pow]

end Go.Proofs.YtfbijgbpipedoaaGreatDoor
