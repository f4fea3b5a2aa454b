/- bits.Div64, walked: the quotient and the remainder of a 128-bit number by a 64-bit one. -/
import Derived.Test.YtfbijgbpipedoaaGreatDoorProg
import Derived.Test.YtfbijgbpipedoaaGreatDoorDivPure
import Derived.WalkKit
import Derived.WalkSpells
import Derived.WalkLawsBesides
import Derived.Handy
import Derived.Deep.QuietTactic
import Derived.BigQuiet
import Derived.Lib.Hide
namespace Go.Proofs.YtfbijgbpipedoaaGreatDoor
open Go.RowKit

set_option maxRecDepth 2000 in
set_option maxHeartbeats 1000000 in
theorem div64_core (hi lo y s Y v1 v0 U1 U0 u1 u0 q r D1 R1 q' r' D0 R0 : Nat) (w : World) (h0 : 0 < hi) (h1 : hi < y)
    (hs : s < 64)
    (hY : 9223372036854775808 ≤ Y) (hY2 : Y < 18446744073709551616) (hv1 : 2147483648 ≤ v1) (hv1b : v1 < 4294967296) (hv0 : v0 < 4294967296)
    (hu1 : u1 < 4294967296) (hu0 : u0 < 4294967296)
    (e1 : IntKind.u64.wrap (↑y * 2 ^ s) = (Y : Int))
    (e2 : (Y : Int) / 4294967296 = v1)
    (e3 : bits BinOp.and IntKind.u64 (Y : Int) 4294967295 = v0)
    (e4 : bits BinOp.or IntKind.u64 (IntKind.u64.wrap (↑hi * 2 ^ s)) (↑lo / 2 ^ (64 - s)) = (U1 : Int))
    (e5 : IntKind.u64.wrap (↑lo * 2 ^ s) = (U0 : Int))
    (e6 : (U0 : Int) / 4294967296 = u1)
    (e7 : bits BinOp.and IntKind.u64 (U0 : Int) 4294967295 = u0)
    (e8 : (U1 : Int) / v1 = q) (e9 : (U1 : Int) - IntKind.u64.wrap (q * v1) = r)
    (hD1 : Hid (((U1 : Int) * 4294967296 + u1) / Y = (D1 : Int))) (hDb : D1 < 4294967296)
    (e11 : IntKind.u64.wrap (IntKind.u64.wrap (IntKind.u64.wrap ((U1 : Int) * 4294967296) + u1) - IntKind.u64.wrap (D1 * Y)) = (R1 : Int))
    (f8 : (R1 : Int) / v1 = q') (f9 : (R1 : Int) - IntKind.u64.wrap (q' * v1) = r')
    (hD0 : Hid (((R1 : Int) * 4294967296 + u0) / Y = (D0 : Int))) (hDc : D0 < 4294967296)
    (f11 : IntKind.u64.wrap (IntKind.u64.wrap (IntKind.u64.wrap ((R1 : Int) * 4294967296) + u0) - IntKind.u64.wrap (D0 * Y)) = (R0 : Int))
    (HY : Hid ((Y : Int) = v1 * 4294967296 + v0))
    (q1 : Hid ((U1 : Int) = q * v1 + r)) (q2 : q ≤ 4294967297) (q3 : r < v1) (q4 : D1 ≤ q)
    (p1 : Hid ((R1 : Int) = q' * v1 + r')) (p2 : q' ≤ 4294967297) (p3 : r' < v1) (p4 : D0 ≤ q')
    (hlz : Hid (Calls Tryz.prog 93 #[.int .u64 y] w fun e w' => e = .returned (.int .i64 s) ∧ w = w')) :
    Calls Tryz.prog 84 #[.int .u64 hi, .int .u64 lo, .int .u64 y] w fun e w' => e = .returned (.tuple #[.int .u64 ((D1 : Int) * 4294967296 + D0), .int .u64 ((R0 : Int) / 2 ^ s)]) ∧ w = w' := by
  have hb0 : ((y : Int) == 0) = false := by simp; omega
  have hb1 : ((hi : Int) == 0) = false := by simp; omega
  have hb2 : ((v1 : Int) == 0) = false := by simp; omega
  have hle : ¬ (y : Int) ≤ hi := by omega
  have hwr1 : IntKind.u64.wrap (r : Int) = r := IntWalk.u64_in _ (by omega)
  have hwr2 : IntKind.u64.wrap (r' : Int) = r' := IntWalk.u64_in _ (by omega)
  go_enter Tryz.func84, Tryz.ntmps84
  go_wp2_with (go_at_call 93; refine hlz.mono ?_; rintro e w' ⟨rfl, rfl⟩)
  clear e1 e2 e3 e4 e5 e6 e7 e8 e9 hwr1 hb0 hb1 hle hlz
  have hYp : (0 : Int) < Y := by omega
  clear h0 h1 hY hY2
  go_loop [15, 16] (fun a b => ∃ x z : Int, a = .int .u64 x ∧ b = .int .u64 z ∧ Hid ((U1 : Int) = x * v1 + z) ∧ (D1 : Int) ≤ x ∧ x ≤ 4294967297 ∧ 0 ≤ z ∧ z < 4294967296) (fun a _ => (intOf a).toNat)
  case atStart => exact ⟨q, r, rfl, rfl, q1, by omega, by omega, by omega, by omega⟩
  case round =>
    obtain ⟨x, z, rfl, rfl, HU, x1, x2, z1, z2⟩ := hrel
    have hb : 0 ≤ x * v0 ∧ x * v0 ≤ 18446744073709551615 := by
      refine ⟨Int.mul_nonneg (by omega) (by omega), ?_⟩
      have := Int.mul_le_mul x2 (show (v0 : Int) ≤ 4294967295 by omega) (by omega) (by omega)
      omega
    obtain ⟨hb1', hb2'⟩ := hb
    by_cases hB : 4294967296 ≤ x
    · have hdn := Dv.down _ _ _ _ HU.out
      have HD := Lib.hid hdn
      clear hdn
      by_cases hz : 4294967296 ≤ z + v1
      · have hxd : x = D1 + 1 := by
          have := Dv.at_break U1 u1 (x - 1) (z + v1) v1 v0 Y HY.out HD.out hYp (by omega) (by omega) (by omega) hz (by omega)
          have := hD1.out; omega
        clear HD HU
        subst hxd
        go_wp2
        clear e11 f8 f9 hb1' hb2' hB
        try clear hz
        try clear hC
        go_loop [18, 16] (fun a b => ∃ x z : Int, a = .int .u64 x ∧ b = .int .u64 z ∧ Hid ((R1 : Int) = x * v1 + z) ∧ (D0 : Int) ≤ x ∧ x ≤ 4294967297 ∧ 0 ≤ z ∧ z < 4294967296) (fun a _ => (intOf a).toNat)
        case atStart => exact ⟨q', r', rfl, rfl, p1, by omega, by omega, by omega, by omega⟩
        case round =>
          obtain ⟨x, z, rfl, rfl, HU, x1, x2, z1, z2⟩ := hrel
          have hb : 0 ≤ x * v0 ∧ x * v0 ≤ 18446744073709551615 := by
            refine ⟨Int.mul_nonneg (by omega) (by omega), ?_⟩
            have := Int.mul_le_mul x2 (show (v0 : Int) ≤ 4294967295 by omega) (by omega) (by omega)
            omega
          obtain ⟨hb1', hb2'⟩ := hb
          by_cases hB : 4294967296 ≤ x
          · have hdn := Dv.down _ _ _ _ HU.out
            have HD := Lib.hid hdn
            clear hdn
            by_cases hz : 4294967296 ≤ z + v1
            · have hxd : x = D0 + 1 := by
                have := Dv.at_break R1 u0 (x - 1) (z + v1) v1 v0 Y HY.out HD.out hYp (by omega) (by omega) (by omega) hz (by omega)
                have := hD0.out; omega
              clear HD HU
              subst hxd
              go_wp2
              go_ret2
              exact ⟨rfl, rfl⟩
            · go_wp2
              go_round
              case rel => exact ⟨x - 1, z + v1, rfl, rfl, HD, by omega, by omega, by omega, by omega⟩
              case measure => simp [intOf]; omega
          · by_cases hC : 4294967296 * z + u0 < x * v0
            · have hlt := Dv.too_great R1 u0 x z v1 v0 Y HY.out HU.out hYp (by omega)
              have hlt' : (D0 : Int) < x := by have := hD0.out; omega
              clear hlt
              have hdn := Dv.down _ _ _ _ HU.out
              have HD := Lib.hid hdn
              clear hdn
              by_cases hz : 4294967296 ≤ z + v1
              · have hxd : x = D0 + 1 := by
                  have := Dv.at_break R1 u0 (x - 1) (z + v1) v1 v0 Y HY.out HD.out hYp (by omega) (by omega) (by omega) hz (by omega)
                  have := hD0.out; omega
                clear HD HU
                subst hxd
                go_wp2
                go_ret2
                exact ⟨rfl, rfl⟩
              · go_wp2
                go_round
                case rel => exact ⟨x - 1, z + v1, rfl, rfl, HD, by omega, by omega, by omega, by omega⟩
                case measure => simp [intOf]; omega
            · have hxd : x = D0 := by
                have := Dv.fits R1 u0 x z v1 v0 Y HY.out HU.out hYp (by omega)
                have := hD0.out; omega
              clear HU
              subst hxd
              go_wp2
              go_ret2
              exact ⟨rfl, rfl⟩
      · go_wp2
        go_round
        case rel => exact ⟨x - 1, z + v1, rfl, rfl, HD, by omega, by omega, by omega, by omega⟩
        case measure => simp [intOf]; omega
    · by_cases hC : 4294967296 * z + u1 < x * v0
      · have hlt := Dv.too_great U1 u1 x z v1 v0 Y HY.out HU.out hYp (by omega)
        have hlt' : (D1 : Int) < x := by have := hD1.out; omega
        clear hlt
        have hdn := Dv.down _ _ _ _ HU.out
        have HD := Lib.hid hdn
        clear hdn
        by_cases hz : 4294967296 ≤ z + v1
        · have hxd : x = D1 + 1 := by
            have := Dv.at_break U1 u1 (x - 1) (z + v1) v1 v0 Y HY.out HD.out hYp (by omega) (by omega) (by omega) hz (by omega)
            have := hD1.out; omega
          clear HD HU
          subst hxd
          go_wp2
          clear e11 f8 f9 hb1' hb2' hB
          try clear hz
          try clear hC
          go_loop [18, 16] (fun a b => ∃ x z : Int, a = .int .u64 x ∧ b = .int .u64 z ∧ Hid ((R1 : Int) = x * v1 + z) ∧ (D0 : Int) ≤ x ∧ x ≤ 4294967297 ∧ 0 ≤ z ∧ z < 4294967296) (fun a _ => (intOf a).toNat)
          case atStart => exact ⟨q', r', rfl, rfl, p1, by omega, by omega, by omega, by omega⟩
          case round =>
            obtain ⟨x, z, rfl, rfl, HU, x1, x2, z1, z2⟩ := hrel
            have hb : 0 ≤ x * v0 ∧ x * v0 ≤ 18446744073709551615 := by
              refine ⟨Int.mul_nonneg (by omega) (by omega), ?_⟩
              have := Int.mul_le_mul x2 (show (v0 : Int) ≤ 4294967295 by omega) (by omega) (by omega)
              omega
            obtain ⟨hb1', hb2'⟩ := hb
            by_cases hB : 4294967296 ≤ x
            · have hdn := Dv.down _ _ _ _ HU.out
              have HD := Lib.hid hdn
              clear hdn
              by_cases hz : 4294967296 ≤ z + v1
              · have hxd : x = D0 + 1 := by
                  have := Dv.at_break R1 u0 (x - 1) (z + v1) v1 v0 Y HY.out HD.out hYp (by omega) (by omega) (by omega) hz (by omega)
                  have := hD0.out; omega
                clear HD HU
                subst hxd
                go_wp2
                go_ret2
                exact ⟨rfl, rfl⟩
              · go_wp2
                go_round
                case rel => exact ⟨x - 1, z + v1, rfl, rfl, HD, by omega, by omega, by omega, by omega⟩
                case measure => simp [intOf]; omega
            · by_cases hC : 4294967296 * z + u0 < x * v0
              · have hlt := Dv.too_great R1 u0 x z v1 v0 Y HY.out HU.out hYp (by omega)
                have hlt' : (D0 : Int) < x := by have := hD0.out; omega
                clear hlt
                have hdn := Dv.down _ _ _ _ HU.out
                have HD := Lib.hid hdn
                clear hdn
                by_cases hz : 4294967296 ≤ z + v1
                · have hxd : x = D0 + 1 := by
                    have := Dv.at_break R1 u0 (x - 1) (z + v1) v1 v0 Y HY.out HD.out hYp (by omega) (by omega) (by omega) hz (by omega)
                    have := hD0.out; omega
                  clear HD HU
                  subst hxd
                  go_wp2
                  go_ret2
                  exact ⟨rfl, rfl⟩
                · go_wp2
                  go_round
                  case rel => exact ⟨x - 1, z + v1, rfl, rfl, HD, by omega, by omega, by omega, by omega⟩
                  case measure => simp [intOf]; omega
              · have hxd : x = D0 := by
                  have := Dv.fits R1 u0 x z v1 v0 Y HY.out HU.out hYp (by omega)
                  have := hD0.out; omega
                clear HU
                subst hxd
                go_wp2
                go_ret2
                exact ⟨rfl, rfl⟩
        · go_wp2
          go_round
          case rel => exact ⟨x - 1, z + v1, rfl, rfl, HD, by omega, by omega, by omega, by omega⟩
          case measure => simp [intOf]; omega
      · have hxd : x = D1 := by
          have := Dv.fits U1 u1 x z v1 v0 Y HY.out HU.out hYp (by omega)
          have := hD1.out; omega
        clear HU
        subst hxd
        go_wp2
        clear e11 f8 f9 hb1' hb2' hB
        try clear hz
        try clear hC
        go_loop [18, 16] (fun a b => ∃ x z : Int, a = .int .u64 x ∧ b = .int .u64 z ∧ Hid ((R1 : Int) = x * v1 + z) ∧ (D0 : Int) ≤ x ∧ x ≤ 4294967297 ∧ 0 ≤ z ∧ z < 4294967296) (fun a _ => (intOf a).toNat)
        case atStart => exact ⟨q', r', rfl, rfl, p1, by omega, by omega, by omega, by omega⟩
        case round =>
          obtain ⟨x, z, rfl, rfl, HU, x1, x2, z1, z2⟩ := hrel
          have hb : 0 ≤ x * v0 ∧ x * v0 ≤ 18446744073709551615 := by
            refine ⟨Int.mul_nonneg (by omega) (by omega), ?_⟩
            have := Int.mul_le_mul x2 (show (v0 : Int) ≤ 4294967295 by omega) (by omega) (by omega)
            omega
          obtain ⟨hb1', hb2'⟩ := hb
          by_cases hB : 4294967296 ≤ x
          · have hdn := Dv.down _ _ _ _ HU.out
            have HD := Lib.hid hdn
            clear hdn
            by_cases hz : 4294967296 ≤ z + v1
            · have hxd : x = D0 + 1 := by
                have := Dv.at_break R1 u0 (x - 1) (z + v1) v1 v0 Y HY.out HD.out hYp (by omega) (by omega) (by omega) hz (by omega)
                have := hD0.out; omega
              clear HD HU
              subst hxd
              go_wp2
              go_ret2
              exact ⟨rfl, rfl⟩
            · go_wp2
              go_round
              case rel => exact ⟨x - 1, z + v1, rfl, rfl, HD, by omega, by omega, by omega, by omega⟩
              case measure => simp [intOf]; omega
          · by_cases hC : 4294967296 * z + u0 < x * v0
            · have hlt := Dv.too_great R1 u0 x z v1 v0 Y HY.out HU.out hYp (by omega)
              have hlt' : (D0 : Int) < x := by have := hD0.out; omega
              clear hlt
              have hdn := Dv.down _ _ _ _ HU.out
              have HD := Lib.hid hdn
              clear hdn
              by_cases hz : 4294967296 ≤ z + v1
              · have hxd : x = D0 + 1 := by
                  have := Dv.at_break R1 u0 (x - 1) (z + v1) v1 v0 Y HY.out HD.out hYp (by omega) (by omega) (by omega) hz (by omega)
                  have := hD0.out; omega
                clear HD HU
                subst hxd
                go_wp2
                go_ret2
                exact ⟨rfl, rfl⟩
              · go_wp2
                go_round
                case rel => exact ⟨x - 1, z + v1, rfl, rfl, HD, by omega, by omega, by omega, by omega⟩
                case measure => simp [intOf]; omega
            · have hxd : x = D0 := by
                have := Dv.fits R1 u0 x z v1 v0 Y HY.out HU.out hYp (by omega)
                have := hD0.out; omega
              clear HU
              subst hxd
              go_wp2
              go_ret2
              exact ⟨rfl, rfl⟩

end Go.Proofs.YtfbijgbpipedoaaGreatDoor
