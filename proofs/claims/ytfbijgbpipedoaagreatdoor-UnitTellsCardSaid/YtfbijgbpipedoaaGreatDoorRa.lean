/- Walks of ratio's functions on numbers: abs, gcd. -/
import Derived.Test.YtfbijgbpipedoaaGreatDoorDivAny
import Derived.Test.YtfbijgbpipedoaaGreatDoorRDef
namespace Go.Proofs.YtfbijgbpipedoaaGreatDoor
open Go.RowKit Ra

theorem abs_any (n : Int) (w : World) (h0 : -9223372036854775808 ≤ n) (h1 : n ≤ 9223372036854775807) :
    Calls Tryz.prog 68 #[.int .i64 n] w fun e w' => e = .returned (.int .u64 (n.natAbs : Int)) ∧ w = w' := by
  have hneg : n < 0 → IntKind.u64.wrap (-IntKind.u64.wrap n) = (n.natAbs : Int) := by
    intro h
    rw [IntKind.wrap_u64, IntKind.wrap_u64]
    omega
  have hpos : ¬ n < 0 → IntKind.u64.wrap n = (n.natAbs : Int) := by
    intro h
    rw [IntKind.wrap_u64]
    omega
  by_cases h : n < 0
  · have e := hneg h
    clear hneg hpos
    go_enter Tryz.func68, Tryz.ntmps68
    go_wp2
    go_ret
    exact ⟨by simp [*], rfl⟩
  · have e := hpos h
    clear hneg hpos
    go_enter Tryz.func68, Tryz.ntmps68
    go_wp2
    go_ret
    exact ⟨by simp [*], rfl⟩

theorem gcd_any (a b : Nat) (w : World) (ha : a < 18446744073709551616) (hb : b < 18446744073709551616) :
    Calls Tryz.prog 65 #[.int .u64 a, .int .u64 b] w fun e w' => e = .returned (.int .u64 (Nat.gcd a b : Nat)) ∧ ∃ n, w' = w.drewN n := by
  go_enter Tryz.func65, Tryz.ntmps65
  go_wp2
  go_loopw [0, 1] (fun x y wr => ∃ p q : Nat, x = .int .u64 p ∧ y = .int .u64 q ∧ p < 18446744073709551616 ∧ q < 18446744073709551616 ∧ Hid (Nat.gcd p q = Nat.gcd a b) ∧ ∃ n, wr = w.drewN n) (fun _ y _ => (intOf y).toNat)
  case atStart => exact ⟨a, b, rfl, rfl, ha, hb, Lib.hid rfl, 0, rfl⟩
  case round =>
    obtain ⟨p, q, rfl, rfl, hp, hq, hg, n, rfl⟩ := hrel
    by_cases h0 : q = 0
    · subst h0
      have e : (Nat.gcd a b : Nat) = p := by rw [← hg.out, Nat.gcd_zero_right]
      go_wp2
      go_ret
      exact ⟨by rw [e]; rfl, _, rfl⟩
    · have b1 : ((q : Int) != 0) = true := by simp; omega
      have b2 : ¬ (q : Int) = 0 := by omega
      go_wp2
      go_quiet (fail)
      go_wp2
      go_roundw
      case rel => exact ⟨q, p % q, rfl, by rw [Int.natCast_emod], hq, by have := Nat.mod_lt p (Nat.pos_of_ne_zero h0); omega, Lib.hid (by rw [← hg.out, Nat.gcd_comm, ← Nat.gcd_rec, Nat.gcd_comm]), n + nq, by rw [World.drewN_drewN]⟩
      case measure =>
        have := Nat.mod_lt p (Nat.pos_of_ne_zero h0)
        simp only [intOf]
        omega

/-- a number and a positive one, and their divisor -/
theorem gcd_le (a b : Nat) (hb : 0 < b) : Nat.gcd a b ≤ b := Nat.gcd_le_right _ hb
theorem gcd_pos (a b : Nat) (hb : 0 < b) : 0 < Nat.gcd a b := Nat.gcd_pos_of_pos_right _ hb

end Go.Proofs.YtfbijgbpipedoaaGreatDoor
