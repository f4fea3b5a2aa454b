/- Walks of ratio's functions: Mul, of right ratios that are not zero. -/
import Derived.Test.YtfbijgbpipedoaaGreatDoorRl
import Derived.Test.YtfbijgbpipedoaaGreatDoorStep
namespace Go.Proofs.YtfbijgbpipedoaaGreatDoor
open Go.RowKit Ra

/-- contracts whose results bear names: the equation of the name chooses the result -/
theorem abs_of {n : Int} {p : Nat} (hp : Hid (p = n.natAbs ∧ -9223372036854775808 ≤ n ∧ n ≤ 9223372036854775807)) (w : World) :
    Calls Tryz.prog 68 #[.int .i64 n] w fun e w' => e = .returned (.int .u64 (p : Int)) ∧ w' = w := by
  obtain ⟨rfl, h0, h1⟩ := hp.out
  exact (abs_any n w h0 h1).mono fun _ _ h => ⟨h.1, h.2.symm⟩
theorem gcd_of {a b g : Nat} (hg : Hid (g = Nat.gcd a b ∧ a < 18446744073709551616 ∧ b < 18446744073709551616)) (w : World) :
    Calls Tryz.prog 65 #[.int .u64 a, .int .u64 b] w fun e w' => e = .returned (.int .u64 (g : Int)) ∧ ∃ n, w' = w.drewN n := by
  obtain ⟨rfl, h0, h1⟩ := hg.out
  exact gcd_any a b w h0 h1
theorem gcd_quiet {a b g : Nat} (hg : Hid (g = Nat.gcd a b ∧ a < 18446744073709551616 ∧ b < 18446744073709551616)) (w : World) (k m : Nat) :
    Calls Tryz.prog 65 #[.int .u64 a, .int .u64 b] (w.drewN (k + m)) fun e w' => e = .returned (.int .u64 (g : Int)) ∧ ∃ n, w' = w.drewN (k + n) := by
  refine (gcd_of hg (w.drewN (k + m))).mono ?_
  rintro e w' ⟨rfl, n, rfl⟩
  exact ⟨rfl, m + n, by rw [World.drewN_drewN, Nat.add_assoc]⟩
theorem times_of {a b t1 t0 : Nat} (ht : Hid (Wv (a * b) = .agg #[.int .u64 (t1 : Int), .int .u64 (t0 : Int)] ∧ a < 18446744073709551616 ∧ b < 18446744073709551616)) (w : World) :
    Calls Tryz.prog 67 #[.int .u64 a, .int .u64 b] w fun e w' => e = .returned (.agg #[.int .u64 (t1 : Int), .int .u64 (t0 : Int)]) ∧ Below w.heap.size w w' := by
  obtain ⟨he, h0, h1⟩ := ht.out
  rw [← he]
  exact times_any a b w h0 h1

end Go.Proofs.YtfbijgbpipedoaaGreatDoor
