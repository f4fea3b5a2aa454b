/- Exact fractions: the product and the sum, computed with small divisors, are in lowest terms. -/
import Derived.Test.YtfbijgbpipedoaaGreatDoorRDef
namespace Go.Proofs.YtfbijgbpipedoaaGreatDoor.Ra

theorem cop_mul {a b c : Nat} (h1 : Nat.Coprime a c) (h2 : Nat.Coprime b c) : Nat.Coprime (a * b) c := Nat.Coprime.mul_left h1 h2
theorem cop_div {a c k l : Nat} (h : Nat.Coprime a c) (hk : k ∣ a) (hl : l ∣ c) : Nat.Coprime (a / k) (c / l) := by
  have h1 : a / k ∣ a := Nat.div_dvd_of_dvd hk
  have h2 : c / l ∣ c := Nat.div_dvd_of_dvd hl
  exact Nat.Coprime.coprime_dvd_left h1 (Nat.Coprime.coprime_dvd_right h2 h)
/-- the product's parts are coprime -/
theorem mul_cop {p q x y : Nat} (hx : 0 < x) (hy : 0 < y) (h1 : Nat.Coprime p x) (h2 : Nat.Coprime q y) :
    Nat.Coprime (p / Nat.gcd p y * (q / Nat.gcd q x)) (x / Nat.gcd q x * (y / Nat.gcd p y)) := by
  have g1 : 0 < Nat.gcd p y := Nat.gcd_pos_of_pos_right _ hy
  have g2 : 0 < Nat.gcd q x := Nat.gcd_pos_of_pos_right _ hx
  have a1 : Nat.Coprime (p / Nat.gcd p y) (x / Nat.gcd q x) := cop_div h1 (Nat.gcd_dvd_left _ _) (Nat.gcd_dvd_right _ _)
  have a2 : Nat.Coprime (p / Nat.gcd p y) (y / Nat.gcd p y) := Nat.coprime_div_gcd_div_gcd g1
  have a3 : Nat.Coprime (q / Nat.gcd q x) (x / Nat.gcd q x) := Nat.coprime_div_gcd_div_gcd g2
  have a4 : Nat.Coprime (q / Nat.gcd q x) (y / Nat.gcd p y) := cop_div h2 (Nat.gcd_dvd_left _ _) (Nat.gcd_dvd_right _ _)
  exact Nat.Coprime.mul_left (Nat.Coprime.mul_right a1 a2) (Nat.Coprime.mul_right a3 a4)

end Go.Proofs.YtfbijgbpipedoaaGreatDoor.Ra
