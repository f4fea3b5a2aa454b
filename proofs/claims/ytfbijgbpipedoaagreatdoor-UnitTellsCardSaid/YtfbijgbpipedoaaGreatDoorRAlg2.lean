/- Exact fractions: the sum, computed with small divisors, is in lowest terms. -/
import Derived.Test.YtfbijgbpipedoaaGreatDoorRo
namespace Go.Proofs.YtfbijgbpipedoaaGreatDoor
open Ra

theorem dvd_signed (c : Nat) (s : Bool) (x : Nat) : ((c : Int) ∣ signed s x) ↔ c ∣ x := by
  rw [Int.ofNat_dvd_left, signed_abs]
/-- a part of one denominator has nothing in common with the sum -/
theorem cop_sum {T A B l x : Nat} {s m n : Bool} (h : signed s T = signed m A + signed n B) (hB : l ∣ B) (hx : Nat.Coprime A l) (hl : x ∣ l) : Nat.Coprime T x := by
  have hx' : Nat.Coprime A x := Nat.Coprime.coprime_dvd_right hl hx
  have h1 : Nat.gcd T x ∣ T := Nat.gcd_dvd_left _ _
  have h2 : Nat.gcd T x ∣ x := Nat.gcd_dvd_right _ _
  have h3 : Nat.gcd T x ∣ B := Nat.dvd_trans h2 (Nat.dvd_trans hl hB)
  have i1 : ((Nat.gcd T x : Nat) : Int) ∣ signed m A + signed n B := by rw [← h]; exact (dvd_signed _ _ _).2 h1
  have i2 : ((Nat.gcd T x : Nat) : Int) ∣ signed n B := (dvd_signed _ _ _).2 h3
  have i3 : ((Nat.gcd T x : Nat) : Int) ∣ signed m A := (Int.dvd_iff_dvd_of_dvd_add i1).2 i2
  have h4 : Nat.gcd T x ∣ A := (dvd_signed _ _ _).1 i3
  have h5 : Nat.gcd T x ∣ 1 := by
    have := Nat.dvd_gcd h4 h2
    rwa [hx'] at this
  exact Nat.dvd_one.1 h5

theorem add_law (p q x y T : Nat) (s m n : Bool) (hx : 0 < x) (hy : 0 < y) (h1 : Nat.Coprime p x) (h2 : Nat.Coprime q y)
    (h : signed s T = signed m (p * (y / Nat.gcd x y)) + signed n (q * (x / Nat.gcd x y))) :
    norm (signed m (p * y) + signed n (q * x)) (x * y) = ⟨signed s (T / Nat.gcd (Nat.gcd x y) (T % Nat.gcd x y)), ((x / Nat.gcd x y * (y / Nat.gcd (Nat.gcd x y) (T % Nat.gcd x y)) : Nat) : Int)⟩ := by
  have ek : Nat.gcd (Nat.gcd x y) (T % Nat.gcd x y) = Nat.gcd (Nat.gcd x y) T := by rw [Nat.gcd_comm, ← Nat.gcd_rec]
  rw [ek]
  clear ek
  have g0 : 0 < Nat.gcd x y := Nat.gcd_pos_of_pos_left _ hx
  have hlr : Nat.Coprime (x / Nat.gcd x y) (y / Nat.gcd x y) := Nat.coprime_div_gcd_div_gcd g0
  obtain ⟨l, hl⟩ := Nat.gcd_dvd_left x y
  obtain ⟨r, hr⟩ := Nat.gcd_dvd_right x y
  generalize Nat.gcd x y = g at *
  have e1 : x / g = l := by rw [hl]; exact Nat.mul_div_cancel_left _ g0
  have e2 : y / g = r := by rw [hr]; exact Nat.mul_div_cancel_left _ g0
  rw [e1, e2] at h hlr
  rw [e1]
  clear e1 e2
  have l0 : 0 < l := by
    rcases Nat.eq_zero_or_pos l with h0 | h0
    · subst h0; simp at hl; omega
    · exact h0
  have r0 : 0 < r := by
    rcases Nat.eq_zero_or_pos r with h0 | h0
    · subst h0; simp at hr; omega
    · exact h0
  have c1 : Nat.Coprime T l := by
    refine cop_sum (l := l) h (Nat.dvd_mul_left _ _) (Nat.Coprime.mul_left (Nat.Coprime.coprime_dvd_right ⟨g, by rw [hl, Nat.mul_comm]⟩ h1) hlr.symm) (Nat.dvd_refl _)
  have c2 : Nat.Coprime T r := by
    rw [Int.add_comm] at h
    refine cop_sum (l := r) h (Nat.dvd_mul_left _ _) (Nat.Coprime.mul_left (Nat.Coprime.coprime_dvd_right ⟨g, by rw [hr, Nat.mul_comm]⟩ h2) hlr) (Nat.dvd_refl _)
  have k0 : 0 < Nat.gcd g T := Nat.gcd_pos_of_pos_left _ g0
  have hgT : Nat.Coprime (g / Nat.gcd g T) (T / Nat.gcd g T) := Nat.coprime_div_gcd_div_gcd k0
  obtain ⟨g', hg'⟩ := Nat.gcd_dvd_left g T
  obtain ⟨T', hT'⟩ := Nat.gcd_dvd_right g T
  generalize Nat.gcd g T = k at *
  have e3 : T / k = T' := by rw [hT']; exact Nat.mul_div_cancel_left _ k0
  have e4 : g / k = g' := by rw [hg']; exact Nat.mul_div_cancel_left _ k0
  have e5 : y / k = g' * r := by rw [hr, hg', Nat.mul_assoc]; exact Nat.mul_div_cancel_left _ k0
  rw [e3, e4] at hgT
  rw [e3, e5]
  clear e3 e4 e5
  have g'0 : 0 < g' := by
    rcases Nat.eq_zero_or_pos g' with h0 | h0
    · subst h0; simp at hg'; omega
    · exact h0
  have dT : T' ∣ T := ⟨k, by rw [hT', Nat.mul_comm]⟩
  refine norm_unique (Nat.mul_pos hx hy) ?_ ?_ ?_
  · have : 0 < l * (g' * r) := Nat.mul_pos l0 (Nat.mul_pos g'0 r0)
    simp only; omega
  · simp only [signed_abs, Int.natAbs_natCast]
    exact Nat.Coprime.mul_right (Nat.Coprime.coprime_dvd_left dT c1) (Nat.Coprime.mul_right hgT.symm (Nat.Coprime.coprime_dvd_left dT c2))
  · have e : signed m (p * y) + signed n (q * x) = signed s (T * g) := by
      rw [← signed_mul s T g, h, Int.add_mul, signed_mul, signed_mul, hl, hr]
      congr 2
      · simp only [Nat.mul_left_comm, Nat.mul_comm]
      · simp only [Nat.mul_left_comm, Nat.mul_comm]
    simp only [e, signed_mul]
    congr 1
    rw [hl, hr, hT', hg']
    simp only [Nat.mul_left_comm, Nat.mul_comm]

end Go.Proofs.YtfbijgbpipedoaaGreatDoor
