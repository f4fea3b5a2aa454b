/- Walks of the reference: Over. -/
import Derived.Test.YtfchbkhgoebagaaRDe
namespace Go.Proofs.Ytfchbkhgoebagaa
open Go.RowKit

/-- bit i -/
def bit (x i : Nat) : Nat := x / 2 ^ i % 2
theorem bit_dig (x j s : Nat) (hs : s < 30) : dig x j / 2 ^ s % 2 = bit x (30 * j + s) := by
  unfold dig bit
  have e1 : (1073741824 : Nat) ^ j = 2 ^ (30 * j) := by rw [show (1073741824 : Nat) = 2 ^ 30 from rfl, ← Nat.pow_mul]
  have e2 : (2 : Nat) ^ 30 = 2 ^ s * 2 ^ (30 - s) := by rw [← Nat.pow_add]; congr 1; omega
  rw [e1, Nat.pow_add, ← Nat.div_div_eq_div_mul]
  generalize x / 2 ^ (30 * j) = z
  rw [show (1073741824 : Nat) = 2 ^ 30 from rfl, e2, Nat.mod_mul_right_div_self, Nat.mod_mod_of_dvd]
  obtain ⟨t, ht⟩ : ∃ t, 30 - s = t + 1 := ⟨30 - s - 1, by omega⟩
  rw [ht, Nat.pow_succ]
  exact Nat.dvd_mul_left _ _
theorem div_bit (x i : Nat) : x / 2 ^ i = 2 * (x / 2 ^ (i + 1)) + bit x i := by
  unfold bit
  rw [Nat.pow_succ, ← Nat.div_div_eq_div_mul]
  omega
/-- one step of the division, bit by bit -/
theorem step_mod (x b i : Nat) (hb : 0 < b) : x / 2 ^ i % b = if b ≤ 2 * (x / 2 ^ (i + 1) % b) + bit x i then 2 * (x / 2 ^ (i + 1) % b) + bit x i - b else 2 * (x / 2 ^ (i + 1) % b) + bit x i := by
  rw [div_bit x i]
  generalize x / 2 ^ (i + 1) = z
  have hl : bit x i < 2 := Nat.mod_lt _ (by decide)
  generalize bit x i = t at *
  have h1 := Nat.mod_lt z hb
  have h2 : (2 * z + t) % b = (2 * (z % b) + t) % b := by
    have := Nat.div_add_mod z b
    calc (2 * z + t) % b = (2 * (b * (z / b) + z % b) + t) % b := by rw [this]
      _ = ((2 * (z % b) + t) + b * (2 * (z / b))) % b := by congr 1; grind
      _ = _ := Nat.add_mul_mod_self_left _ _ _
  rw [h2]
  split
  · rename_i h
    rw [Nat.mod_eq_sub_mod h, Nat.mod_eq_of_lt (by omega)]
  · exact Nat.mod_eq_of_lt (by omega)
theorem step_div (x b i : Nat) (hb : 0 < b) : x / 2 ^ i / b = if b ≤ 2 * (x / 2 ^ (i + 1) % b) + bit x i then 2 * (x / 2 ^ (i + 1) / b) + 1 else 2 * (x / 2 ^ (i + 1) / b) := by
  rw [div_bit x i]
  generalize x / 2 ^ (i + 1) = z
  have hl : bit x i < 2 := Nat.mod_lt _ (by decide)
  generalize bit x i = t at *
  have h1 := Nat.mod_lt z hb
  have h3 := Nat.div_add_mod z b
  have e : 2 * z + t = b * (2 * (z / b)) + (2 * (z % b) + t) := by grind
  rw [e, Nat.mul_add_div hb]
  split
  · rename_i h
    have : (2 * (z % b) + t) / b = 1 := Nat.div_eq_of_lt_le (by omega) (by omega)
    rw [this]
  · have : (2 * (z % b) + t) / b = 0 := Nat.div_eq_of_lt (by omega)
    rw [this]
    rfl
/-- a bit put into a number that has none there or below -/
theorem dig_put (q i : Nat) (hi : i < 150) (j : Nat) : dig (q * 2 ^ (i + 1) + 2 ^ i) j = if j = i / 30 then dig (q * 2 ^ (i + 1)) j + 2 ^ (i % 30) else dig (q * 2 ^ (i + 1)) j := by
  obtain ⟨m, s, hs, rfl⟩ : ∃ m s, s < 30 ∧ i = 30 * m + s := ⟨i / 30, i % 30, Nat.mod_lt _ (by decide), (Nat.div_add_mod i 30).symm⟩
  have em : (30 * m + s) / 30 = m := by omega
  have es : (30 * m + s) % 30 = s := by omega
  rw [em, es]
  have e1 : ∀ k, (1073741824 : Nat) ^ k = 2 ^ (30 * k) := fun k => by rw [show (1073741824 : Nat) = 2 ^ 30 from rfl, ← Nat.pow_mul]
  unfold dig
  rw [e1]
  rcases Nat.lt_trichotomy j m with h | h | h
  · rw [if_neg (by omega)]
    -- both are multiples of 2^(30 (j + 1))
    obtain ⟨d, rfl⟩ : ∃ d, m = j + 1 + d := ⟨m - j - 1, by omega⟩
    have p1 : 2 ^ (30 * (j + 1 + d) + s + 1) = 2 ^ (30 * j) * (1073741824 * 2 ^ (30 * d + s + 1)) := by
      rw [show (1073741824 : Nat) = 2 ^ 30 from rfl, ← Nat.pow_add, ← Nat.pow_add]; congr 1; omega
    have p2 : 2 ^ (30 * (j + 1 + d) + s) = 2 ^ (30 * j) * (1073741824 * 2 ^ (30 * d + s)) := by
      rw [show (1073741824 : Nat) = 2 ^ 30 from rfl, ← Nat.pow_add, ← Nat.pow_add]; congr 1; omega
    rw [p1, p2, show q * (2 ^ (30 * j) * (1073741824 * 2 ^ (30 * d + s + 1))) + 2 ^ (30 * j) * (1073741824 * 2 ^ (30 * d + s)) = 2 ^ (30 * j) * (1073741824 * (q * 2 ^ (30 * d + s + 1) + 2 ^ (30 * d + s))) by grind,
      show q * (2 ^ (30 * j) * (1073741824 * 2 ^ (30 * d + s + 1))) = 2 ^ (30 * j) * (1073741824 * (q * 2 ^ (30 * d + s + 1))) by grind,
      Nat.mul_div_cancel_left _ (Nat.pow_pos (by decide)), Nat.mul_div_cancel_left _ (Nat.pow_pos (by decide)), Nat.mul_mod_right, Nat.mul_mod_right]
  · subst h
    rw [if_pos rfl]
    have p1 : 2 ^ (30 * j + s + 1) = 2 ^ (30 * j) * 2 ^ (s + 1) := by rw [← Nat.pow_add]; rfl
    have p2 : 2 ^ (30 * j + s) = 2 ^ (30 * j) * 2 ^ s := Nat.pow_add _ _ _
    have p3 : (1073741824 : Nat) = 2 ^ (s + 1) * 2 ^ (29 - s) := by rw [← Nat.pow_add, show s + 1 + (29 - s) = 30 by omega]
    rw [p1, p2, show q * (2 ^ (30 * j) * 2 ^ (s + 1)) + 2 ^ (30 * j) * 2 ^ s = 2 ^ (30 * j) * (2 ^ (s + 1) * q + 2 ^ s) by grind,
      show q * (2 ^ (30 * j) * 2 ^ (s + 1)) = 2 ^ (30 * j) * (2 ^ (s + 1) * q) by grind,
      Nat.mul_div_cancel_left _ (Nat.pow_pos (by decide)), Nat.mul_div_cancel_left _ (Nat.pow_pos (by decide)), p3]
    have hps : 2 ^ s < 2 ^ (s + 1) := Nat.pow_lt_pow_right (by decide) (by omega)
    rw [Nat.mod_mul, Nat.mul_add_mod, Nat.mod_eq_of_lt hps, Nat.mul_add_div (Nat.pow_pos (by decide)), Nat.div_eq_of_lt hps, Nat.mul_mod_mul_left, Nat.add_comm]
    simp only [Nat.add_zero]
  · rw [if_neg (by omega)]
    have hlt : 2 ^ (30 * m + s) < 2 ^ (30 * m + s + 1) := Nat.pow_lt_pow_right (by decide) (by omega)
    have p : 2 ^ (30 * j) = 2 ^ (30 * m + s + 1) * 2 ^ (30 * j - (30 * m + s + 1)) := by rw [← Nat.pow_add]; congr 1; omega
    rw [p, ← Nat.div_div_eq_div_mul, ← Nat.div_div_eq_div_mul, Nat.mul_comm q, Nat.mul_add_div (Nat.pow_pos (by decide)), Nat.div_eq_of_lt hlt, Nat.add_zero, Nat.mul_div_cancel_left _ (Nat.pow_pos (by decide))]
theorem dig_bit (r t : Nat) (ht : t < 2) (j : Nat) : dig (2 * r + t) j = if j = 0 then dig (2 * r) j + t else dig (2 * r) j := by
  unfold dig
  by_cases h : j = 0
  · subst h
    simp only [Nat.pow_zero, Nat.div_one, if_true]
    omega
  · rw [if_neg h]
    obtain ⟨k, rfl⟩ : ∃ k, j = k + 1 := ⟨j - 1, by omega⟩
    have e : (1073741824 : Nat) ^ (k + 1) = 2 * (536870912 * 1073741824 ^ k) := by rw [Nat.pow_succ]; omega
    rw [e]
    generalize 536870912 * 1073741824 ^ k = m
    rw [← Nat.div_div_eq_div_mul, ← Nat.div_div_eq_div_mul, show (2 * r + t) / 2 = 2 * r / 2 by omega]

theorem row_far {w : World} {g k j : Nat} {f : Nat → Int} (v : Value) (h : Row5 w g f) (hk : k ≠ g) : Row5 (w.setCell ⟨k, j, none⟩ v) g f := fun i hi => by
  have hne : (⟨k, j, none⟩ : Addr) ≠ ⟨g, i, none⟩ := by intro he; injection he with h1 _; exact hk h1
  exact ⟨by rw [World.cell?_setCell_other _ _ _ _ hne]; exact (h i hi).1, by simp [go_sem, (h i hi).2]⟩
theorem num_bit {w : World} {g r t : Nat} (h : Num w g (2 * r)) (ht : t < 2) : Num (w.setCell ⟨g, 0, none⟩ (.int .i64 ((dig (2 * r) 0 : Nat) + (t : Nat) : Int))) g (2 * r + t) :=
  row_congr (row_set h (by decide) _) fun j _ => by
    rw [dig_bit r t ht j]
    by_cases hj : j = 0
    · subst hj; simp
    · simp [hj]
theorem num_put {w : World} {g q i j s : Nat} (h : Num w g (q * 2 ^ (i + 1))) (hi : i < 150) (ej : i / 30 = j) (es : i % 30 = s) : Num (w.setCell ⟨g, j, none⟩ (.int .i64 ((dig (q * 2 ^ (i + 1)) j : Nat) + (2 ^ s : Nat) : Int))) g (q * 2 ^ (i + 1) + 2 ^ i) :=
  row_congr (row_set h (by omega) _) fun k _ => by
    rw [dig_put q i hi k, ej, es]
    by_cases hk : k = j
    · subst hk; simp
    · simp [hk]
theorem wrap_put (d b : Nat) (hd : d < 1073741824) (hb : b ≤ 536870912) : wrap64 ((d : Int) + wrap64 (b : Int)) = (d : Int) + (b : Int) := by
  unfold wrap64
  omega
theorem Row5.drew1 {w : World} {g : Nat} {f : Nat → Int} (h : Row5 w g f) : Row5 w.drew g f := h.below (Below.drew (Below.refl _ _)) h.lt

end Go.Proofs.Ytfchbkhgoebagaa
