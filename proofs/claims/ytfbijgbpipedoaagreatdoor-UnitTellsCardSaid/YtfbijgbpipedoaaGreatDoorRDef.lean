/- Exact fractions, in plain words. -/
namespace Go.Proofs.YtfbijgbpipedoaaGreatDoor.Ra

structure Q where
  n : Int
  d : Int

def top : Nat := 1152921504606846976
def rightB (a : Q) : Bool := decide (1 ≤ a.d) && decide (a.d.natAbs ≤ top) && decide (a.n.natAbs ≤ top) && decide (Nat.gcd a.n.natAbs a.d.natAbs = 1)
/-- a fraction in lowest terms -/
def norm (n : Int) (d : Nat) : Q := ⟨n / (Nat.gcd n.natAbs d : Nat), (d / Nat.gcd n.natAbs d : Nat)⟩
/-- a result, if its parts are not too great -/
def limV (q : Q) : Q := if q.n.natAbs ≤ top ∧ q.d.natAbs ≤ top then q else ⟨0, 0⟩
def limE (q : Q) : Int := if q.n.natAbs ≤ top ∧ q.d.natAbs ≤ top then 0 else 3
def makeV (n d : Int) : Q := if d = 0 then ⟨0, 0⟩ else limV (norm (if d < 0 then -n else n) d.natAbs)
def makeE (n d : Int) : Int := if d = 0 then 1 else limE (norm (if d < 0 then -n else n) d.natAbs)
def addN (a b : Q) : Q := norm (a.n * b.d + b.n * a.d) (a.d * b.d).natAbs
def mulN (a b : Q) : Q := norm (a.n * b.n) (a.d * b.d).natAbs
def addV (a b : Q) : Q := if rightB a && rightB b then limV (addN a b) else ⟨0, 0⟩
def addE (a b : Q) : Int := if rightB a && rightB b then limE (addN a b) else 1
def neg (a : Q) : Q := ⟨-a.n, a.d⟩
def subV (a b : Q) : Q := if rightB b then addV a (neg b) else ⟨0, 0⟩
def subE (a b : Q) : Int := if rightB b then addE a (neg b) else 1
def mulV (a b : Q) : Q := if rightB a && rightB b then limV (mulN a b) else ⟨0, 0⟩
def mulE (a b : Q) : Int := if rightB a && rightB b then limE (mulN a b) else 1
def inv (b : Q) : Q := if b.n < 0 then ⟨-b.d, -b.n⟩ else ⟨b.d, b.n⟩
def divV (a b : Q) : Q := if rightB b && b.n != 0 then mulV a (inv b) else ⟨0, 0⟩
def divE (a b : Q) : Int := if rightB b && b.n != 0 then mulE a (inv b) else 1
def cmpN (a b : Q) : Int := if a.n * b.d - b.n * a.d = 0 then 0 else if a.n * b.d - b.n * a.d < 0 then -1 else 1
def cmpV (a b : Q) : Int := if rightB a && rightB b then cmpN a b else 0
def floorV (a : Q) : Int := if rightB a then a.n / a.d else 0
def ceilV (a : Q) : Int := if rightB a then -((-a.n) / a.d) else 0
def nearN (a : Q) : Int := if a.d < 2 * (a.n % a.d) ∨ 2 * (a.n % a.d) = a.d ∧ (a.n / a.d) % 2 ≠ 0 then a.n / a.d + 1 else a.n / a.d
def nearV (a : Q) : Int := if rightB a then nearN a else 0

structure Right (a : Q) : Prop where
  pos : 1 ≤ a.d
  den : a.d ≤ 1152921504606846976
  lo : -1152921504606846976 ≤ a.n
  hi : a.n ≤ 1152921504606846976
  prime : Nat.gcd a.n.natAbs a.d.natAbs = 1
theorem right_iff (a : Q) : rightB a = true ↔ Right a := by
  unfold rightB top
  simp only [Bool.and_eq_true, decide_eq_true_eq]
  constructor
  · rintro ⟨⟨⟨h1, h2⟩, h3⟩, h4⟩; exact ⟨h1, by omega, by omega, by omega, h4⟩
  · rintro ⟨h1, h2, h3, h4, h5⟩; exact ⟨⟨⟨h1, by omega⟩, by omega⟩, h5⟩
theorem right_neg {a : Q} (h : Right a) : Right (neg a) := ⟨h.pos, h.den, by have := h.hi; simp only [neg]; omega, by have := h.lo; simp only [neg]; omega, by simp only [neg, Int.natAbs_neg]; exact h.prime⟩
theorem neg_neg' (a : Q) : neg (neg a) = a := by simp [neg]

/-! ### the one fraction in lowest terms -/

theorem norm_prime (n : Int) {d : Nat} (hd : 0 < d) : Nat.gcd (norm n d).n.natAbs (norm n d).d.natAbs = 1 := by
  have hg : 0 < Nat.gcd n.natAbs d := Nat.gcd_pos_of_pos_right _ hd
  unfold norm
  simp only
  have h1 : (n / (Nat.gcd n.natAbs d : Nat)).natAbs = n.natAbs / Nat.gcd n.natAbs d := by
    rw [Int.natAbs_ediv_of_dvd (Int.ofNat_dvd_left.2 (Nat.gcd_dvd_left _ _))]; simp
  rw [h1, Int.natAbs_natCast]
  exact Nat.gcd_div_gcd_div_gcd_of_pos_right hd
theorem norm_pos (n : Int) {d : Nat} (hd : 0 < d) : 1 ≤ (norm n d).d := by
  have hg : 0 < Nat.gcd n.natAbs d := Nat.gcd_pos_of_pos_right _ hd
  have : 0 < d / Nat.gcd n.natAbs d := Nat.div_pos (Nat.le_of_dvd hd (Nat.gcd_dvd_right _ _)) hg
  show (1 : Int) ≤ ((d / Nat.gcd n.natAbs d : Nat) : Int)
  omega
theorem norm_cross (n : Int) {d : Nat} (hd : 0 < d) : (norm n d).n * d = n * (norm n d).d := by
  unfold norm
  simp only
  obtain ⟨x, hx⟩ : ((Nat.gcd n.natAbs d : Nat) : Int) ∣ n := Int.ofNat_dvd_left.2 (Nat.gcd_dvd_left _ _)
  obtain ⟨y, hy⟩ := Nat.gcd_dvd_right n.natAbs d
  have hg : 0 < Nat.gcd n.natAbs d := Nat.gcd_pos_of_pos_right _ hd
  generalize Nat.gcd n.natAbs d = g at *
  have e1 : n / (g : Int) = x := by rw [hx]; exact Int.mul_ediv_cancel_left _ (by omega)
  have e2 : d / g = y := by rw [hy]; exact Nat.mul_div_cancel_left _ hg
  rw [e1, e2, hx, hy, Int.natCast_mul, Int.mul_comm (g : Int) x, Int.mul_assoc]

/-- two fractions in lowest terms that are equal -/
theorem low_unique {a b : Q} (ha : 1 ≤ a.d) (hb : 1 ≤ b.d) (pa : Nat.gcd a.n.natAbs a.d.natAbs = 1) (pb : Nat.gcd b.n.natAbs b.d.natAbs = 1) (h : a.n * b.d = b.n * a.d) : a = b := by
  have h' : a.n.natAbs * b.d.natAbs = b.n.natAbs * a.d.natAbs := by
    have := congrArg Int.natAbs h
    rwa [Int.natAbs_mul, Int.natAbs_mul] at this
  have d1 : a.d.natAbs ∣ b.d.natAbs := by
    have : a.d.natAbs ∣ a.n.natAbs * b.d.natAbs := ⟨b.n.natAbs, by rw [h', Nat.mul_comm]⟩
    exact Nat.Coprime.dvd_of_dvd_mul_left (Nat.Coprime.symm pa) this
  have d2 : b.d.natAbs ∣ a.d.natAbs := by
    have : b.d.natAbs ∣ b.n.natAbs * a.d.natAbs := ⟨a.n.natAbs, by rw [← h', Nat.mul_comm]⟩
    exact Nat.Coprime.dvd_of_dvd_mul_left (Nat.Coprime.symm pb) this
  have hd : a.d = b.d := by have := Nat.dvd_antisymm d1 d2; omega
  have hn : a.n = b.n := by
    rw [hd] at h
    exact Int.eq_of_mul_eq_mul_right (by omega) h
  obtain ⟨an, ad⟩ := a
  obtain ⟨bn, bd⟩ := b
  simp only at hd hn
  rw [hd, hn]
theorem norm_unique {n : Int} {d : Nat} {q : Q} (hd : 0 < d) (hq : 1 ≤ q.d) (pq : Nat.gcd q.n.natAbs q.d.natAbs = 1) (h : n * q.d = q.n * d) : norm n d = q := by
  refine low_unique (norm_pos n hd) hq (norm_prime n hd) pq ?_
  have h1 := norm_cross n hd
  have hdz : (d : Int) ≠ 0 := by omega
  apply Int.eq_of_mul_eq_mul_right hdz
  calc (norm n d).n * q.d * d = (norm n d).n * d * q.d := by rw [Int.mul_assoc, Int.mul_comm q.d, ← Int.mul_assoc]
    _ = n * (norm n d).d * q.d := by rw [h1]
    _ = n * q.d * (norm n d).d := by rw [Int.mul_assoc, Int.mul_comm (norm n d).d, ← Int.mul_assoc]
    _ = q.n * d * (norm n d).d := by rw [h]
    _ = q.n * (norm n d).d * d := by rw [Int.mul_assoc, Int.mul_comm (d : Int), ← Int.mul_assoc]

end Go.Proofs.YtfbijgbpipedoaaGreatDoor.Ra
