/- Walks by the logic of calls, and plain laws. -/
import Derived.Test.YtfbijgbpipedoaaGreatDoorGUnitLaw
namespace Go.Gh
open Go Go.Proofs
set_option maxRecDepth 1000000
set_option maxHeartbeats 2000000
set_option linter.unusedSimpArgs false
set_option linter.unusedVariables false
open Go.Proofs.YtfbijgbpipedoaaGreatDoor Go.Proofs.YtfbijgbpipedoaaGreatDoor.Ra

def sg (x : Int) : Int := if x = 0 then 0 else if x < 0 then -1 else 1
theorem sg_eq {x y p q : Int} (hp : 0 < p) (hq : 0 < q) (h : x * p = y * q) : sg x = sg y := by
  have key : ∀ {a b u v : Int}, 0 < u → 0 < v → a * u = b * v → 0 < a → 0 < b := fun {a b u v} hu hv e ha => by
    rcases Int.lt_trichotomy b 0 with hb | hb | hb
    · have h1 := Int.mul_pos ha hu
      have h2 := Int.mul_neg_of_neg_of_pos hb hv
      omega
    · subst hb
      have h1 := Int.mul_pos ha hu
      omega
    · exact hb
  unfold sg
  rcases Int.lt_trichotomy x 0 with hx | hx | hx
  · have hy : 0 < -y := key (a := -x) hp hq (by rw [Int.neg_mul, Int.neg_mul, h]) (by omega)
    rw [if_neg (by omega), if_pos hx, if_neg (by omega), if_pos (by omega)]
  · subst hx
    have : y = 0 := by
      rw [Int.zero_mul] at h
      rcases Int.mul_eq_zero.1 h.symm with h | h
      · exact h
      · omega
    rw [if_pos rfl, if_pos this]
  · have hy : 0 < y := key hp hq h hx
    rw [if_neg (by omega), if_neg (by omega), if_neg (by omega), if_neg (by omega)]
theorem norm_le (n : Int) {d : Nat} (hd : 0 < d) : (norm n d).n.natAbs ≤ n.natAbs ∧ (norm n d).d.natAbs ≤ d := by
  have hg : 0 < Nat.gcd n.natAbs d := Nat.gcd_pos_of_pos_right _ hd
  unfold norm
  simp only
  have h1 : (n / (Nat.gcd n.natAbs d : Nat)).natAbs = n.natAbs / Nat.gcd n.natAbs d := by
    rw [Int.natAbs_ediv_of_dvd (Int.ofNat_dvd_left.2 (Nat.gcd_dvd_left _ _))]; simp
  rw [h1]
  exact ⟨Nat.div_le_self _ _, by rw [Int.natAbs_natCast]; exact Nat.div_le_self _ _⟩
theorem make_norm {n d : Int} (h0 : n.natAbs ≤ top) (d1 : 1 ≤ d) (d2 : d.natAbs ≤ top) : makeV n d = norm n d.natAbs := by
  have hd : 0 < d.natAbs := by omega
  obtain ⟨k1, k2⟩ := norm_le n hd
  unfold makeV
  rw [if_neg (by omega), if_neg (by omega)]
  unfold limV
  rw [if_pos ⟨by omega, by omega⟩]
theorem norm_right {n : Int} {d : Nat} (hd : 0 < d) (h0 : n.natAbs ≤ top) (d2 : d ≤ top) : rightB (norm n d) = true := by
  obtain ⟨k1, k2⟩ := norm_le n hd
  have := norm_pos n hd
  have := norm_prime n hd
  simp only [rightB, Bool.and_eq_true, decide_eq_true_eq]
  exact ⟨⟨⟨by assumption, by omega⟩, by omega⟩, by assumption⟩
theorem cmp_norm {n n' : Int} {d d' : Nat} (hd : 0 < d) (hd' : 0 < d') (h0 : n.natAbs ≤ top) (d2 : d ≤ top) (h0' : n'.natAbs ≤ top) (d2' : d' ≤ top) : cmpV (norm n d) (norm n' d') = sg (n * d' - n' * d) := by
  have c1 := norm_cross n hd
  have c2 := norm_cross n' hd'
  have p1 := norm_pos n hd
  have p2 := norm_pos n' hd'
  unfold cmpV
  rw [norm_right hd h0 d2, norm_right hd' h0' d2']
  show sg _ = _
  refine sg_eq (p := (d : Int) * d') (q := (norm n d).d * (norm n' d').d) (Int.mul_pos (by omega) (by omega)) (Int.mul_pos (by omega) (by omega)) ?_
  generalize (norm n d).n = a at *
  generalize (norm n d).d = b at *
  generalize (norm n' d').n = a' at *
  generalize (norm n' d').d = b' at *
  grind
theorem norm_eq {n n' : Int} {d d' : Nat} (hd : 0 < d) (hd' : 0 < d') : norm n d = norm n' d' ↔ n * d' = n' * d := by
  constructor
  · intro h
    have c1 := norm_cross n hd
    have c2 := norm_cross n' hd'
    have p1 := norm_pos n hd
    rw [← h] at c2
    have : (n * d' - n' * d) * (norm n d).d = 0 := by
      generalize (norm n d).n = a at *
      generalize (norm n d).d = b at *
      grind
    rcases Int.mul_eq_zero.1 this with h | h <;> omega
  · intro h
    refine norm_unique hd (norm_pos n' hd') (norm_prime n' hd') ?_
    have c2 := norm_cross n' hd'
    have : (n * (norm n' d').d - (norm n' d').n * d) * d' = 0 := by
      generalize (norm n' d').n = a at *
      generalize (norm n' d').d = b at *
      grind
    rcases Int.mul_eq_zero.1 this with h | h <;> omega

theorem rghtF_of {t : List Un} {l : List Qu} : ∀ (k i : Nat), l.length - i = k → (∀ j, i ≤ j → j < l.length → quBad t (l.getD j default) = false) → rghtF t l i = 0 := by
  intro k
  induction k with
  | zero => intro i h _; rw [rghtF, if_neg (by omega)]
  | succ k ih =>
    intro i h hq
    rw [rghtF, if_pos (by omega), if_neg (by rw [hq i (Nat.le_refl _) (by omega)]; simp)]
    exact ih (i + 1) (by omega) fun j h1 h2 => hq j (by omega) h2
theorem QuOk.bad {t : List Un} {q : Qu} (h : QuOk t q) : quBad t q = false := by
  obtain ⟨h1, h2, h3, h4, _⟩ := h
  simp only [quBad, Bool.or_eq_false_iff, decide_eq_false_iff_not]
  exact ⟨⟨⟨by omega, by omega⟩, by omega⟩, by omega⟩
theorem rght_of {t : List Un} (hc : chk t = 0) {l : List Qu} (h : ∀ q, q ∈ l → QuOk t q) : rght t l = 0 := by
  rw [rght, if_pos hc]
  refine rghtF_of _ 0 rfl fun j _ hj => (h _ ?_).bad
  rw [List.getD_eq_getElem?_getD, List.getElem?_eq_getElem hj]; simp
/-- a quantity's parts -/
def pP (t : List Un) (q : Qu) : Int := q.n * (uAt t q.u).num
def pD (t : List Un) (q : Qu) : Int := (uAt t q.u).den
def xX (t : List Un) (a b : Qu) : Int := pP t a * pD t b - pP t b * pD t a
theorem QuOk.parts {t : List Un} {q : Qu} (h : QuOk t q) : 0 ≤ pP t q ∧ pP t q ≤ 100000000000000 ∧ 1 ≤ pD t q ∧ pD t q ≤ 100000 :=
  ⟨h.mul.1, h.mul.2, h.un.d1, h.un.d2⟩
theorem QuOk.val {t : List Un} {q : Qu} (h : QuOk t q) : valV t q = norm (pP t q) (pD t q).natAbs := by
  obtain ⟨h1, h2, h3, h4⟩ := h.parts
  exact make_norm (by unfold pP at *; unfold top; omega) h3 (by unfold pD at *; unfold top; omega)
theorem QuOk.cmp {t : List Un} {a b : Qu} (ha : QuOk t a) (hb : QuOk t b) : cmpV (valV t a) (valV t b) = sg (xX t a b) := by
  obtain ⟨h1, h2, h3, h4⟩ := ha.parts
  obtain ⟨k1, k2, k3, k4⟩ := hb.parts
  rw [ha.val, hb.val, cmp_norm (by omega) (by omega) (by unfold top; omega) (by unfold top; omega) (by unfold top; omega) (by unfold top; omega)]
  have e1 : ((pD t a).natAbs : Int) = pD t a := by omega
  have e2 : ((pD t b).natAbs : Int) = pD t b := by omega
  rw [e1, e2]; rfl
theorem QuOk.eq {t : List Un} {a b : Qu} (ha : QuOk t a) (hb : QuOk t b) : valV t a = valV t b ↔ xX t a b = 0 := by
  obtain ⟨h1, h2, h3, h4⟩ := ha.parts
  obtain ⟨k1, k2, k3, k4⟩ := hb.parts
  rw [ha.val, hb.val, norm_eq (by omega) (by omega)]
  have e1 : ((pD t a).natAbs : Int) = pD t a := by omega
  have e2 : ((pD t b).natAbs : Int) = pD t b := by omega
  rw [e1, e2]; unfold xX; omega
theorem cmpR_yes {t : List Un} {a b : Qu} (hc : chk t = 0) (ha : QuOk t a) (hb : QuOk t b) (h : (uAt t a.u).base = (uAt t b.u).base) : cmpR t a b = (sg (xX t a b), 0) := by
  rw [cmpR, if_pos (rght_of hc (by simp; exact ⟨ha, hb⟩)), if_pos h, ha.cmp hb]
theorem cmpR_no {t : List Un} {a b : Qu} (hc : chk t = 0) (ha : QuOk t a) (hb : QuOk t b) (h : ¬ (uAt t a.u).base = (uAt t b.u).base) : cmpR t a b = (0, 11) := by
  rw [cmpR, if_pos (rght_of hc (by simp; exact ⟨ha, hb⟩)), if_neg h]
theorem valueR_yes {t : List Un} {a : Qu} (hc : chk t = 0) (ha : QuOk t a) : valueR t a = (valV t a, 0) := by
  rw [valueR, if_pos (rght_of hc (by simp; exact ha))]
theorem xX_neg (t : List Un) (a b : Qu) : xX t b a = - xX t a b := by unfold xX; omega
theorem sg_neg (x : Int) : sg (-x) = - sg x := by unfold sg; split <;> split <;> (try split) <;> (try split) <;> omega
theorem sg_zero {x : Int} : sg x = 0 ↔ x = 0 := by unfold sg; split <;> (try split) <;> omega
theorem sg_lt {x : Int} : sg x < 0 ↔ x < 0 := by unfold sg; split <;> (try split) <;> omega
theorem sg_gt {x : Int} : 0 < sg x ↔ 0 < x := by unfold sg; split <;> (try split) <;> omega
theorem q_eq {x y : Q} : x = y ↔ x.n = y.n ∧ x.d = y.d := by cases x; cases y; simp
theorem xX_same {t : List Un} {a b : Qu} (hb : QuOk t b) (h : a.u = b.u) : xX t a b < 0 ↔ a.n < b.n := by
  have h1 := hb.un.n1
  have h2 := hb.un.d1
  have e : xX t a b = (a.n - b.n) * ((uAt t b.u).num * (uAt t b.u).den) := by
    unfold xX pP pD; rw [h]
    generalize (uAt t b.u).num = x; generalize (uAt t b.u).den = y
    grind
  have hp : 0 < (uAt t b.u).num * (uAt t b.u).den := Int.mul_pos (by omega) (by omega)
  rw [e]
  constructor
  · intro hh
    refine Classical.byContradiction fun hn => ?_
    have := Int.mul_nonneg (show 0 ≤ a.n - b.n by omega) (Int.le_of_lt hp)
    omega
  · intro hh
    exact Int.mul_neg_of_neg_of_pos (by omega) hp
theorem xX_trans {t : List Un} {a b c : Qu} (ha : QuOk t a) (hb : QuOk t b) (hc : QuOk t c) : (xX t a b ≤ 0 → xX t b c ≤ 0 → xX t a c ≤ 0) ∧ (xX t a b < 0 → xX t b c ≤ 0 → xX t a c < 0) := by
  obtain ⟨_, _, d1, _⟩ := ha.parts
  obtain ⟨_, _, d2, _⟩ := hb.parts
  obtain ⟨_, _, d3, _⟩ := hc.parts
  have e : xX t a b * pD t c + xX t b c * pD t a = xX t a c * pD t b := by unfold xX; grind
  have k : ∀ {x y : Int}, x ≤ 0 → 1 ≤ y → x * y ≤ 0 := fun hx hy => Int.mul_nonpos_of_nonpos_of_nonneg hx (by omega)
  constructor
  · intro h1 h2
    refine Classical.byContradiction fun hn => ?_
    have := Int.mul_pos (show 0 < xX t a c by omega) (show 0 < pD t b by omega)
    have := k h1 d3
    have := k h2 d1
    omega
  · intro h1 h2
    refine Classical.byContradiction fun hn => ?_
    have := Int.mul_nonneg (show 0 ≤ xX t a c by omega) (show 0 ≤ pD t b by omega)
    have := Int.mul_neg_of_neg_of_pos h1 (show 0 < pD t c by omega)
    have := k h2 d1
    omega
end Go.Gh
