/- Exact fractions: sums and products as fractions in lowest terms; the laws of a field. -/
import Derived.Test.YtfchbkhgoebagaaRDef
namespace Go.Proofs.Ytfchbkhgoebagaa.Ra

theorem norm_congr {n n' : Int} {d d' : Nat} (hd : 0 < d) (hd' : 0 < d') (h : n * (d' : Int) = n' * (d : Int)) : norm n d = norm n' d' := by
  refine norm_unique hd (norm_pos n' hd') (norm_prime n' hd') ?_
  have h1 := norm_cross n' hd'
  have hz : (d' : Int) ≠ 0 := by omega
  apply Int.eq_of_mul_eq_mul_right hz
  generalize norm n' d' = Y at *
  grind
theorem norm_bound (n : Int) (d : Nat) : (norm n d).n.natAbs ≤ n.natAbs ∧ (norm n d).d.natAbs ≤ d := by
  unfold norm
  simp only [Int.natAbs_natCast]
  refine ⟨?_, Nat.div_le_self _ _⟩
  rw [Int.natAbs_ediv_of_dvd (Int.ofNat_dvd_left.2 (Nat.gcd_dvd_left _ _))]
  exact Nat.div_le_self _ _
theorem lim_ok {q : Q} (h1 : q.n.natAbs ≤ top) (h2 : q.d.natAbs ≤ top) : limV q = q ∧ limE q = 0 := by
  unfold limV limE
  rw [if_pos ⟨h1, h2⟩, if_pos ⟨h1, h2⟩]
  exact ⟨rfl, rfl⟩
theorem lim_bad {q : Q} (h : ¬ (q.n.natAbs ≤ top ∧ q.d.natAbs ≤ top)) : limV q = ⟨0, 0⟩ ∧ limE q = 3 := by
  unfold limV limE
  rw [if_neg h, if_neg h]
  exact ⟨rfl, rfl⟩
theorem lim_zero {q : Q} (h : limE q = 0) : q.n.natAbs ≤ top ∧ q.d.natAbs ≤ top := by
  unfold limE at h
  by_cases c : q.n.natAbs ≤ top ∧ q.d.natAbs ≤ top
  · exact c
  · rw [if_neg c] at h; omega
theorem lim_errs (q : Q) : limE q = 0 ∨ limE q = 3 := by
  unfold limE
  split
  · exact .inl rfl
  · exact .inr rfl
theorem right_of_norm {n : Int} {d : Nat} (hd : 0 < d) (h1 : (norm n d).n.natAbs ≤ top) (h2 : (norm n d).d.natAbs ≤ top) : Right (norm n d) := by
  unfold top at h1 h2
  exact ⟨norm_pos n hd, by omega, by omega, by omega, norm_prime n hd⟩
theorem right_norm {a : Q} (h : Right a) : norm a.n a.d.natAbs = a := by
  have hp := h.pos
  exact norm_unique (by omega) hp h.prime (by congr 1; omega)

theorem addN_nat (an bn : Int) (A B : Nat) : addN ⟨an, A⟩ ⟨bn, B⟩ = norm (an * B + bn * A) (A * B) := by
  unfold addN
  simp only [Int.natAbs_mul, Int.natAbs_natCast]
theorem mulN_nat (an bn : Int) (A B : Nat) : mulN ⟨an, A⟩ ⟨bn, B⟩ = norm (an * bn) (A * B) := by
  unfold mulN
  simp only [Int.natAbs_mul, Int.natAbs_natCast]
theorem as_nat {a : Q} (h : 1 ≤ a.d) : ∃ (n : Int) (A : Nat), 0 < A ∧ a = ⟨n, A⟩ := ⟨a.n, a.d.natAbs, by omega, by cases a; simp only [Q.mk.injEq, true_and]; simp only at h; omega⟩
theorem norm_nat (n : Int) {d : Nat} (hd : 0 < d) : ∃ (m : Int) (D : Nat), 0 < D ∧ norm n d = ⟨m, D⟩ ∧ m * d = n * D := by
  obtain ⟨m, D, h0, he⟩ := as_nat (norm_pos n hd)
  refine ⟨m, D, h0, he, ?_⟩
  have := norm_cross n hd
  rw [he] at this
  exact this
theorem addN_comm (a b : Q) : addN a b = addN b a := by
  unfold addN
  rw [Int.add_comm, Int.mul_comm a.d b.d]
theorem mulN_comm (a b : Q) : mulN a b = mulN b a := by
  unfold mulN
  rw [Int.mul_comm, Int.mul_comm a.d b.d]
theorem addN_norm (n : Int) {d : Nat} (hd : 0 < d) (cn : Int) {C : Nat} (hC : 0 < C) : addN (norm n d) ⟨cn, C⟩ = norm (n * C + cn * d) (d * C) := by
  obtain ⟨m, D, h0, he, hc⟩ := norm_nat n hd
  rw [he, addN_nat]
  refine norm_congr (Nat.mul_pos h0 hC) (Nat.mul_pos hd hC) ?_
  simp only [Int.natCast_mul]
  grind
theorem mulN_norm (n : Int) {d : Nat} (hd : 0 < d) (cn : Int) {C : Nat} (hC : 0 < C) : mulN (norm n d) ⟨cn, C⟩ = norm (n * cn) (d * C) := by
  obtain ⟨m, D, h0, he, hc⟩ := norm_nat n hd
  rw [he, mulN_nat]
  refine norm_congr (Nat.mul_pos h0 hC) (Nat.mul_pos hd hC) ?_
  simp only [Int.natCast_mul]
  grind
theorem addN_norms (n m : Int) {d e : Nat} (hd : 0 < d) (he : 0 < e) : addN (norm n d) (norm m e) = norm (n * e + m * d) (d * e) := by
  obtain ⟨m', D, h0, hq, hc⟩ := norm_nat m he
  rw [hq, addN_norm n hd _ h0]
  refine norm_congr (Nat.mul_pos hd h0) (Nat.mul_pos hd he) ?_
  simp only [Int.natCast_mul]
  grind

/-! ### the field's laws -/
theorem add_assoc' {a b c : Q} (ha : 1 ≤ a.d) (hb : 1 ≤ b.d) (hc : 1 ≤ c.d) : addN (addN a b) c = addN a (addN b c) := by
  obtain ⟨an, A, A0, rfl⟩ := as_nat ha
  obtain ⟨bn, B, B0, rfl⟩ := as_nat hb
  obtain ⟨cn, C, C0, rfl⟩ := as_nat hc
  rw [addN_comm ⟨an, A⟩ (addN _ _), addN_nat, addN_nat, addN_norm _ (Nat.mul_pos A0 B0) _ C0, addN_norm _ (Nat.mul_pos B0 C0) _ A0]
  refine norm_congr (Nat.mul_pos (Nat.mul_pos A0 B0) C0) (Nat.mul_pos (Nat.mul_pos B0 C0) A0) ?_
  simp only [Int.natCast_mul]
  grind
theorem distrib {a b c : Q} (ha : 1 ≤ a.d) (hb : 1 ≤ b.d) (hc : 1 ≤ c.d) : addN (mulN a b) (mulN a c) = mulN a (addN b c) := by
  obtain ⟨an, A, A0, rfl⟩ := as_nat ha
  obtain ⟨bn, B, B0, rfl⟩ := as_nat hb
  obtain ⟨cn, C, C0, rfl⟩ := as_nat hc
  rw [mulN_comm ⟨an, A⟩ (addN _ _), mulN_nat, mulN_nat, addN_nat, addN_norms _ _ (Nat.mul_pos A0 B0) (Nat.mul_pos A0 C0), mulN_norm _ (Nat.mul_pos B0 C0) _ A0]
  refine norm_congr (Nat.mul_pos (Nat.mul_pos A0 B0) (Nat.mul_pos A0 C0)) (Nat.mul_pos (Nat.mul_pos B0 C0) A0) ?_
  simp only [Int.natCast_mul]
  grind
theorem mul_swap {a b c : Q} (ha : 1 ≤ a.d) (hb : 1 ≤ b.d) (hc : 1 ≤ c.d) : mulN (mulN a c) b = mulN (mulN a b) c := by
  obtain ⟨an, A, A0, rfl⟩ := as_nat ha
  obtain ⟨bn, B, B0, rfl⟩ := as_nat hb
  obtain ⟨cn, C, C0, rfl⟩ := as_nat hc
  rw [mulN_nat, mulN_nat, mulN_norm _ (Nat.mul_pos A0 C0) _ B0, mulN_norm _ (Nat.mul_pos A0 B0) _ C0]
  refine norm_congr (Nat.mul_pos (Nat.mul_pos A0 C0) B0) (Nat.mul_pos (Nat.mul_pos A0 B0) C0) ?_
  simp only [Int.natCast_mul]
  grind
/-- what was added is subtracted, what was multiplied is divided -/
theorem add_back {a b : Q} (ha : Right a) (hb : 1 ≤ b.d) : addN (addN a b) (neg b) = a := by
  have ha' := ha.pos
  obtain ⟨an, A, A0, he⟩ := as_nat ha.pos
  obtain ⟨bn, B, B0, rfl⟩ := as_nat hb
  rw [he] at ha
  rw [he]
  unfold neg
  rw [addN_nat, addN_norm _ (Nat.mul_pos A0 B0) _ B0]
  refine norm_unique (Nat.mul_pos (Nat.mul_pos A0 B0) B0) (by simp only; omega) ha.prime ?_
  simp only [Int.natCast_mul]
  grind
theorem inv_pos {b : Q} (h : b.n ≠ 0) : 1 ≤ (inv b).d := by
  unfold inv
  split
  · simp only; omega
  · simp only; omega
theorem inv_cross (b : Q) : (inv b).n * b.n = b.d * (inv b).d := by
  unfold inv
  split <;> simp only <;> grind
theorem mul_back {a b : Q} (ha : Right a) (hb : 1 ≤ b.d) (h : b.n ≠ 0) : mulN (mulN a b) (inv b) = a := by
  have hi := inv_cross b
  obtain ⟨an, A, A0, he⟩ := as_nat ha.pos
  obtain ⟨i, I, I0, hI⟩ := as_nat (inv_pos h)
  rw [hI] at hi
  obtain ⟨bn, B, B0, rfl⟩ := as_nat hb
  rw [he] at ha
  rw [he, hI, mulN_nat, mulN_norm _ (Nat.mul_pos A0 B0) _ I0]
  refine norm_unique (Nat.mul_pos (Nat.mul_pos A0 B0) I0) (by simp only; omega) ha.prime ?_
  simp only [Int.natCast_mul] at *
  grind
theorem right_inv {b : Q} (h : Right b) (hn : b.n ≠ 0) : Right (inv b) := by
  have h1 := h.pos; have h2 := h.den; have h3 := h.lo; have h4 := h.hi; have h5 := h.prime
  unfold inv
  split
  · exact ⟨by simp only; omega, by simp only; omega, by simp only; omega, by simp only; omega, by simp only [Int.natAbs_neg]; rw [Nat.gcd_comm]; exact h5⟩
  · exact ⟨by simp only; omega, by simp only; omega, by simp only; omega, by simp only; omega, by rw [Nat.gcd_comm]; exact h5⟩

end Go.Proofs.Ytfchbkhgoebagaa.Ra
