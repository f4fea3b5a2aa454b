/- Ratios: the field's laws, and the reference's digits (several texts in one). -/
import Derived.Test.YtfbijgbpipedoaaGreatDoorRDef
import Derived.Test.YtfbijgbpipedoaaGreatDoorRt
import Derived.Test.YtfbijgbpipedoaaGreatDoorRs
import Derived.Test.YtfbijgbpipedoaaGreatDoorRu
import Derived.Test.YtfbijgbpipedoaaGreatDoorOwn
import Derived.BigQuiet
import Derived.Deep.QuietTactic
namespace Go.Proofs.YtfbijgbpipedoaaGreatDoor.Ra

theorem norm_congr {n n' : Int} {d d' : Nat} (hd : 0 < d) (hd' : 0 < d') (h : n * (d' : Int) = n' * (d : Int)) : norm n d = norm n' d' := by
  refine norm_unique hd (norm_pos n' hd') (norm_prime n' hd') ?_
  have h1 := norm_cross n' hd'
  have hz : (d' : Int) ≠ 0 := by omega
  apply Int.eq_of_mul_eq_mul_right hz
  generalize norm n' d' = Y at *
  grind
theorem norm_bound (n : Int) (d : Nat) : (norm n d).n.natAbs ≤ n.natAbs ∧ (norm n d).d.natAbs ≤ d := by
  unfold norm
  simp only [Int.natAbs_natCast]
  refine ⟨?_, Nat.div_le_self _ _⟩
  rw [Int.natAbs_ediv_of_dvd (Int.ofNat_dvd_left.2 (Nat.gcd_dvd_left _ _))]
  exact Nat.div_le_self _ _
theorem lim_ok {q : Q} (h1 : q.n.natAbs ≤ top) (h2 : q.d.natAbs ≤ top) : limV q = q ∧ limE q = 0 := by
  unfold limV limE
  rw [if_pos ⟨h1, h2⟩, if_pos ⟨h1, h2⟩]
  exact ⟨rfl, rfl⟩
theorem lim_bad {q : Q} (h : ¬ (q.n.natAbs ≤ top ∧ q.d.natAbs ≤ top)) : limV q = ⟨0, 0⟩ ∧ limE q = 3 := by
  unfold limV limE
  rw [if_neg h, if_neg h]
  exact ⟨rfl, rfl⟩
theorem lim_zero {q : Q} (h : limE q = 0) : q.n.natAbs ≤ top ∧ q.d.natAbs ≤ top := by
  unfold limE at h
  by_cases c : q.n.natAbs ≤ top ∧ q.d.natAbs ≤ top
  · exact c
  · rw [if_neg c] at h; omega
theorem lim_errs (q : Q) : limE q = 0 ∨ limE q = 3 := by
  unfold limE
  split
  · exact .inl rfl
  · exact .inr rfl
theorem right_of_norm {n : Int} {d : Nat} (hd : 0 < d) (h1 : (norm n d).n.natAbs ≤ top) (h2 : (norm n d).d.natAbs ≤ top) : Right (norm n d) := by
  unfold top at h1 h2
  exact ⟨norm_pos n hd, by omega, by omega, by omega, norm_prime n hd⟩
theorem right_norm {a : Q} (h : Right a) : norm a.n a.d.natAbs = a := by
  have hp := h.pos
  exact norm_unique (by omega) hp h.prime (by congr 1; omega)

theorem addN_nat (an bn : Int) (A B : Nat) : addN ⟨an, A⟩ ⟨bn, B⟩ = norm (an * B + bn * A) (A * B) := by
  unfold addN
  simp only [Int.natAbs_mul, Int.natAbs_natCast]
theorem mulN_nat (an bn : Int) (A B : Nat) : mulN ⟨an, A⟩ ⟨bn, B⟩ = norm (an * bn) (A * B) := by
  unfold mulN
  simp only [Int.natAbs_mul, Int.natAbs_natCast]
theorem as_nat {a : Q} (h : 1 ≤ a.d) : ∃ (n : Int) (A : Nat), 0 < A ∧ a = ⟨n, A⟩ := ⟨a.n, a.d.natAbs, by omega, by cases a; simp only [Q.mk.injEq, true_and]; simp only at h; omega⟩
theorem norm_nat (n : Int) {d : Nat} (hd : 0 < d) : ∃ (m : Int) (D : Nat), 0 < D ∧ norm n d = ⟨m, D⟩ ∧ m * d = n * D := by
  obtain ⟨m, D, h0, he⟩ := as_nat (norm_pos n hd)
  refine ⟨m, D, h0, he, ?_⟩
  have := norm_cross n hd
  rw [he] at this
  exact this
theorem addN_comm (a b : Q) : addN a b = addN b a := by
  unfold addN
  rw [Int.add_comm, Int.mul_comm a.d b.d]
theorem mulN_comm (a b : Q) : mulN a b = mulN b a := by
  unfold mulN
  rw [Int.mul_comm, Int.mul_comm a.d b.d]
theorem addN_norm (n : Int) {d : Nat} (hd : 0 < d) (cn : Int) {C : Nat} (hC : 0 < C) : addN (norm n d) ⟨cn, C⟩ = norm (n * C + cn * d) (d * C) := by
  obtain ⟨m, D, h0, he, hc⟩ := norm_nat n hd
  rw [he, addN_nat]
  refine norm_congr (Nat.mul_pos h0 hC) (Nat.mul_pos hd hC) ?_
  simp only [Int.natCast_mul]
  grind
theorem mulN_norm (n : Int) {d : Nat} (hd : 0 < d) (cn : Int) {C : Nat} (hC : 0 < C) : mulN (norm n d) ⟨cn, C⟩ = norm (n * cn) (d * C) := by
  obtain ⟨m, D, h0, he, hc⟩ := norm_nat n hd
  rw [he, mulN_nat]
  refine norm_congr (Nat.mul_pos h0 hC) (Nat.mul_pos hd hC) ?_
  simp only [Int.natCast_mul]
  grind
theorem addN_norms (n m : Int) {d e : Nat} (hd : 0 < d) (he : 0 < e) : addN (norm n d) (norm m e) = norm (n * e + m * d) (d * e) := by
  obtain ⟨m', D, h0, hq, hc⟩ := norm_nat m he
  rw [hq, addN_norm n hd _ h0]
  refine norm_congr (Nat.mul_pos hd h0) (Nat.mul_pos hd he) ?_
  simp only [Int.natCast_mul]
  grind

/-! ### the field's laws -/
theorem add_assoc' {a b c : Q} (ha : 1 ≤ a.d) (hb : 1 ≤ b.d) (hc : 1 ≤ c.d) : addN (addN a b) c = addN a (addN b c) := by
  obtain ⟨an, A, A0, rfl⟩ := as_nat ha
  obtain ⟨bn, B, B0, rfl⟩ := as_nat hb
  obtain ⟨cn, C, C0, rfl⟩ := as_nat hc
  rw [addN_comm ⟨an, A⟩ (addN _ _), addN_nat, addN_nat, addN_norm _ (Nat.mul_pos A0 B0) _ C0, addN_norm _ (Nat.mul_pos B0 C0) _ A0]
  refine norm_congr (Nat.mul_pos (Nat.mul_pos A0 B0) C0) (Nat.mul_pos (Nat.mul_pos B0 C0) A0) ?_
  simp only [Int.natCast_mul]
  grind
theorem distrib {a b c : Q} (ha : 1 ≤ a.d) (hb : 1 ≤ b.d) (hc : 1 ≤ c.d) : addN (mulN a b) (mulN a c) = mulN a (addN b c) := by
  obtain ⟨an, A, A0, rfl⟩ := as_nat ha
  obtain ⟨bn, B, B0, rfl⟩ := as_nat hb
  obtain ⟨cn, C, C0, rfl⟩ := as_nat hc
  rw [mulN_comm ⟨an, A⟩ (addN _ _), mulN_nat, mulN_nat, addN_nat, addN_norms _ _ (Nat.mul_pos A0 B0) (Nat.mul_pos A0 C0), mulN_norm _ (Nat.mul_pos B0 C0) _ A0]
  refine norm_congr (Nat.mul_pos (Nat.mul_pos A0 B0) (Nat.mul_pos A0 C0)) (Nat.mul_pos (Nat.mul_pos B0 C0) A0) ?_
  simp only [Int.natCast_mul]
  grind
theorem mul_swap {a b c : Q} (ha : 1 ≤ a.d) (hb : 1 ≤ b.d) (hc : 1 ≤ c.d) : mulN (mulN a c) b = mulN (mulN a b) c := by
  obtain ⟨an, A, A0, rfl⟩ := as_nat ha
  obtain ⟨bn, B, B0, rfl⟩ := as_nat hb
  obtain ⟨cn, C, C0, rfl⟩ := as_nat hc
  rw [mulN_nat, mulN_nat, mulN_norm _ (Nat.mul_pos A0 C0) _ B0, mulN_norm _ (Nat.mul_pos A0 B0) _ C0]
  refine norm_congr (Nat.mul_pos (Nat.mul_pos A0 C0) B0) (Nat.mul_pos (Nat.mul_pos A0 B0) C0) ?_
  simp only [Int.natCast_mul]
  grind
/-- what was added is subtracted, what was multiplied is divided -/
theorem add_back {a b : Q} (ha : Right a) (hb : 1 ≤ b.d) : addN (addN a b) (neg b) = a := by
  have ha' := ha.pos
  obtain ⟨an, A, A0, he⟩ := as_nat ha.pos
  obtain ⟨bn, B, B0, rfl⟩ := as_nat hb
  rw [he] at ha
  rw [he]
  unfold neg
  rw [addN_nat, addN_norm _ (Nat.mul_pos A0 B0) _ B0]
  refine norm_unique (Nat.mul_pos (Nat.mul_pos A0 B0) B0) (by simp only; omega) ha.prime ?_
  simp only [Int.natCast_mul]
  grind
theorem inv_pos {b : Q} (h : b.n ≠ 0) : 1 ≤ (inv b).d := by
  unfold inv
  split
  · simp only; omega
  · simp only; omega
theorem inv_cross (b : Q) : (inv b).n * b.n = b.d * (inv b).d := by
  unfold inv
  split <;> simp only <;> grind
theorem mul_back {a b : Q} (ha : Right a) (hb : 1 ≤ b.d) (h : b.n ≠ 0) : mulN (mulN a b) (inv b) = a := by
  have hi := inv_cross b
  obtain ⟨an, A, A0, he⟩ := as_nat ha.pos
  obtain ⟨i, I, I0, hI⟩ := as_nat (inv_pos h)
  rw [hI] at hi
  obtain ⟨bn, B, B0, rfl⟩ := as_nat hb
  rw [he] at ha
  rw [he, hI, mulN_nat, mulN_norm _ (Nat.mul_pos A0 B0) _ I0]
  refine norm_unique (Nat.mul_pos (Nat.mul_pos A0 B0) I0) (by simp only; omega) ha.prime ?_
  simp only [Int.natCast_mul] at *
  grind
theorem right_inv {b : Q} (h : Right b) (hn : b.n ≠ 0) : Right (inv b) := by
  have h1 := h.pos; have h2 := h.den; have h3 := h.lo; have h4 := h.hi; have h5 := h.prime
  unfold inv
  split
  · exact ⟨by simp only; omega, by simp only; omega, by simp only; omega, by simp only; omega, by simp only [Int.natAbs_neg]; rw [Nat.gcd_comm]; exact h5⟩
  · exact ⟨by simp only; omega, by simp only; omega, by simp only; omega, by simp only; omega, by rw [Nat.gcd_comm]; exact h5⟩

end Go.Proofs.YtfbijgbpipedoaaGreatDoor.Ra

namespace Go.Proofs.YtfbijgbpipedoaaGreatDoor
open Go.RowKit Ra

theorem add_end {a b r : Q} {e : Int} (ha : Q64 a) (hb : Q64 b) (h1 : addV a b = r) (h2 : addE a b = e) : ∀ w, Calls Tryz.prog 41 #[.agg #[.int .i64 a.n, .int .i64 a.d], .agg #[.int .i64 b.n, .int .i64 b.d]] w fun x w' => x = .returned (.tuple #[.agg #[.int .i64 r.n, .int .i64 r.d], .int .i64 e]) ∧ Below w.heap.size w w' := by
  subst h1 h2
  exact fun w => add_any a b w ha hb
theorem mul_end {a b r : Q} {e : Int} (ha : Q64 a) (hb : Q64 b) (h1 : mulV a b = r) (h2 : mulE a b = e) : ∀ w, Calls Tryz.prog 62 #[.agg #[.int .i64 a.n, .int .i64 a.d], .agg #[.int .i64 b.n, .int .i64 b.d]] w fun x w' => x = .returned (.tuple #[.agg #[.int .i64 r.n, .int .i64 r.d], .int .i64 e]) ∧ Below w.heap.size w w' := by
  subst h1 h2
  exact fun w => mul_any a b w ha hb
theorem div_end {a b r : Q} {e : Int} (ha : Q64 a) (hb : Q64 b) (h1 : divV a b = r) (h2 : divE a b = e) : ∀ w, Calls Tryz.prog 37 #[.agg #[.int .i64 a.n, .int .i64 a.d], .agg #[.int .i64 b.n, .int .i64 b.d]] w fun x w' => x = .returned (.tuple #[.agg #[.int .i64 r.n, .int .i64 r.d], .int .i64 e]) ∧ Below w.heap.size w w' := by
  subst h1 h2
  exact fun w => div_any a b w ha hb
theorem cmp_end {a b : Q} {v : Int} (ha : Q64 a) (hb : Q64 b) (h : cmpV a b = v) : ∀ w, Calls Tryz.prog 43 #[.agg #[.int .i64 a.n, .int .i64 a.d], .agg #[.int .i64 b.n, .int .i64 b.d]] w fun x w' => x = .returned (.int .i64 v) ∧ Below w.heap.size w w' := by
  subst h
  exact fun w => cmp_any a b w ha hb
theorem make_end {n d : Int} {r : Q} {e : Int} (n0 : -9223372036854775808 ≤ n) (n1 : n ≤ 9223372036854775807) (d0 : -9223372036854775808 ≤ d) (d1 : d ≤ 9223372036854775807) (h1 : makeV n d = r) (h2 : makeE n d = e) : ∀ w, Calls Tryz.prog 45 #[.int .i64 n, .int .i64 d] w fun x w' => x = .returned (.tuple #[.agg #[.int .i64 r.n, .int .i64 r.d], .int .i64 e]) ∧ Below w.heap.size w w' := by
  subst h1 h2
  exact fun w => make_any n d w n0 n1 d0 d1

theorem add_vals {a b : Q} (ha : Right a) (hb : Right b) : addV a b = limV (addN a b) ∧ addE a b = limE (addN a b) := by
  unfold addV addE
  rw [(right_iff a).2 ha, (right_iff b).2 hb]
  exact ⟨rfl, rfl⟩
theorem mul_vals {a b : Q} (ha : Right a) (hb : Right b) : mulV a b = limV (mulN a b) ∧ mulE a b = limE (mulN a b) := by
  unfold mulV mulE
  rw [(right_iff a).2 ha, (right_iff b).2 hb]
  exact ⟨rfl, rfl⟩
theorem sub_vals {a b : Q} (ha : Right a) (hb : Right b) : subV a b = limV (addN a (neg b)) ∧ subE a b = limE (addN a (neg b)) := by
  unfold subV subE
  rw [(right_iff b).2 hb]
  exact add_vals ha (right_neg hb)
theorem div_vals {a b : Q} (ha : Right a) (hb : Right b) (hn : b.n ≠ 0) : divV a b = limV (mulN a (inv b)) ∧ divE a b = limE (mulN a (inv b)) := by
  unfold divV divE
  rw [(right_iff b).2 hb, show (b.n != 0) = true by simp [hn]]
  exact mul_vals ha (right_inv hb hn)
theorem right_lim {a : Q} (h : Right a) : limV a = a ∧ limE a = 0 := by
  have h1 := h.lo; have h2 := h.hi; have h3 := h.den; have h4 := h.pos
  exact lim_ok (by unfold top; omega) (by unfold top; omega)
theorem addN_right {a b : Q} (ha : Right a) (hb : Right b) (h : limE (addN a b) = 0) : Right (addN a b) := by
  have a1 := ha.pos
  have b1 := hb.pos
  have hp : 0 < (a.d * b.d).natAbs := by rw [Int.natAbs_mul]; exact Nat.mul_pos (by omega) (by omega)
  have hl := lim_zero h
  unfold addN at hl ⊢
  exact right_of_norm hp hl.1 hl.2
theorem mulN_right {a b : Q} (ha : Right a) (hb : Right b) (h : limE (mulN a b) = 0) : Right (mulN a b) := by
  have a1 := ha.pos
  have b1 := hb.pos
  have hp : 0 < (a.d * b.d).natAbs := by rw [Int.natAbs_mul]; exact Nat.mul_pos (by omega) (by omega)
  have hl := lim_zero h
  unfold mulN at hl ⊢
  exact right_of_norm hp hl.1 hl.2
theorem lim_val0 {q : Q} (h : limE q = 0) : limV q = q := (lim_ok (lim_zero h).1 (lim_zero h).2).1

end Go.Proofs.YtfbijgbpipedoaaGreatDoor

namespace Go.Proofs.YtfbijgbpipedoaaGreatDoor
open Go.RowKit

/-- a digit -/
def dig (x j : Nat) : Nat := x / 1073741824 ^ j % 1073741824
theorem dig_lt (x j : Nat) : dig x j < 1073741824 := Nat.mod_lt _ (by decide)
theorem dig_mod (x j : Nat) : x % 1073741824 ^ (j + 1) = x % 1073741824 ^ j + 1073741824 ^ j * dig x j := by
  rw [Nat.pow_succ, Nat.mod_mul]
  rfl
theorem pow_pos' (k : Nat) : 0 < 1073741824 ^ k := Nat.pow_pos (by decide)
theorem dig_high {x k : Nat} (h : x < 1073741824 ^ k) {j : Nat} (hj : k ≤ j) : dig x j = 0 := by
  unfold dig
  rw [Nat.div_eq_of_lt (Nat.lt_of_lt_of_le h (Nat.pow_le_pow_right (by decide) hj))]
/-- a sum's carry and digit -/
def carry (x y k : Nat) : Nat := (x % 1073741824 ^ k + y % 1073741824 ^ k) / 1073741824 ^ k
theorem carry_le (x y k : Nat) : carry x y k ≤ 1 := by
  unfold carry
  have h1 := Nat.mod_lt x (pow_pos' k)
  have h2 := Nat.mod_lt y (pow_pos' k)
  have : (x % 1073741824 ^ k + y % 1073741824 ^ k) / 1073741824 ^ k < 2 := Nat.div_lt_of_lt_mul (by omega)
  omega
theorem carry_zero (x y : Nat) : carry x y 0 = 0 := by simp [carry, Nat.mod_one]
theorem sum_step (x y k : Nat) : (x % 1073741824 ^ (k + 1) + y % 1073741824 ^ (k + 1)) / 1073741824 ^ k = carry x y k + dig x k + dig y k := by
  rw [dig_mod, dig_mod]
  unfold carry
  rw [show x % 1073741824 ^ k + 1073741824 ^ k * dig x k + (y % 1073741824 ^ k + 1073741824 ^ k * dig y k) = (x % 1073741824 ^ k + y % 1073741824 ^ k) + 1073741824 ^ k * (dig x k + dig y k) by grind, Nat.add_mul_div_left _ _ (pow_pos' k), Nat.add_assoc]
theorem carry_step (x y k : Nat) : (carry x y k + dig x k + dig y k) / 1073741824 = carry x y (k + 1) := by
  rw [← sum_step, Nat.div_div_eq_div_mul, ← Nat.pow_succ]
  rfl
theorem dig_sum (x y k : Nat) : (carry x y k + dig x k + dig y k) % 1073741824 = dig (x + y) k := by
  unfold carry
  have h : (x + y) / 1073741824 ^ k = (x % 1073741824 ^ k + y % 1073741824 ^ k) / 1073741824 ^ k + (x / 1073741824 ^ k + y / 1073741824 ^ k) := by
    have h1 := Nat.div_add_mod x (1073741824 ^ k)
    have h2 := Nat.div_add_mod y (1073741824 ^ k)
    rw [← Nat.add_mul_div_left _ _ (pow_pos' k)]
    congr 1
    grind
  have e1 : dig x k = x / 1073741824 ^ k % 1073741824 := rfl
  have e2 : dig y k = y / 1073741824 ^ k % 1073741824 := rfl
  unfold dig at *
  rw [h]
  omega

/-- a block holds five numbers, and may be written -/
def Row5 (w : World) (g : Nat) (f : Nat → Int) : Prop := ∀ j, j < 5 → w.cell? ⟨g, j, none⟩ = some (.int .i64 (f j)) ∧ w.frozen? ⟨g, j, none⟩ = false
def Num (w : World) (g x : Nat) : Prop := Row5 w g fun j => (dig x j : Nat)
theorem Row5.lt {w : World} {g : Nat} {f : Nat → Int} (h : Row5 w g f) : g < w.heap.size := by
  have := World.block_lt_of_cell? w _ (h 0 (by decide)).1
  simpa using this
theorem Row5.below {w w' : World} {g B : Nat} {f : Nat → Int} (h : Row5 w g f) (hb : Below B w w') (hg : g < B) : Row5 w' g f := fun j hj =>
  ⟨by rw [hb.cell (by simp only; omega)]; exact (h j hj).1, by rw [hb.frozen (by simp only; omega)]; exact (h j hj).2⟩
theorem Num.below {w w' : World} {g x B : Nat} (h : Num w g x) (hb : Below B w w') (hB : B = w.heap.size) : Num w' g x := Row5.below h hb (by rw [hB]; exact Row5.lt h)
theorem Row5.drew {w : World} {g : Nat} {f : Nat → Int} (h : Row5 w g f) (n : Nat) : Row5 (w.drewN n) g f := h.below (below_drewN (Below.refl _ _) n) h.lt
theorem row_congr {w : World} {g : Nat} {f f' : Nat → Int} (h : Row5 w g f) (he : ∀ j, j < 5 → f j = f' j) : Row5 w g f' := fun j hj => by
  rw [← he j hj]; exact h j hj
theorem row_set {w : World} {g k : Nat} {f : Nat → Int} (h : Row5 w g f) (hk : k < 5) (v : Int) : Row5 (w.setCell ⟨g, k, none⟩ (.int .i64 v)) g fun j => if j = k then v else f j := by
  intro j hj
  by_cases e : j = k
  · subst e
    have hc := (h j hj).1
    refine ⟨?_, ?_⟩
    · simp [go_sem, hc]
    · simp [go_sem, (h j hj).2]
  · simp only [if_neg e]
    refine ⟨?_, ?_⟩
    · have hne : (⟨g, k, none⟩ : Addr) ≠ ⟨g, j, none⟩ := by intro he; injection he with _ h2; omega
      rw [World.cell?_setCell_other _ _ _ _ hne]
      exact (h j hj).1
    · simp [go_sem, (h j hj).2]

end Go.Proofs.YtfbijgbpipedoaaGreatDoor

namespace Go.Proofs.YtfbijgbpipedoaaGreatDoor
open Go.RowKit

def Sl (g : Nat) : Value := .slice (some ⟨g, 0, none⟩) 5 5
theorem row_new (w : World) : Row5 (w.alloc (.cells #[.int .i64 0, .int .i64 0, .int .i64 0, .int .i64 0, .int .i64 0] 3)) w.heap.size fun _ => 0 := by
  intro j hj
  match j, hj with
  | 0, _ => simp [go_sem]
  | 1, _ => simp [go_sem]
  | 2, _ => simp [go_sem]
  | 3, _ => simp [go_sem]
  | 4, _ => simp [go_sem]

theorem mk5 (w : World) : (Instr.makeSlice 74 (.int .i64 5) (.int .i64 5)).run Tryz.prog w = .ok (.slice (some ⟨w.heap.size, 0, none⟩) 5 5) (w.alloc (.cells #[.int .i64 0, .int .i64 0, .int .i64 0, .int .i64 0, .int .i64 0] 3)) := by kernel_rfl

set_option maxHeartbeats 2000000 in
theorem plus_num (g h x y : Nat) (w : World) (hx : Num w g x) (hy : Num w h y) :
    Calls Tryz.prog 85 #[.slice (some ⟨g, 0, none⟩) 5 5, .slice (some ⟨h, 0, none⟩) 5 5] w fun e w' => ∃ k, e = .returned (.slice (some ⟨k, 0, none⟩) 5 5) ∧ w.heap.size ≤ k ∧ Num w' k (x + y) ∧ Below w.heap.size w w' := by
  have HX := Lib.hid hx
  have HY := Lib.hid hy
  clear hx hy
  have hmk := mk5
  go_enter Tryz.func85, Tryz.ntmps85
  go_wp2_with fail
  have R0 := Lib.hid (row_new w)
  have B0 : Below w.heap.size w (w.alloc (.cells #[.int .i64 0, .int .i64 0, .int .i64 0, .int .i64 0, .int .i64 0] 3)) := (Below.refl _ _).alloc (Nat.le_refl _) _
  go_loopw [6, 7] (fun c i wr => ∃ k : Nat, k ≤ 5 ∧ i = .int .i64 k ∧ c = .int .i64 (carry x y k : Nat) ∧ Hid (Row5 wr w.heap.size fun j => if j < k then ((dig (x + y) j : Nat) : Int) else 0) ∧ Below w.heap.size w wr) (fun _ i _ => 5 - (intOf i).toNat)
  case atStart => exact ⟨0, by decide, rfl, by rw [carry_zero]; rfl, Lib.hid (row_congr R0.out fun j _ => by rw [if_neg (by omega)]), B0⟩
  case round =>
    obtain ⟨k, hk, rfl, rfl, HR, hb⟩ := hrel
    have hc1 := carry_le x y k
    by_cases hlt : k < 5
    · have d1 := dig_lt x k
      have d2 := dig_lt y k
      have e1 := (HX.out.below hb rfl k hlt).1
      have e2 := (HY.out.below hb rfl k hlt).1
      obtain ⟨e3, e4⟩ := HR.out k hlt
      have k0 : (0 : Int) ≤ (k : Int) := by omega
      have k1 : (k : Int) < 5 := by omega
      go_wp2_with fail
      go_quiet (fail)
      go_wp2_with fail
      have hs := carry_step x y k
      have hd := dig_sum x y k
      refine ⟨⟨k + 1, by omega, congrArg (Value.int .i64) (by omega), congrArg (Value.int .i64) (by omega), Lib.hid (row_congr (row_set (HR.out.drew nq) hlt _) fun j hj => ?_), Below.setCell (below_drewN hb nq) (Nat.le_refl _) _⟩, by simp [intOf]; omega⟩
      by_cases hj : j = k
      · subst hj
        rw [if_pos rfl, if_pos (by omega)]
        omega
      · rw [if_neg hj]
        by_cases h2 : j < k
        · rw [if_pos h2, if_pos (by omega)]
        · rw [if_neg h2, if_neg (by omega)]
    · have e5 : k = 5 := by omega
      subst e5
      go_wp2_with fail
      go_ret
      exact ⟨_, rfl, Nat.le_refl _, row_congr HR.out fun j hj => by rw [if_pos hj], hb⟩

end Go.Proofs.YtfbijgbpipedoaaGreatDoor

namespace Go.Proofs.YtfbijgbpipedoaaGreatDoor
open Go.RowKit

/-! ### a difference -/
def borrow (x y k : Nat) : Nat := if x % 1073741824 ^ k < y % 1073741824 ^ k then 1 else 0
theorem borrow_le (x y k : Nat) : borrow x y k ≤ 1 := by unfold borrow; split <;> omega
theorem borrow_zero (x y : Nat) : borrow x y 0 = 0 := by simp [borrow, Nat.mod_one]
theorem borrow_step (x y k : Nat) : borrow x y (k + 1) = if dig x k < dig y k + borrow x y k then 1 else 0 := by
  have h1 := dig_mod x k
  have h2 := dig_mod y k
  have l1 := Nat.mod_lt x (pow_pos' k)
  have l2 := Nat.mod_lt y (pow_pos' k)
  unfold borrow
  rw [h1, h2]
  generalize x % 1073741824 ^ k = p at *
  generalize y % 1073741824 ^ k = q at *
  generalize dig x k = d at *
  generalize dig y k = e at *
  generalize 1073741824 ^ k = P at *
  rcases Nat.lt_trichotomy d e with h | h | h
  · have := Nat.mul_le_mul_left P (show d + 1 ≤ e by omega)
    rw [Nat.mul_add, Nat.mul_one] at this
    rw [if_pos (by omega), if_pos (by split <;> omega)]
  · subst h
    by_cases c : p < q
    · rw [if_pos c, if_pos (by omega), if_pos (by omega)]
    · rw [if_neg c, if_neg (by omega), if_neg (by omega)]
  · have := Nat.mul_le_mul_left P (show e + 1 ≤ d by omega)
    rw [Nat.mul_add, Nat.mul_one] at this
    rw [if_neg (by omega), if_neg (by split <;> omega)]
theorem diff_div {x y : Nat} (h : y ≤ x) (k : Nat) : ((x - y : Nat) : Int) / ((1073741824 ^ k : Nat) : Int) = (x / 1073741824 ^ k : Nat) - (y / 1073741824 ^ k : Nat) - (borrow x y k : Nat) := by
  have h1 := Nat.div_add_mod x (1073741824 ^ k)
  have h2 := Nat.div_add_mod y (1073741824 ^ k)
  have l1 := Nat.mod_lt x (pow_pos' k)
  have l2 := Nat.mod_lt y (pow_pos' k)
  have hp := pow_pos' k
  unfold borrow
  generalize x % 1073741824 ^ k = p at *
  generalize y % 1073741824 ^ k = q at *
  generalize x / 1073741824 ^ k = X at *
  generalize y / 1073741824 ^ k = Y at *
  generalize 1073741824 ^ k = P at *
  have e1 : (X : Int) * P = ((P * X : Nat) : Int) := by rw [Nat.mul_comm, Int.natCast_mul]
  have e2 : (Y : Int) * P = ((P * Y : Nat) : Int) := by rw [Nat.mul_comm, Int.natCast_mul]
  rw [Int.ediv_eq_iff_of_pos (by omega), Int.sub_mul, Int.sub_mul, e1, e2]
  generalize P * X = PX at *
  generalize P * Y = PY at *
  by_cases c : p < q
  · rw [if_pos c]; omega
  · rw [if_neg c]; omega
theorem dig_diff {x y : Nat} (h : y ≤ x) (k : Nat) : ((dig (x - y) k : Nat) : Int) = if dig x k < dig y k + borrow x y k then (dig x k : Int) - dig y k - borrow x y k + 1073741824 else (dig x k : Int) - dig y k - borrow x y k := by
  have hd := diff_div h k
  have hb := borrow_le x y k
  have e : ((dig (x - y) k : Nat) : Int) = ((x / 1073741824 ^ k : Nat) - (y / 1073741824 ^ k : Nat) - (borrow x y k : Nat) : Int) % 1073741824 := by
    unfold dig
    rw [Int.natCast_emod, Int.natCast_ediv, hd]
    rfl
  rw [e]
  unfold dig
  split <;> omega

set_option maxHeartbeats 2000000 in
theorem minus_num (g h x y : Nat) (w : World) (hx : Num w g x) (hy : Num w h y) (hle : y ≤ x) :
    Calls Tryz.prog 86 #[.slice (some ⟨g, 0, none⟩) 5 5, .slice (some ⟨h, 0, none⟩) 5 5] w fun e w' => ∃ k, e = .returned (.slice (some ⟨k, 0, none⟩) 5 5) ∧ w.heap.size ≤ k ∧ Num w' k (x - y) ∧ Below w.heap.size w w' := by
  have HX := Lib.hid hx
  have HY := Lib.hid hy
  have HL := Lib.hid hle
  clear hx hy hle
  have hmk := mk5
  go_enter Tryz.func86, Tryz.ntmps86
  go_wp2_with fail
  have R0 := Lib.hid (row_new w)
  have B0 : Below w.heap.size w (w.alloc (.cells #[.int .i64 0, .int .i64 0, .int .i64 0, .int .i64 0, .int .i64 0] 3)) := (Below.refl _ _).alloc (Nat.le_refl _) _
  go_loopw [6, 7, 8] (fun c i _ wr => ∃ k : Nat, k ≤ 5 ∧ i = .int .i64 k ∧ c = .int .i64 (borrow x y k : Nat) ∧ Hid (Row5 wr w.heap.size fun j => if j < k then ((dig (x - y) j : Nat) : Int) else 0) ∧ Below w.heap.size w wr) (fun _ i _ _ => 5 - (intOf i).toNat)
  case atStart => exact ⟨0, by decide, rfl, by rw [borrow_zero]; rfl, Lib.hid (row_congr R0.out fun j _ => by rw [if_neg (by omega)]), B0⟩
  case round =>
    obtain ⟨k, hk, rfl, rfl, HR, hb⟩ := hrel
    have hc1 := borrow_le x y k
    by_cases hlt : k < 5
    · have d1 := dig_lt x k
      have d2 := dig_lt y k
      have e1 := (HX.out.below hb rfl k hlt).1
      have e2 := (HY.out.below hb rfl k hlt).1
      obtain ⟨e3, e4⟩ := HR.out k hlt
      have k0 : (0 : Int) ≤ (k : Int) := by omega
      have k1 : (k : Int) < 5 := by omega
      have hs := Lib.hid (borrow_step x y k)
      have hd := Lib.hid (dig_diff HL.out k)
      by_cases hn : dig x k < dig y k + borrow x y k
      · have i1 : ((dig x k : Nat) : Int) - ((dig y k : Nat) : Int) - ((borrow x y k : Nat) : Int) < 0 := by omega
        go_wp2_with fail
        go_quiet (fail)
        go_wp2_with fail
        have hs' := hs.out
        have hd' := hd.out
        rw [if_pos hn] at hs' hd'
        refine ⟨⟨k + 1, by omega, congrArg (Value.int .i64) (by omega), congrArg (Value.int .i64) (by omega), Lib.hid (row_congr (row_set (HR.out.drew nq) hlt _) fun j hj => ?_), Below.setCell (below_drewN hb nq) (Nat.le_refl _) _⟩, by simp [intOf]; omega⟩
        by_cases hj : j = k
        · subst hj
          rw [if_pos rfl, if_pos (by omega)]
          omega
        · rw [if_neg hj]
          by_cases h2 : j < k
          · rw [if_pos h2, if_pos (by omega)]
          · rw [if_neg h2, if_neg (by omega)]
      · have i1 : ¬ ((dig x k : Nat) : Int) - ((dig y k : Nat) : Int) - ((borrow x y k : Nat) : Int) < 0 := by omega
        go_wp2_with fail
        go_quiet (fail)
        go_wp2_with fail
        have hs' := hs.out
        have hd' := hd.out
        rw [if_neg hn] at hs' hd'
        refine ⟨⟨k + 1, by omega, congrArg (Value.int .i64) (by omega), congrArg (Value.int .i64) (by omega), Lib.hid (row_congr (row_set (HR.out.drew nq) hlt _) fun j hj => ?_), Below.setCell (below_drewN hb nq) (Nat.le_refl _) _⟩, by simp [intOf]; omega⟩
        by_cases hj : j = k
        · subst hj
          rw [if_pos rfl, if_pos (by omega)]
          omega
        · rw [if_neg hj]
          by_cases h2 : j < k
          · rw [if_pos h2, if_pos (by omega)]
          · rw [if_neg h2, if_neg (by omega)]
    · have e5 : k = 5 := by omega
      subst e5
      go_wp2_with fail
      go_ret
      exact ⟨_, rfl, Nat.le_refl _, row_congr HR.out fun j hj => by rw [if_pos hj], hb⟩

end Go.Proofs.YtfbijgbpipedoaaGreatDoor

namespace Go.Proofs.YtfbijgbpipedoaaGreatDoor
open Go.RowKit

def cmpNat (x y : Nat) : Int := if x < y then -1 else if y < x then 1 else 0
theorem div_dig (x k : Nat) : x / 1073741824 ^ k = 1073741824 * (x / 1073741824 ^ (k + 1)) + dig x k := by
  unfold dig
  rw [Nat.pow_succ, ← Nat.div_div_eq_div_mul]
  omega
theorem lt_of_dig {x y k : Nat} (h : x / 1073741824 ^ (k + 1) = y / 1073741824 ^ (k + 1)) (hd : dig x k < dig y k) : x < y := by
  have h1 := div_dig x k
  have h2 := div_dig y k
  exact Nat.lt_of_div_lt_div (c := 1073741824 ^ k) (by omega)

set_option maxHeartbeats 2000000 in
theorem cmp_num (g h x y : Nat) (w : World) (hx : Num w g x) (hy : Num w h y) (lx : x < 1073741824 ^ 5) (ly : y < 1073741824 ^ 5) :
    Calls Tryz.prog 80 #[.slice (some ⟨g, 0, none⟩) 5 5, .slice (some ⟨h, 0, none⟩) 5 5] w fun e w' => e = .returned (.int .i64 (cmpNat x y)) ∧ Below w.heap.size w w' := by
  have HX := Lib.hid hx
  have HY := Lib.hid hy
  have HL := Lib.hid (show x / 1073741824 ^ 5 = y / 1073741824 ^ 5 by rw [Nat.div_eq_of_lt lx, Nat.div_eq_of_lt ly])
  clear hx hy lx ly
  go_enter Tryz.func80, Tryz.ntmps80
  go_wp2_with fail
  go_loopw [5] (fun i wr => ∃ k : Nat, k ≤ 5 ∧ i = .int .i64 ((k : Int) - 1) ∧ Hid (x / 1073741824 ^ k = y / 1073741824 ^ k) ∧ Below w.heap.size w wr) (fun i _ => (intOf i + 1).toNat)
  case atStart => exact ⟨5, by decide, rfl, HL, Below.refl _ _⟩
  case round =>
    obtain ⟨k, hk, rfl, HE, hb⟩ := hrel
    by_cases h0 : k = 0
    · subst h0
      have e : cmpNat x y = 0 := by
        have := HE.out
        simp only [Nat.pow_zero, Nat.div_one] at this
        unfold cmpNat
        rw [if_neg (by omega), if_neg (by omega)]
      go_wp2_with fail
      go_ret
      exact ⟨by rw [e]; rfl, hb⟩
    · obtain ⟨j, rfl⟩ : ∃ j, k = j + 1 := ⟨k - 1, by omega⟩
      have hlt : j < 5 := by omega
      have d1 := dig_lt x j
      have d2 := dig_lt y j
      have e1 := (HX.out.below hb rfl j hlt).1
      have e2 := (HY.out.below hb rfl j hlt).1
      have k0 : (0 : Int) ≤ (j : Int) := by omega
      have k1 : (j : Int) < 5 := by omega
      have hj : ((j + 1 : Nat) : Int) - 1 = j := by omega
      rw [hj]
      clear hj h0
      rcases Nat.lt_trichotomy (dig x j) (dig y j) with c | c | c
      · have e : cmpNat x y = -1 := by
          have := lt_of_dig HE.out c
          unfold cmpNat
          rw [if_pos (by omega)]
        have i1 : ((dig x j : Nat) : Int) < ((dig y j : Nat) : Int) := by omega
        go_wp2_with fail
        go_quiet (fail)
        go_wp2_with fail
        go_ret
        exact ⟨by rw [e]; rfl, below_drewN hb _⟩
      · have i1 : ¬ ((dig x j : Nat) : Int) < ((dig y j : Nat) : Int) := by omega
        have i2 : ¬ ((dig y j : Nat) : Int) < ((dig x j : Nat) : Int) := by omega
        have HN := Lib.hid (show x / 1073741824 ^ j = y / 1073741824 ^ j by rw [div_dig x j, div_dig y j, HE.out, c])
        clear c
        go_wp2_with fail
        go_quiet (fail)
        go_wp2_with fail
        go_quiet (fail)
        go_wp2_with fail
        refine ⟨⟨j, by omega, rfl, HN, below_drewN hb _⟩, by simp [intOf]⟩
      · have e : cmpNat x y = 1 := by
          have := lt_of_dig HE.out.symm c
          unfold cmpNat
          rw [if_neg (by omega), if_pos (by omega)]
        have i1 : ¬ ((dig x j : Nat) : Int) < ((dig y j : Nat) : Int) := by omega
        have i2 : ((dig y j : Nat) : Int) < ((dig x j : Nat) : Int) := by omega
        go_wp2_with fail
        go_quiet (fail)
        go_wp2_with fail
        go_quiet (fail)
        go_wp2_with fail
        go_ret
        exact ⟨by rw [e]; rfl, below_drewN (below_drewN hb _) _⟩

theorem num_zero {w : World} {g : Nat} (h : Row5 w g fun _ => 0) : Num w g 0 := row_congr h fun j _ => by simp [dig]

theorem zero_num (g x : Nat) (w : World) (hx : Num w g x) (lx : x < 1073741824 ^ 5) :
    Calls Tryz.prog 73 #[.slice (some ⟨g, 0, none⟩) 5 5] w fun e w' => e = .returned (.bool (decide (x = 0))) ∧ Below w.heap.size w w' := by
  have hmk := mk5
  have B0 : Below w.heap.size w (w.alloc (.cells #[.int .i64 0, .int .i64 0, .int .i64 0, .int .i64 0, .int .i64 0] 3)) := (Below.refl _ _).alloc (Nat.le_refl _) _
  have HC := Lib.hid (cmp_num g w.heap.size x 0 _ (hx.below B0 rfl) (num_zero (row_new w)) lx (by decide))
  clear hx
  go_enter Tryz.func73, Tryz.ntmps73
  go_wp2_with fail
  refine HC.out.mono ?_
  rintro e w1 ⟨rfl, b1⟩
  go_wp2_with fail
  go_ret
  refine ⟨?_, Below.trans B0 (b1.mono B0.size)⟩
  have : (cmpNat x 0 == 0) = decide (x = 0) := by
    unfold cmpNat
    by_cases h : x = 0
    · simp [h]
    · rw [if_neg (by omega), if_pos (by omega)]; simp [h]
  rw [← this]
  rfl

end Go.Proofs.YtfbijgbpipedoaaGreatDoor

namespace Go.Proofs.YtfbijgbpipedoaaGreatDoor
open Go.RowKit

set_option maxHeartbeats 2000000 in
theorem of_num (n : Int) (w : World) (n0 : -9223372036854775808 ≤ n) (n1 : n ≤ 9223372036854775807) :
    Calls Tryz.prog 60 #[.int .i64 n] w fun e w' => ∃ k, e = .returned (.slice (some ⟨k, 0, none⟩) 5 5) ∧ w.heap.size ≤ k ∧ Num w' k n.natAbs ∧ Below w.heap.size w w' := by
  have hmk := mk5
  have hN : n.natAbs ≤ 9223372036854775808 := by omega
  obtain ⟨N, hNe⟩ : ∃ N, N = n.natAbs := ⟨_, rfl⟩
  rw [← hNe] at hN
  rw [← hNe]
  have HNe := Lib.hid hNe
  clear hNe
  go_enter Tryz.func60, Tryz.ntmps60
  go_wp2_with fail
  have R0 := Lib.hid (row_new w)
  have B0 : Below w.heap.size w (w.alloc (.cells #[.int .i64 0, .int .i64 0, .int .i64 0, .int .i64 0, .int .i64 0] 3)) := (Below.refl _ _).alloc (Nat.le_refl _) _
  go_loopw [0, 4, 5] (fun v i _ wr => ∃ (k : Nat) (m : Int), k ≤ 3 ∧ i = .int .i64 k ∧ v = .int .i64 m ∧ Hid (m.natAbs = N / 1073741824 ^ k) ∧ -9223372036854775808 ≤ m ∧ m ≤ 9223372036854775807 ∧ Hid (Row5 wr w.heap.size fun j => if j < k then ((dig N j : Nat) : Int) else 0) ∧ Below w.heap.size w wr) (fun _ i _ _ => 3 - (intOf i).toNat)
  case atStart => exact ⟨0, n, by decide, rfl, rfl, Lib.hid (by rw [← HNe.out]; simp), n0, n1, Lib.hid (row_congr R0.out fun j _ => by rw [if_neg (by omega)]), B0⟩
  case round =>
    obtain ⟨k, m, hk, rfl, rfl, HM, m0, m1, HR, hb⟩ := hrel
    by_cases hlt : k < 3
    · obtain ⟨t, ht⟩ : ∃ t, m.tmod 1073741824 = t := ⟨_, rfl⟩
      obtain ⟨q, hq⟩ : ∃ q, m.tdiv 1073741824 = q := ⟨_, rfl⟩
      have hta : t.natAbs = dig N k := by
        rw [← ht, Int.natAbs_tmod, HM.out]
        rfl
      have hqa : q.natAbs = N / 1073741824 ^ (k + 1) := by
        rw [← hq, Int.natAbs_tdiv, HM.out, Nat.pow_succ, ← Nat.div_div_eq_div_mul]
        rfl
      have hqm : q.natAbs ≤ m.natAbs := by
        rw [← hq, Int.natAbs_tdiv]
        exact Nat.div_le_self _ _
      have dl := dig_lt N k
      have q0 : -9223372036854775808 ≤ q ∧ q ≤ 9223372036854775807 := by
        have : q.natAbs ≤ m.natAbs / 1073741824 := by rw [← hq, Int.natAbs_tdiv]; exact Nat.le_refl _
        omega
      have w1 : IntKind.i64.wrap t = t := IntWalk.i64_in _ (by omega)
      have w2 : IntKind.i64.wrap q = q := IntWalk.i64_in _ (by omega)
      have w3 : IntKind.i64.wrap (-t) = -t := IntWalk.i64_in _ (by omega)
      have HQ := Lib.hid hqa
      have HT := Lib.hid hta
      obtain ⟨q1, q2⟩ := q0
      obtain ⟨e3, e4⟩ := HR.out k (by omega)
      have k0 : (0 : Int) ≤ (k : Int) := by omega
      have k1 : (k : Int) < 5 := by omega
      have k2 : (k : Int) < 3 := by omega
      clear hqa hta hqm dl
      by_cases hs : t < 0
      · go_wp2_with fail
        have hta := HT.out
        refine ⟨⟨k + 1, q, by omega, congrArg (Value.int .i64) (by omega), rfl, HQ, q1, q2, Lib.hid (row_congr (row_set HR.out (by omega) _) fun j hj => ?_), Below.setCell hb (Nat.le_refl _) _⟩, by simp [intOf]; omega⟩
        by_cases hj : j = k
        · subst hj
          rw [if_pos rfl, if_pos (by omega)]
          omega
        · rw [if_neg hj]
          by_cases h2 : j < k
          · rw [if_pos h2, if_pos (by omega)]
          · rw [if_neg h2, if_neg (by omega)]
      · go_wp2_with fail
        have hta := HT.out
        refine ⟨⟨k + 1, q, by omega, congrArg (Value.int .i64) (by omega), rfl, HQ, q1, q2, Lib.hid (row_congr (row_set HR.out (by omega) _) fun j hj => ?_), Below.setCell hb (Nat.le_refl _) _⟩, by simp [intOf]; omega⟩
        by_cases hj : j = k
        · subst hj
          rw [if_pos rfl, if_pos (by omega)]
          omega
        · rw [if_neg hj]
          by_cases h2 : j < k
          · rw [if_pos h2, if_pos (by omega)]
          · rw [if_neg h2, if_neg (by omega)]
    · have e5 : k = 3 := by omega
      subst e5
      go_wp2_with fail
      go_ret
      refine ⟨_, rfl, Nat.le_refl _, row_congr HR.out fun j hj => ?_, hb⟩
      by_cases h3 : j < 3
      · rw [if_pos h3]
      · rw [if_neg h3, dig_high (k := 3) (Nat.lt_of_le_of_lt hN (by decide)) (by omega)]
        rfl

end Go.Proofs.YtfbijgbpipedoaaGreatDoor

namespace Go.Proofs.YtfbijgbpipedoaaGreatDoor
open Go.RowKit

/-- the value of five digits -/
def val5 (f : Nat → Nat) : Nat := f 0 + f 1 * 1073741824 + f 2 * 1152921504606846976 + f 3 * 1237940039285380274899124224 + f 4 * 1329227995784915872903807060280344576
theorem dig_val {f : Nat → Nat} {x : Nat} (hf : ∀ j, j < 5 → f j < 1073741824) (h : val5 f = x) : ∀ j, j < 5 → f j = dig x j := by
  intro j hj
  have h0 := hf 0 (by decide); have h1 := hf 1 (by decide); have h2 := hf 2 (by decide); have h3 := hf 3 (by decide); have h4 := hf 4 (by decide)
  unfold val5 at h
  unfold dig
  match j, hj with
  | 0, _ => simp only [Nat.pow_zero]; omega
  | 1, _ => simp only [Nat.pow_one]; omega
  | 2, _ => simp only [Nat.reducePow]; omega
  | 3, _ => simp only [Nat.reducePow]; omega
  | 4, _ => simp only [Nat.reducePow]; omega
theorem val_set (f : Nat → Nat) (m d : Nat) (hm : m < 5) : val5 (fun j => if j = m then d else f j) + f m * 1073741824 ^ m = val5 f + d * 1073741824 ^ m := by
  unfold val5
  match m, hm with
  | 0, _ => simp; omega
  | 1, _ => simp; omega
  | 2, _ => simp; omega
  | 3, _ => simp; omega
  | 4, _ => simp; omega
theorem row_end {x y I C v : Nat} (hI : I < 5) (hxy : x * y < 1073741824 ^ 5) (h : v + C * 1073741824 ^ 5 = (x % 1073741824 ^ I) * y + dig x I * 1073741824 ^ I * (y % 1073741824 ^ (5 - I))) : v = (x % 1073741824 ^ (I + 1)) * y := by
  have e1 := dig_mod x I
  have hT : (x % 1073741824 ^ (I + 1)) * y ≤ x * y := Nat.mul_le_mul_right _ (Nat.mod_le _ _)
  have e2 : (1073741824 : Nat) ^ 5 = 1073741824 ^ I * 1073741824 ^ (5 - I) := by rw [← Nat.pow_add]; congr 1; omega
  have e3 := Nat.div_add_mod y (1073741824 ^ (5 - I))
  rw [e1] at hT ⊢
  have hM := pow_pos' 5
  generalize (1073741824 : Nat) ^ 5 = M at *
  generalize (1073741824 : Nat) ^ I = P at *
  generalize (1073741824 : Nat) ^ (5 - I) = R at *
  generalize y % R = r at *
  generalize y / R = s at *
  generalize dig x I = a at *
  generalize x % P = z at *
  have key : (z + P * a) * y = v + M * (C + a * s) := by
    subst e2
    rw [← e3] at h ⊢
    grind
  rw [key] at hT ⊢
  rcases Nat.eq_zero_or_pos (C + a * s) with h0 | h0
  · rw [h0]; omega
  · have := Nat.le_mul_of_pos_right M h0
    omega

theorem row_next {x y I K C v v' fm p : Nat} (h : v + C * 1073741824 ^ (I + K) = (x % 1073741824 ^ I) * y + dig x I * 1073741824 ^ I * (y % 1073741824 ^ K)) (hp : p = dig x I * dig y K)
    (hs : v' + fm * 1073741824 ^ (I + K) = v + (C + fm + p) % 1073741824 * 1073741824 ^ (I + K)) :
    v' + (C + fm + p) / 1073741824 * 1073741824 ^ (I + (K + 1)) = (x % 1073741824 ^ I) * y + dig x I * 1073741824 ^ I * (y % 1073741824 ^ (K + 1)) := by
  have e1 := dig_mod y K
  have e2 : (1073741824 : Nat) ^ (I + K) = 1073741824 ^ I * 1073741824 ^ K := Nat.pow_add _ _ _
  have e3 : (1073741824 : Nat) ^ (I + (K + 1)) = 1073741824 ^ I * 1073741824 ^ K * 1073741824 := by rw [← Nat.add_assoc, Nat.pow_succ, Nat.pow_add]
  have e4 := Nat.div_add_mod (C + fm + p) 1073741824
  rw [e1, e3]
  rw [e2] at h hs
  generalize (C + fm + p) / 1073741824 = q at *
  generalize (C + fm + p) % 1073741824 = r at *
  generalize (1073741824 : Nat) ^ I = P at *
  generalize (1073741824 : Nat) ^ K = R at *
  generalize x % P * y = z at *
  generalize y % R = s at *
  generalize dig x I = a at *
  generalize dig y K = b at *
  subst hp
  have k : (fm + C + a * b) * (P * R) = (1073741824 * q + r) * (P * R) := by rw [e4]; congr 1; omega
  have k2 : v' + (fm + C + a * b) * (P * R) = v' + (1073741824 * q + r) * (P * R) := by rw [k]
  grind

set_option maxHeartbeats 4000000 in
theorem times_num (g h x y : Nat) (w : World) (hx : Num w g x) (hy : Num w h y) (hxy : x * y < 1073741824 ^ 5) (lx : x < 1073741824 ^ 5) :
    Calls Tryz.prog 64 #[.slice (some ⟨g, 0, none⟩) 5 5, .slice (some ⟨h, 0, none⟩) 5 5] w fun e w' => ∃ k, e = .returned (.slice (some ⟨k, 0, none⟩) 5 5) ∧ w.heap.size ≤ k ∧ Num w' k (x * y) ∧ Below w.heap.size w w' := by
  have HX := Lib.hid hx
  have HY := Lib.hid hy
  have HP := Lib.hid hxy
  have HL := Lib.hid lx
  clear hx hy hxy lx
  have hmk := mk5
  go_enter Tryz.func64, Tryz.ntmps64
  go_wp2_with fail
  have R0 := Lib.hid (row_new w)
  have B0 : Below w.heap.size w (w.alloc (.cells #[.int .i64 0, .int .i64 0, .int .i64 0, .int .i64 0, .int .i64 0] 3)) := (Below.refl _ _).alloc (Nat.le_refl _) _
  go_loopw [6, 7, 8] (fun i _ _ wr => ∃ (I : Nat) (f : Nat → Nat), I ≤ 5 ∧ i = .int .i64 I ∧ Hid (Row5 wr w.heap.size fun j => (f j : Int)) ∧ Hid (∀ j, j < 5 → f j < 1073741824) ∧ Hid (val5 f = (x % 1073741824 ^ I) * y) ∧ Below w.heap.size w wr) (fun i _ _ _ => 5 - (intOf i).toNat)
  case atStart => exact ⟨0, fun _ => 0, by decide, rfl, Lib.hid R0.out, Lib.hid (fun _ _ => by simp), Lib.hid (by simp [val5, Nat.mod_one]), B0⟩
  case round =>
    obtain ⟨I, f, hI, rfl, HR, HF, HV, hb⟩ := hrel
    by_cases hlt : I < 5
    · have k0 : (0 : Int) ≤ (I : Int) := by omega
      have k1 : (I : Int) < 5 := by omega
      go_wp2_with fail
      go_loopw [7, 8] (fun c k wv => ∃ (K C : Nat) (f' : Nat → Nat), I + K ≤ 5 ∧ k = .int .i64 K ∧ c = .int .i64 C ∧ C < 1073741824 ∧ Hid (Row5 wv w.heap.size fun j => (f' j : Int)) ∧ Hid (∀ j, j < 5 → f' j < 1073741824) ∧ Hid (val5 f' + C * 1073741824 ^ (I + K) = (x % 1073741824 ^ I) * y + dig x I * 1073741824 ^ I * (y % 1073741824 ^ K)) ∧ Below w.heap.size w wv) (fun _ k _ => 5 - (intOf k).toNat)
      case atStart => exact ⟨0, 0, f, by omega, rfl, rfl, by decide, HR, HF, Lib.hid (by rw [HV.out]; simp [Nat.mod_one]), hb⟩
      case round =>
        obtain ⟨K, C, f', hK, rfl, rfl, hC, HR', HF', HV', hb'⟩ := hrel
        by_cases hlk : I + K < 5
        · have d1 := dig_lt x I
          have d2 := dig_lt y K
          have d3 := HF'.out (I + K) hlk
          have e1 := (HX.out.below hb' rfl I hlt).1
          have e2 := (HY.out.below hb' rfl K (by omega)).1
          obtain ⟨e3, e4⟩ := HR'.out (I + K) hlk
          have j0 : (0 : Int) ≤ (K : Int) := by omega
          have j1 : (K : Int) < 5 := by omega
          have j2 : (I : Int) + (K : Int) < 5 := by omega
          have j3 : (0 : Int) ≤ (I : Int) + (K : Int) := by omega
          have j4 : ((I : Int) + (K : Int)).toNat = I + K := by omega
          obtain ⟨p, hp⟩ : ∃ p, p = dig x I * dig y K := ⟨_, rfl⟩
          have hpm : p ≤ 1073741823 * 1073741823 := by rw [hp]; exact Nat.mul_le_mul (by omega) (by omega)
          have pc : ((dig x I : Nat) : Int) * ((dig y K : Nat) : Int) = (p : Int) := by rw [hp, Int.natCast_mul]
          have HPp := Lib.hid hp
          clear hp
          go_wp2_with fail
          go_quiet (fail)
          go_wp2_with fail
          refine ⟨⟨K + 1, (C + f' (I + K) + p) / 1073741824, fun j => if j = I + K then (C + f' (I + K) + p) % 1073741824 else f' j, by omega, congrArg (Value.int .i64) (by omega), congrArg (Value.int .i64) (by omega), by omega,
            Lib.hid (row_congr (row_set (HR'.out.drew nq) hlk _) fun j hj => ?_), Lib.hid fun j hj => ?_, Lib.hid (row_next HV'.out HPp.out (val_set f' (I + K) _ hlk)), Below.setCell (below_drewN hb' nq) (Nat.le_refl _) _⟩, by simp [intOf]; omega⟩
          · by_cases hj : j = I + K
            · simp only [if_pos hj]; omega
            · simp only [if_neg hj]
          · by_cases hj : j = I + K
            · simp only [if_pos hj]; omega
            · simp only [if_neg hj]; exact HF'.out j (by assumption)
        · have ek : K = 5 - I := by omega
          have j2 : ¬ (I : Int) + (K : Int) < 5 := by omega
          have HE := Lib.hid (show val5 f' = (x % 1073741824 ^ (I + 1)) * y by
            have := HV'.out
            rw [show I + K = 5 by omega, ek] at this
            exact row_end hlt HP.out this)
          clear ek hlk
          go_wp2_with fail
          exact ⟨⟨I + 1, f', by omega, congrArg (Value.int .i64) (by omega), HR', HF', HE, hb'⟩, by simp [intOf]; omega⟩
    · have e5 : I = 5 := by omega
      subst e5
      go_wp2_with fail
      go_ret
      have hv := HV.out
      rw [Nat.mod_eq_of_lt HL.out] at hv
      exact ⟨_, rfl, Nat.le_refl _, row_congr HR.out fun j hj => by rw [dig_val HF.out hv j hj], hb⟩

end Go.Proofs.YtfbijgbpipedoaaGreatDoor

namespace Go.Proofs.YtfbijgbpipedoaaGreatDoor
open Go.RowKit

/-- bit i -/
def bit (x i : Nat) : Nat := x / 2 ^ i % 2
theorem bit_dig (x j s : Nat) (hs : s < 30) : dig x j / 2 ^ s % 2 = bit x (30 * j + s) := by
  unfold dig bit
  have e1 : (1073741824 : Nat) ^ j = 2 ^ (30 * j) := by rw [show (1073741824 : Nat) = 2 ^ 30 from rfl, ← Nat.pow_mul]
  have e2 : (2 : Nat) ^ 30 = 2 ^ s * 2 ^ (30 - s) := by rw [← Nat.pow_add]; congr 1; omega
  rw [e1, Nat.pow_add, ← Nat.div_div_eq_div_mul]
  generalize x / 2 ^ (30 * j) = z
  rw [show (1073741824 : Nat) = 2 ^ 30 from rfl, e2, Nat.mod_mul_right_div_self, Nat.mod_mod_of_dvd]
  obtain ⟨t, ht⟩ : ∃ t, 30 - s = t + 1 := ⟨30 - s - 1, by omega⟩
  rw [ht, Nat.pow_succ]
  exact Nat.dvd_mul_left _ _
theorem div_bit (x i : Nat) : x / 2 ^ i = 2 * (x / 2 ^ (i + 1)) + bit x i := by
  unfold bit
  rw [Nat.pow_succ, ← Nat.div_div_eq_div_mul]
  omega
/-- one step of the division, bit by bit -/
theorem step_mod (x b i : Nat) (hb : 0 < b) : x / 2 ^ i % b = if b ≤ 2 * (x / 2 ^ (i + 1) % b) + bit x i then 2 * (x / 2 ^ (i + 1) % b) + bit x i - b else 2 * (x / 2 ^ (i + 1) % b) + bit x i := by
  rw [div_bit x i]
  generalize x / 2 ^ (i + 1) = z
  have hl : bit x i < 2 := Nat.mod_lt _ (by decide)
  generalize bit x i = t at *
  have h1 := Nat.mod_lt z hb
  have h2 : (2 * z + t) % b = (2 * (z % b) + t) % b := by
    have := Nat.div_add_mod z b
    calc (2 * z + t) % b = (2 * (b * (z / b) + z % b) + t) % b := by rw [this]
      _ = ((2 * (z % b) + t) + b * (2 * (z / b))) % b := by congr 1; grind
      _ = _ := Nat.add_mul_mod_self_left _ _ _
  rw [h2]
  split
  · rename_i h
    rw [Nat.mod_eq_sub_mod h, Nat.mod_eq_of_lt (by omega)]
  · exact Nat.mod_eq_of_lt (by omega)
theorem step_div (x b i : Nat) (hb : 0 < b) : x / 2 ^ i / b = if b ≤ 2 * (x / 2 ^ (i + 1) % b) + bit x i then 2 * (x / 2 ^ (i + 1) / b) + 1 else 2 * (x / 2 ^ (i + 1) / b) := by
  rw [div_bit x i]
  generalize x / 2 ^ (i + 1) = z
  have hl : bit x i < 2 := Nat.mod_lt _ (by decide)
  generalize bit x i = t at *
  have h1 := Nat.mod_lt z hb
  have h3 := Nat.div_add_mod z b
  have e : 2 * z + t = b * (2 * (z / b)) + (2 * (z % b) + t) := by grind
  rw [e, Nat.mul_add_div hb]
  split
  · rename_i h
    have : (2 * (z % b) + t) / b = 1 := Nat.div_eq_of_lt_le (by omega) (by omega)
    rw [this]
  · have : (2 * (z % b) + t) / b = 0 := Nat.div_eq_of_lt (by omega)
    rw [this]
    rfl
/-- a bit put into a number that has none there or below -/
theorem dig_put (q i : Nat) (hi : i < 150) (j : Nat) : dig (q * 2 ^ (i + 1) + 2 ^ i) j = if j = i / 30 then dig (q * 2 ^ (i + 1)) j + 2 ^ (i % 30) else dig (q * 2 ^ (i + 1)) j := by
  obtain ⟨m, s, hs, rfl⟩ : ∃ m s, s < 30 ∧ i = 30 * m + s := ⟨i / 30, i % 30, Nat.mod_lt _ (by decide), (Nat.div_add_mod i 30).symm⟩
  have em : (30 * m + s) / 30 = m := by omega
  have es : (30 * m + s) % 30 = s := by omega
  rw [em, es]
  have e1 : ∀ k, (1073741824 : Nat) ^ k = 2 ^ (30 * k) := fun k => by rw [show (1073741824 : Nat) = 2 ^ 30 from rfl, ← Nat.pow_mul]
  unfold dig
  rw [e1]
  rcases Nat.lt_trichotomy j m with h | h | h
  · rw [if_neg (by omega)]
    -- both are multiples of 2^(30 (j + 1))
    obtain ⟨d, rfl⟩ : ∃ d, m = j + 1 + d := ⟨m - j - 1, by omega⟩
    have p1 : 2 ^ (30 * (j + 1 + d) + s + 1) = 2 ^ (30 * j) * (1073741824 * 2 ^ (30 * d + s + 1)) := by
      rw [show (1073741824 : Nat) = 2 ^ 30 from rfl, ← Nat.pow_add, ← Nat.pow_add]; congr 1; omega
    have p2 : 2 ^ (30 * (j + 1 + d) + s) = 2 ^ (30 * j) * (1073741824 * 2 ^ (30 * d + s)) := by
      rw [show (1073741824 : Nat) = 2 ^ 30 from rfl, ← Nat.pow_add, ← Nat.pow_add]; congr 1; omega
    rw [p1, p2, show q * (2 ^ (30 * j) * (1073741824 * 2 ^ (30 * d + s + 1))) + 2 ^ (30 * j) * (1073741824 * 2 ^ (30 * d + s)) = 2 ^ (30 * j) * (1073741824 * (q * 2 ^ (30 * d + s + 1) + 2 ^ (30 * d + s))) by grind,
      show q * (2 ^ (30 * j) * (1073741824 * 2 ^ (30 * d + s + 1))) = 2 ^ (30 * j) * (1073741824 * (q * 2 ^ (30 * d + s + 1))) by grind,
      Nat.mul_div_cancel_left _ (Nat.pow_pos (by decide)), Nat.mul_div_cancel_left _ (Nat.pow_pos (by decide)), Nat.mul_mod_right, Nat.mul_mod_right]
  · subst h
    rw [if_pos rfl]
    have p1 : 2 ^ (30 * j + s + 1) = 2 ^ (30 * j) * 2 ^ (s + 1) := by rw [← Nat.pow_add]; rfl
    have p2 : 2 ^ (30 * j + s) = 2 ^ (30 * j) * 2 ^ s := Nat.pow_add _ _ _
    have p3 : (1073741824 : Nat) = 2 ^ (s + 1) * 2 ^ (29 - s) := by rw [← Nat.pow_add, show s + 1 + (29 - s) = 30 by omega]
    rw [p1, p2, show q * (2 ^ (30 * j) * 2 ^ (s + 1)) + 2 ^ (30 * j) * 2 ^ s = 2 ^ (30 * j) * (2 ^ (s + 1) * q + 2 ^ s) by grind,
      show q * (2 ^ (30 * j) * 2 ^ (s + 1)) = 2 ^ (30 * j) * (2 ^ (s + 1) * q) by grind,
      Nat.mul_div_cancel_left _ (Nat.pow_pos (by decide)), Nat.mul_div_cancel_left _ (Nat.pow_pos (by decide)), p3]
    have hps : 2 ^ s < 2 ^ (s + 1) := Nat.pow_lt_pow_right (by decide) (by omega)
    rw [Nat.mod_mul, Nat.mul_add_mod, Nat.mod_eq_of_lt hps, Nat.mul_add_div (Nat.pow_pos (by decide)), Nat.div_eq_of_lt hps, Nat.mul_mod_mul_left, Nat.add_comm]
    simp only [Nat.add_zero]
  · rw [if_neg (by omega)]
    have hlt : 2 ^ (30 * m + s) < 2 ^ (30 * m + s + 1) := Nat.pow_lt_pow_right (by decide) (by omega)
    have p : 2 ^ (30 * j) = 2 ^ (30 * m + s + 1) * 2 ^ (30 * j - (30 * m + s + 1)) := by rw [← Nat.pow_add]; congr 1; omega
    rw [p, ← Nat.div_div_eq_div_mul, ← Nat.div_div_eq_div_mul, Nat.mul_comm q, Nat.mul_add_div (Nat.pow_pos (by decide)), Nat.div_eq_of_lt hlt, Nat.add_zero, Nat.mul_div_cancel_left _ (Nat.pow_pos (by decide))]
theorem dig_bit (r t : Nat) (ht : t < 2) (j : Nat) : dig (2 * r + t) j = if j = 0 then dig (2 * r) j + t else dig (2 * r) j := by
  unfold dig
  by_cases h : j = 0
  · subst h
    simp only [Nat.pow_zero, Nat.div_one, if_true]
    omega
  · rw [if_neg h]
    obtain ⟨k, rfl⟩ : ∃ k, j = k + 1 := ⟨j - 1, by omega⟩
    have e : (1073741824 : Nat) ^ (k + 1) = 2 * (536870912 * 1073741824 ^ k) := by rw [Nat.pow_succ]; omega
    rw [e]
    generalize 536870912 * 1073741824 ^ k = m
    rw [← Nat.div_div_eq_div_mul, ← Nat.div_div_eq_div_mul, show (2 * r + t) / 2 = 2 * r / 2 by omega]

theorem row_far {w : World} {g k j : Nat} {f : Nat → Int} (v : Value) (h : Row5 w g f) (hk : k ≠ g) : Row5 (w.setCell ⟨k, j, none⟩ v) g f := fun i hi => by
  have hne : (⟨k, j, none⟩ : Addr) ≠ ⟨g, i, none⟩ := by intro he; injection he with h1 _; exact hk h1
  exact ⟨by rw [World.cell?_setCell_other _ _ _ _ hne]; exact (h i hi).1, by simp [go_sem, (h i hi).2]⟩
theorem num_bit {w : World} {g r t : Nat} (h : Num w g (2 * r)) (ht : t < 2) : Num (w.setCell ⟨g, 0, none⟩ (.int .i64 ((dig (2 * r) 0 : Nat) + (t : Nat) : Int))) g (2 * r + t) :=
  row_congr (row_set h (by decide) _) fun j _ => by
    rw [dig_bit r t ht j]
    by_cases hj : j = 0
    · subst hj; simp
    · simp [hj]
theorem num_put {w : World} {g q i j s : Nat} (h : Num w g (q * 2 ^ (i + 1))) (hi : i < 150) (ej : i / 30 = j) (es : i % 30 = s) : Num (w.setCell ⟨g, j, none⟩ (.int .i64 ((dig (q * 2 ^ (i + 1)) j : Nat) + (2 ^ s : Nat) : Int))) g (q * 2 ^ (i + 1) + 2 ^ i) :=
  row_congr (row_set h (by omega) _) fun k _ => by
    rw [dig_put q i hi k, ej, es]
    by_cases hk : k = j
    · subst hk; simp
    · simp [hk]
theorem wrap_put (d b : Nat) (hd : d < 1073741824) (hb : b ≤ 536870912) : wrap64 ((d : Int) + wrap64 (b : Int)) = (d : Int) + (b : Int) := by
  unfold wrap64
  omega
theorem Row5.drew1 {w : World} {g : Nat} {f : Nat → Int} (h : Row5 w g f) : Row5 w.drew g f := h.below (Below.drew (Below.refl _ _)) h.lt

end Go.Proofs.YtfbijgbpipedoaaGreatDoor

namespace Go.Proofs.YtfbijgbpipedoaaGreatDoor
open Go.RowKit

set_option maxHeartbeats 8000000 in
theorem over_num (g h x y : Nat) (w : World) (hx : Num w g x) (hy : Num w h y) (lx : x < 1073741824 ^ 5) (ly : 2 * y ≤ 1073741824 ^ 5) (y0 : 0 < y) :
    Calls Tryz.prog 79 #[.slice (some ⟨g, 0, none⟩) 5 5, .slice (some ⟨h, 0, none⟩) 5 5] w fun e w' => ∃ k m, e = .returned (.tuple #[.slice (some ⟨k, 0, none⟩) 5 5, .slice (some ⟨m, 0, none⟩) 5 5]) ∧ w.heap.size ≤ k ∧ w.heap.size ≤ m ∧ Num w' k (x / y) ∧ Num w' m (x % y) ∧ Below w.heap.size w w' := by
  have HX := Lib.hid hx
  have HY := Lib.hid hy
  have LX := Lib.hid lx
  have LY := Lib.hid ly
  have Y0 := Lib.hid y0
  clear hx hy lx ly y0
  have hmk := mk5
  go_enter Tryz.func79, Tryz.ntmps79
  go_wp2_with fail
  have R0 := Lib.hid (row_new w)
  have Z := row_new (w.alloc (.cells #[.int .i64 0, .int .i64 0, .int .i64 0, .int .i64 0, .int .i64 0] 3))
  have B1 : Below w.heap.size w (w.alloc (.cells #[.int .i64 0, .int .i64 0, .int .i64 0, .int .i64 0, .int .i64 0] 3)) := (Below.refl _ _).alloc (Nat.le_refl _) _
  have B2 : Below w.heap.size w ((w.alloc (.cells #[.int .i64 0, .int .i64 0, .int .i64 0, .int .i64 0, .int .i64 0] 3)).alloc (.cells #[.int .i64 0, .int .i64 0, .int .i64 0, .int .i64 0, .int .i64 0] 3)) := B1.alloc (by simp) _
  have R1 := Lib.hid Z
  have R2 := Lib.hid (R0.out.below ((Below.refl _ _).alloc (Nat.le_refl _) (.cells #[.int .i64 0, .int .i64 0, .int .i64 0, .int .i64 0, .int .i64 0] 3)) (Row5.lt R0.out))
  clear Z
  go_loopw [7, 8] (fun r i wr => ∃ (n m : Nat), n ≤ 150 ∧ i = .int .i64 ((n : Int) - 1) ∧ r = .slice (some ⟨m, 0, none⟩) 5 5 ∧ w.heap.size < m ∧ Hid (Num wr m (x / 2 ^ n % y)) ∧ Hid (Num wr w.heap.size (x / 2 ^ n / y * 2 ^ n)) ∧ Below w.heap.size w wr) (fun _ i _ => (intOf i + 1).toNat)
  case atStart =>
    have e : x / 2 ^ 150 = 0 := Nat.div_eq_of_lt (Nat.lt_of_lt_of_le LX.out (by decide))
    exact ⟨150, w.heap.size + 1, by decide, rfl, rfl, by omega, Lib.hid (by rw [e, Nat.zero_mod]; exact num_zero (by simpa using R1.out)), Lib.hid (by rw [e, Nat.zero_div, Nat.zero_mul]; exact num_zero R2.out), B2⟩
  case round =>
    obtain ⟨n, m, hn, rfl, rfl, hm, HR, HQ, hb⟩ := hrel
    by_cases h0 : n = 0
    · subst h0
      go_wp2_with fail
      have q1 := HQ.out
      have r1 := HR.out
      simp only [Nat.pow_zero, Nat.div_one, Nat.mul_one] at q1 r1
      exact bodyPost_ret (v := .tuple #[.slice (some ⟨w.heap.size, 0, none⟩) 5 5, .slice (some ⟨m, 0, none⟩) 5 5]) (by simp [results, Tryz.results79, go_sem]) rfl ⟨_, _, rfl, Nat.le_refl _, by omega, q1, r1, hb⟩
    · obtain ⟨i, rfl⟩ : ∃ i, n = i + 1 := ⟨n - 1, by omega⟩
      obtain ⟨j, s, hs, hj, ei⟩ : ∃ j s, s < 30 ∧ j < 5 ∧ i = 30 * j + s := ⟨i / 30, i % 30, Nat.mod_lt _ (by decide), by omega, (Nat.div_add_mod i 30).symm⟩
      have f1 : (i : Int) / 30 = (j : Int) := by omega
      have f2 : (i : Int) % 30 = (s : Int) := by omega
      have f3 : i / 30 = j := by omega
      have f4 : i % 30 = s := by omega
      have i150 : i < 150 := by omega
      have EI := Lib.hid ei
      clear ei hn
      have hi : ((i + 1 : Nat) : Int) - 1 = i := by omega
      rw [hi]
      clear hi h0
      obtain ⟨R, hR⟩ : ∃ R, R = x / 2 ^ (i + 1) % y := ⟨_, rfl⟩
      rw [← hR] at HR
      have HRe := Lib.hid hR
      have hRl : R < y := by rw [hR]; exact Nat.mod_lt _ Y0.out
      have HRl := Lib.hid hRl
      clear hR hRl
      have P := Lib.hid (plus_num m m R R wr HR.out HR.out)
      have k0 : (0 : Int) ≤ (i : Int) := by omega
      go_wp2_with fail
      refine P.out.mono ?_
      rintro e w1 ⟨m1, rfl, hm1, N1, b1⟩
      have HX1 := HX.out.below (Below.trans hb (b1.mono hb.size)) rfl
      obtain ⟨e1, _⟩ := HX1 j hj
      obtain ⟨e3, e4⟩ := N1 0 (by decide)
      have d1 := dig_lt x j
      have d3 := dig_lt (R + R) 0
      have j0 : (0 : Int) ≤ (j : Int) := by omega
      have j1 : (j : Int) < 5 := by omega
      have s0 : (0 : Int) ≤ (s : Int) := by omega
      have s1 : (s : Int) < 30 := by omega
      rw [show R + R = 2 * R by omega] at N1 d3 e3
      have HN1 := Lib.hid N1
      obtain ⟨t, ht⟩ : ∃ t, t = bit x i := ⟨_, rfl⟩
      have t2 : t < 2 := by rw [ht]; exact Nat.mod_lt _ (by decide)
      have tv : (((dig x j : Nat) : Int) / 2 ^ s).tmod 2 = (t : Int) := by
        rw [ht, EI.out, ← bit_dig x j s hs]
        have : (0 : Int) ≤ ((dig x j : Nat) : Int) / 2 ^ s := Int.ediv_nonneg (by omega) (Int.le_of_lt (Int.pow_pos (by decide)))
        rw [Int.tmod_eq_emod_of_nonneg this]
        simp
      have HT := Lib.hid ht
      have B1w := Below.trans hb (b1.mono hb.size)
      have NQ1 := Lib.hid (HQ.out.below b1 rfl)
      have hm1' : w.heap.size < m1 := by have := Row5.lt HQ.out; omega
      clear N1 HX1 ht
      go_wp2_with fail
      go_region
      have NR2 := Lib.hid (Row5.drew1 (num_bit HN1.out t2))
      have NQ2 := Lib.hid (Row5.drew1 (row_far (j := 0) (.int .i64 ((dig (2 * R) 0 : Nat) + (t : Nat) : Int)) NQ1.out (show m1 ≠ w.heap.size by omega)))
      have B2w := Below.drew (Below.setCell (p := ⟨m1, 0, none⟩) B1w (by simp only; omega) (.int .i64 ((dig (2 * R) 0 : Nat) + (t : Nat) : Int)))
      generalize (w1.setCell ⟨m1, 0, none⟩ (.int .i64 ((dig (2 * R) 0 : Nat) + (t : Nat) : Int))).drew = w2 at *
      obtain ⟨S, hS⟩ : ∃ S, S = 2 * R + t := ⟨_, rfl⟩
      rw [← hS] at NR2
      have HS := Lib.hid hS
      have hRl := HRl.out
      have ls : S < 1073741824 ^ 5 := by have := LY.out; simp only [Nat.reducePow] at *; omega
      have ly5 : y < 1073741824 ^ 5 := by have := LY.out; simp only [Nat.reducePow] at *; omega
      have C := Lib.hid (cmp_num m1 h S y w2 NR2.out (HY.out.below B2w rfl) ls ly5)
      have hmod := Lib.hid (step_mod x y i Y0.out)
      have hdiv := Lib.hid (step_div x y i Y0.out)
      clear hS hRl ls ly5 e1 e3 e4 d1 d3 tv b1 B1w hm1
      by_cases hge : y ≤ S
      · have hc : 0 ≤ cmpNat S y := by
          unfold cmpNat
          rw [if_neg (by omega)]
          split <;> omega
        have HG := Lib.hid hge
        clear hge
        go_wp2_with fail
        refine C.out.mono ?_
        rintro e w3 ⟨rfl, b3⟩
        have B3w := Below.trans B2w (b3.mono B2w.size)
        have M := Lib.hid (minus_num m1 h S y w3 (Row5.below NR2.out b3 (Row5.lt NR2.out)) (HY.out.below B3w rfl) HG.out)
        go_wp2_with fail
        refine M.out.mono ?_
        rintro e w4 ⟨m2, rfl, hm2, N4, b4⟩
        have B4w := Below.trans B3w (b4.mono B3w.size)
        have NQ4 : Num w4 w.heap.size (x / 2 ^ (i + 1) / y * 2 ^ (i + 1)) := (NQ2.out.below b3 (Row5.lt NQ2.out)).below b4 (Row5.lt (NQ2.out.below b3 (Row5.lt NQ2.out)))
        obtain ⟨e1, e2⟩ := NQ4 j hj
        have dq := dig_lt (x / 2 ^ (i + 1) / y * 2 ^ (i + 1)) j
        have hm2' : w.heap.size < m2 := by have := Row5.lt (NQ2.out.below b3 (Row5.lt NQ2.out)); omega
        have NP := Lib.hid (Row5.drew1 (num_put NQ4 i150 f3 f4))
        have N5 := Lib.hid (Row5.drew1 (row_far (j := j) (.int .i64 ((dig (x / 2 ^ (i + 1) / y * 2 ^ (i + 1)) j : Nat) + (2 ^ s : Nat) : Int)) N4 (show w.heap.size ≠ m2 by omega)))
        have B5w := Below.drew (Below.setCell (p := ⟨w.heap.size, j, none⟩) B4w (Nat.le_refl _) (.int .i64 ((dig (x / 2 ^ (i + 1) / y * 2 ^ (i + 1)) j : Nat) + (2 ^ s : Nat) : Int)))
        have s29 : (2 : Nat) ^ s ≤ 536870912 := by
          have := Nat.pow_le_pow_right (show 0 < 2 by decide) (show s ≤ 29 by omega)
          simpa using this
        clear N4 NQ4
        go_wp2_with fail
        go_region
        have wv : wrap64 (((dig (x / 2 ^ (i + 1) / y * 2 ^ (i + 1)) j : Nat) : Int) + wrap64 ((2 : Int) ^ s)) = ((dig (x / 2 ^ (i + 1) / y * 2 ^ (i + 1)) j : Nat) : Int) + ((2 ^ s : Nat) : Int) := by
          have e0 : ((2 : Int) ^ s) = ((2 ^ s : Nat) : Int) := by simp
          rw [e0]
          exact wrap_put _ _ dq s29
        rw [wv]
        go_wp2_with fail
        have hm' := hmod.out
        have hd' := hdiv.out
        rw [← HRe.out, ← HT.out, ← HS.out, if_pos HG.out] at hm'
        rw [← HRe.out, ← HT.out, ← HS.out, if_pos HG.out] at hd'
        refine ⟨⟨i, m2, by omega, ?_, rfl, hm2', Lib.hid (by rw [hm']; exact N5.out), Lib.hid ?_, B5w⟩, by simp [intOf]⟩
        · rfl
        · rw [hd', show (2 * (x / 2 ^ (i + 1) / y) + 1) * 2 ^ i = x / 2 ^ (i + 1) / y * 2 ^ (i + 1) + 2 ^ i by rw [Nat.pow_succ]; grind]
          exact NP.out
      · have hc : ¬ 0 ≤ cmpNat S y := by
          unfold cmpNat
          rw [if_pos (by omega)]
          decide
        have HG := Lib.hid hge
        clear hge
        go_wp2_with fail
        refine C.out.mono ?_
        rintro e w3 ⟨rfl, b3⟩
        have B3w := Below.trans B2w (b3.mono B2w.size)
        go_wp2_with fail
        have hm' := hmod.out
        have hd' := hdiv.out
        rw [← HRe.out, ← HT.out, ← HS.out, if_neg HG.out] at hm'
        rw [← HRe.out, ← HT.out, ← HS.out, if_neg HG.out] at hd'
        refine ⟨⟨i, m1, by omega, ?_, rfl, hm1', Lib.hid (by rw [hm']; exact Row5.below NR2.out b3 (Row5.lt NR2.out)), Lib.hid ?_, B3w⟩, by simp [intOf]⟩
        · rfl
        · rw [hd', show (2 * (x / 2 ^ (i + 1) / y)) * 2 ^ i = x / 2 ^ (i + 1) / y * 2 ^ (i + 1) by rw [Nat.pow_succ]; grind]
          exact Row5.below NQ2.out b3 (Row5.lt NQ2.out)

end Go.Proofs.YtfbijgbpipedoaaGreatDoor

namespace Go.Proofs.YtfbijgbpipedoaaGreatDoor
open Go.RowKit

/-- the number that a slice holds -/
def readNum (v : Value) (w : World) : Nat :=
  match v with
  | .slice (some a) _ _ => val5 fun j => match w.cell? ⟨a.block, j, none⟩ with | some (.int _ n) => n.toNat | _ => 0
  | _ => 0
theorem val_dig {x : Nat} (h : x < 1073741824 ^ 5) : val5 (dig x) = x := by
  unfold val5 dig
  simp only [Nat.pow_zero, Nat.pow_one, Nat.reducePow] at *
  omega
theorem readNum_of {w : World} {g x : Nat} (h : Num w g x) (hx : x < 1073741824 ^ 5) : readNum (.slice (some ⟨g, 0, none⟩) 5 5) w = x := by
  unfold readNum
  simp only
  rw [← val_dig hx]
  unfold val5
  dsimp only
  rw [(h 0 (by decide)).1, (h 1 (by decide)).1, (h 2 (by decide)).1, (h 3 (by decide)).1, (h 4 (by decide)).1]
  simp

set_option maxHeartbeats 4000000 in
theorem gcd_num (g h x y : Nat) (w : World) (hx : Num w g x) (hy : Num w h y) (lx : x < 1073741824 ^ 5) (ly : 2 * y ≤ 1073741824 ^ 5) :
    Calls Tryz.prog 78 #[.slice (some ⟨g, 0, none⟩) 5 5, .slice (some ⟨h, 0, none⟩) 5 5] w fun e w' => ∃ k, e = .returned (.slice (some ⟨k, 0, none⟩) 5 5) ∧ Num w' k (Nat.gcd x y) ∧ Below w.heap.size w w' := by
  have HX := Lib.hid hx
  have HY := Lib.hid hy
  have LX := Lib.hid lx
  have LY := Lib.hid ly
  clear hx hy lx ly
  go_enter Tryz.func78, Tryz.ntmps78
  go_wp2_with fail
  go_loopw [0, 1] (fun a b wr => ∃ p q ga gb : Nat, a = .slice (some ⟨ga, 0, none⟩) 5 5 ∧ b = .slice (some ⟨gb, 0, none⟩) 5 5 ∧ Hid (Num wr ga p) ∧ Hid (Num wr gb q) ∧ Hid (p < 1073741824 ^ 5) ∧ Hid (2 * q ≤ 1073741824 ^ 5) ∧ Hid (Nat.gcd p q = Nat.gcd x y) ∧ Below w.heap.size w wr) (fun _ b wr => readNum b wr)
  case atStart => exact ⟨x, y, g, h, rfl, rfl, HX, HY, LX, LY, Lib.hid rfl, Below.refl _ _⟩
  case round =>
    obtain ⟨p, q, ga, gb, rfl, rfl, HP, HQ, LP, LQ, HG, hb⟩ := hrel
    have q5 : q < 1073741824 ^ 5 := by have := LQ.out; have := pow_pos' 5; omega
    have Z := Lib.hid (zero_num gb q wr HQ.out q5)
    by_cases h0 : q = 0
    · have e := HG.out
      rw [h0, Nat.gcd_zero_right] at e
      have HE := Lib.hid e
      have hd : decide (q = 0) = true := decide_eq_true h0
      clear e h0 q5
      go_wp2_with fail
      refine Z.out.mono ?_
      rintro e w1 ⟨rfl, b1⟩
      rw [hd]
      clear hd
      go_wp2_with fail
      go_ret
      exact ⟨_, rfl, by rw [← HE.out]; exact HP.out.below b1 rfl, Below.trans hb (b1.mono hb.size)⟩
    · have hd : decide (q = 0) = false := decide_eq_false h0
      have HN := Lib.hid h0
      have RQ := Lib.hid (readNum_of HQ.out q5)
      clear h0 q5
      go_wp2_with fail
      refine Z.out.mono ?_
      rintro e w1 ⟨rfl, b1⟩
      rw [hd]
      clear hd
      have hb1 := Below.trans hb (b1.mono hb.size)
      have NP1 := Lib.hid (HP.out.below b1 rfl)
      have NQ1 := Lib.hid (HQ.out.below b1 rfl)
      have O := Lib.hid (over_num ga gb p q w1 NP1.out NQ1.out LP.out LQ.out (Nat.pos_of_ne_zero HN.out))
      go_wp2_with fail
      refine O.out.mono ?_
      rintro e w2 ⟨k1, m1, rfl, hk1, hm1, N1, N2, b2⟩
      have HN2 := Lib.hid N2
      have HNQ := Lib.hid (Num.below NQ1.out b2 rfl)
      clear N1 N2
      go_wp2_with fail
      have hlt := Nat.mod_lt p (Nat.pos_of_ne_zero HN.out)
      refine ⟨⟨q, p % q, gb, m1, rfl, rfl, HNQ, HN2, Lib.hid (by have := LQ.out; have := pow_pos' 5; omega), Lib.hid (by have := LQ.out; omega), Lib.hid (by rw [← HG.out, Nat.gcd_comm, ← Nat.gcd_rec, Nat.gcd_comm]), Below.trans hb1 (b2.mono hb1.size)⟩, ?_⟩
      rw [RQ.out, readNum_of HN2.out (by have := LQ.out; have := pow_pos' 5; omega)]
      exact hlt

end Go.Proofs.YtfbijgbpipedoaaGreatDoor

namespace Go.Proofs.YtfbijgbpipedoaaGreatDoor
open Go.RowKit Ra

theorem of_max : (1152921504606846976 : Int).natAbs = 1152921504606846976 := rfl
/-- three digits are enough for a part of a ratio -/
theorem three_digits {p : Nat} (h : p ≤ 1152921504606846976) : ((dig p 0 : Nat) : Int) + 1073741824 * ((dig p 1 : Nat) : Int) + 1152921504606846976 * ((dig p 2 : Nat) : Int) = (p : Int) ∧ dig p 2 ≤ 1 := by
  unfold dig
  simp only [Nat.pow_zero, Nat.pow_one, Nat.reducePow]
  omega
theorem cmp_max (p : Nat) : (0 < cmpNat p 1152921504606846976) ↔ 1152921504606846976 < p := by
  unfold cmpNat
  split
  · omega
  · split <;> omega

set_option maxHeartbeats 8000000 in
theorem give_num (neg : Bool) (g h x y : Nat) (w : World) (hx : Num w g x) (hy : Num w h y) (lx : x < 1073741824 ^ 5) (ly : 2 * y ≤ 1073741824 ^ 5) (y0 : 0 < y) :
    Calls Tryz.prog 59 #[.bool neg, .slice (some ⟨g, 0, none⟩) 5 5, .slice (some ⟨h, 0, none⟩) 5 5] w fun e w' => e = .returned (.tuple #[Qv (limV (norm (signed neg x) y)), .int .i64 (limE (norm (signed neg x) y))]) ∧ Below w.heap.size w w' := by
  rw [norm_signed]
  have g0 : 0 < Nat.gcd x y := Nat.gcd_pos_of_pos_right _ y0
  have gl : Nat.gcd x y ≤ y := Nat.gcd_le_right _ y0
  have pl : x / Nat.gcd x y ≤ x := Nat.div_le_self _ _
  have ql : y / Nat.gcd x y ≤ y := Nat.div_le_self _ _
  have GC := fun w hx hy => gcd_num g h x y w hx hy lx ly
  obtain ⟨G, hG⟩ : ∃ G, G = Nat.gcd x y := ⟨_, rfl⟩
  rw [← hG] at g0 gl pl ql GC
  rw [← hG]
  obtain ⟨P, hP⟩ : ∃ P, P = x / G := ⟨_, rfl⟩
  obtain ⟨Q', hQ⟩ : ∃ Q', Q' = y / G := ⟨_, rfl⟩
  have O1 := fun k w hx hk => over_num g k x G w hx hk lx (by omega) g0
  have O2 := fun k w hy hk => over_num h k y G w hy hk (by have := pow_pos' 5; omega) (by omega) g0
  rw [← hP] at pl
  rw [← hQ] at ql
  simp only [← hP] at O1
  simp only [← hQ] at O2
  rw [← hP, ← hQ]
  have p5 : P < 1073741824 ^ 5 := by omega
  have q5 : Q' < 1073741824 ^ 5 := by have := pow_pos' 5; omega
  have P5 := Lib.hid p5
  have Q5 := Lib.hid q5
  have HX := Lib.hid hx
  have HY := Lib.hid hy
  have HGC := Lib.hid GC
  have HO1 := Lib.hid O1
  have HO2 := Lib.hid O2
  clear hx hy lx ly y0 g0 gl pl ql GC hG hP hQ O1 O2 p5 q5
  have hval := Lib.hid (show limV ⟨signed neg P, (Q' : Int)⟩ = (if P ≤ 1152921504606846976 ∧ Q' ≤ 1152921504606846976 then ⟨signed neg P, (Q' : Int)⟩ else ⟨0, 0⟩) by unfold limV top; simp only [signed_abs, Int.natAbs_natCast])
  have herr := Lib.hid (show limE ⟨signed neg P, (Q' : Int)⟩ = (if P ≤ 1152921504606846976 ∧ Q' ≤ 1152921504606846976 then 0 else 3) by unfold limE top; simp only [signed_abs, Int.natAbs_natCast])
  obtain ⟨res, hres⟩ : ∃ r : Q, r = if P ≤ 1152921504606846976 ∧ Q' ≤ 1152921504606846976 then ⟨signed neg P, (Q' : Int)⟩ else ⟨0, 0⟩ := ⟨_, rfl⟩
  obtain ⟨er, her⟩ : ∃ e : Int, e = if P ≤ 1152921504606846976 ∧ Q' ≤ 1152921504606846976 then 0 else 3 := ⟨_, rfl⟩
  rw [hval.out, herr.out, ← hres, ← her]
  have HRES := Lib.hid hres
  have HER := Lib.hid her
  clear hval herr hres her
  obtain ⟨W, hW⟩ : ∃ W, W = w.alloc (.cells #[.int .i64 0, .int .i64 0] 33) := ⟨_, rfl⟩
  have r0 : W.cell? ⟨w.heap.size, 0, none⟩ = some (.int .i64 0) := by rw [hW]; simp [go_sem]
  have r1 : W.cell? ⟨w.heap.size, 1, none⟩ = some (.int .i64 0) := by rw [hW]; simp [go_sem]
  have f0 : W.frozen? ⟨w.heap.size, 0, none⟩ = false := by rw [hW]; simp [go_sem]
  have f1 : W.frozen? ⟨w.heap.size, 1, none⟩ = false := by rw [hW]; simp [go_sem]
  have B0 : Below w.heap.size w W := by rw [hW]; exact Below.alloc (Below.refl _ _) (Nat.le_refl _) _
  have HW := Lib.hid hW
  clear hW
  have X0 := Lib.hid (HX.out.below B0 rfl)
  have Y0 := Lib.hid (HY.out.below B0 rfl)
  have C0 := Lib.hid (HGC.out W X0.out Y0.out)
  go_enter Tryz.func59, Tryz.ntmps59
  go_wp2_with fail
  rw [← HW.out]
  refine C0.out.mono ?_
  rintro e w1 ⟨k1, rfl, N1, b1⟩
  have R1 := pair_old b1 rfl r0 r1 f0 f1
  have B1 := Below.trans B0 (b1.mono B0.size)
  have X1 := Lib.hid (Num.below X0.out b1 rfl)
  have Y1 := Lib.hid (Num.below Y0.out b1 rfl)
  have G1 := Lib.hid N1
  have C1 := Lib.hid (HO1.out k1 w1 X1.out G1.out)
  clear r0 r1 f0 f1 N1
  go_wp2_with fail
  refine C1.out.mono ?_
  rintro e w2 ⟨kp, kr, rfl, hkp, hkr, NP, NR, b2⟩
  obtain ⟨r0, r1, f0, f1⟩ := R1
  have R2 := pair_old b2 rfl r0 r1 f0 f1
  have B2 := Below.trans B1 (b2.mono B1.size)
  have P2 := Lib.hid NP
  have Y2 := Lib.hid (Num.below Y1.out b2 rfl)
  have G2 := Lib.hid (Num.below G1.out b2 rfl)
  have C2 := Lib.hid (HO2.out k1 w2 Y2.out G2.out)
  clear r0 r1 f0 f1 NP NR
  go_wp2_with fail
  refine C2.out.mono ?_
  rintro e w3 ⟨kq, ks, rfl, hkq, hks, NQ, NS, b3⟩
  obtain ⟨r0, r1, f0, f1⟩ := R2
  have R3 := pair_old b3 rfl r0 r1 f0 f1
  have B3 := Below.trans B2 (b3.mono B2.size)
  have P3 := Lib.hid (Num.below P2.out b3 rfl)
  have Q3 := Lib.hid NQ
  have C3 := Lib.hid (of_num 1152921504606846976 w3 (by decide) (by decide))
  clear r0 r1 f0 f1 NQ NS
  go_wp2_with fail
  refine C3.out.mono ?_
  rintro e w4 ⟨km, rfl, hkm, NM, b4⟩
  obtain ⟨r0, r1, f0, f1⟩ := R3
  have R4 := pair_old b4 rfl r0 r1 f0 f1
  have B4 := Below.trans B3 (b4.mono B3.size)
  have P4 := Lib.hid (Num.below P3.out b4 rfl)
  have Q4 := Lib.hid (Num.below Q3.out b4 rfl)
  have C4 := Lib.hid (cmp_num kp km P 1152921504606846976 w4 P4.out NM P5.out (by decide))
  clear r0 r1 f0 f1 NM
  go_wp2_with fail
  refine C4.out.mono ?_
  rintro e w5 ⟨rfl, b5⟩
  obtain ⟨r0, r1, f0, f1⟩ := R4
  have R5 := pair_old b5 rfl r0 r1 f0 f1
  have B5 := Below.trans B4 (b5.mono B4.size)
  have P5' := Lib.hid (Num.below P4.out b5 rfl)
  have Q5' := Lib.hid (Num.below Q4.out b5 rfl)
  clear r0 r1 f0 f1
  by_cases cp : 1152921504606846976 < P
  · have c1 := (cmp_max P).2 cp
    have k1 := HRES.out
    have k2 := HER.out
    rw [if_neg (by omega)] at k1 k2
    subst k1 k2
    obtain ⟨r0, r1, f0, f1⟩ := R5
    clear cp
    go_wp2_with fail
    refine bodyPost_ret (v := .tuple #[.agg #[.int .i64 0, .int .i64 0], .int .i64 3]) (by simp [results, Tryz.results59, go_sem, *]) rfl ⟨rfl, ?_⟩
    exact Below.setCell (Below.setCell B5 (by simp only; omega) _) (by simp only; omega) _
  have c1 : ¬ 0 < cmpNat P 1152921504606846976 := fun hh => cp ((cmp_max P).1 hh)
  have C5 := Lib.hid (of_num 1152921504606846976 w5 (by decide) (by decide))
  have CP := Lib.hid cp
  clear cp
  go_wp2_with fail
  refine C5.out.mono ?_
  rintro e w6 ⟨kn, rfl, hkn, NN, b6⟩
  obtain ⟨r0, r1, f0, f1⟩ := R5
  have R6 := pair_old b6 rfl r0 r1 f0 f1
  have B6 := Below.trans B5 (b6.mono B5.size)
  have P6 := Lib.hid (Num.below P5'.out b6 rfl)
  have Q6 := Lib.hid (Num.below Q5'.out b6 rfl)
  have C6 := Lib.hid (cmp_num kq kn Q' 1152921504606846976 w6 Q6.out NN Q5.out (by decide))
  clear r0 r1 f0 f1 NN
  go_wp2_with fail
  refine C6.out.mono ?_
  rintro e w7 ⟨rfl, b7⟩
  obtain ⟨r0, r1, f0, f1⟩ := R6
  have R7 := pair_old b7 rfl r0 r1 f0 f1
  have B7 := Below.trans B6 (b7.mono B6.size)
  have P7 := Lib.hid (Num.below P6.out b7 rfl)
  have Q7 := Lib.hid (Num.below Q6.out b7 rfl)
  clear r0 r1 f0 f1
  obtain ⟨r0, r1, f0, f1⟩ := R7
  by_cases cq : 1152921504606846976 < Q'
  · have c2 := (cmp_max Q').2 cq
    have k1 := HRES.out
    have k2 := HER.out
    rw [if_neg (by omega)] at k1 k2
    subst k1 k2
    clear cq
    go_wp2_with fail
    refine bodyPost_ret (v := .tuple #[.agg #[.int .i64 0, .int .i64 0], .int .i64 3]) (by simp [results, Tryz.results59, go_sem, *]) rfl ⟨rfl, ?_⟩
    exact Below.setCell (Below.setCell B7 (by simp only; omega) _) (by simp only; omega) _
  have c2 : ¬ 0 < cmpNat Q' 1152921504606846976 := fun hh => cq ((cmp_max Q').1 hh)
  have hcp := CP.out
  have k1 := HRES.out
  have k2 := HER.out
  rw [if_pos (by omega)] at k1 k2
  subst k1 k2
  obtain ⟨tp, tp2⟩ := three_digits (show P ≤ 1152921504606846976 by omega)
  obtain ⟨tq, tq2⟩ := three_digits (show Q' ≤ 1152921504606846976 by omega)
  have p0 := P7.out 0 (by decide)
  have p1 := P7.out 1 (by decide)
  have p2 := P7.out 2 (by decide)
  have q0 := Q7.out 0 (by decide)
  have q1 := Q7.out 1 (by decide)
  have q2 := Q7.out 2 (by decide)
  have dp0 := dig_lt P 0
  have dp1 := dig_lt P 1
  have dq0 := dig_lt Q' 0
  have dq1 := dig_lt Q' 1
  have p0' := p0.1
  have p1' := p1.1
  have p2' := p2.1
  have q0' := q0.1
  have q1' := q1.1
  have q2' := q2.1
  have TP := Lib.hid tp
  have TQ := Lib.hid tq
  have hq1 := cq
  clear p0 p1 p2 q0 q1 q2 tp tq cq hcp
  go_wp2_with fail
  go_quiet (fail)
  rw [TP.out]
  have nP : IntKind.i64.wrap (-(P : Int)) = -(P : Int) := IntWalk.i64_in _ (by have := CP.out; omega)
  cases neg
  · go_wp2_with fail
    go_region
    rw [TQ.out]
    go_wp2_with fail
    refine bodyPost_ret (v := .tuple #[.agg #[.int .i64 (P : Int), .int .i64 (Q' : Int)], .int .i64 0]) (by simp [results, Tryz.results59, go_sem, *]) rfl ⟨rfl, ?_⟩
    repeat first | exact B7 | refine below_drewN ?_ _ | refine Below.drew ?_ | refine Below.setCell ?_ (by simp only; omega) _
  · go_wp2_with fail
    go_region
    rw [TQ.out]
    go_wp2_with fail
    refine bodyPost_ret (v := .tuple #[.agg #[.int .i64 (-(P : Int)), .int .i64 (Q' : Int)], .int .i64 0]) (by simp [results, Tryz.results59, go_sem, *]) rfl ⟨rfl, ?_⟩
    repeat first | exact B7 | refine below_drewN ?_ _ | refine Below.drew ?_ | refine Below.setCell ?_ (by simp only; omega) _

end Go.Proofs.YtfbijgbpipedoaaGreatDoor

namespace Go.Proofs.YtfbijgbpipedoaaGreatDoor
open Go.RowKit Ra
attribute [local go_sem ↓] Go.wp_at_zero Go.wp_at_succ

theorem cmp_one (p : Nat) : (cmpNat p 1 == 0) = decide (p = 1) := by
  unfold cmpNat
  rcases Nat.lt_trichotomy p 1 with h | h | h
  · rw [if_pos h]; simp; omega
  · subst h; simp
  · rw [if_neg (by omega), if_pos h]; simp; omega
theorem b5 : (1152921504606846976 : Nat) < 1073741824 ^ 5 := by decide
theorem n63 {n : Int} (n0 : -9223372036854775808 ≤ n) (n1 : n ≤ 9223372036854775807) : n.natAbs < 1073741824 ^ 5 ∧ 2 * n.natAbs ≤ 1073741824 ^ 5 := by
  simp only [Nat.reducePow]
  omega
theorem box_hold' {n d : Int} {k B : Nat} {w0 wx w' : World} (hk : Below B wx w') (hB : B = wx.heap.size) (h : wx.cell? ⟨k, 0, none⟩ = some (.int .i64 n) ∧ wx.cell? ⟨k, 1, none⟩ = some (.int .i64 d) ∧ Below k w0 wx) : w'.cell? ⟨k, 0, none⟩ = some (.int .i64 n) ∧ w'.cell? ⟨k, 1, none⟩ = some (.int .i64 d) ∧ Below k w0 w' := by
  subst hB
  obtain ⟨h1, h2, h3⟩ := h
  have hl := World.block_lt_of_cell? wx _ h1
  simp only at hl
  exact ⟨by rw [hk.cell (by simp only; omega)]; exact h1, by rw [hk.cell (by simp only; omega)]; exact h2, Below.trans h3 (hk.mono (by omega))⟩

set_option maxHeartbeats 8000000 in
theorem rright_any (a : Q) (w : World) (ha : Q64 a) :
    Calls Tryz.prog 63 #[.agg #[.int .i64 a.n, .int .i64 a.d]] w fun e w' => e = .returned (.bool (rightB a)) ∧ Below w.heap.size w w' := by
  obtain ⟨a1, a2, a3, a4⟩ := ha
  have hn5 := n63 a1 a2
  have hd5 := n63 a3 a4
  obtain ⟨W, hW⟩ : ∃ W, W = Box1 a w := ⟨_, rfl⟩
  obtain ⟨c1, c2, _, B0⟩ : HoldB a w.heap.size w W := by rw [hW]; exact box_at a w
  unfold Box1 at hW
  have HW := Lib.hid hW
  clear hW
  obtain ⟨r, hr⟩ : ∃ r, r = rightB a := ⟨_, rfl⟩
  rw [← hr]
  have HR := Lib.hid hr
  clear hr
  by_cases h1 : a.d < 1
  · obtain rfl : r = false := by rw [HR.out]; unfold rightB; simp; omega
    go_enter Tryz.func63, Tryz.ntmps63
    go_wp2_with fail
    rw [← HW.out]
    go_ret
    exact ⟨rfl, B0⟩
  have C1 := Lib.hid (of_num a.d W a3 a4)
  go_enter Tryz.func63, Tryz.ntmps63
  go_wp2_with fail
  rw [← HW.out]
  refine C1.out.mono ?_
  rintro e w1 ⟨k1, rfl, hk1, N1, b1⟩
  have H1 := box_hold' b1 rfl ⟨c1, c2, B0⟩
  clear c1 c2 B0
  obtain ⟨c1, c2, B1⟩ := H1
  have D1 := Lib.hid N1
  have C2 := Lib.hid (of_num 1152921504606846976 w1 (by decide) (by decide))
  clear N1
  go_wp2_with fail
  refine C2.out.mono ?_
  rintro e w2 ⟨k2, rfl, hk2, N2, b2⟩
  have H2 := box_hold' b2 rfl ⟨c1, c2, B1⟩
  clear c1 c2 B1
  obtain ⟨c1, c2, B2⟩ := H2
  have C3 := Lib.hid (cmp_num k1 k2 a.d.natAbs 1152921504606846976 w2 (D1.out.below b2 rfl) N2 hd5.1 b5)
  clear N2
  go_wp2_with fail
  refine C3.out.mono ?_
  rintro e w3 ⟨rfl, b3⟩
  have H3 := box_hold' b3 rfl ⟨c1, c2, B2⟩
  clear c1 c2 B2
  obtain ⟨c1, c2, B3⟩ := H3
  by_cases h2 : 1152921504606846976 < a.d.natAbs
  · obtain rfl : r = false := by rw [HR.out]; unfold rightB top; simp; omega
    have g1 := (cmp_max a.d.natAbs).2 h2
    clear h2
    go_wp2_with fail
    go_ret
    exact ⟨rfl, B3⟩
  have g1 : ¬ 0 < cmpNat a.d.natAbs 1152921504606846976 := fun hh => h2 ((cmp_max _).1 hh)
  have C4 := Lib.hid (of_num a.n w3 a1 a2)
  go_wp2_with fail
  refine C4.out.mono ?_
  rintro e w4 ⟨k4, rfl, hk4, N4, b4⟩
  have H4 := box_hold' b4 rfl ⟨c1, c2, B3⟩
  clear c1 c2 B3
  obtain ⟨c1, c2, B4⟩ := H4
  have D4 := Lib.hid N4
  have C5 := Lib.hid (of_num 1152921504606846976 w4 (by decide) (by decide))
  clear N4
  go_wp2_with fail
  refine C5.out.mono ?_
  rintro e w5 ⟨k5, rfl, hk5, N5, b5'⟩
  have H5 := box_hold' b5' rfl ⟨c1, c2, B4⟩
  clear c1 c2 B4
  obtain ⟨c1, c2, B5⟩ := H5
  have C6 := Lib.hid (cmp_num k4 k5 a.n.natAbs 1152921504606846976 w5 (D4.out.below b5' rfl) N5 hn5.1 b5)
  clear N5
  go_wp2_with fail
  refine C6.out.mono ?_
  rintro e w6 ⟨rfl, b6⟩
  have H6 := box_hold' b6 rfl ⟨c1, c2, B5⟩
  clear c1 c2 B5
  obtain ⟨c1, c2, B6⟩ := H6
  by_cases h3 : 1152921504606846976 < a.n.natAbs
  · obtain rfl : r = false := by rw [HR.out]; unfold rightB top; simp; omega
    have g2 := (cmp_max a.n.natAbs).2 h3
    clear h3
    go_wp2_with fail
    go_ret
    exact ⟨rfl, B6⟩
  have g2 : ¬ 0 < cmpNat a.n.natAbs 1152921504606846976 := fun hh => h3 ((cmp_max _).1 hh)
  obtain rfl : r = (cmpNat (Nat.gcd a.n.natAbs a.d.natAbs) 1 == 0) := by
    rw [HR.out, cmp_one]
    unfold rightB top
    rw [decide_eq_true (show 1 ≤ a.d by omega), decide_eq_true (show a.d.natAbs ≤ 1152921504606846976 by omega), decide_eq_true (show a.n.natAbs ≤ 1152921504606846976 by omega)]
    simp
  have gl : Nat.gcd a.n.natAbs a.d.natAbs < 1073741824 ^ 5 := by
    have := Nat.gcd_le_right a.n.natAbs (show 0 < a.d.natAbs by omega)
    omega
  have HN5 := Lib.hid hn5
  have HD5 := Lib.hid hd5
  have GL := Lib.hid gl
  have A12 := Lib.hid (And.intro a1 a2)
  have A34 := Lib.hid (And.intro a3 a4)
  clear hn5 hd5 gl h2 h3 a1 a2 a3 a4
  go_wp2_with fail
  go_region_held3 (fun w' => w'.cell? ⟨w.heap.size, 0, none⟩ = some (.int .i64 a.n) ∧ w'.cell? ⟨w.heap.size, 1, none⟩ = some (.int .i64 a.d) ∧ Below w.heap.size w w')
    (first
      | assumption
      | exact box_hold' bt rfl (by assumption)
      | exact box_hold' (Below.drew (Below.refl _ _)) rfl ⟨c1, c2, B6⟩)
    (first
      | (go_at_call_of 60 (Value.int .i64 a.n); refine (of_num a.n _ A12.out.1 A12.out.2).mono ?_; rintro e wt ⟨kA, rfl, hkA, NA, bt⟩; have nA := Lib.hid NA; clear NA)
      | (go_at_call_of 60 (Value.int .i64 a.d); refine (of_num a.d _ A34.out.1 A34.out.2).mono ?_; rintro e wt ⟨kB, rfl, hkB, NB, bt⟩; have nB := Lib.hid NB; have nA := Lib.hid (Num.below nA.out bt rfl); clear NB)
      | (go_at_call_of 60 (Value.int .i64 1); refine (of_num 1 _ (by decide) (by decide)).mono ?_; rintro e wt ⟨kC, rfl, hkC, NC, bt⟩; have nC := Lib.hid NC; have nG := Lib.hid (Num.below nG.out bt rfl); clear NC)
      | (go_at_call 78; refine (gcd_num kA kB _ _ _ nA.out nB.out HN5.out.1 HD5.out.2).mono ?_; rintro e wt ⟨kG, rfl, NG, bt⟩; have nG := Lib.hid NG; clear NG)
      | (go_at_call 80; refine (cmp_num kG kC _ _ _ nG.out nC.out GL.out (by decide)).mono ?_; rintro e wt ⟨rfl, bt⟩))
  all_goals go_wp2_with fail
  all_goals go_ret
  all_goals exact ⟨rfl, (show wt.cell? ⟨w.heap.size, 0, none⟩ = some (.int .i64 a.n) ∧ wt.cell? ⟨w.heap.size, 1, none⟩ = some (.int .i64 a.d) ∧ Below w.heap.size w wt by assumption).2.2⟩

end Go.Proofs.YtfbijgbpipedoaaGreatDoor

namespace Go.Proofs.YtfbijgbpipedoaaGreatDoor
open Go.RowKit Ra
attribute [local go_sem ↓] Go.wp_at_zero Go.wp_at_succ

theorem cmp_ge (x y : Nat) : 0 ≤ cmpNat x y ↔ y ≤ x := by
  unfold cmpNat
  split
  · omega
  · split <;> omega

set_option maxHeartbeats 4000000 in
theorem sum_num (m l : Bool) (g h x y : Nat) (w : World) (hx : Num w g x) (hy : Num w h y) (lx : x < 1073741824 ^ 5) (ly : y < 1073741824 ^ 5) :
    Calls Tryz.prog 72 #[.slice (some ⟨g, 0, none⟩) 5 5, .bool m, .slice (some ⟨h, 0, none⟩) 5 5, .bool l] w fun e w' => ∃ k, e = .returned (.tuple #[.slice (some ⟨k, 0, none⟩) 5 5, .bool (sumM m l x y)]) ∧ w.heap.size ≤ k ∧ Num w' k (sumT m l x y) ∧ Below w.heap.size w w' := by
  unfold sumM sumT
  have HX := Lib.hid hx
  have HY := Lib.hid hy
  by_cases hm : m = l
  · rw [if_pos hm, if_pos hm]
    subst hm
    have P := Lib.hid (plus_num g h x y w hx hy)
    clear hx hy
    go_enter Tryz.func72, Tryz.ntmps72
    go_wp2_with fail
    refine P.out.mono ?_
    rintro e w1 ⟨k, rfl, hk, N, b⟩
    go_wp2_with fail
    exact bodyPost_ret (v := .tuple #[.slice (some ⟨k, 0, none⟩) 5 5, .bool m]) (by simp [results, Tryz.results72, go_sem]) rfl ⟨_, rfl, hk, N, b⟩
  · rw [if_neg hm, if_neg hm]
    have hb : (m == l) = false := by simp [hm]
    have C := Lib.hid (cmp_num g h x y w hx hy lx ly)
    by_cases hlt : x < y
    · rw [if_pos hlt, if_pos hlt]
      have hc : ¬ 0 ≤ cmpNat x y := fun hh => by have := (cmp_ge x y).1 hh; omega
      have HL := Lib.hid hlt
      clear hx hy hlt hm
      go_enter Tryz.func72, Tryz.ntmps72
      go_wp2_with fail
      refine C.out.mono ?_
      rintro e w1 ⟨rfl, b1⟩
      have M := Lib.hid (minus_num h g y x w1 (HY.out.below b1 rfl) (HX.out.below b1 rfl) (Nat.le_of_lt HL.out))
      go_wp2_with fail
      refine M.out.mono ?_
      rintro e w2 ⟨k, rfl, hk, N, b⟩
      go_wp2_with fail
      exact bodyPost_ret (v := .tuple #[.slice (some ⟨k, 0, none⟩) 5 5, .bool l]) (by simp [results, Tryz.results72, go_sem]) rfl ⟨_, rfl, Nat.le_trans b1.size hk, N, Below.trans b1 (b.mono b1.size)⟩
    · rw [if_neg hlt, if_neg hlt]
      have hc : 0 ≤ cmpNat x y := (cmp_ge x y).2 (by omega)
      have HL := Lib.hid hlt
      clear hx hy hlt hm
      go_enter Tryz.func72, Tryz.ntmps72
      go_wp2_with fail
      refine C.out.mono ?_
      rintro e w1 ⟨rfl, b1⟩
      have M := Lib.hid (minus_num g h x y w1 (HX.out.below b1 rfl) (HY.out.below b1 rfl) (Nat.le_of_not_lt HL.out))
      go_wp2_with fail
      refine M.out.mono ?_
      rintro e w2 ⟨k, rfl, hk, N, b⟩
      go_wp2_with fail
      exact bodyPost_ret (v := .tuple #[.slice (some ⟨k, 0, none⟩) 5 5, .bool m]) (by simp [results, Tryz.results72, go_sem]) rfl ⟨_, rfl, Nat.le_trans b1.size hk, N, Below.trans b1 (b.mono b1.size)⟩

theorem rmake_zero (n : Int) (w : World) :
    Calls Tryz.prog 36 #[.int .i64 n, .int .i64 0] w fun e w' => e = .returned (.tuple #[Qv ⟨0, 0⟩, .int .i64 1]) ∧ Below w.heap.size w w' := by
  go_enter Tryz.func36, Tryz.ntmps36
  go_wp2_with fail
  refine bodyPost_ret (v := .tuple #[.agg #[.int .i64 0, .int .i64 0], .int .i64 1]) (by simp [results, Tryz.results36, go_sem]) rfl ⟨rfl, ?_⟩
  repeat first | exact Below.refl _ _ | refine below_drewN ?_ _ | refine Below.setCell ?_ (by simp <;> omega) _ | refine Below.alloc ?_ (by simp <;> omega) _

set_option maxHeartbeats 4000000 in
theorem rmake_core (n d : Int) (neg : Bool) (v u er : Int) (w : World) (n0 : -9223372036854775808 ≤ n) (n1 : n ≤ 9223372036854775807) (d0 : -9223372036854775808 ≤ d) (d1 : d ≤ 9223372036854775807) (hd : (d == 0) = false)
    (hz : (n != 0) = true) (hneg : (decide (n < 0) == decide (d < 0)) = !neg)
    (HV : Hid (∀ (g h : Nat) (w : World), Num w g n.natAbs → Num w h d.natAbs → Calls Tryz.prog 59 #[.bool neg, .slice (some ⟨g, 0, none⟩) 5 5, .slice (some ⟨h, 0, none⟩) 5 5] w fun e w' => e = .returned (.tuple #[.agg #[.int .i64 v, .int .i64 u], .int .i64 er]) ∧ Below w.heap.size w w')) :
    Calls Tryz.prog 36 #[.int .i64 n, .int .i64 d] w fun e w' => e = .returned (.tuple #[.agg #[.int .i64 v, .int .i64 u], .int .i64 er]) ∧ Below w.heap.size w w' := by
  obtain ⟨W, hW⟩ : ∃ W, W = w.alloc (.cells #[.int .i64 0, .int .i64 0] 33) := ⟨_, rfl⟩
  have r0 : W.cell? ⟨w.heap.size, 0, none⟩ = some (.int .i64 0) := by rw [hW]; simp [go_sem]
  have r1 : W.cell? ⟨w.heap.size, 1, none⟩ = some (.int .i64 0) := by rw [hW]; simp [go_sem]
  have f0 : W.frozen? ⟨w.heap.size, 0, none⟩ = false := by rw [hW]; simp [go_sem]
  have f1 : W.frozen? ⟨w.heap.size, 1, none⟩ = false := by rw [hW]; simp [go_sem]
  have B0 : Below w.heap.size w W := by rw [hW]; exact Below.alloc (Below.refl _ _) (Nat.le_refl _) _
  have HW := Lib.hid hW
  clear hW
  have C1 := Lib.hid (of_num n W n0 n1)
  have A34 := Lib.hid (And.intro d0 d1)
  clear n0 n1 d0 d1
  go_enter Tryz.func36, Tryz.ntmps36
  go_wp2_with fail
  rw [← HW.out]
  refine C1.out.mono ?_
  rintro e w1 ⟨k1, rfl, hk1, N1, b1⟩
  have R1 := pair_old b1 rfl r0 r1 f0 f1
  have B1 := Below.trans B0 (b1.mono B0.size)
  have D1 := Lib.hid N1
  have C2 := Lib.hid (of_num d w1 A34.out.1 A34.out.2)
  clear r0 r1 f0 f1 N1
  go_wp2_with fail
  refine C2.out.mono ?_
  rintro e w2 ⟨k2, rfl, hk2, N2, b2⟩
  obtain ⟨r0, r1, f0, f1⟩ := R1
  have R2 := pair_old b2 rfl r0 r1 f0 f1
  have B2 := Below.trans B1 (b2.mono B1.size)
  have C3 := Lib.hid (HV.out k1 k2 w2 (D1.out.below b2 rfl) N2)
  clear r0 r1 f0 f1 N2
  go_wp2_with fail
  refine C3.out.mono ?_
  rintro e w3 ⟨rfl, b3⟩
  obtain ⟨r0, r1, f0, f1⟩ := R2
  obtain ⟨r0, r1, f0, f1⟩ := pair_old b3 rfl r0 r1 f0 f1
  have B3 := Below.trans B2 (b3.mono B2.size)
  go_wp2_with fail
  refine bodyPost_ret (v := .tuple #[.agg #[.int .i64 v, .int .i64 u], .int .i64 er]) (by simp [results, Tryz.results36, go_sem, *]) rfl ⟨rfl, ?_⟩
  exact Below.setCell (Below.setCell B3 (by simp only; omega) _) (by simp only; omega) _

set_option maxHeartbeats 4000000 in
theorem rmake_n0 (d : Int) (v u er : Int) (w : World) (d0 : -9223372036854775808 ≤ d) (d1 : d ≤ 9223372036854775807) (hd : (d == 0) = false)
    (HV : Hid (∀ (g h : Nat) (w : World), Num w g 0 → Num w h d.natAbs → Calls Tryz.prog 59 #[.bool false, .slice (some ⟨g, 0, none⟩) 5 5, .slice (some ⟨h, 0, none⟩) 5 5] w fun e w' => e = .returned (.tuple #[.agg #[.int .i64 v, .int .i64 u], .int .i64 er]) ∧ Below w.heap.size w w')) :
    Calls Tryz.prog 36 #[.int .i64 0, .int .i64 d] w fun e w' => e = .returned (.tuple #[.agg #[.int .i64 v, .int .i64 u], .int .i64 er]) ∧ Below w.heap.size w w' := by
  obtain ⟨W, hW⟩ : ∃ W, W = w.alloc (.cells #[.int .i64 0, .int .i64 0] 33) := ⟨_, rfl⟩
  have r0 : W.cell? ⟨w.heap.size, 0, none⟩ = some (.int .i64 0) := by rw [hW]; simp [go_sem]
  have r1 : W.cell? ⟨w.heap.size, 1, none⟩ = some (.int .i64 0) := by rw [hW]; simp [go_sem]
  have f0 : W.frozen? ⟨w.heap.size, 0, none⟩ = false := by rw [hW]; simp [go_sem]
  have f1 : W.frozen? ⟨w.heap.size, 1, none⟩ = false := by rw [hW]; simp [go_sem]
  have B0 : Below w.heap.size w W := by rw [hW]; exact Below.alloc (Below.refl _ _) (Nat.le_refl _) _
  have HW := Lib.hid hW
  clear hW
  have C1 := Lib.hid (of_num 0 W (by decide) (by decide))
  have A34 := Lib.hid (And.intro d0 d1)
  clear d0 d1
  go_enter Tryz.func36, Tryz.ntmps36
  go_wp2_with fail
  rw [← HW.out]
  refine C1.out.mono ?_
  rintro e w1 ⟨k1, rfl, hk1, N1, b1⟩
  have R1 := pair_old b1 rfl r0 r1 f0 f1
  have B1 := Below.trans B0 (b1.mono B0.size)
  have D1 := Lib.hid N1
  have C2 := Lib.hid (of_num d w1 A34.out.1 A34.out.2)
  clear r0 r1 f0 f1 N1
  go_wp2_with fail
  refine C2.out.mono ?_
  rintro e w2 ⟨k2, rfl, hk2, N2, b2⟩
  obtain ⟨r0, r1, f0, f1⟩ := R1
  have R2 := pair_old b2 rfl r0 r1 f0 f1
  have B2 := Below.trans B1 (b2.mono B1.size)
  have C3 := Lib.hid (HV.out k1 k2 w2 (D1.out.below b2 rfl) N2)
  clear r0 r1 f0 f1 N2
  go_wp2_with fail
  refine C3.out.mono ?_
  rintro e w3 ⟨rfl, b3⟩
  obtain ⟨r0, r1, f0, f1⟩ := R2
  obtain ⟨r0, r1, f0, f1⟩ := pair_old b3 rfl r0 r1 f0 f1
  have B3 := Below.trans B2 (b3.mono B2.size)
  go_wp2_with fail
  refine bodyPost_ret (v := .tuple #[.agg #[.int .i64 v, .int .i64 u], .int .i64 er]) (by simp [results, Tryz.results36, go_sem, *]) rfl ⟨rfl, ?_⟩
  exact Below.setCell (Below.setCell B3 (by simp only; omega) _) (by simp only; omega) _

theorem signed_zero (s : Bool) : signed s 0 = 0 := by unfold signed; cases s <;> rfl
theorem rmake_any (n d : Int) (w : World) (n0 : -9223372036854775808 ≤ n) (n1 : n ≤ 9223372036854775807) (d0 : -9223372036854775808 ≤ d) (d1 : d ≤ 9223372036854775807) :
    Calls Tryz.prog 36 #[.int .i64 n, .int .i64 d] w fun e w' => e = .returned (.tuple #[Qv (makeV n d), .int .i64 (makeE n d)]) ∧ Below w.heap.size w w' := by
  unfold makeV makeE
  by_cases hd : d = 0
  · subst hd
    rw [if_pos rfl, if_pos rfl]
    exact rmake_zero n w
  rw [if_neg hd, if_neg hd]
  have e : (if d < 0 then -n else n) = signed (!(n == 0) && !(decide (n < 0) == decide (d < 0))) n.natAbs := by
    unfold signed
    by_cases h0 : n = 0
    · subst h0; simp
    · by_cases h1 : n < 0 <;> by_cases h2 : d < 0 <;> simp [h0, h1, h2] <;> omega
  rw [e]
  have hn5 := n63 n0 n1
  have hd5 := n63 d0 d1
  by_cases h0 : n = 0
  · subst h0
    simp only [BEq.rfl, Bool.not_true, Bool.false_and]
    exact rmake_n0 d _ _ _ w d0 d1 (by simp [hd]) (Lib.hid fun g h w hx hy => give_num false g h _ _ w hx hy hn5.1 hd5.2 (by omega))
  · refine rmake_core n d _ _ _ _ w n0 n1 d0 d1 (by simp [hd]) (by simp [h0]) ?_ (Lib.hid fun g h w hx hy => give_num _ g h _ _ w hx hy hn5.1 hd5.2 (by omega))
    have : (n == 0) = false := by simp [h0]
    rw [this]
    simp

end Go.Proofs.YtfbijgbpipedoaaGreatDoor

