/- The contracts of ratio's functions, with named results. -/
import Derived.Test.YtfchbkhgoebagaaRFc
namespace Go.Proofs.Ytfchbkhgoebagaa
open Go.RowKit Ra

theorem add_end {a b r : Q} {e : Int} (ha : Q64 a) (hb : Q64 b) (h1 : addV a b = r) (h2 : addE a b = e) : ∀ w, Calls Try.prog 16 #[.agg #[.int .i64 a.n, .int .i64 a.d], .agg #[.int .i64 b.n, .int .i64 b.d]] w fun x w' => x = .returned (.tuple #[.agg #[.int .i64 r.n, .int .i64 r.d], .int .i64 e]) ∧ Below w.heap.size w w' := by
  subst h1 h2
  exact fun w => add_any a b w ha hb
theorem sub_end {a b r : Q} {e : Int} (ha : Q64 a) (hb : Q64 b) (h1 : subV a b = r) (h2 : subE a b = e) : ∀ w, Calls Try.prog 18 #[.agg #[.int .i64 a.n, .int .i64 a.d], .agg #[.int .i64 b.n, .int .i64 b.d]] w fun x w' => x = .returned (.tuple #[.agg #[.int .i64 r.n, .int .i64 r.d], .int .i64 e]) ∧ Below w.heap.size w w' := by
  subst h1 h2
  exact fun w => sub_any a b w ha hb
theorem mul_end {a b r : Q} {e : Int} (ha : Q64 a) (hb : Q64 b) (h1 : mulV a b = r) (h2 : mulE a b = e) : ∀ w, Calls Try.prog 20 #[.agg #[.int .i64 a.n, .int .i64 a.d], .agg #[.int .i64 b.n, .int .i64 b.d]] w fun x w' => x = .returned (.tuple #[.agg #[.int .i64 r.n, .int .i64 r.d], .int .i64 e]) ∧ Below w.heap.size w w' := by
  subst h1 h2
  exact fun w => mul_any a b w ha hb
theorem div_end {a b r : Q} {e : Int} (ha : Q64 a) (hb : Q64 b) (h1 : divV a b = r) (h2 : divE a b = e) : ∀ w, Calls Try.prog 22 #[.agg #[.int .i64 a.n, .int .i64 a.d], .agg #[.int .i64 b.n, .int .i64 b.d]] w fun x w' => x = .returned (.tuple #[.agg #[.int .i64 r.n, .int .i64 r.d], .int .i64 e]) ∧ Below w.heap.size w w' := by
  subst h1 h2
  exact fun w => div_any a b w ha hb
theorem cmp_end {a b : Q} {v : Int} (ha : Q64 a) (hb : Q64 b) (h : cmpV a b = v) : ∀ w, Calls Try.prog 24 #[.agg #[.int .i64 a.n, .int .i64 a.d], .agg #[.int .i64 b.n, .int .i64 b.d]] w fun x w' => x = .returned (.int .i64 v) ∧ Below w.heap.size w w' := by
  subst h
  exact fun w => cmp_any a b w ha hb
theorem floor_end {a : Q} {v : Int} (ha : Q64 a) (h : floorV a = v) : ∀ w, Calls Try.prog 26 #[.agg #[.int .i64 a.n, .int .i64 a.d]] w fun x w' => x = .returned (.int .i64 v) ∧ Below w.heap.size w w' := by
  subst h
  exact fun w => floor_any a w ha
theorem ceil_end {a : Q} {v : Int} (ha : Q64 a) (h : ceilV a = v) : ∀ w, Calls Try.prog 28 #[.agg #[.int .i64 a.n, .int .i64 a.d]] w fun x w' => x = .returned (.int .i64 v) ∧ Below w.heap.size w w' := by
  subst h
  exact fun w => ceil_any a w ha
theorem near_end {a : Q} {v : Int} (ha : Q64 a) (h : nearV a = v) : ∀ w, Calls Try.prog 30 #[.agg #[.int .i64 a.n, .int .i64 a.d]] w fun x w' => x = .returned (.int .i64 v) ∧ Below w.heap.size w w' := by
  subst h
  exact fun w => near_any a w ha
theorem make_end {n d : Int} {r : Q} {e : Int} (n0 : -9223372036854775808 ≤ n) (n1 : n ≤ 9223372036854775807) (d0 : -9223372036854775808 ≤ d) (d1 : d ≤ 9223372036854775807) (h1 : makeV n d = r) (h2 : makeE n d = e) : ∀ w, Calls Try.prog 13 #[.int .i64 n, .int .i64 d] w fun x w' => x = .returned (.tuple #[.agg #[.int .i64 r.n, .int .i64 r.d], .int .i64 e]) ∧ Below w.heap.size w w' := by
  subst h1 h2
  exact fun w => make_any n d w n0 n1 d0 d1

theorem add_vals {a b : Q} (ha : Right a) (hb : Right b) : addV a b = limV (addN a b) ∧ addE a b = limE (addN a b) := by
  unfold addV addE
  rw [(right_iff a).2 ha, (right_iff b).2 hb]
  exact ⟨rfl, rfl⟩
theorem mul_vals {a b : Q} (ha : Right a) (hb : Right b) : mulV a b = limV (mulN a b) ∧ mulE a b = limE (mulN a b) := by
  unfold mulV mulE
  rw [(right_iff a).2 ha, (right_iff b).2 hb]
  exact ⟨rfl, rfl⟩
theorem sub_vals {a b : Q} (ha : Right a) (hb : Right b) : subV a b = limV (addN a (neg b)) ∧ subE a b = limE (addN a (neg b)) := by
  unfold subV subE
  rw [(right_iff b).2 hb]
  exact add_vals ha (right_neg hb)
theorem div_vals {a b : Q} (ha : Right a) (hb : Right b) (hn : b.n ≠ 0) : divV a b = limV (mulN a (inv b)) ∧ divE a b = limE (mulN a (inv b)) := by
  unfold divV divE
  rw [(right_iff b).2 hb, show (b.n != 0) = true by simp [hn]]
  exact mul_vals ha (right_inv hb hn)
theorem right_lim {a : Q} (h : Right a) : limV a = a ∧ limE a = 0 := by
  have h1 := h.lo; have h2 := h.hi; have h3 := h.den; have h4 := h.pos
  exact lim_ok (by unfold top; omega) (by unfold top; omega)
theorem addN_right {a b : Q} (ha : Right a) (hb : Right b) (h : limE (addN a b) = 0) : Right (addN a b) := by
  have a1 := ha.pos
  have b1 := hb.pos
  have hp : 0 < (a.d * b.d).natAbs := by rw [Int.natAbs_mul]; exact Nat.mul_pos (by omega) (by omega)
  have hl := lim_zero h
  unfold addN at hl ⊢
  exact right_of_norm hp hl.1 hl.2
theorem mulN_right {a b : Q} (ha : Right a) (hb : Right b) (h : limE (mulN a b) = 0) : Right (mulN a b) := by
  have a1 := ha.pos
  have b1 := hb.pos
  have hp : 0 < (a.d * b.d).natAbs := by rw [Int.natAbs_mul]; exact Nat.mul_pos (by omega) (by omega)
  have hl := lim_zero h
  unfold mulN at hl ⊢
  exact right_of_norm hp hl.1 hl.2
theorem lim_val0 {q : Q} (h : limE q = 0) : limV q = q := (lim_ok (lim_zero h).1 (lim_zero h).2).1

end Go.Proofs.Ytfchbkhgoebagaa
