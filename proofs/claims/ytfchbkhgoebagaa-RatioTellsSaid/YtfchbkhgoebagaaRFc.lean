/- RatioField: for every three ratios the law holds. -/
import Derived.Test.YtfchbkhgoebagaaRFb
namespace Go.Proofs.Ytfchbkhgoebagaa
open Go.RowKit Ra

def fitsB (a : Q) : Bool := decide (-1000 ≤ a.n) && decide (a.n ≤ 1000) && decide (-1000 ≤ a.d) && decide (a.d ≤ 1000)
theorem fits_end {a : Q} (v : Bool) (h : fitsB a = v) : ∀ w, Calls Try.prog 10 #[.agg #[.int .i64 a.n, .int .i64 a.d], .int .i64 1000] w fun e w' => e = .returned (.bool v) ∧ Below w.heap.size w w' := by
  subst h
  exact fun w => fits_any a 1000 w (by decide) (by decide)

/-- a right ratio whose parts are bounded -/
structure Sm (a : Q) (m k : Nat) : Prop where
  right : Right a
  n : a.n.natAbs ≤ m
  d : a.d.natAbs ≤ k
theorem add_sm {a b : Q} {m k m' k' : Nat} (ha : Sm a m k) (hb : Sm b m' k') (h1 : m * k' + m' * k ≤ top) (h2 : k * k' ≤ top) : Sm (addN a b) (m * k' + m' * k) (k * k') := by
  have a1 := ha.right.pos
  have b1 := hb.right.pos
  have hp : 0 < (a.d * b.d).natAbs := by rw [Int.natAbs_mul]; exact Nat.mul_pos (by omega) (by omega)
  have hB := norm_bound (a.n * b.d + b.n * a.d) (a.d * b.d).natAbs
  have c1 : a.n.natAbs * b.d.natAbs ≤ m * k' := Nat.mul_le_mul ha.n hb.d
  have c2 : b.n.natAbs * a.d.natAbs ≤ m' * k := Nat.mul_le_mul hb.n ha.d
  have c3 : a.d.natAbs * b.d.natAbs ≤ k * k' := Nat.mul_le_mul ha.d hb.d
  have c4 : (a.n * b.d + b.n * a.d).natAbs ≤ a.n.natAbs * b.d.natAbs + b.n.natAbs * a.d.natAbs := by
    rw [← Int.natAbs_mul, ← Int.natAbs_mul]
    exact Int.natAbs_add_le _ _
  rw [← Int.natAbs_mul] at c3
  unfold addN
  exact ⟨right_of_norm hp (by omega) (by omega), by omega, by omega⟩
theorem mul_sm {a b : Q} {m k m' k' : Nat} (ha : Sm a m k) (hb : Sm b m' k') (h1 : m * m' ≤ top) (h2 : k * k' ≤ top) : Sm (mulN a b) (m * m') (k * k') := by
  have a1 := ha.right.pos
  have b1 := hb.right.pos
  have hp : 0 < (a.d * b.d).natAbs := by rw [Int.natAbs_mul]; exact Nat.mul_pos (by omega) (by omega)
  have hB := norm_bound (a.n * b.n) (a.d * b.d).natAbs
  have c1 : a.n.natAbs * b.n.natAbs ≤ m * m' := Nat.mul_le_mul ha.n hb.n
  have c3 : a.d.natAbs * b.d.natAbs ≤ k * k' := Nat.mul_le_mul ha.d hb.d
  rw [← Int.natAbs_mul] at c1 c3
  unfold mulN
  exact ⟨right_of_norm hp (by omega) (by omega), by omega, by omega⟩
theorem plus_end {a b r : Q} {m k : Nat} (ha : Right a) (hb : Right b) (hr : addN a b = r) (hs : Sm r m k) : ∀ w, Calls Try.prog 11 #[.agg #[.int .i64 a.n, .int .i64 a.d], .agg #[.int .i64 b.n, .int .i64 b.d]] w fun e w' => e = .returned (.tuple #[.agg #[.int .i64 r.n, .int .i64 r.d], .bool true]) ∧ Below w.heap.size w w' := by
  intro w
  have h := lplus_any a b w (right_q64 ha) (right_q64 hb)
  have h1 := hs.right.lo; have h2 := hs.right.hi; have h3 := hs.right.den; have h4 := hs.right.pos
  have e := lim_ok (q := r) (by unfold top; omega) (by unfold top; omega)
  have e1 : addV a b = r := by unfold addV; rw [(right_iff a).2 ha, (right_iff b).2 hb, hr]; exact e.1
  have e2 : addE a b = 0 := by unfold addE; rw [(right_iff a).2 ha, (right_iff b).2 hb, hr]; exact e.2
  rw [e1, e2] at h
  exact h
theorem times_end {a b r : Q} {m k : Nat} (ha : Right a) (hb : Right b) (hr : mulN a b = r) (hs : Sm r m k) : ∀ w, Calls Try.prog 12 #[.agg #[.int .i64 a.n, .int .i64 a.d], .agg #[.int .i64 b.n, .int .i64 b.d]] w fun e w' => e = .returned (.tuple #[.agg #[.int .i64 r.n, .int .i64 r.d], .bool true]) ∧ Below w.heap.size w w' := by
  intro w
  have h := ltimes_any a b w (right_q64 ha) (right_q64 hb)
  have h1 := hs.right.lo; have h2 := hs.right.hi; have h3 := hs.right.den; have h4 := hs.right.pos
  have e := lim_ok (q := r) (by unfold top; omega) (by unfold top; omega)
  have e1 : mulV a b = r := by unfold mulV; rw [(right_iff a).2 ha, (right_iff b).2 hb, hr]; exact e.1
  have e2 : mulE a b = 0 := by unfold mulE; rw [(right_iff a).2 ha, (right_iff b).2 hb, hr]; exact e.2
  rw [e1, e2] at h
  exact h
theorem fits_sm {a : Q} (h : Right a) (hf : fitsB a = true) : Sm a 1000 1000 := by
  unfold fitsB at hf
  simp only [Bool.and_eq_true, decide_eq_true_eq] at hf
  obtain ⟨⟨⟨f1, f2⟩, f3⟩, f4⟩ := hf
  exact ⟨h, by omega, by omega⟩

theorem field_any (a b c : Q) (W : World) (ha : Q64 a) (hb : Q64 b) (hc : Q64 c) :
    Calls Try.prog 3 #[.agg #[.int .i64 a.n, .int .i64 a.d], .agg #[.int .i64 b.n, .int .i64 b.d], .agg #[.int .i64 c.n, .int .i64 c.d]] W fun e w' => e = .returned (.bool true) ∧ Below W.heap.size W w' := by
  have S := Lib.hid sane_any
  cases ra : rightB a
  · exact field_no0 a b c W S (Lib.hid (right_end ha _ ra))
  cases rb : rightB b
  · exact field_no1 a b c W S (Lib.hid (right_end ha _ ra)) (Lib.hid (right_end hb _ rb))
  cases rc : rightB c
  · exact field_no2 a b c W S (Lib.hid (right_end ha _ ra)) (Lib.hid (right_end hb _ rb)) (Lib.hid (right_end hc _ rc))
  cases fa : fitsB a
  · exact field_no3 a b c W S (Lib.hid (right_end ha _ ra)) (Lib.hid (right_end hb _ rb)) (Lib.hid (right_end hc _ rc)) (Lib.hid (fits_end _ fa))
  cases fb : fitsB b
  · exact field_no4 a b c W S (Lib.hid (right_end ha _ ra)) (Lib.hid (right_end hb _ rb)) (Lib.hid (right_end hc _ rc)) (Lib.hid (fits_end _ fa)) (Lib.hid (fits_end _ fb))
  cases fc : fitsB c
  · exact field_no5 a b c W S (Lib.hid (right_end ha _ ra)) (Lib.hid (right_end hb _ rb)) (Lib.hid (right_end hc _ rc)) (Lib.hid (fits_end _ fa)) (Lib.hid (fits_end _ fb)) (Lib.hid (fits_end _ fc))
  have RA := (right_iff a).1 ra
  have RB := (right_iff b).1 rb
  have RC := (right_iff c).1 rc
  have sa := fits_sm RA fa
  have sb := fits_sm RB fb
  have sc := fits_sm RC fc
  have sx := add_sm sa sb (by decide) (by decide)
  have sy := add_sm sb sc (by decide) (by decide)
  have sl := add_sm sx sc (by decide) (by decide)
  have sp := mul_sm sa sb (by decide) (by decide)
  have sq := mul_sm sa sc (by decide) (by decide)
  have ss := mul_sm sa sy (by decide) (by decide)
  have su := mul_sm sp sc (by decide) (by decide)
  exact field_yes a b c (addN a b) (addN b c) (addN (addN a b) c) (mulN a b) (mulN a c) (mulN a (addN b c)) (mulN (mulN a b) c) W S
    (Lib.hid (right_end ha _ ra)) (Lib.hid (right_end hb _ rb)) (Lib.hid (right_end hc _ rc)) (Lib.hid (fits_end _ fa)) (Lib.hid (fits_end _ fb)) (Lib.hid (fits_end _ fc))
    (Lib.hid (plus_end RA RB rfl sx)) (Lib.hid (plus_end RB RA (addN_comm b a) sx)) (Lib.hid (plus_end RB RC rfl sy)) (Lib.hid (plus_end sx.right RC rfl sl)) (Lib.hid (plus_end RA sy.right (add_assoc' RA.pos RB.pos RC.pos).symm sl))
    (Lib.hid (times_end RA RB rfl sp)) (Lib.hid (times_end RA RC rfl sq)) (Lib.hid (times_end RA sy.right rfl ss)) (Lib.hid (plus_end sp.right sq.right (distrib RA.pos RB.pos RC.pos) ss)) (Lib.hid (times_end sp.right RC rfl su)) (Lib.hid (times_end sq.right RB (mul_swap RA.pos RB.pos RC.pos) su))

end Go.Proofs.Ytfchbkhgoebagaa
