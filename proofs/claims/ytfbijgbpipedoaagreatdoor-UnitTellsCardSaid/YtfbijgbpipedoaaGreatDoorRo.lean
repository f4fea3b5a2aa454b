/- Walks of ratio's functions: what Mul gives. -/
import Derived.Test.YtfbijgbpipedoaaGreatDoorRn
import Derived.Test.YtfbijgbpipedoaaGreatDoorRAlg
namespace Go.Proofs.YtfbijgbpipedoaaGreatDoor
open Go.RowKit Ra

theorem signed_mul (neg : Bool) (x y : Nat) : signed neg x * (y : Int) = signed neg (x * y) := by
  unfold signed
  cases neg <;> simp [Int.natCast_mul, Int.neg_mul]
theorem signed_natAbs (n : Int) : n = signed (decide (n < 0)) n.natAbs := by
  unfold signed
  by_cases h : n < 0 <;> simp [h] <;> omega
theorem signed_signed (s t : Bool) (x y : Nat) : signed s x * signed t y = signed (s != t) (x * y) := by
  unfold signed
  cases s <;> cases t <;> simp [Int.natCast_mul, Int.neg_mul, Int.mul_neg]
theorem limV_one : limV ⟨0, 1⟩ = ⟨0, 1⟩ := by unfold limV; rw [if_pos]; unfold top; simp
theorem limE_one : limE ⟨0, 1⟩ = 0 := by unfold limE; rw [if_pos]; unfold top; simp
theorem norm_zero {d : Nat} (h : 0 < d) : norm 0 d = ⟨0, 1⟩ := by
  refine norm_unique h (by simp) (by simp) (by simp)

theorem mul_law (p q x y : Nat) (s : Bool) (hx : 0 < x) (hy : 0 < y) (h1 : Nat.Coprime p x) (h2 : Nat.Coprime q y) :
    norm (signed s (p * q)) (x * y) = ⟨signed s (p / Nat.gcd p y * (q / Nat.gcd q x)), ((x / Nat.gcd q x * (y / Nat.gcd p y) : Nat) : Int)⟩ := by
  have hc := mul_cop hx hy h1 h2
  obtain ⟨p', hp⟩ := Nat.gcd_dvd_left p y
  obtain ⟨y', hy'⟩ := Nat.gcd_dvd_right p y
  obtain ⟨q', hq⟩ := Nat.gcd_dvd_left q x
  obtain ⟨x', hx'⟩ := Nat.gcd_dvd_right q x
  have g1 : 0 < Nat.gcd p y := Nat.gcd_pos_of_pos_right _ hy
  have g2 : 0 < Nat.gcd q x := Nat.gcd_pos_of_pos_right _ hx
  generalize Nat.gcd p y = g at *
  generalize Nat.gcd q x = h at *
  have e1 : p / g = p' := by rw [hp]; exact Nat.mul_div_cancel_left _ g1
  have e2 : y / g = y' := by rw [hy']; exact Nat.mul_div_cancel_left _ g1
  have e3 : q / h = q' := by rw [hq]; exact Nat.mul_div_cancel_left _ g2
  have e4 : x / h = x' := by rw [hx']; exact Nat.mul_div_cancel_left _ g2
  rw [e1, e2, e3, e4] at hc
  rw [e1, e2, e3, e4]
  have y0 : 0 < y' := by
    rcases Nat.eq_zero_or_pos y' with h0 | h0
    · subst h0; simp at hy'; omega
    · exact h0
  have x0 : 0 < x' := by
    rcases Nat.eq_zero_or_pos x' with h0 | h0
    · subst h0; simp at hx'; omega
    · exact h0
  have xy : 0 < x' * y' := Nat.mul_pos x0 y0
  refine norm_unique (Nat.mul_pos hx hy) (by simp only; omega) ?_ ?_
  · simp only [signed_abs, Int.natAbs_natCast]; exact hc
  · simp only [signed_mul]
    congr 1
    rw [hp, hq, hx', hy']
    simp only [Nat.mul_left_comm, Nat.mul_comm]

theorem right_q64 {a : Q} (h : Right a) : Q64 a := ⟨by have := h.lo; omega, by have := h.hi; omega, by have := h.pos; omega, by have := h.den; omega⟩

theorem mul_any (a b : Q) (w : World) (ha : Q64 a) (hb : Q64 b) :
    Calls Tryz.prog 62 #[Qv a, Qv b] w fun e w' => e = .returned (.tuple #[Qv (mulV a b), .int .i64 (mulE a b)]) ∧ Below w.heap.size w w' := by
  unfold mulV mulE
  by_cases ra : rightB a = true
  rotate_left
  · rw [Bool.not_eq_true] at ra
    rw [ra]
    exact mul_not1 a b w ha ra
  by_cases rb : rightB b = true
  rotate_left
  · rw [Bool.not_eq_true] at rb
    rw [ra, rb]
    exact mul_not2 a b w ha hb ra rb
  have hA := (right_iff a).1 ra
  have hB := (right_iff b).1 rb
  rw [ra, rb]
  simp only [Bool.and_self, if_true]
  have pA := hA.pos
  have pB := hB.pos
  have ed : (a.d * b.d).natAbs = a.d.natAbs * b.d.natAbs := Int.natAbs_mul _ _
  have dp : 0 < (a.d * b.d).natAbs := by rw [ed]; exact Nat.mul_pos (by omega) (by omega)
  by_cases za : a.n = 0
  · have : mulN a b = ⟨0, 1⟩ := by unfold mulN; rw [za, Int.zero_mul]; exact norm_zero dp
    rw [this, limV_one, limE_one]
    exact mul_zero1 a b w ha hb ra rb za
  by_cases zb : b.n = 0
  · have : mulN a b = ⟨0, 1⟩ := by unfold mulN; rw [zb, Int.mul_zero]; exact norm_zero dp
    rw [this, limV_one, limE_one]
    exact mul_zero2 a b w ha hb ra rb za zb
  have hlaw : mulN a b = ⟨signed (decide (a.n < 0) != decide (b.n < 0)) (a.n.natAbs / Nat.gcd a.n.natAbs b.d.natAbs * (b.n.natAbs / Nat.gcd b.n.natAbs a.d.natAbs)), ((a.d.natAbs / Nat.gcd b.n.natAbs a.d.natAbs * (b.d.natAbs / Nat.gcd a.n.natAbs b.d.natAbs) : Nat) : Int)⟩ := by
    have e : a.n * b.n = signed (decide (a.n < 0) != decide (b.n < 0)) (a.n.natAbs * b.n.natAbs) := by
      rw [← signed_signed, ← signed_natAbs, ← signed_natAbs]
    unfold mulN
    rw [e, ed]
    exact mul_law _ _ _ _ _ (by omega) (by omega) hA.prime hB.prime
  rw [hlaw]
  have l1 := hA.lo; have l2 := hA.hi; have l3 := hA.den
  have l4 := hB.lo; have l5 := hB.hi; have l6 := hB.den
  have wx : ∀ x : Nat, x < 18446744073709551616 → IntKind.u64.wrap (x : Int) = x := fun x h => IntWalk.u64_in _ (by omega)
  have g1 : 0 < Nat.gcd a.n.natAbs b.d.natAbs := Nat.gcd_pos_of_pos_right _ (by omega)
  have g2 : 0 < Nat.gcd b.n.natAbs a.d.natAbs := Nat.gcd_pos_of_pos_right _ (by omega)
  have q1 : a.n.natAbs / Nat.gcd a.n.natAbs b.d.natAbs ≤ a.n.natAbs := Nat.div_le_self _ _
  have q2 : b.n.natAbs / Nat.gcd b.n.natAbs a.d.natAbs ≤ b.n.natAbs := Nat.div_le_self _ _
  have q3 : a.d.natAbs / Nat.gcd b.n.natAbs a.d.natAbs ≤ a.d.natAbs := Nat.div_le_self _ _
  have q4 : b.d.natAbs / Nat.gcd a.n.natAbs b.d.natAbs ≤ b.d.natAbs := Nat.div_le_self _ _
  refine mul_core a b (decide (a.n < 0) != decide (b.n < 0)) a.n.natAbs b.n.natAbs (Nat.gcd a.n.natAbs b.d.natAbs) (Nat.gcd b.n.natAbs a.d.natAbs) a.d.natAbs b.d.natAbs
    (a.n.natAbs / Nat.gcd a.n.natAbs b.d.natAbs) (b.n.natAbs / Nat.gcd b.n.natAbs a.d.natAbs) (a.d.natAbs / Nat.gcd b.n.natAbs a.d.natAbs) (b.d.natAbs / Nat.gcd a.n.natAbs b.d.natAbs)
    _ _ _ _ _ _ _ w (Lib.hid (right_end ha true ra)) (Lib.hid (right_end hb true rb)) (Lib.hid ⟨rfl, by omega, by omega⟩) (Lib.hid ⟨rfl, by omega, by omega⟩)
    (Lib.hid ⟨rfl, by omega, by omega⟩) (Lib.hid ⟨rfl, by omega, by omega⟩) (Lib.hid ⟨rfl, by omega, by omega⟩) (Lib.hid ⟨rfl, by omega, by omega⟩)
    (Lib.hid fun w => give_any _ _ _ w) (by omega) (by omega) (by rw [Int.natCast_ediv]) (by rw [Int.natCast_ediv]) (by rw [Int.natCast_ediv]) (by rw [Int.natCast_ediv])
    (wx _ (by omega)) (wx _ (by omega)) (wx _ (by omega)) (wx _ (by omega)) (by simp [bne]) ?_ ?_ (by simp [za]) (by simp [zb])
  · have : a.d = (a.d.natAbs : Int) := by omega
    rw [this]; simpa using wx a.d.natAbs (by omega)
  · have : b.d = (b.d.natAbs : Int) := by omega
    rw [this]; simpa using wx b.d.natAbs (by omega)

end Go.Proofs.YtfbijgbpipedoaaGreatDoor
