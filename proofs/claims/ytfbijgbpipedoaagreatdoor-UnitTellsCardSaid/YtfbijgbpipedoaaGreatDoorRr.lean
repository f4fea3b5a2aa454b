/- Walks of ratio's functions: what Add and Sub give. -/
import Derived.Test.YtfbijgbpipedoaaGreatDoorRq
import Derived.Test.YtfbijgbpipedoaaGreatDoorRAlg2
namespace Go.Proofs.YtfbijgbpipedoaaGreatDoor
open Go.RowKit Ra

theorem quiet_below {F : FuncId} {args : Array Value} {v : Value} {w : World} (h : Calls Tryz.prog F args w fun e w' => e = .returned v ∧ ∃ n, w' = w.drewN n) : Calls Tryz.prog F args w fun e w' => e = .returned v ∧ Below w.heap.size w w' := by
  refine h.mono ?_
  rintro e w' ⟨rfl, n, rfl⟩
  exact ⟨rfl, below_drewN (Below.refl _ _) n⟩

theorem add_law' (a b : Q) (ra : Right a) (rb : Right b) :
    let g := Nat.gcd a.d.natAbs b.d.natAbs
    let A := a.n.natAbs * (b.d.natAbs / g)
    let B := b.n.natAbs * (a.d.natAbs / g)
    let T := sumT (decide (a.n < 0)) (decide (b.n < 0)) A B
    let k := Nat.gcd g (T % g)
    addN a b = ⟨signed (sumM (decide (a.n < 0)) (decide (b.n < 0)) A B) (T / k), ((a.d.natAbs / g * (b.d.natAbs / k) : Nat) : Int)⟩ := by
  intro g A B T k
  have p1 := ra.pos
  have p2 := rb.pos
  have e1 : a.n * b.d = signed (decide (a.n < 0)) (a.n.natAbs * b.d.natAbs) := by
    rw [← signed_mul, ← signed_natAbs]
    congr 1
    omega
  have e2 : b.n * a.d = signed (decide (b.n < 0)) (b.n.natAbs * a.d.natAbs) := by
    rw [← signed_mul, ← signed_natAbs]
    congr 1
    omega
  unfold addN
  rw [e1, e2, Int.natAbs_mul]
  exact add_law a.n.natAbs b.n.natAbs a.d.natAbs b.d.natAbs T _ _ _ (by omega) (by omega) ra.prime rb.prime (sum_signed _ _ _ _)

theorem wv_zero {T : Nat} (h : T / 18446744073709551616 = 0 ∧ T % 18446744073709551616 = 0) : T = 0 := by omega
theorem prod_small {x y : Nat} (hx : x ≤ 1152921504606846976) (hy : y ≤ 1152921504606846976) : x * y < 170141183460469231731687303715884105728 :=
  Nat.lt_of_le_of_lt (Nat.mul_le_mul hx hy) (by decide)

theorem add_right (a b : Q) (w : World) (ha : Q64 a) (hb : Q64 b) (ra : rightB a = true) (rb : rightB b = true) :
    Calls Tryz.prog 41 #[Qv a, Qv b] w fun e w' => e = .returned (.tuple #[Qv (limV (addN a b)), .int .i64 (limE (addN a b))]) ∧ Below w.heap.size w w' := by
  have hA := (right_iff a).1 ra
  have hB := (right_iff b).1 rb
  have pA := hA.pos
  have pB := hB.pos
  have l1 := hA.lo; have l2 := hA.hi; have l3 := hA.den
  have l4 := hB.lo; have l5 := hB.hi; have l6 := hB.den
  have hlaw := add_law' a b hA hB
  have hsum0 := sum_signed (decide (a.n < 0)) (decide (b.n < 0)) (a.n.natAbs * (b.d.natAbs / Nat.gcd a.d.natAbs b.d.natAbs)) (b.n.natAbs * (a.d.natAbs / Nat.gcd a.d.natAbs b.d.natAbs))
  simp only at hlaw
  have wx : ∀ x : Nat, x < 18446744073709551616 → IntKind.u64.wrap (x : Int) = x := fun x h => IntWalk.u64_in _ (by omega)
  have g0 : 0 < Nat.gcd a.d.natAbs b.d.natAbs := Nat.gcd_pos_of_pos_left _ (by omega)
  have gl : Nat.gcd a.d.natAbs b.d.natAbs ≤ a.d.natAbs := Nat.le_of_dvd (by omega) (Nat.gcd_dvd_left _ _)
  have ql : a.d.natAbs / Nat.gcd a.d.natAbs b.d.natAbs ≤ a.d.natAbs := Nat.div_le_self _ _
  have qr : b.d.natAbs / Nat.gcd a.d.natAbs b.d.natAbs ≤ b.d.natAbs := Nat.div_le_self _ _
  have hD : a.d = (a.d.natAbs : Int) := by omega
  have hE : b.d = (b.d.natAbs : Int) := by omega
  have sA : a.n.natAbs * (b.d.natAbs / Nat.gcd a.d.natAbs b.d.natAbs) < 170141183460469231731687303715884105728 := prod_small (by omega) (by omega)
  have sB : b.n.natAbs * (a.d.natAbs / Nat.gcd a.d.natAbs b.d.natAbs) < 170141183460469231731687303715884105728 := prod_small (by omega) (by omega)
  have hz0 : addN a b = addN a b := rfl
  have HS := fun w => sum_any (decide (a.n < 0)) (decide (b.n < 0)) _ _ w sA sB
  have hTl := sum_lt (decide (a.n < 0)) (decide (b.n < 0)) _ _ sA sB
  have hN : a.n * b.d + b.n * a.d = ((Nat.gcd a.d.natAbs b.d.natAbs : Nat) : Int) * signed (sumM (decide (a.n < 0)) (decide (b.n < 0)) (a.n.natAbs * (b.d.natAbs / Nat.gcd a.d.natAbs b.d.natAbs)) (b.n.natAbs * (a.d.natAbs / Nat.gcd a.d.natAbs b.d.natAbs))) (sumT (decide (a.n < 0)) (decide (b.n < 0)) (a.n.natAbs * (b.d.natAbs / Nat.gcd a.d.natAbs b.d.natAbs)) (b.n.natAbs * (a.d.natAbs / Nat.gcd a.d.natAbs b.d.natAbs))) := by
    rw [hsum0, Int.mul_add, ← signed_mul, ← signed_mul, ← signed_natAbs, ← signed_natAbs]
    have x1 : ((Nat.gcd a.d.natAbs b.d.natAbs : Nat) : Int) * ((b.d.natAbs / Nat.gcd a.d.natAbs b.d.natAbs : Nat) : Int) = b.d := by
      rw [← Int.natCast_mul, Nat.mul_div_cancel' (Nat.gcd_dvd_right _ _)]; omega
    have x2 : ((Nat.gcd a.d.natAbs b.d.natAbs : Nat) : Int) * ((a.d.natAbs / Nat.gcd a.d.natAbs b.d.natAbs : Nat) : Int) = a.d := by
      rw [← Int.natCast_mul, Nat.mul_div_cancel' (Nat.gcd_dvd_left _ _)]; omega
    rw [Int.mul_left_comm, x1, Int.mul_left_comm, x2]
  generalize sumT (decide (a.n < 0)) (decide (b.n < 0)) (a.n.natAbs * (b.d.natAbs / Nat.gcd a.d.natAbs b.d.natAbs)) (b.n.natAbs * (a.d.natAbs / Nat.gcd a.d.natAbs b.d.natAbs)) = T at *
  generalize sumM (decide (a.n < 0)) (decide (b.n < 0)) (a.n.natAbs * (b.d.natAbs / Nat.gcd a.d.natAbs b.d.natAbs)) (b.n.natAbs * (a.d.natAbs / Nat.gcd a.d.natAbs b.d.natAbs)) = minus at *
  have hZ : T = 0 → addN a b = ⟨0, 1⟩ := by
    intro h
    subst h
    have : a.n * b.d + b.n * a.d = 0 := by rw [hN]; unfold signed; simp
    unfold addN
    rw [this, Int.natAbs_mul]
    exact norm_zero (Nat.mul_pos (by omega) (by omega))
  clear hN hsum0 hz0
  have k0 : 0 < Nat.gcd (Nat.gcd a.d.natAbs b.d.natAbs) (T % Nat.gcd a.d.natAbs b.d.natAbs) := Nat.gcd_pos_of_pos_left _ g0
  have kl : Nat.gcd (Nat.gcd a.d.natAbs b.d.natAbs) (T % Nat.gcd a.d.natAbs b.d.natAbs) ≤ Nat.gcd a.d.natAbs b.d.natAbs := Nat.le_of_dvd g0 (Nat.gcd_dvd_left _ _)
  have rl : T % Nat.gcd a.d.natAbs b.d.natAbs < Nat.gcd a.d.natAbs b.d.natAbs := Nat.mod_lt _ g0
  have qy : b.d.natAbs / Nat.gcd (Nat.gcd a.d.natAbs b.d.natAbs) (T % Nat.gcd a.d.natAbs b.d.natAbs) ≤ b.d.natAbs := Nat.div_le_self _ _
  have HV := fun w => give_any minus (T / Nat.gcd (Nat.gcd a.d.natAbs b.d.natAbs) (T % Nat.gcd a.d.natAbs b.d.natAbs)) (a.d.natAbs / Nat.gcd a.d.natAbs b.d.natAbs * (b.d.natAbs / Nat.gcd (Nat.gcd a.d.natAbs b.d.natAbs) (T % Nat.gcd a.d.natAbs b.d.natAbs))) w
  rw [← hlaw] at HV
  refine add_core a b (decide (a.n < 0)) (decide (b.n < 0)) minus a.n.natAbs b.n.natAbs (Nat.gcd a.d.natAbs b.d.natAbs) (a.d.natAbs / Nat.gcd a.d.natAbs b.d.natAbs) (b.d.natAbs / Nat.gcd a.d.natAbs b.d.natAbs) a.d.natAbs b.d.natAbs
    _ _ _ _ (T / 18446744073709551616) (T % 18446744073709551616) (T % Nat.gcd a.d.natAbs b.d.natAbs) (Nat.gcd (Nat.gcd a.d.natAbs b.d.natAbs) (T % Nat.gcd a.d.natAbs b.d.natAbs)) (b.d.natAbs / Nat.gcd (Nat.gcd a.d.natAbs b.d.natAbs) (T % Nat.gcd a.d.natAbs b.d.natAbs))
    _ _ _ _ _ _ _ w (Lib.hid (right_end ha true ra)) (Lib.hid (right_end hb true rb)) (Lib.hid fun w => quiet_below (gcd_any _ _ w (by omega) (by omega)))
    (Lib.hid ⟨rfl, by omega, by omega⟩) (Lib.hid ⟨rfl, by omega, by omega⟩) (Lib.hid ⟨rfl, by omega, by omega⟩) (Lib.hid ⟨rfl, by omega, by omega⟩)
    (Lib.hid HS) (Lib.hid fun w => quiet_below (rem64_any T _ w g0 (by omega))) (Lib.hid fun w => quiet_below (gcd_any _ _ w (by omega) (by omega)))
    (Lib.hid fun w => over_any T _ w hTl k0 (by omega)) (Lib.hid fun w => times_any _ _ w (by omega) (by omega)) (Lib.hid fun _ => HV) (Lib.hid ?_)
    (by omega) (by rw [Int.natCast_ediv]) (wx _ (by omega)) (by omega) (by rw [Int.natCast_ediv]) (by rw [Int.natCast_ediv]) (wx _ (by omega)) (wx _ (by omega)) rfl rfl ?_ ?_
  · intro h
    rw [hZ (wv_zero h), limV_one, limE_one]
    exact ⟨rfl, rfl, rfl⟩
  · rw [hD]; simpa using wx a.d.natAbs (by omega)
  · rw [hE]; simpa using wx b.d.natAbs (by omega)

theorem add_any (a b : Q) (w : World) (ha : Q64 a) (hb : Q64 b) :
    Calls Tryz.prog 41 #[Qv a, Qv b] w fun e w' => e = .returned (.tuple #[Qv (addV a b), .int .i64 (addE a b)]) ∧ Below w.heap.size w w' := by
  unfold addV addE
  by_cases ra : rightB a = true
  rotate_left
  · rw [Bool.not_eq_true] at ra
    rw [ra]
    exact add_not1 a b w ha ra
  by_cases rb : rightB b = true
  rotate_left
  · rw [Bool.not_eq_true] at rb
    rw [ra, rb]
    exact add_not2 a b w ha hb ra rb
  have h := add_right a b w ha hb ra rb
  rw [ra, rb]
  exact h

end Go.Proofs.YtfbijgbpipedoaaGreatDoor
