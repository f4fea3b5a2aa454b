/- Walks of ratio's functions: what Add and Sub give. -/
import Derived.Test.YtfbijgbpipedoaaDoorRq
import Derived.Test.YtfbijgbpipedoaaDoorRAlg2
namespace Go.Proofs.YtfbijgbpipedoaaDoor
open Go.RowKit Ra

theorem quiet_below {F : FuncId} {args : Array Value} {v : Value} {w : World} (h : Calls Tryd.prog F args w fun e w' => e = .returned v ∧ ∃ n, w' = w.drewN n) : Calls Tryd.prog F args w fun e w' => e = .returned v ∧ Below w.heap.size w w' := by
  refine h.mono ?_
  rintro e w' ⟨rfl, n, rfl⟩
  exact ⟨rfl, below_drewN (Below.refl _ _) n⟩

theorem add_law' (a b : Q) (ra : Right a) (rb : Right b) :
    let g := Nat.gcd a.d.natAbs b.d.natAbs
    let A := a.n.natAbs * (b.d.natAbs / g)
    let B := b.n.natAbs * (a.d.natAbs / g)
    let T := sumT (decide (a.n < 0)) (decide (b.n < 0)) A B
    let k := Nat.gcd g (T % g)
    addN a b = ⟨signed (sumM (decide (a.n < 0)) (decide (b.n < 0)) A B) (T / k), ((a.d.natAbs / g * (b.d.natAbs / k) : Nat) : Int)⟩ := by
  intro g A B T k
  have p1 := ra.pos
  have p2 := rb.pos
  have e1 : a.n * b.d = signed (decide (a.n < 0)) (a.n.natAbs * b.d.natAbs) := by
    rw [← signed_mul, ← signed_natAbs]
    congr 1
    omega
  have e2 : b.n * a.d = signed (decide (b.n < 0)) (b.n.natAbs * a.d.natAbs) := by
    rw [← signed_mul, ← signed_natAbs]
    congr 1
    omega
  unfold addN
  rw [e1, e2, Int.natAbs_mul]
  exact add_law a.n.natAbs b.n.natAbs a.d.natAbs b.d.natAbs T _ _ _ (by omega) (by omega) ra.prime rb.prime (sum_signed _ _ _ _)

theorem wv_zero {T : Nat} (h : T / 18446744073709551616 = 0 ∧ T % 18446744073709551616 = 0) : T = 0 := by omega
theorem prod_small {x y : Nat} (hx : x ≤ 1152921504606846976) (hy : y ≤ 1152921504606846976) : x * y < 170141183460469231731687303715884105728 :=
  Nat.lt_of_le_of_lt (Nat.mul_le_mul hx hy) (by decide)

end Go.Proofs.YtfbijgbpipedoaaDoor
