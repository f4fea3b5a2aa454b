/- Walks of ratio's functions: what Make gives. -/
import Derived.Test.YtfbijgbpipedoaaGreatDoorRh
namespace Go.Proofs.YtfbijgbpipedoaaGreatDoor
open Go.RowKit Ra

theorem natAbs_div_gcd (n : Int) (d : Nat) : n.natAbs / Nat.gcd n.natAbs d = (n / (Nat.gcd n.natAbs d : Nat)).natAbs := by
  rw [Int.natAbs_ediv_of_dvd (Int.ofNat_dvd_left.2 (Nat.gcd_dvd_left _ _))]
  simp
/-- a signed number in lowest terms -/
theorem norm_signed (neg : Bool) (p q : Nat) : norm (signed neg p) q = ⟨signed neg (p / Nat.gcd p q), (q / Nat.gcd p q : Nat)⟩ := by
  unfold norm
  rw [signed_abs]
  congr 1
  obtain ⟨x, hx⟩ := Nat.gcd_dvd_left p q
  by_cases h0 : Nat.gcd p q = 0
  · have : p = 0 := Nat.eq_zero_of_gcd_eq_zero_left h0
    subst this
    cases neg <;> simp [signed]
  generalize Nat.gcd p q = g at *
  subst hx
  have hg : (g : Int) ≠ 0 := by omega
  rw [Nat.mul_div_cancel_left _ (Nat.pos_of_ne_zero h0)]
  unfold signed
  cases neg
  · simp only [Bool.false_eq_true, if_false, Int.natCast_mul]
    exact Int.mul_ediv_cancel_left _ hg
  · simp only [if_true, Int.natCast_mul, ← Int.mul_neg]
    exact Int.mul_ediv_cancel_left _ hg

theorem make_any (n d : Int) (w : World) (n0 : -9223372036854775808 ≤ n) (n1 : n ≤ 9223372036854775807) (d0 : -9223372036854775808 ≤ d) (d1 : d ≤ 9223372036854775807) :
    Calls Tryz.prog 45 #[.int .i64 n, .int .i64 d] w fun e w' => e = .returned (.tuple #[Qv (makeV n d), .int .i64 (makeE n d)]) ∧ Below w.heap.size w w' := by
  unfold makeV makeE
  by_cases hz : d = 0
  · subst hz
    rw [if_pos rfl, if_pos rfl]
    exact make_zero n w
  rw [if_neg hz, if_neg hz]
  obtain ⟨neg, hneg⟩ : ∃ neg : Bool, neg = (decide (n < 0) != decide (d < 0)) := ⟨_, rfl⟩
  have hs : (if d < 0 then -n else n) = signed neg n.natAbs ∨ n = 0 := by
    subst hneg
    unfold signed
    by_cases a : d < 0 <;> by_cases b : n < 0 <;> simp [a, b] <;> omega
  have hs' : norm (if d < 0 then -n else n) d.natAbs = norm (signed neg n.natAbs) d.natAbs := by
    rcases hs with h | h
    · rw [h]
    · subst h
      cases neg <;> simp [signed]
  rw [hs', norm_signed]
  have hg : 0 < Nat.gcd n.natAbs d.natAbs := Nat.gcd_pos_of_pos_right _ (by omega)
  have x1 : n.natAbs / Nat.gcd n.natAbs d.natAbs ≤ n.natAbs := Nat.div_le_self _ _
  have y1 : d.natAbs / Nat.gcd n.natAbs d.natAbs ≤ d.natAbs := Nat.div_le_self _ _
  have wx : ∀ x : Nat, x < 18446744073709551616 → IntKind.u64.wrap (x : Int) = x := fun x h => IntWalk.u64_in _ (by omega)
  have HV := fun w => give_any neg (n.natAbs / Nat.gcd n.natAbs d.natAbs) (d.natAbs / Nat.gcd n.natAbs d.natAbs) w
  have ev : ∀ x : Nat, x < 18446744073709551616 → Wv x = .agg #[.int .u64 0, .int .u64 (x : Int)] := by
    intro x hx
    unfold Wv
    rw [Nat.div_eq_of_lt hx, Nat.mod_eq_of_lt hx]
    rfl
  rw [ev _ (by omega), ev _ (by omega)] at HV
  exact make_core n d neg n.natAbs d.natAbs (Nat.gcd n.natAbs d.natAbs) (n.natAbs / Nat.gcd n.natAbs d.natAbs) (d.natAbs / Nat.gcd n.natAbs d.natAbs) _ _ _ w hz
    (Lib.hid fun w => abs_any n w n0 n1) (Lib.hid fun w => abs_any d w d0 d1) (Lib.hid fun w => gcd_any _ _ w (by omega) (by omega)) (Lib.hid HV)
    (by rw [Int.natCast_ediv]) (by rw [Int.natCast_ediv]) (by omega) (wx _ (by omega)) (wx _ (by omega)) (by rw [hneg]; simp [bne])

end Go.Proofs.YtfbijgbpipedoaaGreatDoor
