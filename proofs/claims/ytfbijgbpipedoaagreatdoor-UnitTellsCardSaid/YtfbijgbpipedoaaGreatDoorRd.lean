/- Walks of ratio's functions: Right. -/
import Derived.Test.YtfbijgbpipedoaaGreatDoorRc
namespace Go.Proofs.YtfbijgbpipedoaaGreatDoor
open Go.RowKit Ra

set_option maxHeartbeats 2000000 in
theorem right_any (a : Q) (w : World) (ha : Q64 a) :
    Calls Tryz.prog 61 #[Qv a] w fun e w' => e = .returned (.bool (rightB a)) ∧ Below w.heap.size w w' := by
  obtain ⟨n0, n1, d0, d1⟩ := ha
  obtain ⟨n, d⟩ := a
  simp only at n0 n1 d0 d1
  unfold Qv
  simp only
  by_cases h1 : d < 1
  · have b1 : decide (d < 1) = true := decide_eq_true h1
    have e : rightB ⟨n, d⟩ = false := by unfold rightB; rw [decide_eq_false (show ¬ (1 : Int) ≤ d by omega)]; rfl
    rw [e]
    clear e
    go_enter Tryz.func61, Tryz.ntmps61
    go_wp2_with fail
    go_ret
    refine ⟨rfl, ?_⟩
    repeat first | exact Below.refl _ _ | refine below_drewN ?_ _ | refine Below.setCell ?_ (by simp <;> omega) _ | refine Below.alloc ?_ (by simp <;> omega) _
  by_cases h2 : 1152921504606846976 < d
  · have b1 : decide (d < 1) = false := decide_eq_false h1
    have b2 : decide (1152921504606846976 < d) = true := decide_eq_true h2
    have e : rightB ⟨n, d⟩ = false := by unfold rightB; rw [decide_eq_false (show ¬ d.natAbs ≤ top by unfold top; omega), Bool.and_false]; rfl
    rw [e]
    clear e
    go_enter Tryz.func61, Tryz.ntmps61
    go_wp2_with fail
    go_ret
    refine ⟨rfl, ?_⟩
    repeat first | exact Below.refl _ _ | refine below_drewN ?_ _ | refine Below.setCell ?_ (by simp <;> omega) _ | refine Below.alloc ?_ (by simp <;> omega) _
  have b1 : decide (d < 1) = false := decide_eq_false h1
  have b2 : decide (1152921504606846976 < d) = false := decide_eq_false h2
  have ed : IntKind.u64.wrap d = (d.natAbs : Int) := by rw [IntKind.wrap_u64]; omega
  have HA : Hid (∀ w, Calls Tryz.prog 68 #[.int .i64 n] w fun e w' => e = .returned (.int .u64 (n.natAbs : Int)) ∧ w = w') := Lib.hid fun w => abs_any n w n0 n1
  by_cases h3 : 1152921504606846976 < (n.natAbs : Int)
  · have b3 : decide (1152921504606846976 < (n.natAbs : Int)) = true := decide_eq_true h3
    have e : rightB ⟨n, d⟩ = false := by unfold rightB; rw [decide_eq_false (show ¬ n.natAbs ≤ top by unfold top; omega), Bool.and_false]; rfl
    rw [e]
    clear e
    generalize n.natAbs = p at *
    go_enter Tryz.func61, Tryz.ntmps61
    go_wp2_with (go_at_call 68; refine (HA.out _).mono ?_; rintro e w' ⟨rfl, rfl⟩)
    go_ret
    refine ⟨rfl, ?_⟩
    repeat first | exact Below.refl _ _ | refine below_drewN ?_ _ | refine Below.setCell ?_ (by simp <;> omega) _ | refine Below.alloc ?_ (by simp <;> omega) _
  · have b3 : decide (1152921504606846976 < (n.natAbs : Int)) = false := decide_eq_false h3
    have e : rightB ⟨n, d⟩ = (((Nat.gcd n.natAbs d.natAbs : Nat) : Int) == 1) := by
      unfold rightB
      rw [decide_eq_true (show n.natAbs ≤ top by unfold top; omega), decide_eq_true (show d.natAbs ≤ top by unfold top; omega), decide_eq_true (show (1 : Int) ≤ d by omega)]
      simp only [Bool.true_and]
      rw [Bool.eq_iff_iff]
      simp only [decide_eq_true_eq, beq_iff_eq]
      omega
    have HG : Hid (∀ w, Calls Tryz.prog 65 #[.int .u64 (n.natAbs : Int), .int .u64 (d.natAbs : Int)] w fun e w' => e = .returned (.int .u64 (Nat.gcd n.natAbs d.natAbs : Nat)) ∧ ∃ k, w' = w.drewN k) := Lib.hid fun w => gcd_any _ _ w (by omega) (by omega)
    rw [e]
    clear e
    generalize Nat.gcd n.natAbs d.natAbs = g at *
    generalize n.natAbs = p at *
    generalize d.natAbs = q at *
    go_enter Tryz.func61, Tryz.ntmps61
    go_wp2_with (go_at_call 68; refine (HA.out _).mono ?_; rintro e w' ⟨rfl, rfl⟩)
    go_quiet (first | (go_at_call 68; exact Calls.quiet_of_same ((HA.out _).mono fun _ _ h => ⟨h.1, h.2.symm⟩)) | (go_at_call 65; exact Calls.quiet_of (HG.out _)))
    go_wp2
    go_ret
    refine ⟨rfl, ?_⟩
    repeat first | exact Below.refl _ _ | refine below_drewN ?_ _ | refine Below.setCell ?_ (by simp <;> omega) _ | refine Below.alloc ?_ (by simp <;> omega) _

end Go.Proofs.YtfbijgbpipedoaaGreatDoor
