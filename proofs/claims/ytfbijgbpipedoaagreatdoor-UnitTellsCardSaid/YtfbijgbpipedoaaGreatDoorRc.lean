/- Walks of ratio's functions: give. -/
import Derived.Test.YtfbijgbpipedoaaGreatDoorRb
namespace Go.Proofs.YtfbijgbpipedoaaGreatDoor
open Go.RowKit Ra

theorem give_hi (neg : Bool) (a b c d : Nat) (w : World) (h : 0 < a) :
    Calls Tryz.prog 70 #[.bool neg, .agg #[.int .u64 a, .int .u64 b], .agg #[.int .u64 c, .int .u64 d]] w fun e w' => e = .returned (.tuple #[Qv ⟨0, 0⟩, .int .i64 3]) ∧ Below w.heap.size w w' := by
  have k1 : (0 : Int) < (a : Int) := by omega
  have k1' : decide ((0 : Int) < (a : Int)) = true := decide_eq_true k1
  go_enter Tryz.func70, Tryz.ntmps70
  go_wp2_with fail
  refine bodyPost_ret (v := .tuple #[.agg #[.int .i64 0, .int .i64 0], .int .i64 3]) (by simp [results, Tryz.results70, go_sem]) rfl ⟨rfl, ?_⟩
  repeat first | exact Below.refl _ _ | refine below_drewN ?_ _ | refine Below.setCell ?_ (by simp <;> omega) _ | refine Below.alloc ?_ (by simp <;> omega) _

theorem give_hj (neg : Bool) (a b c d : Nat) (w : World) (h0 : a = 0) (h : 0 < c) :
    Calls Tryz.prog 70 #[.bool neg, .agg #[.int .u64 a, .int .u64 b], .agg #[.int .u64 c, .int .u64 d]] w fun e w' => e = .returned (.tuple #[Qv ⟨0, 0⟩, .int .i64 3]) ∧ Below w.heap.size w w' := by
  have k1 : ¬ (0 : Int) < (a : Int) := by omega
  have k1' : decide ((0 : Int) < (a : Int)) = false := decide_eq_false k1
  have k2 : (0 : Int) < (c : Int) := by omega
  have k2' : decide ((0 : Int) < (c : Int)) = true := decide_eq_true k2
  go_enter Tryz.func70, Tryz.ntmps70
  go_wp2_with fail
  refine bodyPost_ret (v := .tuple #[.agg #[.int .i64 0, .int .i64 0], .int .i64 3]) (by simp [results, Tryz.results70, go_sem]) rfl ⟨rfl, ?_⟩
  repeat first | exact Below.refl _ _ | refine below_drewN ?_ _ | refine Below.setCell ?_ (by simp <;> omega) _ | refine Below.alloc ?_ (by simp <;> omega) _

theorem give_lo (neg : Bool) (a b c d : Nat) (w : World) (h0 : a = 0) (h1 : c = 0) (h : 1152921504606846976 < b) :
    Calls Tryz.prog 70 #[.bool neg, .agg #[.int .u64 a, .int .u64 b], .agg #[.int .u64 c, .int .u64 d]] w fun e w' => e = .returned (.tuple #[Qv ⟨0, 0⟩, .int .i64 3]) ∧ Below w.heap.size w w' := by
  have k1 : ¬ (0 : Int) < (a : Int) := by omega
  have k1' : decide ((0 : Int) < (a : Int)) = false := decide_eq_false k1
  have k2 : ¬ (0 : Int) < (c : Int) := by omega
  have k2' : decide ((0 : Int) < (c : Int)) = false := decide_eq_false k2
  have k3 : (1152921504606846976 : Int) < (b : Int) := by omega
  have k3' : decide ((1152921504606846976 : Int) < (b : Int)) = true := decide_eq_true k3
  go_enter Tryz.func70, Tryz.ntmps70
  go_wp2_with fail
  refine bodyPost_ret (v := .tuple #[.agg #[.int .i64 0, .int .i64 0], .int .i64 3]) (by simp [results, Tryz.results70, go_sem]) rfl ⟨rfl, ?_⟩
  repeat first | exact Below.refl _ _ | refine below_drewN ?_ _ | refine Below.setCell ?_ (by simp <;> omega) _ | refine Below.alloc ?_ (by simp <;> omega) _

theorem give_lp (neg : Bool) (a b c d : Nat) (w : World) (h0 : a = 0) (h1 : c = 0) (h2 : b ≤ 1152921504606846976) (h : 1152921504606846976 < d) :
    Calls Tryz.prog 70 #[.bool neg, .agg #[.int .u64 a, .int .u64 b], .agg #[.int .u64 c, .int .u64 d]] w fun e w' => e = .returned (.tuple #[Qv ⟨0, 0⟩, .int .i64 3]) ∧ Below w.heap.size w w' := by
  have k1 : ¬ (0 : Int) < (a : Int) := by omega
  have k1' : decide ((0 : Int) < (a : Int)) = false := decide_eq_false k1
  have k2 : ¬ (0 : Int) < (c : Int) := by omega
  have k2' : decide ((0 : Int) < (c : Int)) = false := decide_eq_false k2
  have k3 : ¬ (1152921504606846976 : Int) < (b : Int) := by omega
  have k3' : decide ((1152921504606846976 : Int) < (b : Int)) = false := decide_eq_false k3
  have k4 : (1152921504606846976 : Int) < (d : Int) := by omega
  have k4' : decide ((1152921504606846976 : Int) < (d : Int)) = true := decide_eq_true k4
  go_enter Tryz.func70, Tryz.ntmps70
  go_wp2_with fail
  refine bodyPost_ret (v := .tuple #[.agg #[.int .i64 0, .int .i64 0], .int .i64 3]) (by simp [results, Tryz.results70, go_sem]) rfl ⟨rfl, ?_⟩
  repeat first | exact Below.refl _ _ | refine below_drewN ?_ _ | refine Below.setCell ?_ (by simp <;> omega) _ | refine Below.alloc ?_ (by simp <;> omega) _

theorem give_yes (b d : Nat) (w : World) (h2 : b ≤ 1152921504606846976) (h : d ≤ 1152921504606846976) :
    Calls Tryz.prog 70 #[.bool true, .agg #[.int .u64 (0 : Nat), .int .u64 b], .agg #[.int .u64 (0 : Nat), .int .u64 d]] w fun e w' => e = .returned (.tuple #[Qv ⟨-(b : Int), d⟩, .int .i64 0]) ∧ Below w.heap.size w w' := by
  have k3 : ¬ (1152921504606846976 : Int) < (b : Int) := by omega
  have k3' : decide ((1152921504606846976 : Int) < (b : Int)) = false := decide_eq_false k3
  have k4 : ¬ (1152921504606846976 : Int) < (d : Int) := by omega
  have k4' : decide ((1152921504606846976 : Int) < (d : Int)) = false := decide_eq_false k4
  have hb1 : IntKind.i64.wrap (b : Int) = b := IntWalk.i64_in _ (by omega)
  have hd1 : IntKind.i64.wrap (d : Int) = d := IntWalk.i64_in _ (by omega)
  have hn1 : IntKind.i64.wrap (-(b : Int)) = -(b : Int) := IntWalk.i64_in _ (by omega)
  go_enter Tryz.func70, Tryz.ntmps70
  go_wp2_with fail
  refine bodyPost_ret (v := .tuple #[.agg #[.int .i64 (-(b : Int)), .int .i64 (d : Int)], .int .i64 0]) (by simp [results, Tryz.results70, go_sem]) rfl ⟨rfl, ?_⟩
  repeat first | exact Below.refl _ _ | refine below_drewN ?_ _ | refine Below.setCell ?_ (by simp <;> omega) _ | refine Below.alloc ?_ (by simp <;> omega) _

theorem give_no (b d : Nat) (w : World) (h2 : b ≤ 1152921504606846976) (h : d ≤ 1152921504606846976) :
    Calls Tryz.prog 70 #[.bool false, .agg #[.int .u64 (0 : Nat), .int .u64 b], .agg #[.int .u64 (0 : Nat), .int .u64 d]] w fun e w' => e = .returned (.tuple #[Qv ⟨(b : Int), d⟩, .int .i64 0]) ∧ Below w.heap.size w w' := by
  have k3 : ¬ (1152921504606846976 : Int) < (b : Int) := by omega
  have k3' : decide ((1152921504606846976 : Int) < (b : Int)) = false := decide_eq_false k3
  have k4 : ¬ (1152921504606846976 : Int) < (d : Int) := by omega
  have k4' : decide ((1152921504606846976 : Int) < (d : Int)) = false := decide_eq_false k4
  have hb1 : IntKind.i64.wrap (b : Int) = b := IntWalk.i64_in _ (by omega)
  have hd1 : IntKind.i64.wrap (d : Int) = d := IntWalk.i64_in _ (by omega)
  go_enter Tryz.func70, Tryz.ntmps70
  go_wp2_with fail
  refine bodyPost_ret (v := .tuple #[.agg #[.int .i64 (b : Int), .int .i64 (d : Int)], .int .i64 0]) (by simp [results, Tryz.results70, go_sem]) rfl ⟨rfl, ?_⟩
  repeat first | exact Below.refl _ _ | refine below_drewN ?_ _ | refine Below.setCell ?_ (by simp <;> omega) _ | refine Below.alloc ?_ (by simp <;> omega) _

/-- a sign and a number -/
def signed (neg : Bool) (x : Nat) : Int := if neg then -(x : Int) else x
theorem signed_abs (neg : Bool) (x : Nat) : (signed neg x).natAbs = x := by unfold signed; split <;> simp
theorem give_any (neg : Bool) (X Y : Nat) (w : World) :
    Calls Tryz.prog 70 #[.bool neg, Wv X, Wv Y] w fun e w' => e = .returned (.tuple #[Qv (limV ⟨signed neg X, Y⟩), .int .i64 (limE ⟨signed neg X, Y⟩)]) ∧ Below w.heap.size w w' := by
  unfold Wv limV limE
  simp only [signed_abs, Int.natAbs_natCast]
  by_cases h1 : 0 < X / 18446744073709551616
  · rw [if_neg (by unfold top; omega), if_neg (by unfold top; omega)]
    exact give_hi _ _ _ _ _ _ h1
  by_cases h2 : 0 < Y / 18446744073709551616
  · rw [if_neg (by unfold top; omega), if_neg (by unfold top; omega)]
    exact give_hj _ _ _ _ _ _ (by omega) h2
  by_cases h3 : 1152921504606846976 < X % 18446744073709551616
  · rw [if_neg (by unfold top; omega), if_neg (by unfold top; omega)]
    exact give_lo _ _ _ _ _ _ (by omega) (by omega) h3
  by_cases h4 : 1152921504606846976 < Y % 18446744073709551616
  · rw [if_neg (by unfold top; omega), if_neg (by unfold top; omega)]
    exact give_lp _ _ _ _ _ _ (by omega) (by omega) (by omega) h4
  have eX : X / 18446744073709551616 = 0 := by omega
  have eY : Y / 18446744073709551616 = 0 := by omega
  have fX : X % 18446744073709551616 = X := by omega
  have fY : Y % 18446744073709551616 = Y := by omega
  rw [if_pos (by unfold top; omega), if_pos (by unfold top; omega), eX, eY, fX, fY]
  rw [fX] at h3
  rw [fY] at h4
  cases neg
  · exact give_no X Y w (by omega) (by omega)
  · exact give_yes X Y w (by omega) (by omega)

end Go.Proofs.YtfbijgbpipedoaaGreatDoor
