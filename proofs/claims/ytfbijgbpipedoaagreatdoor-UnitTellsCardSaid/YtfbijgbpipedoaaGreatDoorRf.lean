/- Walks of ratio's functions: sum. -/
import Derived.Test.YtfbijgbpipedoaaGreatDoorRe
namespace Go.Proofs.YtfbijgbpipedoaaGreatDoor
open Go.RowKit Ra

set_option maxHeartbeats 2000000 in
theorem sum_plus (m : Bool) (a1 a0 b1 b0 c1 c0 k : Nat) (w : World) (ha1 : a1 < 18446744073709551616) (ha0 : a0 < 18446744073709551616) (hb1 : b1 < 18446744073709551616) (hb0 : b0 < 18446744073709551616)
    (e0 : a0 + b0 = k * 18446744073709551616 + c0) (hc0 : c0 < 18446744073709551616) (e1 : a1 + b1 + k = c1) (hc1 : c1 < 18446744073709551616) :
    Calls Tryz.prog 66 #[.agg #[.int .u64 a1, .int .u64 a0], .bool m, .agg #[.int .u64 b1, .int .u64 b0], .bool m] w fun e w' => e = .returned (.tuple #[.agg #[.int .u64 c1, .int .u64 c0], .bool m]) ∧ Below w.heap.size w w' := by
  have q1 : ∀ w, (callFunc 81 #[.int .u64 a0, .int .u64 b0, .int .u64 0]).run Tryz.prog w = .ok (.value (.tuple #[.int .u64 (c0 : Int), .int .u64 (k : Int)])) w := fun w => add64_run a0 b0 0 c0 k ha0 hb0 (by omega) (by omega) hc0 w
  have q2 : ∀ w, (callFunc 81 #[.int .u64 a1, .int .u64 b1, .int .u64 k]).run Tryz.prog w = .ok (.value (.tuple #[.int .u64 (c1 : Int), .int .u64 0])) w := fun w => add64_run a1 b1 k c1 0 ha1 hb1 (by omega) (by omega) hc1 w
  clear e0 hc0 e1 hc1
  go_enter Tryz.func66, Tryz.ntmps66
  go_wp2_with fail
  refine bodyPost_ret (v := .tuple #[.agg #[.int .u64 (c1 : Int), .int .u64 (c0 : Int)], .bool m]) (by simp [results, Tryz.results66, go_sem]) rfl ⟨rfl, ?_⟩
  repeat first | exact Below.refl _ _ | refine below_drewN ?_ _ | refine Below.setCell ?_ (by simp <;> omega) _ | refine Below.alloc ?_ (by simp <;> omega) _

set_option maxHeartbeats 2000000 in
theorem sum_swap_hi (m l : Bool) (hm : (m == l) = false) (a1 a0 b1 b0 c1 c0 k : Nat) (w : World) (ha1 : a1 < 18446744073709551616) (ha0 : a0 < 18446744073709551616) (hb1 : b1 < 18446744073709551616) (hb0 : b0 < 18446744073709551616)
    (h : a1 < b1)
    (e0 : b0 + k * 18446744073709551616 = a0 + c0) (hc0 : c0 < 18446744073709551616) (e1 : b1 = a1 + k + c1) (hc1 : c1 < 18446744073709551616) :
    Calls Tryz.prog 66 #[.agg #[.int .u64 a1, .int .u64 a0], .bool m, .agg #[.int .u64 b1, .int .u64 b0], .bool l] w fun e w' => e = .returned (.tuple #[.agg #[.int .u64 c1, .int .u64 c0], .bool l]) ∧ Below w.heap.size w w' := by
  have q1 : ∀ w, (callFunc 82 #[.int .u64 b0, .int .u64 a0, .int .u64 0]).run Tryz.prog w = .ok (.value (.tuple #[.int .u64 (c0 : Int), .int .u64 (k : Int)])) w := fun w => sub64_run b0 a0 0 c0 k hb0 ha0 (by omega) (by omega) hc0 w
  have q2 : ∀ w, (callFunc 82 #[.int .u64 b1, .int .u64 a1, .int .u64 k]).run Tryz.prog w = .ok (.value (.tuple #[.int .u64 (c1 : Int), .int .u64 0])) w := fun w => sub64_run b1 a1 k c1 0 hb1 ha1 (by omega) (by omega) hc1 w
  have k1 : decide ((a1 : Int) < (b1 : Int)) = true := decide_eq_true (by omega)
  clear e0 hc0 e1 hc1
  go_enter Tryz.func66, Tryz.ntmps66
  go_wp2_with fail
  refine bodyPost_ret (v := .tuple #[.agg #[.int .u64 (c1 : Int), .int .u64 (c0 : Int)], .bool l]) (by simp [results, Tryz.results66, go_sem]) rfl ⟨rfl, ?_⟩
  repeat first | exact Below.refl _ _ | refine below_drewN ?_ _ | refine Below.setCell ?_ (by simp <;> omega) _ | refine Below.alloc ?_ (by simp <;> omega) _

set_option maxHeartbeats 2000000 in
theorem sum_swap_lo (m l : Bool) (hm : (m == l) = false) (a1 a0 b0 c0 : Nat) (w : World) (ha1 : a1 < 18446744073709551616) (ha0 : a0 < 18446744073709551616) (hb0 : b0 < 18446744073709551616)
    (h : a0 < b0)
    (e0 : b0 = a0 + c0) (hc0 : c0 < 18446744073709551616) :
    Calls Tryz.prog 66 #[.agg #[.int .u64 a1, .int .u64 a0], .bool m, .agg #[.int .u64 a1, .int .u64 b0], .bool l] w fun e w' => e = .returned (.tuple #[.agg #[.int .u64 0, .int .u64 c0], .bool l]) ∧ Below w.heap.size w w' := by
  have q1 : ∀ w, (callFunc 82 #[.int .u64 b0, .int .u64 a0, .int .u64 0]).run Tryz.prog w = .ok (.value (.tuple #[.int .u64 (c0 : Int), .int .u64 0])) w := fun w => sub64_run b0 a0 0 c0 0 hb0 ha0 (by omega) (by omega) hc0 w
  have q2 : ∀ w, (callFunc 82 #[.int .u64 a1, .int .u64 a1, .int .u64 0]).run Tryz.prog w = .ok (.value (.tuple #[.int .u64 0, .int .u64 0])) w := fun w => sub64_run a1 a1 0 0 0 ha1 ha1 (by omega) (by omega) (by omega) w
  have k3 : decide ((a0 : Int) < (b0 : Int)) = true := decide_eq_true (by omega)
  clear e0 hc0
  go_enter Tryz.func66, Tryz.ntmps66
  go_wp2_with fail
  refine bodyPost_ret (v := .tuple #[.agg #[.int .u64 0, .int .u64 (c0 : Int)], .bool l]) (by simp [results, Tryz.results66, go_sem]) rfl ⟨rfl, ?_⟩
  repeat first | exact Below.refl _ _ | refine below_drewN ?_ _ | refine Below.setCell ?_ (by simp <;> omega) _ | refine Below.alloc ?_ (by simp <;> omega) _

set_option maxHeartbeats 2000000 in
theorem sum_keep_lo (m l : Bool) (hm : (m == l) = false) (a1 a0 b0 c0 : Nat) (w : World) (ha1 : a1 < 18446744073709551616) (ha0 : a0 < 18446744073709551616) (hb0 : b0 < 18446744073709551616)
    (h : b0 ≤ a0)
    (e0 : a0 = b0 + c0) (hc0 : c0 < 18446744073709551616) :
    Calls Tryz.prog 66 #[.agg #[.int .u64 a1, .int .u64 a0], .bool m, .agg #[.int .u64 a1, .int .u64 b0], .bool l] w fun e w' => e = .returned (.tuple #[.agg #[.int .u64 0, .int .u64 c0], .bool m]) ∧ Below w.heap.size w w' := by
  have q1 : ∀ w, (callFunc 82 #[.int .u64 a0, .int .u64 b0, .int .u64 0]).run Tryz.prog w = .ok (.value (.tuple #[.int .u64 (c0 : Int), .int .u64 0])) w := fun w => sub64_run a0 b0 0 c0 0 ha0 hb0 (by omega) (by omega) hc0 w
  have q2 : ∀ w, (callFunc 82 #[.int .u64 a1, .int .u64 a1, .int .u64 0]).run Tryz.prog w = .ok (.value (.tuple #[.int .u64 0, .int .u64 0])) w := fun w => sub64_run a1 a1 0 0 0 ha1 ha1 (by omega) (by omega) (by omega) w
  have k3 : decide ((a0 : Int) < (b0 : Int)) = false := decide_eq_false (by omega)
  clear e0 hc0
  go_enter Tryz.func66, Tryz.ntmps66
  go_wp2_with fail
  refine bodyPost_ret (v := .tuple #[.agg #[.int .u64 0, .int .u64 (c0 : Int)], .bool m]) (by simp [results, Tryz.results66, go_sem]) rfl ⟨rfl, ?_⟩
  repeat first | exact Below.refl _ _ | refine below_drewN ?_ _ | refine Below.setCell ?_ (by simp <;> omega) _ | refine Below.alloc ?_ (by simp <;> omega) _

set_option maxHeartbeats 2000000 in
theorem sum_keep_hi (m l : Bool) (hm : (m == l) = false) (a1 a0 b1 b0 c1 c0 k : Nat) (w : World) (ha1 : a1 < 18446744073709551616) (ha0 : a0 < 18446744073709551616) (hb1 : b1 < 18446744073709551616) (hb0 : b0 < 18446744073709551616)
    (h : b1 < a1)
    (e0 : a0 + k * 18446744073709551616 = b0 + c0) (hc0 : c0 < 18446744073709551616) (e1 : a1 = b1 + k + c1) (hc1 : c1 < 18446744073709551616) :
    Calls Tryz.prog 66 #[.agg #[.int .u64 a1, .int .u64 a0], .bool m, .agg #[.int .u64 b1, .int .u64 b0], .bool l] w fun e w' => e = .returned (.tuple #[.agg #[.int .u64 c1, .int .u64 c0], .bool m]) ∧ Below w.heap.size w w' := by
  have q1 : ∀ w, (callFunc 82 #[.int .u64 a0, .int .u64 b0, .int .u64 0]).run Tryz.prog w = .ok (.value (.tuple #[.int .u64 (c0 : Int), .int .u64 (k : Int)])) w := fun w => sub64_run a0 b0 0 c0 k ha0 hb0 (by omega) (by omega) hc0 w
  have q2 : ∀ w, (callFunc 82 #[.int .u64 a1, .int .u64 b1, .int .u64 k]).run Tryz.prog w = .ok (.value (.tuple #[.int .u64 (c1 : Int), .int .u64 0])) w := fun w => sub64_run a1 b1 k c1 0 ha1 hb1 (by omega) (by omega) hc1 w
  have k1 : decide ((a1 : Int) < (b1 : Int)) = false := decide_eq_false (by omega)
  have k2 : ((a1 : Int) == (b1 : Int)) = false := by simp only [beq_eq_false_iff_ne]; omega
  clear e0 hc0 e1 hc1
  go_enter Tryz.func66, Tryz.ntmps66
  go_wp2_with fail
  refine bodyPost_ret (v := .tuple #[.agg #[.int .u64 (c1 : Int), .int .u64 (c0 : Int)], .bool m]) (by simp [results, Tryz.results66, go_sem]) rfl ⟨rfl, ?_⟩
  repeat first | exact Below.refl _ _ | refine below_drewN ?_ _ | refine Below.setCell ?_ (by simp <;> omega) _ | refine Below.alloc ?_ (by simp <;> omega) _

end Go.Proofs.YtfbijgbpipedoaaGreatDoor
