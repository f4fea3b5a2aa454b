/- Walks of ratio's functions: Make. -/
import Derived.Test.YtfbijgbpipedoaaGreatDoorRg
import Derived.Test.YtfbijgbpipedoaaGreatDoorStep
namespace Go.Proofs.YtfbijgbpipedoaaGreatDoor
open Go.RowKit Ra

theorem make_zero (n : Int) (w : World) :
    Calls Tryz.prog 45 #[.int .i64 n, .int .i64 0] w fun e w' => e = .returned (.tuple #[Qv ⟨0, 0⟩, .int .i64 1]) ∧ Below w.heap.size w w' := by
  go_enter Tryz.func45, Tryz.ntmps45
  go_wp2_with fail
  refine bodyPost_ret (v := .tuple #[.agg #[.int .i64 0, .int .i64 0], .int .i64 1]) (by simp [results, Tryz.results45, go_sem]) rfl ⟨rfl, ?_⟩
  repeat first | exact Below.refl _ _ | refine below_drewN ?_ _ | refine Below.setCell ?_ (by simp <;> omega) _ | refine Below.alloc ?_ (by simp <;> omega) _

set_option maxHeartbeats 4000000 in
theorem make_core (n d : Int) (neg : Bool) (p q g x y : Nat) (v u : Int) (er : Int) (w : World) (h0 : ¬ d = 0)
    (HA : Hid (∀ w, Calls Tryz.prog 68 #[.int .i64 n] w fun e w' => e = .returned (.int .u64 (p : Int)) ∧ w = w'))
    (HB : Hid (∀ w, Calls Tryz.prog 68 #[.int .i64 d] w fun e w' => e = .returned (.int .u64 (q : Int)) ∧ w = w'))
    (HG : Hid (∀ w, Calls Tryz.prog 65 #[.int .u64 (p : Int), .int .u64 (q : Int)] w fun e w' => e = .returned (.int .u64 (g : Int)) ∧ ∃ k, w' = w.drewN k))
    (HV : Hid (∀ w, Calls Tryz.prog 70 #[.bool neg, .agg #[.int .u64 0, .int .u64 (x : Int)], .agg #[.int .u64 0, .int .u64 (y : Int)]] w fun e w' => e = .returned (.tuple #[.agg #[.int .i64 v, .int .i64 u], .int .i64 er]) ∧ Below w.heap.size w w'))
    (e1 : (p : Int) / (g : Int) = (x : Int)) (e2 : (q : Int) / (g : Int) = (y : Int)) (g0 : ¬ g = 0) (ex : IntKind.u64.wrap (x : Int) = x) (ey : IntKind.u64.wrap (y : Int) = y) (en : (decide (n < 0) == decide (d < 0)) = !neg) :
    Calls Tryz.prog 45 #[.int .i64 n, .int .i64 d] w fun e w' => e = .returned (.tuple #[.agg #[.int .i64 v, .int .i64 u], .int .i64 er]) ∧ Below w.heap.size w w' := by
  have b0 : (d == 0) = false := by simp [h0]
  go_enter Tryz.func45, Tryz.ntmps45
  go_wp2_with fail
  refine (HA.out _).mono ?_
  rintro e w1 ⟨rfl, rfl⟩
  go_wp2_with fail
  refine (HB.out _).mono ?_
  rintro e w1 ⟨rfl, rfl⟩
  go_wp2_with fail
  refine (HG.out _).mono ?_
  rintro e w1 ⟨rfl, kk, rfl⟩
  go_wp2_with fail
  go_region_law (go_simp; go_at_call 70; refine (HV.out _).mono ?_; rintro e w' ⟨rfl, hb⟩
                 have c0 : w'.cell? ⟨w.heap.size, 0, none⟩ = some (.int .i64 0) := (hb.cell (by simp)).trans (by simp)
                 have c1 : w'.cell? ⟨w.heap.size, 1, none⟩ = some (.int .i64 0) := (hb.cell (by simp)).trans (by simp)
                 have f0 : w'.frozen? ⟨w.heap.size, 0, none⟩ = false := (hb.frozen (by simp)).trans (by simp)
                 have f1 : w'.frozen? ⟨w.heap.size, 1, none⟩ = false := (hb.frozen (by simp)).trans (by simp))
  go_wp2_with fail
  refine bodyPost_ret (v := .tuple #[.agg #[.int .i64 v, .int .i64 u], .int .i64 er]) (by simp [results, Tryz.results45, go_sem, *]) rfl ⟨rfl, ?_⟩
  refine Below.setCell (Below.setCell (Below.trans ?_ (hb.mono (by simp))) (by simp) _) (by simp) _
  repeat first | exact Below.refl _ _ | refine below_drewN ?_ _ | refine Below.setCell ?_ (by simp <;> omega) _ | refine Below.alloc ?_ (by simp <;> omega) _

end Go.Proofs.YtfbijgbpipedoaaGreatDoor
