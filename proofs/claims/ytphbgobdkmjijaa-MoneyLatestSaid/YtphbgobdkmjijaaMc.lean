/- Interest and discount of the reference. -/
import Derived.Test.YtphbgobdkmjijaaMb
namespace Go.Proofs.Ytphbgobdkmjijaa
open Go.RowKit Mo

theorem parts_bd (s k d S K : Int) (s0 : 0 ≤ s) (s1 : s ≤ S) (k0 : 0 ≤ k) (k1 : k ≤ K) (hd : 0 < d) :
    0 ≤ s / d * k ∧ s / d * k ≤ S / d * K ∧ 0 ≤ s % d * k ∧ s % d * k ≤ d * K := by
  have h1 : 0 ≤ s / d := Int.ediv_nonneg s0 (by omega)
  have h2 := Int.emod_nonneg s (show d ≠ 0 by omega)
  have h3 := Int.emod_lt_of_pos s hd
  have h4 : s / d ≤ S / d := Int.ediv_le_ediv hd s1
  exact ⟨Int.mul_nonneg h1 k0, Int.mul_le_mul h4 k1 k0 (by omega), Int.mul_nonneg h2 k0, Int.mul_le_mul (by omega) k1 k0 (by omega)⟩

theorem ceil_split (s k : Int) : ceil (s * k) 360000 = s / 360000 * k + (s % 360000 * k + 360000 - 1) / 360000 := by
  unfold ceil
  have h1 := Int.mul_ediv_add_emod s 360000
  have e : s * k + 360000 - 1 = (s % 360000 * k + 360000 - 1) + 360000 * (s / 360000 * k) := by
    have e2 : s * k = s % 360000 * k + 360000 * (s / 360000 * k) := by
      conv => lhs; rw [← h1]
      rw [Int.add_mul, Int.mul_assoc]; omega
    omega
  rw [e, Int.add_mul_ediv_left _ _ (by omega)]; omega

set_option maxHeartbeats 1000000 in
theorem refInterest_any (s p f t b : Int) (w : World) :
    Calls Try.prog 10 #[.int .i64 s, .int .i64 p, .int .i64 f, .int .i64 t, .int .i64 b] w fun e w' => e = .returned (.tuple #[.int .i64 (iVal s p f t b), .int .i64 (iErr s p f t b)]) ∧ Below w.heap.size w w' := by
  by_cases hok : iOk s p f t b
  · obtain ⟨⟨s0, s1⟩, ⟨p0, p1⟩, ⟨f0, f1⟩, ⟨t0, t1⟩, hft, hb⟩ := id hok
    obtain ⟨k0, k1⟩ := prod_bd p0 p1 (show 0 ≤ t - f by omega) (show t - f ≤ 100000 by omega)
    have hv : iVal s p f t b = capV 1099511627776 (s * (p * (t - f)) / (1000 * b)) := by unfold iVal; rw [if_pos hok]
    have he : iErr s p f t b = capE 1099511627776 (s * (p * (t - f)) / (1000 * b)) := by unfold iErr; rw [if_pos hok]
    rw [hv, he]
    clear hv he hok
    have hw1 := within_yes s0 s1
    have hw3 := within_yes f0 f1
    have hw4 := within_yes t0 t1
    obtain ⟨k, hk⟩ : ∃ k, p * (t - f) = k := ⟨_, rfl⟩
    rw [hk] at k0 k1 ⊢
    rcases hb with rfl | rfl
    · obtain ⟨b0, b1, b2, b3⟩ := parts_bd s k 360000 1099511627776 100000000 s0 s1 k0 (by omega) (by omega)
      rw [show (1000 : Int) * 360 = 360000 from rfl, ← split_quo s k 360000 (by omega)]
      have w1 : IntKind.i64.wrap (s / 360000) = s / 360000 := IntWalk.i64_in _ (by omega)
      have w2 : IntKind.i64.wrap (s / 360000 * k) = s / 360000 * k := IntWalk.i64_in _ (by omega)
      have w3 : IntKind.i64.wrap (s % 360000 * k) = s % 360000 * k := IntWalk.i64_in _ (by omega)
      have w4 : IntKind.i64.wrap (s % 360000 * k / 360000) = s % 360000 * k / 360000 := IntWalk.i64_in _ (by omega)
      have w5 : IntKind.i64.wrap (s / 360000 * k + s % 360000 * k / 360000) = s / 360000 * k + s % 360000 * k / 360000 := IntWalk.i64_in _ (by omega)
      by_cases hg : 1099511627776 < s / 360000 * k + s % 360000 * k / 360000
      · rw [capV_no hg, capE_no hg]
        go_enter Try.func10, Try.ntmps10
        go_wp2_with (first | (go_at_call 19; refine (refSum_any _ _).mono ?_; rintro e w' ⟨rfl, rfl⟩) | (go_at_call 20; refine (refDay_any _ _).mono ?_; rintro e w' ⟨rfl, rfl⟩))
        go_quiet (fail)
        go_wp2
        go_ret2
        exact ⟨rfl, below_drewN (Below.refl _ _) _⟩
      · rw [capV_yes (by omega), capE_yes (by omega)]
        go_enter Try.func10, Try.ntmps10
        go_wp2_with (first | (go_at_call 19; refine (refSum_any _ _).mono ?_; rintro e w' ⟨rfl, rfl⟩) | (go_at_call 20; refine (refDay_any _ _).mono ?_; rintro e w' ⟨rfl, rfl⟩))
        go_quiet (fail)
        go_wp2
        go_ret2
        exact ⟨rfl, below_drewN (Below.refl _ _) _⟩
    · obtain ⟨b0, b1, b2, b3⟩ := parts_bd s k 365000 1099511627776 100000000 s0 s1 k0 (by omega) (by omega)
      rw [show (1000 : Int) * 365 = 365000 from rfl, ← split_quo s k 365000 (by omega)]
      have w1 : IntKind.i64.wrap (s / 365000) = s / 365000 := IntWalk.i64_in _ (by omega)
      have w2 : IntKind.i64.wrap (s / 365000 * k) = s / 365000 * k := IntWalk.i64_in _ (by omega)
      have w3 : IntKind.i64.wrap (s % 365000 * k) = s % 365000 * k := IntWalk.i64_in _ (by omega)
      have w4 : IntKind.i64.wrap (s % 365000 * k / 365000) = s % 365000 * k / 365000 := IntWalk.i64_in _ (by omega)
      have w5 : IntKind.i64.wrap (s / 365000 * k + s % 365000 * k / 365000) = s / 365000 * k + s % 365000 * k / 365000 := IntWalk.i64_in _ (by omega)
      by_cases hg : 1099511627776 < s / 365000 * k + s % 365000 * k / 365000
      · rw [capV_no hg, capE_no hg]
        go_enter Try.func10, Try.ntmps10
        go_wp2_with (first | (go_at_call 19; refine (refSum_any _ _).mono ?_; rintro e w' ⟨rfl, rfl⟩) | (go_at_call 20; refine (refDay_any _ _).mono ?_; rintro e w' ⟨rfl, rfl⟩))
        go_quiet (fail)
        go_wp2
        go_ret2
        exact ⟨rfl, below_drewN (Below.refl _ _) _⟩
      · rw [capV_yes (by omega), capE_yes (by omega)]
        go_enter Try.func10, Try.ntmps10
        go_wp2_with (first | (go_at_call 19; refine (refSum_any _ _).mono ?_; rintro e w' ⟨rfl, rfl⟩) | (go_at_call 20; refine (refDay_any _ _).mono ?_; rintro e w' ⟨rfl, rfl⟩))
        go_quiet (fail)
        go_wp2
        go_ret2
        exact ⟨rfl, below_drewN (Below.refl _ _) _⟩
  · have Hok := Lib.hid hok
    rw [iVal_bad hok, iErr_bad hok]
    clear hok
    go_enter Try.func10, Try.ntmps10
    go_wp2_with (first | (go_at_call 19; refine (refSum_any _ _).mono ?_; rintro e w' ⟨rfl, rfl⟩) | (go_at_call 20; refine (refDay_any _ _).mono ?_; rintro e w' ⟨rfl, rfl⟩))
    all_goals first | (go_ret2; exact ⟨rfl, Below.refl _ _⟩) | skip
    all_goals
      exfalso
      have hb1 : withinB s 1099511627776 = true := by assumption
      have hb2 : withinB f 100000 = true := by assumption
      have hb3 : withinB t 100000 = true := by assumption
      refine Hok.out ⟨within_of hb1, by omega, within_of hb2, within_of hb3, by omega, by first | omega | simp_all⟩

set_option maxHeartbeats 1000000 in
theorem refDiscount_any (s p d : Int) (w : World) :
    Calls Try.prog 12 #[.int .i64 s, .int .i64 p, .int .i64 d] w fun e w' => e = .returned (.tuple #[.int .i64 (dVal s p d), .int .i64 (dErr s p d)]) ∧ Below w.heap.size w w' := by
  by_cases hok : dOk s p d
  · obtain ⟨⟨s0, s1⟩, ⟨p0, p1⟩, d0, d1⟩ := id hok
    obtain ⟨k0, k1⟩ := prod_bd p0 p1 d0 d1
    have hv : dVal s p d = capV s (ceil (s * (p * d)) 360000) := by unfold dVal; rw [if_pos hok]
    have he : dErr s p d = capE s (ceil (s * (p * d)) 360000) := by unfold dErr; rw [if_pos hok]
    rw [hv, he]
    clear hv he hok
    have hw1 := within_yes s0 s1
    obtain ⟨k, hk⟩ : ∃ k, p * d = k := ⟨_, rfl⟩
    rw [hk] at k0 k1 ⊢
    obtain ⟨b0, b1, b2, b3⟩ := parts_bd s k 360000 1099511627776 20000000 s0 s1 k0 (by omega) (by omega)
    rw [ceil_split s k]
    have w1 : IntKind.i64.wrap (s / 360000) = s / 360000 := IntWalk.i64_in _ (by omega)
    have w2 : IntKind.i64.wrap (s / 360000 * k) = s / 360000 * k := IntWalk.i64_in _ (by omega)
    have w3 : IntKind.i64.wrap (s % 360000 * k) = s % 360000 * k := IntWalk.i64_in _ (by omega)
    have w3b : IntKind.i64.wrap (s % 360000 * k + 360000) = s % 360000 * k + 360000 := IntWalk.i64_in _ (by omega)
    have w3c : IntKind.i64.wrap (s % 360000 * k + 360000 - 1) = s % 360000 * k + 360000 - 1 := IntWalk.i64_in _ (by omega)
    have w4 : IntKind.i64.wrap ((s % 360000 * k + 360000 - 1) / 360000) = (s % 360000 * k + 360000 - 1) / 360000 := IntWalk.i64_in _ (by omega)
    have w5 : IntKind.i64.wrap (s / 360000 * k + (s % 360000 * k + 360000 - 1) / 360000) = s / 360000 * k + (s % 360000 * k + 360000 - 1) / 360000 := IntWalk.i64_in _ (by omega)
    have w6 : 0 ≤ s % 360000 * k + 360000 - 1 := by omega
    by_cases hg : s < s / 360000 * k + (s % 360000 * k + 360000 - 1) / 360000
    · rw [capV_no hg, capE_no hg]
      go_enter Try.func12, Try.ntmps12
      go_wp2_with (first | (go_at_call 19; refine (refSum_any _ _).mono ?_; rintro e w' ⟨rfl, rfl⟩) | (go_at_call 20; refine (refDay_any _ _).mono ?_; rintro e w' ⟨rfl, rfl⟩))
      go_quiet (fail)
      go_wp2
      go_ret2
      exact ⟨rfl, below_drewN (Below.refl _ _) _⟩
    · rw [capV_yes (by omega), capE_yes (by omega)]
      go_enter Try.func12, Try.ntmps12
      go_wp2_with (first | (go_at_call 19; refine (refSum_any _ _).mono ?_; rintro e w' ⟨rfl, rfl⟩) | (go_at_call 20; refine (refDay_any _ _).mono ?_; rintro e w' ⟨rfl, rfl⟩))
      go_quiet (fail)
      go_wp2
      go_ret2
      exact ⟨rfl, below_drewN (Below.refl _ _) _⟩
  · have Hok := Lib.hid hok
    rw [dVal_bad hok, dErr_bad hok]
    clear hok
    go_enter Try.func12, Try.ntmps12
    go_wp2_with (first | (go_at_call 19; refine (refSum_any _ _).mono ?_; rintro e w' ⟨rfl, rfl⟩) | (go_at_call 20; refine (refDay_any _ _).mono ?_; rintro e w' ⟨rfl, rfl⟩))
    all_goals first | (go_ret2; exact ⟨rfl, Below.refl _ _⟩) | skip
    all_goals
      exfalso
      have hb1 : withinB s 1099511627776 = true := by assumption
      refine Hok.out ⟨within_of hb1, by omega, by omega, by omega⟩

end Go.Proofs.Ytphbgobdkmjijaa
