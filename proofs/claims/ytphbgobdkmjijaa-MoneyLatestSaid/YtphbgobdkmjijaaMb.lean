/- Interest and discount, the program's and the reference's: each returns what the plain functions say. -/
import Derived.Test.YtphbgobdkmjijaaMa
namespace Go.Proofs.Ytphbgobdkmjijaa
open Go.RowKit Mo

theorem ret_two {a b c d : Int} (h1 : a = c) (h2 : b = d) : Ending.returned (.tuple #[.int .i64 a, .int .i64 b]) = .returned (.tuple #[.int .i64 c, .int .i64 d]) := by rw [h1, h2]

theorem within_not {n m : Int} (h : (!withinB n m) = false) : 0 ≤ n ∧ n ≤ m := within_of (by simpa using h)

theorem iVal_bad {s p f t b : Int} (h : ¬ iOk s p f t b) : iVal s p f t b = 0 := by unfold iVal; rw [if_neg h]
theorem iErr_bad {s p f t b : Int} (h : ¬ iOk s p f t b) : iErr s p f t b = 1 := by unfold iErr; rw [if_neg h]
theorem dVal_bad {s p f : Int} (h : ¬ dOk s p f) : dVal s p f = 0 := by unfold dVal; rw [if_neg h]
theorem dErr_bad {s p f : Int} (h : ¬ dOk s p f) : dErr s p f = 1 := by unfold dErr; rw [if_neg h]

theorem prod_bd {p d P D : Int} (h0 : 0 ≤ p) (h1 : p ≤ P) (h2 : 0 ≤ d) (h3 : d ≤ D) : 0 ≤ p * d ∧ p * d ≤ P * D :=
  ⟨Int.mul_nonneg h0 h2, Int.mul_le_mul h1 h3 h2 (by omega)⟩

set_option maxHeartbeats 1000000 in
theorem interest_any (s p f t b : Int) (w : World) :
    Calls Try.prog 9 #[.int .i64 s, .int .i64 p, .int .i64 f, .int .i64 t, .int .i64 b] w fun e w' => e = .returned (.tuple #[.int .i64 (iVal s p f t b), .int .i64 (iErr s p f t b)]) ∧ Below w.heap.size w w' := by
  by_cases hok : iOk s p f t b
  · obtain ⟨⟨s0, s1⟩, ⟨p0, p1⟩, ⟨f0, f1⟩, ⟨t0, t1⟩, hft, hb⟩ := id hok
    obtain ⟨k0, k1⟩ := prod_bd p0 p1 (show 0 ≤ t - f by omega) (show t - f ≤ 100000 by omega)
    have hp := part_any s.toNat (p * (t - f)).toNat (1000 * b).toNat w (by omega) (by omega) (by omega) (by omega)
    have hb0 : 0 ≤ 1000 * b := by omega
    rw [Int.toNat_of_nonneg s0, Int.toNat_of_nonneg k0, Int.toNat_of_nonneg hb0] at hp
    have hq : ((s.toNat * (p * (t - f)).toNat / (1000 * b).toNat : Nat) : Int) = s * (p * (t - f)) / (1000 * b) := by
      rw [Int.natCast_ediv, Int.natCast_mul, Int.toNat_of_nonneg s0, Int.toNat_of_nonneg k0, Int.toNat_of_nonneg hb0]
    have hv : iVal s p f t b = capV 1099511627776 (s * (p * (t - f)) / (1000 * b)) := by unfold iVal; rw [if_pos hok]
    have he : iErr s p f t b = capE 1099511627776 (s * (p * (t - f)) / (1000 * b)) := by unfold iErr; rw [if_pos hok]
    rw [hv, he, ← hq]
    unfold partV partR partB at hp
    generalize s.toNat * (p * (t - f)).toNat / (1000 * b).toNat = q at *
    generalize s.toNat * (p * (t - f)).toNat % (1000 * b).toNat = r at *
    clear hq hok hv he
    have hw1 := within_yes s0 s1
    have hw2 := within_yes p0 p1
    have hw3 := within_yes f0 f1
    have hw4 := within_yes t0 t1
    by_cases hg : q > 1099511627776
    · rw [if_pos hg, if_pos hg, decide_eq_true hg] at hp
      have Hp := Lib.hid hp
      clear hp
      rcases hb with rfl | rfl
      all_goals
        go_enter Try.func9, Try.ntmps9
        go_wp2_with (first | (go_at_call 17; refine (within_any _ _ _).mono ?_; rintro e w' ⟨rfl, rfl⟩) | (go_at_call 18; refine Hp.out.mono ?_; rintro e w' ⟨rfl, nq, rfl⟩))
        go_ret2
        exact ⟨ret_two (by unfold capV; rw [if_pos (by omega)]) (by unfold capE; rw [if_pos (by omega)]), below_drewN (Below.refl _ _) _⟩
    · rw [if_neg hg, if_neg hg, decide_eq_false hg] at hp
      have Hp := Lib.hid hp
      clear hp
      rcases hb with rfl | rfl
      all_goals
        go_enter Try.func9, Try.ntmps9
        go_wp2_with (first | (go_at_call 17; refine (within_any _ _ _).mono ?_; rintro e w' ⟨rfl, rfl⟩) | (go_at_call 18; refine Hp.out.mono ?_; rintro e w' ⟨rfl, nq, rfl⟩))
        go_ret2
        exact ⟨ret_two (by unfold capV; rw [if_neg (by omega)]) (by unfold capE; rw [if_neg (by omega)]), below_drewN (Below.refl _ _) _⟩
  · have Hok := Lib.hid hok
    rw [iVal_bad hok, iErr_bad hok]
    clear hok
    go_enter Try.func9, Try.ntmps9
    go_wp2_with (first | (go_at_call 17; refine (within_any _ _ _).mono ?_; rintro e w' ⟨rfl, rfl⟩) | fail)
    all_goals first | (go_ret2; exact ⟨rfl, Below.refl _ _⟩) | skip
    all_goals
      exfalso
      refine Hok.out ⟨within_of (by assumption), within_of (by assumption), within_of (by assumption), within_of (by assumption), by omega, by simp_all⟩

theorem capV_yes {m n : Int} (h : n ≤ m) : capV m n = n := by unfold capV; rw [if_neg (by omega)]
theorem capE_yes {m n : Int} (h : n ≤ m) : capE m n = 0 := by unfold capE; rw [if_neg (by omega)]
theorem capV_no {m n : Int} (h : m < n) : capV m n = 0 := by unfold capV; rw [if_pos h]
theorem capE_no {m n : Int} (h : m < n) : capE m n = 3 := by unfold capE; rw [if_pos h]

theorem ceil_eq (x d : Int) (hx : 0 ≤ x) (hd : 0 < d) : ceil x d = x / d + (if x % d > 0 then 1 else 0) := by
  unfold ceil
  have h1 := Int.mul_ediv_add_emod x d
  have h2 := Int.emod_lt_of_pos x hd
  have h3 := Int.emod_nonneg x (show d ≠ 0 by omega)
  have h4 : 0 ≤ x / d := Int.ediv_nonneg hx (by omega)
  generalize x / d = q at *
  generalize x % d = r at *
  subst h1
  have e : d * q + r + d - 1 = (r + d - 1) + d * q := by omega
  rw [e, Int.add_mul_ediv_left _ _ (by omega)]
  by_cases hr : r > 0
  · rw [if_pos hr, show r + d - 1 = (r - 1) + d * 1 by omega, Int.add_mul_ediv_left _ _ (by omega), Int.ediv_eq_zero_of_lt (by omega) (by omega)]
    omega
  · rw [if_neg hr, Int.ediv_eq_zero_of_lt (by omega) (by omega)]
    omega

set_option maxHeartbeats 1000000 in
theorem discount_any (s p d : Int) (w : World) :
    Calls Try.prog 11 #[.int .i64 s, .int .i64 p, .int .i64 d] w fun e w' => e = .returned (.tuple #[.int .i64 (dVal s p d), .int .i64 (dErr s p d)]) ∧ Below w.heap.size w w' := by
  by_cases hok : dOk s p d
  · obtain ⟨⟨s0, s1⟩, ⟨p0, p1⟩, d0, d1⟩ := id hok
    obtain ⟨k0, k1⟩ := prod_bd p0 p1 d0 d1
    have hp := part_any s.toNat (p * d).toNat 360000 w (by omega) (by omega) (by omega) (by omega)
    rw [Int.toNat_of_nonneg s0, Int.toNat_of_nonneg k0] at hp
    have hq : ((s.toNat * (p * d).toNat / 360000 : Nat) : Int) = s * (p * d) / 360000 := by
      rw [Int.natCast_ediv, Int.natCast_mul, Int.toNat_of_nonneg s0, Int.toNat_of_nonneg k0]; rfl
    have hr : ((s.toNat * (p * d).toNat % 360000 : Nat) : Int) = s * (p * d) % 360000 := by
      rw [Int.natCast_emod, Int.natCast_mul, Int.toNat_of_nonneg s0, Int.toNat_of_nonneg k0]; rfl
    have hc := ceil_eq (s * (p * d)) 360000 (Int.mul_nonneg s0 k0) (by omega)
    rw [← hq, ← hr] at hc
    have hv : dVal s p d = capV s (ceil (s * (p * d)) 360000) := by unfold dVal; rw [if_pos hok]
    have he : dErr s p d = capE s (ceil (s * (p * d)) 360000) := by unfold dErr; rw [if_pos hok]
    rw [hv, he, hc]
    unfold partV partR partB at hp
    have hrb : s.toNat * (p * d).toNat % 360000 < 360000 := Nat.mod_lt _ (by omega)
    generalize s.toNat * (p * d).toNat / 360000 = q at *
    generalize s.toNat * (p * d).toNat % 360000 = r at *
    clear hq hok hv he hc hr
    have hw1 := within_yes s0 s1
    have hw2 := within_yes p0 p1
    have hw3 := within_yes d0 d1
    by_cases hg : q > 1099511627776
    · rw [if_pos hg, if_pos hg, decide_eq_true hg] at hp
      have Hp := Lib.hid hp
      clear hp
      have hx : (0 : Int) ≤ (if (r : Int) > 0 then 1 else 0) := by split <;> omega
      generalize (if (r : Int) > 0 then (1 : Int) else 0) = x at *
      have hs : s < (q : Int) + x := by omega
      rw [capV_no hs, capE_no hs]
      go_enter Try.func11, Try.ntmps11
      go_wp2_with (first | (go_at_call 17; refine (within_any _ _ _).mono ?_; rintro e w' ⟨rfl, rfl⟩) | (go_at_call 18; refine Hp.out.mono ?_; rintro e w' ⟨rfl, nq, rfl⟩))
      go_ret2
      exact ⟨rfl, below_drewN (Below.refl _ _) _⟩
    · rw [if_neg hg, if_neg hg, decide_eq_false hg] at hp
      have Hp := Lib.hid hp
      clear hp
      by_cases hr : 0 < r
      · by_cases hs : s < (q : Int) + 1
        all_goals
          rw [if_pos (by omega)]
          first | rw [capV_no (by omega), capE_no (by omega)] | rw [capV_yes (by omega), capE_yes (by omega)]
          go_enter Try.func11, Try.ntmps11
          go_wp2_with (first | (go_at_call 17; refine (within_any _ _ _).mono ?_; rintro e w' ⟨rfl, rfl⟩) | (go_at_call 18; refine Hp.out.mono ?_; rintro e w' ⟨rfl, nq, rfl⟩))
          go_ret2
          exact ⟨rfl, below_drewN (Below.refl _ _) _⟩
      · by_cases hs : s < (q : Int)
        all_goals
          rw [if_neg (by omega), Int.add_zero]
          first | rw [capV_no (by omega), capE_no (by omega)] | rw [capV_yes (by omega), capE_yes (by omega)]
          go_enter Try.func11, Try.ntmps11
          go_wp2_with (first | (go_at_call 17; refine (within_any _ _ _).mono ?_; rintro e w' ⟨rfl, rfl⟩) | (go_at_call 18; refine Hp.out.mono ?_; rintro e w' ⟨rfl, nq, rfl⟩))
          go_ret2
          exact ⟨rfl, below_drewN (Below.refl _ _) _⟩
  · have Hok := Lib.hid hok
    rw [dVal_bad hok, dErr_bad hok]
    clear hok
    go_enter Try.func11, Try.ntmps11
    go_wp2_with (first | (go_at_call 17; refine (within_any _ _ _).mono ?_; rintro e w' ⟨rfl, rfl⟩) | fail)
    all_goals first | (go_ret2; exact ⟨rfl, Below.refl _ _⟩) | skip
    all_goals
      exfalso
      refine Hok.out ⟨within_of (by assumption), within_of (by assumption), within_not (by assumption)⟩

theorem refSum_any (s : Int) (w : World) :
    Calls Try.prog 19 #[.int .i64 s] w fun e w' => e = .returned (.bool (withinB s 1099511627776)) ∧ w = w' := by
  go_enter Try.func19, Try.ntmps19
  go_wp2
  all_goals go_ret
  · exact ⟨by simp [withinB, *], rfl⟩
  · exact ⟨by simp [withinB]; omega, rfl⟩
theorem refDay_any (s : Int) (w : World) :
    Calls Try.prog 20 #[.int .i64 s] w fun e w' => e = .returned (.bool (withinB s 100000)) ∧ w = w' := by
  go_enter Try.func20, Try.ntmps20
  go_wp2
  all_goals go_ret
  · exact ⟨by simp [withinB, *], rfl⟩
  · exact ⟨by simp [withinB]; omega, rfl⟩

theorem split_quo (s k d : Int) (hd : 0 < d) : s / d * k + s % d * k / d = s * k / d := by
  have h1 := Int.mul_ediv_add_emod s d
  have e : s * k = s % d * k + d * (s / d * k) := by
    conv => lhs; rw [← h1]
    rw [Int.add_mul, Int.mul_assoc]; omega
  rw [e, Int.add_mul_ediv_left _ _ (by omega)]; omega

end Go.Proofs.Ytphbgobdkmjijaa
