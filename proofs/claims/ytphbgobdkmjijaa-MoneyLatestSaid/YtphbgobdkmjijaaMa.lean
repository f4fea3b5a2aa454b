/- Walks of money's functions on numbers. -/
import Derived.Test.YtphbgobdkmjijaaDivAny
import Derived.Test.YtphbgobdkmjijaaMDef
namespace Go.Proofs.Ytphbgobdkmjijaa
open Go.RowKit Mo

def withinB (n m : Int) : Bool := decide (0 ≤ n ∧ n ≤ m)
theorem within_yes {n m : Int} (h0 : 0 ≤ n) (h1 : n ≤ m) : withinB n m = true := by simp [withinB, *]
theorem within_of {n m : Int} (h : withinB n m = true) : 0 ≤ n ∧ n ≤ m := by simpa [withinB] using h

theorem quo_big (x c hi lo M : Nat) (h : x = hi * M + lo) (hc : 0 < c) (h1 : c ≤ hi) : M ≤ x / c := by
  rw [Nat.le_div_iff_mul_le hc, Nat.mul_comm]
  have := Nat.mul_le_mul_right M h1
  omega
theorem quo_small (x c hi lo M : Nat) (h : x = hi * M + lo) (hlo : lo < M) (h1 : hi < c) : x / c < M := by
  apply Nat.div_lt_of_lt_mul
  have : (hi + 1) * M ≤ c * M := Nat.mul_le_mul_right _ h1
  rw [Nat.add_mul] at this
  omega

theorem within_any (n m : Int) (w : World) :
    Calls Try.prog 17 #[.int .i64 n, .int .i64 m] w fun e w' => e = .returned (.bool (withinB n m)) ∧ w = w' := by
  go_enter Try.func17, Try.ntmps17
  go_wp2
  all_goals go_ret
  · exact ⟨by simp [withinB, *], rfl⟩
  · exact ⟨by simp [withinB]; omega, rfl⟩

def partV (a b c : Nat) : Int := if a * b / c > 1099511627776 then 0 else (a * b / c : Nat)
def partR (a b c : Nat) : Int := if a * b / c > 1099511627776 then 0 else (a * b % c : Nat)
def partB (a b c : Nat) : Bool := !decide (a * b / c > 1099511627776)

theorem part_any (a b c : Nat) (w : World) (ha : a < 9223372036854775808) (hb : b < 9223372036854775808) (hc0 : 0 < c) (hc : c < 9223372036854775808) :
    Calls Try.prog 18 #[.int .i64 a, .int .i64 b, .int .i64 c] w fun e w' => e = .returned (.tuple #[.int .i64 (partV a b c), .int .i64 (partR a b c), .bool (partB a b c)]) ∧ ∃ n, w' = w.drewN n := by
  have hM := fun w => Try.bits_Mul64 a b (by omega) (by omega) w
  have HM := Lib.hid hM
  clear hM
  have hq : a * b = a * b / 18446744073709551616 * 18446744073709551616 + a * b % 18446744073709551616 := by omega
  have hlo : a * b % 18446744073709551616 < 18446744073709551616 := Nat.mod_lt _ (by omega)
  have ea : IntKind.u64.wrap (a : Int) = a := IntWalk.u64_in _ (by omega)
  obtain ⟨hi, hhi⟩ : ∃ x, x = a * b / 18446744073709551616 := ⟨_, rfl⟩
  obtain ⟨lo, hlo'⟩ : ∃ x, x = a * b % 18446744073709551616 := ⟨_, rfl⟩
  have key : Calls Try.prog 23 #[.int .u64 a, .int .u64 b] w fun e w' => e = .returned (.tuple #[.int .u64 (hi : Int), .int .u64 (lo : Int)]) ∧ w' = w := by
    rw [hhi, hlo']; exact HM.out w
  rw [← hhi, ← hlo'] at hq
  rw [← hlo'] at hlo
  clear hhi hlo' HM
  have Hk := Lib.hid key
  clear key
  have Hq := Lib.hid hq
  clear hq
  by_cases h1 : c ≤ hi
  · have hbig : a * b / c > 1099511627776 := by
      have := quo_big _ c hi lo _ Hq.out hc0 h1
      omega
    have e1 : partV a b c = 0 := by unfold partV; rw [if_pos hbig]
    have e2 : partR a b c = 0 := by unfold partR; rw [if_pos hbig]
    have e3 : partB a b c = false := by unfold partB; rw [decide_eq_true hbig]; rfl
    rw [e1, e2, e3]
    clear e1 e2 e3 hbig
    go_enter Try.func18, Try.ntmps18
    go_wp2_with (go_at_call 23; refine Hk.out.mono ?_; rintro e w' ⟨rfl, rfl⟩)
    go_ret3
    exact ⟨rfl, 0, rfl⟩
  · have hd := div64_any hi lo c w (by omega) (by omega) hlo
    have e0 : (hi * 18446744073709551616 + lo) / c = a * b / c := by rw [Hq.out]
    have e0' : (hi * 18446744073709551616 + lo) % c = a * b % c := by rw [Hq.out]
    rw [e0, e0'] at hd
    clear e0 e0'
    have Hd := Lib.hid hd
    clear hd
    have hr : a * b % c < c := Nat.mod_lt _ hc0
    have hqlt := quo_small _ c hi lo _ Hq.out hlo (by omega)
    obtain ⟨q, hqe⟩ : ∃ q, q = a * b / c := ⟨_, rfl⟩
    obtain ⟨r, hre⟩ : ∃ q, q = a * b % c := ⟨_, rfl⟩
    have e1 : partV a b c = if q > 1099511627776 then 0 else (q : Int) := by rw [hqe]; rfl
    have e2 : partR a b c = if q > 1099511627776 then 0 else (r : Int) := by rw [hqe, hre]; rfl
    have e3 : partB a b c = !decide (q > 1099511627776) := by rw [hqe]; rfl
    rw [e1, e2, e3]
    rw [← hqe] at hqlt
    rw [← hqe, ← hre] at Hd
    rw [← hre] at hr
    clear e1 e2 e3 hqe hre Hq
    by_cases hg : q > 1099511627776
    · rw [if_pos hg, if_pos hg, decide_eq_true hg]
      go_enter Try.func18, Try.ntmps18
      go_wp2_with (first | (go_at_call 23; refine Hk.out.mono ?_; rintro e w' ⟨rfl, rfl⟩) | (go_at_call 24; refine Hd.out.mono ?_; rintro e w' ⟨rfl, nq, rfl⟩))
      go_ret3
      exact ⟨rfl, nq, rfl⟩
    · rw [if_neg hg, if_neg hg, decide_eq_false hg]
      go_enter Try.func18, Try.ntmps18
      go_wp2_with (first | (go_at_call 23; refine Hk.out.mono ?_; rintro e w' ⟨rfl, rfl⟩) | (go_at_call 24; refine Hd.out.mono ?_; rintro e w' ⟨rfl, nq, rfl⟩))
      go_ret3
      exact ⟨rfl, nq, rfl⟩

end Go.Proofs.Ytphbgobdkmjijaa
