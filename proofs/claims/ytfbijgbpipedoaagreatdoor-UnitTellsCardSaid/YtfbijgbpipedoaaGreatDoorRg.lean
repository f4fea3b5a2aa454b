/- Walks of ratio's functions: sum as a sum of signed numbers; Make; Rem64. -/
import Derived.Test.YtfbijgbpipedoaaGreatDoorRf
namespace Go.Proofs.YtfbijgbpipedoaaGreatDoor
open Go.RowKit Ra

def sumT (m l : Bool) (A B : Nat) : Nat := if m = l then A + B else if A < B then B - A else A - B
def sumM (m l : Bool) (A B : Nat) : Bool := if m = l then m else if A < B then l else m
theorem sum_signed (m l : Bool) (A B : Nat) : signed (sumM m l A B) (sumT m l A B) = signed m A + signed l B := by
  unfold signed sumM sumT
  by_cases h : A < B <;> cases m <;> cases l <;> simp [h] <;> omega
theorem sum_lt (m l : Bool) (A B : Nat) (hA : A < 170141183460469231731687303715884105728) (hB : B < 170141183460469231731687303715884105728) : sumT m l A B < 340282366920938463463374607431768211456 := by
  unfold sumT
  split
  · omega
  · split <;> omega

theorem sum_any (m l : Bool) (A B : Nat) (w : World) (hA : A < 170141183460469231731687303715884105728) (hB : B < 170141183460469231731687303715884105728) :
    Calls Tryz.prog 66 #[Wv A, .bool m, Wv B, .bool l] w fun e w' => e = .returned (.tuple #[Wv (sumT m l A B), .bool (sumM m l A B)]) ∧ Below w.heap.size w w' := by
  have a1 : A / 18446744073709551616 < 18446744073709551616 := by omega
  have b1 : B / 18446744073709551616 < 18446744073709551616 := by omega
  have a0 : A % 18446744073709551616 < 18446744073709551616 := by omega
  have b0 : B % 18446744073709551616 < 18446744073709551616 := by omega
  unfold sumT sumM
  by_cases h : m = l
  · subst h
    rw [if_pos rfl, if_pos rfl]
    unfold Wv
    exact sum_plus m _ _ _ _ _ _ ((A % 18446744073709551616 + B % 18446744073709551616) / 18446744073709551616) w a1 a0 b1 b0 (by omega) (by omega) (by omega) (by omega)
  · rw [if_neg h, if_neg h]
    have hm : (m == l) = false := by simp [h]
    by_cases h1 : A / 18446744073709551616 < B / 18446744073709551616
    · rw [if_pos (by omega), if_pos (by omega)]
      unfold Wv
      exact sum_swap_hi m l hm _ _ _ _ _ _ (if B % 18446744073709551616 < A % 18446744073709551616 then 1 else 0) w a1 a0 b1 b0 h1 (by split <;> omega) (by omega) (by split <;> omega) (by omega)
    by_cases h2 : B / 18446744073709551616 < A / 18446744073709551616
    · rw [if_neg (by omega), if_neg (by omega)]
      unfold Wv
      exact sum_keep_hi m l hm _ _ _ _ _ _ (if A % 18446744073709551616 < B % 18446744073709551616 then 1 else 0) w a1 a0 b1 b0 h2 (by split <;> omega) (by omega) (by split <;> omega) (by omega)
    have e : B / 18446744073709551616 = A / 18446744073709551616 := by omega
    by_cases h3 : A % 18446744073709551616 < B % 18446744073709551616
    · rw [if_pos (by omega), if_pos (by omega)]
      have k1 : (B - A) / 18446744073709551616 = 0 := by omega
      unfold Wv
      rw [e, k1]
      exact sum_swap_lo m l hm _ _ _ _ w a1 a0 b0 h3 (by omega) (by omega)
    · rw [if_neg (by omega), if_neg (by omega)]
      have k1 : (A - B) / 18446744073709551616 = 0 := by omega
      unfold Wv
      rw [e, k1]
      exact sum_keep_lo m l hm _ _ _ _ w a1 a0 b0 (by omega) (by omega) (by omega)

theorem rem64_any (t y : Nat) (w : World) (h0 : 0 < y) (h1 : y < 18446744073709551616) :
    Calls Tryz.prog 69 #[.int .u64 ((t / 18446744073709551616 : Nat) : Int), .int .u64 ((t % 18446744073709551616 : Nat) : Int), .int .u64 y] w fun e w' => e = .returned (.int .u64 ((t % y : Nat) : Int)) ∧ ∃ n, w' = w.drewN n := by
  have hlo : t % 18446744073709551616 < 18446744073709551616 := Nat.mod_lt _ (by omega)
  have e : t % y = (t / 18446744073709551616 % y * 18446744073709551616 + t % 18446744073709551616) % y := by
    have h : t = y * (t / 18446744073709551616 / y * 18446744073709551616) + (t / 18446744073709551616 % y * 18446744073709551616 + t % 18446744073709551616) := by
      have h1 := Nat.div_add_mod t 18446744073709551616
      have h2 := Nat.div_add_mod (t / 18446744073709551616) y
      calc t = 18446744073709551616 * (t / 18446744073709551616) + t % 18446744073709551616 := h1.symm
        _ = 18446744073709551616 * (y * (t / 18446744073709551616 / y) + t / 18446744073709551616 % y) + t % 18446744073709551616 := by rw [h2]
        _ = _ := by rw [Nat.mul_add, Nat.mul_comm 18446744073709551616 (y * _), Nat.mul_assoc, Nat.mul_comm 18446744073709551616 (_ % _), Nat.add_assoc]
    calc t % y = (y * (t / 18446744073709551616 / y * 18446744073709551616) + (t / 18446744073709551616 % y * 18446744073709551616 + t % 18446744073709551616)) % y := by rw [← h]
      _ = _ := Nat.mul_add_mod _ _ _
  rw [e]
  clear e
  generalize t / 18446744073709551616 = hi at *
  generalize t % 18446744073709551616 = lo at *
  have hd := fun w => div64_any (hi % y) lo y w (Nat.mod_lt _ h0) h1 hlo
  have H := Lib.hid hd
  clear hd
  have em : (hi : Int) % (y : Int) = ((hi % y : Nat) : Int) := by rw [Int.natCast_emod]
  have y0 : ¬ (y : Int) = 0 := by omega
  generalize (hi % y * 18446744073709551616 + lo) / y = q at *
  generalize (hi % y * 18446744073709551616 + lo) % y = r at *
  generalize hi % y = h2 at *
  go_enter Tryz.func69, Tryz.ntmps69
  go_wp2_with fail
  refine (H.out _).mono ?_
  rintro e w1 ⟨rfl, n1, rfl⟩
  go_wp2_with fail
  go_ret
  exact ⟨rfl, _, rfl⟩

end Go.Proofs.YtfbijgbpipedoaaGreatDoor
