/- Walks of ratio's functions: sum as a sum of signed numbers; Make; Rem64. -/
import Derived.Test.YtfbijgbpipedoaaDoorRf
namespace Go.Proofs.YtfbijgbpipedoaaDoor
open Go.RowKit Ra

def sumT (m l : Bool) (A B : Nat) : Nat := if m = l then A + B else if A < B then B - A else A - B
def sumM (m l : Bool) (A B : Nat) : Bool := if m = l then m else if A < B then l else m
theorem sum_signed (m l : Bool) (A B : Nat) : signed (sumM m l A B) (sumT m l A B) = signed m A + signed l B := by
  unfold signed sumM sumT
  by_cases h : A < B <;> cases m <;> cases l <;> simp [h] <;> omega
theorem sum_lt (m l : Bool) (A B : Nat) (hA : A < 170141183460469231731687303715884105728) (hB : B < 170141183460469231731687303715884105728) : sumT m l A B < 340282366920938463463374607431768211456 := by
  unfold sumT
  split
  · omega
  · split <;> omega

theorem sum_any (m l : Bool) (A B : Nat) (w : World) (hA : A < 170141183460469231731687303715884105728) (hB : B < 170141183460469231731687303715884105728) :
    Calls Tryd.prog 38 #[Wv A, .bool m, Wv B, .bool l] w fun e w' => e = .returned (.tuple #[Wv (sumT m l A B), .bool (sumM m l A B)]) ∧ Below w.heap.size w w' := by
  have a1 : A / 18446744073709551616 < 18446744073709551616 := by omega
  have b1 : B / 18446744073709551616 < 18446744073709551616 := by omega
  have a0 : A % 18446744073709551616 < 18446744073709551616 := by omega
  have b0 : B % 18446744073709551616 < 18446744073709551616 := by omega
  unfold sumT sumM
  by_cases h : m = l
  · subst h
    rw [if_pos rfl, if_pos rfl]
    unfold Wv
    exact sum_plus m _ _ _ _ _ _ ((A % 18446744073709551616 + B % 18446744073709551616) / 18446744073709551616) w a1 a0 b1 b0 (by omega) (by omega) (by omega) (by omega)
  · rw [if_neg h, if_neg h]
    have hm : (m == l) = false := by simp [h]
    by_cases h1 : A / 18446744073709551616 < B / 18446744073709551616
    · rw [if_pos (by omega), if_pos (by omega)]
      unfold Wv
      exact sum_swap_hi m l hm _ _ _ _ _ _ (if B % 18446744073709551616 < A % 18446744073709551616 then 1 else 0) w a1 a0 b1 b0 h1 (by split <;> omega) (by omega) (by split <;> omega) (by omega)
    by_cases h2 : B / 18446744073709551616 < A / 18446744073709551616
    · rw [if_neg (by omega), if_neg (by omega)]
      unfold Wv
      exact sum_keep_hi m l hm _ _ _ _ _ _ (if A % 18446744073709551616 < B % 18446744073709551616 then 1 else 0) w a1 a0 b1 b0 h2 (by split <;> omega) (by omega) (by split <;> omega) (by omega)
    have e : B / 18446744073709551616 = A / 18446744073709551616 := by omega
    by_cases h3 : A % 18446744073709551616 < B % 18446744073709551616
    · rw [if_pos (by omega), if_pos (by omega)]
      have k1 : (B - A) / 18446744073709551616 = 0 := by omega
      unfold Wv
      rw [e, k1]
      exact sum_swap_lo m l hm _ _ _ _ w a1 a0 b0 h3 (by omega) (by omega)
    · rw [if_neg (by omega), if_neg (by omega)]
      have k1 : (A - B) / 18446744073709551616 = 0 := by omega
      unfold Wv
      rw [e, k1]
      exact sum_keep_lo m l hm _ _ _ _ w a1 a0 b0 (by omega) (by omega) (by omega)

end Go.Proofs.YtfbijgbpipedoaaDoor
