/- Walks of ratio's functions: Right, times, over, give. -/
import Derived.Test.YtfbijgbpipedoaaDoorRa
import Derived.Test.YtfbijgbpipedoaaDoorOwn
namespace Go.Proofs.YtfbijgbpipedoaaDoor
open Go.RowKit Ra

def Lat (W w : World) : Prop := Below W.heap.size W w
theorem Lat.refl (W : World) : Lat W W := Below.refl _ _
theorem Lat.step {W w w' : World} (h : Lat W w) (k : Below w.heap.size w w') : Lat W w' := Below.trans h (k.mono h.size)

/-- a ratio, and a number of 128 bits, as the program holds them -/
def Qv (q : Q) : Value := .agg #[.int .i64 q.n, .int .i64 q.d]
def Wv (t : Nat) : Value := .agg #[.int .u64 ((t / 18446744073709551616 : Nat) : Int), .int .u64 ((t % 18446744073709551616 : Nat) : Int)]
def Q64 (q : Q) : Prop := -9223372036854775808 ≤ q.n ∧ q.n ≤ 9223372036854775807 ∧ -9223372036854775808 ≤ q.d ∧ q.d ≤ 9223372036854775807

theorem times_any (a b : Nat) (w : World) (ha : a < 18446744073709551616) (hb : b < 18446744073709551616) :
    Calls Tryd.prog 39 #[.int .u64 a, .int .u64 b] w fun e w' => e = .returned (Wv (a * b)) ∧ Below w.heap.size w w' := by
  unfold Wv
  have key : ∀ w, Calls Tryd.prog 48 #[.int .u64 a, .int .u64 b] w fun e w' => e = .returned (.tuple #[.int .u64 ((a * b / 18446744073709551616 : Nat) : Int), .int .u64 ((a * b % 18446744073709551616 : Nat) : Int)]) ∧ w' = w := fun w => Tryd.bits_Mul64 a b ha hb w
  generalize a * b / 18446744073709551616 = hi at *
  generalize a * b % 18446744073709551616 = lo at *
  have Hk := Lib.hid key
  clear key
  go_enter Tryd.func39, Tryd.ntmps39
  go_wp2_with (go_at_call 48; refine (Hk.out _).mono ?_; rintro e w' ⟨rfl, rfl⟩)
  refine bodyPost_ret (v := .agg #[.int .u64 (hi : Int), .int .u64 (lo : Int)]) (by simp [results, Tryd.results39, go_sem]) rfl ⟨rfl, ?_⟩
  exact (Below.refl _ _).alloc (Nat.le_refl _) _

theorem quo_small (c hi lo M : Nat) (hlo : lo < M) (h1 : hi < c) : (hi * M + lo) / c < M := by
  apply Nat.div_lt_of_lt_mul
  have : (hi + 1) * M ≤ c * M := Nat.mul_le_mul_right _ h1
  rw [Nat.add_mul] at this
  omega
theorem hi_of (p q : Nat) (h : q < 18446744073709551616) : (p * 18446744073709551616 + q) / 18446744073709551616 = p := by omega
theorem lo_of (p q : Nat) (h : q < 18446744073709551616) : (p * 18446744073709551616 + q) % 18446744073709551616 = q := by omega
theorem over_law (t k : Nat) (hk : 0 < k) :
    t / k = t / 18446744073709551616 / k * 18446744073709551616 + (t / 18446744073709551616 % k * 18446744073709551616 + t % 18446744073709551616) / k := by
  have h : t = k * (t / 18446744073709551616 / k * 18446744073709551616) + (t / 18446744073709551616 % k * 18446744073709551616 + t % 18446744073709551616) := by
    have h1 := Nat.div_add_mod t 18446744073709551616
    have h2 := Nat.div_add_mod (t / 18446744073709551616) k
    calc t = 18446744073709551616 * (t / 18446744073709551616) + t % 18446744073709551616 := h1.symm
      _ = 18446744073709551616 * (k * (t / 18446744073709551616 / k) + t / 18446744073709551616 % k) + t % 18446744073709551616 := by rw [h2]
      _ = _ := by rw [Nat.mul_add, Nat.mul_comm 18446744073709551616 (k * _), Nat.mul_assoc, Nat.mul_comm 18446744073709551616 (_ % _), Nat.add_assoc]
  calc t / k = (k * (t / 18446744073709551616 / k * 18446744073709551616) + (t / 18446744073709551616 % k * 18446744073709551616 + t % 18446744073709551616)) / k := by rw [← h]
    _ = _ := Nat.mul_add_div hk _ _

end Go.Proofs.YtfbijgbpipedoaaDoor
