/- Walks of ratio's functions: Right, times, over, give. -/
import Derived.Test.YtfbijgbpipedoaaGreatDoorRa
import Derived.Test.YtfbijgbpipedoaaGreatDoorOwn
namespace Go.Proofs.YtfbijgbpipedoaaGreatDoor
open Go.RowKit Ra

def Lat (W w : World) : Prop := Below W.heap.size W w
theorem Lat.refl (W : World) : Lat W W := Below.refl _ _
theorem Lat.step {W w w' : World} (h : Lat W w) (k : Below w.heap.size w w') : Lat W w' := Below.trans h (k.mono h.size)

/-- a ratio, and a number of 128 bits, as the program holds them -/
def Qv (q : Q) : Value := .agg #[.int .i64 q.n, .int .i64 q.d]
def Wv (t : Nat) : Value := .agg #[.int .u64 ((t / 18446744073709551616 : Nat) : Int), .int .u64 ((t % 18446744073709551616 : Nat) : Int)]
def Q64 (q : Q) : Prop := -9223372036854775808 ≤ q.n ∧ q.n ≤ 9223372036854775807 ∧ -9223372036854775808 ≤ q.d ∧ q.d ≤ 9223372036854775807

theorem times_any (a b : Nat) (w : World) (ha : a < 18446744073709551616) (hb : b < 18446744073709551616) :
    Calls Tryz.prog 67 #[.int .u64 a, .int .u64 b] w fun e w' => e = .returned (Wv (a * b)) ∧ Below w.heap.size w w' := by
  unfold Wv
  have key : ∀ w, Calls Tryz.prog 83 #[.int .u64 a, .int .u64 b] w fun e w' => e = .returned (.tuple #[.int .u64 ((a * b / 18446744073709551616 : Nat) : Int), .int .u64 ((a * b % 18446744073709551616 : Nat) : Int)]) ∧ w' = w := fun w => Tryz.bits_Mul64 a b ha hb w
  generalize a * b / 18446744073709551616 = hi at *
  generalize a * b % 18446744073709551616 = lo at *
  have Hk := Lib.hid key
  clear key
  go_enter Tryz.func67, Tryz.ntmps67
  go_wp2_with (go_at_call 83; refine (Hk.out _).mono ?_; rintro e w' ⟨rfl, rfl⟩)
  refine bodyPost_ret (v := .agg #[.int .u64 (hi : Int), .int .u64 (lo : Int)]) (by simp [results, Tryz.results67, go_sem]) rfl ⟨rfl, ?_⟩
  exact (Below.refl _ _).alloc (Nat.le_refl _) _

theorem quo_small (c hi lo M : Nat) (hlo : lo < M) (h1 : hi < c) : (hi * M + lo) / c < M := by
  apply Nat.div_lt_of_lt_mul
  have : (hi + 1) * M ≤ c * M := Nat.mul_le_mul_right _ h1
  rw [Nat.add_mul] at this
  omega
theorem hi_of (p q : Nat) (h : q < 18446744073709551616) : (p * 18446744073709551616 + q) / 18446744073709551616 = p := by omega
theorem lo_of (p q : Nat) (h : q < 18446744073709551616) : (p * 18446744073709551616 + q) % 18446744073709551616 = q := by omega
theorem over_law (t k : Nat) (hk : 0 < k) :
    t / k = t / 18446744073709551616 / k * 18446744073709551616 + (t / 18446744073709551616 % k * 18446744073709551616 + t % 18446744073709551616) / k := by
  have h : t = k * (t / 18446744073709551616 / k * 18446744073709551616) + (t / 18446744073709551616 % k * 18446744073709551616 + t % 18446744073709551616) := by
    have h1 := Nat.div_add_mod t 18446744073709551616
    have h2 := Nat.div_add_mod (t / 18446744073709551616) k
    calc t = 18446744073709551616 * (t / 18446744073709551616) + t % 18446744073709551616 := h1.symm
      _ = 18446744073709551616 * (k * (t / 18446744073709551616 / k) + t / 18446744073709551616 % k) + t % 18446744073709551616 := by rw [h2]
      _ = _ := by rw [Nat.mul_add, Nat.mul_comm 18446744073709551616 (k * _), Nat.mul_assoc, Nat.mul_comm 18446744073709551616 (_ % _), Nat.add_assoc]
  calc t / k = (k * (t / 18446744073709551616 / k * 18446744073709551616) + (t / 18446744073709551616 % k * 18446744073709551616 + t % 18446744073709551616)) / k := by rw [← h]
    _ = _ := Nat.mul_add_div hk _ _

theorem over_any (t k : Nat) (w : World) (ht : t < 340282366920938463463374607431768211456) (hk : 0 < k) (hk2 : k < 18446744073709551616) :
    Calls Tryz.prog 71 #[Wv t, .int .u64 k] w fun e w' => e = .returned (Wv (t / k)) ∧ Below w.heap.size w w' := by
  have hlo : t % 18446744073709551616 < 18446744073709551616 := Nat.mod_lt _ (by omega)
  have hhi : t / 18446744073709551616 < 18446744073709551616 := by omega
  have hlaw := over_law t k hk
  obtain ⟨hi, he⟩ : ∃ hi, hi = t / 18446744073709551616 := ⟨_, rfl⟩
  rw [← he] at hhi hlaw
  have hr : hi % k < k := Nat.mod_lt _ hk
  have hd1 := fun w => div64_any 0 hi k w hk hk2 hhi
  have hd2 := fun w => div64_any (hi % k) (t % 18446744073709551616) k w hr hk2 hlo
  have hq : ((hi % k) * 18446744073709551616 + t % 18446744073709551616) / k < 18446744073709551616 := quo_small k (hi % k) (t % 18446744073709551616) 18446744073709551616 hlo hr
  have e1 : t / k / 18446744073709551616 = hi / k := by rw [hlaw]; exact hi_of _ _ hq
  have e2 : t / k % 18446744073709551616 = ((hi % k) * 18446744073709551616 + t % 18446744073709551616) / k := by rw [hlaw]; exact lo_of _ _ hq
  simp only [Nat.zero_mul, Nat.zero_add] at hd1
  have ew : Wv (t / k) = .agg #[.int .u64 ((hi / k : Nat) : Int), .int .u64 ((((hi % k) * 18446744073709551616 + t % 18446744073709551616) / k : Nat) : Int)] := by unfold Wv; rw [e1, e2]
  rw [ew]
  clear ew e1 e2 hlaw
  have et : Wv t = .agg #[.int .u64 ((hi : Nat) : Int), .int .u64 ((t % 18446744073709551616 : Nat) : Int)] := by unfold Wv; rw [he]
  rw [et]
  clear et he
  generalize t % 18446744073709551616 = lo at *
  generalize (hi % k * 18446744073709551616 + lo) / k = q2 at *
  generalize (hi % k * 18446744073709551616 + lo) % k = r2 at *
  generalize hi / k = q1 at *
  generalize hi % k = r1 at *
  have H1 := Lib.hid hd1
  have H2 := Lib.hid hd2
  clear hd1 hd2
  go_enter Tryz.func71, Tryz.ntmps71
  go_wp2_with fail
  refine (H1.out _).mono ?_
  rintro e w1 ⟨rfl, n1, rfl⟩
  go_wp2_with fail
  refine (H2.out _).mono ?_
  rintro e w2 ⟨rfl, n2, rfl⟩
  go_wp2_with fail
  refine bodyPost_ret (v := .agg #[.int .u64 (q1 : Int), .int .u64 (q2 : Int)]) (by simp [results, Tryz.results71, go_sem]) rfl ⟨rfl, ?_⟩
  repeat first | exact Below.refl _ _ | refine below_drewN ?_ _ | refine Below.setCell ?_ (by simp <;> omega) _ | refine Below.alloc ?_ (by simp <;> omega) _

end Go.Proofs.YtfbijgbpipedoaaGreatDoor
