/- Walks of the reference: Times. -/
import Derived.Test.YtfchbkhgoebagaaRDd
namespace Go.Proofs.Ytfchbkhgoebagaa
open Go.RowKit

/-- the value of five digits -/
def val5 (f : Nat → Nat) : Nat := f 0 + f 1 * 1073741824 + f 2 * 1152921504606846976 + f 3 * 1237940039285380274899124224 + f 4 * 1329227995784915872903807060280344576
theorem dig_val {f : Nat → Nat} {x : Nat} (hf : ∀ j, j < 5 → f j < 1073741824) (h : val5 f = x) : ∀ j, j < 5 → f j = dig x j := by
  intro j hj
  have h0 := hf 0 (by decide); have h1 := hf 1 (by decide); have h2 := hf 2 (by decide); have h3 := hf 3 (by decide); have h4 := hf 4 (by decide)
  unfold val5 at h
  unfold dig
  match j, hj with
  | 0, _ => simp only [Nat.pow_zero]; omega
  | 1, _ => simp only [Nat.pow_one]; omega
  | 2, _ => simp only [Nat.reducePow]; omega
  | 3, _ => simp only [Nat.reducePow]; omega
  | 4, _ => simp only [Nat.reducePow]; omega
theorem val_set (f : Nat → Nat) (m d : Nat) (hm : m < 5) : val5 (fun j => if j = m then d else f j) + f m * 1073741824 ^ m = val5 f + d * 1073741824 ^ m := by
  unfold val5
  match m, hm with
  | 0, _ => simp; omega
  | 1, _ => simp; omega
  | 2, _ => simp; omega
  | 3, _ => simp; omega
  | 4, _ => simp; omega
theorem row_end {x y I C v : Nat} (hI : I < 5) (hxy : x * y < 1073741824 ^ 5) (h : v + C * 1073741824 ^ 5 = (x % 1073741824 ^ I) * y + dig x I * 1073741824 ^ I * (y % 1073741824 ^ (5 - I))) : v = (x % 1073741824 ^ (I + 1)) * y := by
  have e1 := dig_mod x I
  have hT : (x % 1073741824 ^ (I + 1)) * y ≤ x * y := Nat.mul_le_mul_right _ (Nat.mod_le _ _)
  have e2 : (1073741824 : Nat) ^ 5 = 1073741824 ^ I * 1073741824 ^ (5 - I) := by rw [← Nat.pow_add]; congr 1; omega
  have e3 := Nat.div_add_mod y (1073741824 ^ (5 - I))
  rw [e1] at hT ⊢
  have hM := pow_pos' 5
  generalize (1073741824 : Nat) ^ 5 = M at *
  generalize (1073741824 : Nat) ^ I = P at *
  generalize (1073741824 : Nat) ^ (5 - I) = R at *
  generalize y % R = r at *
  generalize y / R = s at *
  generalize dig x I = a at *
  generalize x % P = z at *
  have key : (z + P * a) * y = v + M * (C + a * s) := by
    subst e2
    rw [← e3] at h ⊢
    grind
  rw [key] at hT ⊢
  rcases Nat.eq_zero_or_pos (C + a * s) with h0 | h0
  · rw [h0]; omega
  · have := Nat.le_mul_of_pos_right M h0
    omega

theorem row_next {x y I K C v v' fm p : Nat} (h : v + C * 1073741824 ^ (I + K) = (x % 1073741824 ^ I) * y + dig x I * 1073741824 ^ I * (y % 1073741824 ^ K)) (hp : p = dig x I * dig y K)
    (hs : v' + fm * 1073741824 ^ (I + K) = v + (C + fm + p) % 1073741824 * 1073741824 ^ (I + K)) :
    v' + (C + fm + p) / 1073741824 * 1073741824 ^ (I + (K + 1)) = (x % 1073741824 ^ I) * y + dig x I * 1073741824 ^ I * (y % 1073741824 ^ (K + 1)) := by
  have e1 := dig_mod y K
  have e2 : (1073741824 : Nat) ^ (I + K) = 1073741824 ^ I * 1073741824 ^ K := Nat.pow_add _ _ _
  have e3 : (1073741824 : Nat) ^ (I + (K + 1)) = 1073741824 ^ I * 1073741824 ^ K * 1073741824 := by rw [← Nat.add_assoc, Nat.pow_succ, Nat.pow_add]
  have e4 := Nat.div_add_mod (C + fm + p) 1073741824
  rw [e1, e3]
  rw [e2] at h hs
  generalize (C + fm + p) / 1073741824 = q at *
  generalize (C + fm + p) % 1073741824 = r at *
  generalize (1073741824 : Nat) ^ I = P at *
  generalize (1073741824 : Nat) ^ K = R at *
  generalize x % P * y = z at *
  generalize y % R = s at *
  generalize dig x I = a at *
  generalize dig y K = b at *
  subst hp
  have k : (fm + C + a * b) * (P * R) = (1073741824 * q + r) * (P * R) := by rw [e4]; congr 1; omega
  have k2 : v' + (fm + C + a * b) * (P * R) = v' + (1073741824 * q + r) * (P * R) := by rw [k]
  grind

set_option maxHeartbeats 4000000 in
theorem times_num (g h x y : Nat) (w : World) (hx : Num w g x) (hy : Num w h y) (hxy : x * y < 1073741824 ^ 5) (lx : x < 1073741824 ^ 5) :
    Calls Try.prog 44 #[.slice (some ⟨g, 0, none⟩) 5 5, .slice (some ⟨h, 0, none⟩) 5 5] w fun e w' => ∃ k, e = .returned (.slice (some ⟨k, 0, none⟩) 5 5) ∧ w.heap.size ≤ k ∧ Num w' k (x * y) ∧ Below w.heap.size w w' := by
  have HX := Lib.hid hx
  have HY := Lib.hid hy
  have HP := Lib.hid hxy
  have HL := Lib.hid lx
  clear hx hy hxy lx
  have hmk := mk5
  go_enter Try.func44, Try.ntmps44
  go_wp2_with fail
  have R0 := Lib.hid (row_new w)
  have B0 : Below w.heap.size w (w.alloc (.cells #[.int .i64 0, .int .i64 0, .int .i64 0, .int .i64 0, .int .i64 0] 3)) := (Below.refl _ _).alloc (Nat.le_refl _) _
  go_loopw [6, 7, 8] (fun i _ _ wr => ∃ (I : Nat) (f : Nat → Nat), I ≤ 5 ∧ i = .int .i64 I ∧ Hid (Row5 wr w.heap.size fun j => (f j : Int)) ∧ Hid (∀ j, j < 5 → f j < 1073741824) ∧ Hid (val5 f = (x % 1073741824 ^ I) * y) ∧ Below w.heap.size w wr) (fun i _ _ _ => 5 - (intOf i).toNat)
  case atStart => exact ⟨0, fun _ => 0, by decide, rfl, Lib.hid R0.out, Lib.hid (fun _ _ => by simp), Lib.hid (by simp [val5, Nat.mod_one]), B0⟩
  case round =>
    obtain ⟨I, f, hI, rfl, HR, HF, HV, hb⟩ := hrel
    by_cases hlt : I < 5
    · have k0 : (0 : Int) ≤ (I : Int) := by omega
      have k1 : (I : Int) < 5 := by omega
      go_wp2_with fail
      go_loopw [7, 8] (fun c k wv => ∃ (K C : Nat) (f' : Nat → Nat), I + K ≤ 5 ∧ k = .int .i64 K ∧ c = .int .i64 C ∧ C < 1073741824 ∧ Hid (Row5 wv w.heap.size fun j => (f' j : Int)) ∧ Hid (∀ j, j < 5 → f' j < 1073741824) ∧ Hid (val5 f' + C * 1073741824 ^ (I + K) = (x % 1073741824 ^ I) * y + dig x I * 1073741824 ^ I * (y % 1073741824 ^ K)) ∧ Below w.heap.size w wv) (fun _ k _ => 5 - (intOf k).toNat)
      case atStart => exact ⟨0, 0, f, by omega, rfl, rfl, by decide, HR, HF, Lib.hid (by rw [HV.out]; simp [Nat.mod_one]), hb⟩
      case round =>
        obtain ⟨K, C, f', hK, rfl, rfl, hC, HR', HF', HV', hb'⟩ := hrel
        by_cases hlk : I + K < 5
        · have d1 := dig_lt x I
          have d2 := dig_lt y K
          have d3 := HF'.out (I + K) hlk
          have e1 := (HX.out.below hb' rfl I hlt).1
          have e2 := (HY.out.below hb' rfl K (by omega)).1
          obtain ⟨e3, e4⟩ := HR'.out (I + K) hlk
          have j0 : (0 : Int) ≤ (K : Int) := by omega
          have j1 : (K : Int) < 5 := by omega
          have j2 : (I : Int) + (K : Int) < 5 := by omega
          have j3 : (0 : Int) ≤ (I : Int) + (K : Int) := by omega
          have j4 : ((I : Int) + (K : Int)).toNat = I + K := by omega
          obtain ⟨p, hp⟩ : ∃ p, p = dig x I * dig y K := ⟨_, rfl⟩
          have hpm : p ≤ 1073741823 * 1073741823 := by rw [hp]; exact Nat.mul_le_mul (by omega) (by omega)
          have pc : ((dig x I : Nat) : Int) * ((dig y K : Nat) : Int) = (p : Int) := by rw [hp, Int.natCast_mul]
          have HPp := Lib.hid hp
          clear hp
          go_wp2_with fail
          go_quiet (fail)
          go_wp2_with fail
          refine ⟨⟨K + 1, (C + f' (I + K) + p) / 1073741824, fun j => if j = I + K then (C + f' (I + K) + p) % 1073741824 else f' j, by omega, congrArg (Value.int .i64) (by omega), congrArg (Value.int .i64) (by omega), by omega,
            Lib.hid (row_congr (row_set (HR'.out.drew nq) hlk _) fun j hj => ?_), Lib.hid fun j hj => ?_, Lib.hid (row_next HV'.out HPp.out (val_set f' (I + K) _ hlk)), Below.setCell (below_drewN hb' nq) (Nat.le_refl _) _⟩, by simp [intOf]; omega⟩
          · by_cases hj : j = I + K
            · simp only [if_pos hj]; omega
            · simp only [if_neg hj]
          · by_cases hj : j = I + K
            · simp only [if_pos hj]; omega
            · simp only [if_neg hj]; exact HF'.out j (by assumption)
        · have ek : K = 5 - I := by omega
          have j2 : ¬ (I : Int) + (K : Int) < 5 := by omega
          have HE := Lib.hid (show val5 f' = (x % 1073741824 ^ (I + 1)) * y by
            have := HV'.out
            rw [show I + K = 5 by omega, ek] at this
            exact row_end hlt HP.out this)
          clear ek hlk
          go_wp2_with fail
          exact ⟨⟨I + 1, f', by omega, congrArg (Value.int .i64) (by omega), HR', HF', HE, hb'⟩, by simp [intOf]; omega⟩
    · have e5 : I = 5 := by omega
      subst e5
      go_wp2_with fail
      go_ret
      have hv := HV.out
      rw [Nat.mod_eq_of_lt HL.out] at hv
      exact ⟨_, rfl, Nat.le_refl _, row_congr HR.out fun j hj => by rw [dig_val HF.out hv j hj], hb⟩

end Go.Proofs.Ytfchbkhgoebagaa
