/- RatioOrder: for every three ratios the law holds. -/
import Derived.Test.YtfchbkhgoebagaaROr
import Derived.Test.YtfchbkhgoebagaaREnds
namespace Go.Proofs.Ytfchbkhgoebagaa
open Go.RowKit Ra

theorem cmpV_right {a b : Q} (ha : Right a) (hb : Right b) : cmpV a b = cmpN a b := by
  unfold cmpV
  rw [(right_iff a).2 ha, (right_iff b).2 hb]
  rfl
theorem cmpN_lt {a b : Q} (h : a.n * b.d < b.n * a.d) : cmpN a b = -1 := by
  unfold cmpN
  rw [if_neg (by omega), if_pos (by omega)]
theorem cmpN_gt {a b : Q} (h : b.n * a.d < a.n * b.d) : cmpN a b = 1 := by
  unfold cmpN
  rw [if_neg (by omega), if_neg (by omega)]
theorem cmpN_eq {a b : Q} (h : a.n * b.d = b.n * a.d) : cmpN a b = 0 := by
  unfold cmpN
  rw [if_pos (by omega)]
theorem cmpN_le {a b : Q} : cmpN a b ≤ 0 ↔ a.n * b.d ≤ b.n * a.d := by
  rcases Int.lt_trichotomy (a.n * b.d) (b.n * a.d) with h | h | h
  · rw [cmpN_lt h]; omega
  · rw [cmpN_eq h]; omega
  · rw [cmpN_gt h]; omega
theorem cmpN_vals (a b : Q) : cmpN a b = 1 ∨ cmpN a b ≤ 0 := by
  rcases Int.lt_trichotomy (a.n * b.d) (b.n * a.d) with h | h | h
  · rw [cmpN_lt h]; omega
  · rw [cmpN_eq h]; omega
  · rw [cmpN_gt h]; omega
theorem cmp_trans {a b c : Q} (ha : 1 ≤ a.d) (hb : 1 ≤ b.d) (hc : 1 ≤ c.d) (h1 : cmpN a b ≤ 0) (h2 : cmpN b c ≤ 0) : cmpN a c ≤ 0 := by
  rw [cmpN_le] at *
  have k1 := Int.mul_le_mul_of_nonneg_right h1 (show 0 ≤ c.d by omega)
  have k2 := Int.mul_le_mul_of_nonneg_right h2 (show 0 ≤ a.d by omega)
  have e1 : b.n * a.d * c.d = b.n * c.d * a.d := by grind
  have e2 : a.n * b.d * c.d = a.n * c.d * b.d := by grind
  have e3 : c.n * b.d * a.d = c.n * a.d * b.d := by grind
  rw [e1, e2] at k1
  rw [e3] at k2
  exact Int.le_of_mul_le_mul_right (Int.le_trans k1 k2) (by omega)
theorem neg_mul_pos {p q : Int} (hq : 0 < q) : p < 0 ↔ p * q < 0 := by
  constructor
  · intro h; exact Int.mul_neg_of_neg_of_pos h hq
  · intro h
    refine Int.not_le.1 fun hh => ?_
    have := Int.mul_nonneg hh (Int.le_of_lt hq)
    omega
theorem pos_mul_pos {p q : Int} (hq : 0 < q) : 0 < p ↔ 0 < p * q := by
  constructor
  · intro h; exact Int.mul_pos h hq
  · intro h
    refine Int.not_le.1 fun hh => ?_
    have := Int.mul_nonneg_of_nonpos_of_nonpos hh (show -q ≤ 0 by omega)
    rw [Int.mul_neg] at this
    omega
theorem sign_of {p q r s : Int} (h : p * q = r * s) (hq : 0 < q) (hs : 0 < s) : (p < 0 ↔ r < 0) ∧ (0 < p ↔ 0 < r) :=
  ⟨(neg_mul_pos hq).trans (h ▸ (neg_mul_pos hs).symm), (pos_mul_pos hq).trans (h ▸ (pos_mul_pos hs).symm)⟩
/-- the sign of a difference -/
theorem diff_sign (a b : Q) (ha : 1 ≤ a.d) (hb : 1 ≤ b.d) : ((addN a (neg b)).n < 0 ↔ a.n * b.d < b.n * a.d) ∧ (0 < (addN a (neg b)).n ↔ b.n * a.d < a.n * b.d) ∧ ((addN a (neg b)).n = 0 ↔ a.n * b.d = b.n * a.d) := by
  have hp : 0 < (a.d * (neg b).d).natAbs := by
    rw [Int.natAbs_mul]
    exact Nat.mul_pos (by omega) (by simp only [neg]; omega)
  have hc := norm_cross (a.n * (neg b).d + (neg b).n * a.d) hp
  have hd := norm_pos (a.n * (neg b).d + (neg b).n * a.d) hp
  have hN : a.n * (neg b).d + (neg b).n * a.d = a.n * b.d - b.n * a.d := by simp only [neg]; grind
  unfold addN
  rw [hN] at hc hd ⊢
  have hs := sign_of hc (by omega) (by omega)
  omega

theorem order_any (a b c : Q) (W : World) (ha : Q64 a) (hb : Q64 b) (hc : Q64 c) :
    Calls Try.prog 6 #[.agg #[.int .i64 a.n, .int .i64 a.d], .agg #[.int .i64 b.n, .int .i64 b.d], .agg #[.int .i64 c.n, .int .i64 c.d]] W fun e w' => e = .returned (.bool true) ∧ Below W.heap.size W w' := by
  have S := Lib.hid sane_any
  cases ra : rightB a
  · exact order_no0 a b c W S (Lib.hid (right_end ha _ ra))
  cases rb : rightB b
  · exact order_no1 a b c W S (Lib.hid (right_end ha _ ra)) (Lib.hid (right_end hb _ rb))
  cases rc : rightB c
  · exact order_no2 a b c W S (Lib.hid (right_end ha _ ra)) (Lib.hid (right_end hb _ rb)) (Lib.hid (right_end hc _ rc))
  have RA := (right_iff a).1 ra
  have RB := (right_iff b).1 rb
  have RC := (right_iff c).1 rc
  have A1 := Lib.hid (right_end ha _ ra)
  have A2 := Lib.hid (right_end hb _ rb)
  have A3 := Lib.hid (right_end hc _ rc)
  have ca : ∀ {x y : Q} (_ : Right x) (_ : Right y) (v : Int), cmpN x y = v → cmpV x y = v := fun hx hy v h => (cmpV_right hx hy).trans h
  have sv := sub_vals RA RB
  obtain ⟨s1, s2, s3⟩ := diff_sign a b RA.pos RB.pos
  have hz : cmpN a b ≤ 0 → cmpN b c ≤ 0 → cmpN a c ≤ 0 := cmp_trans RA.pos RB.pos RC.pos
  rcases Int.lt_trichotomy (a.n * b.d) (b.n * a.d) with h | h | h
  · have C1 := Lib.hid (cmp_end ha hb (ca RA RB _ (cmpN_lt h)))
    have C2 := Lib.hid (cmp_end hb ha (ca RB RA _ (cmpN_gt h)))
    have hd1 := decide_eq_true (s1.2 h)
    have hd2 : decide (0 < (addN a (neg b)).n) = false := decide_eq_false (by omega)
    have hne : ¬ (a.n = b.n ∧ a.d = b.d) := by
      rintro ⟨e1, e2⟩
      rw [e1, e2] at h
      omega
    rcases lim_errs (addN a (neg b)) with l | l
    · have D := Lib.hid (sub_end ha hb (sv.1.trans (lim_val0 l)) (sv.2.trans l))
      rcases cmpN_vals b c with y | y
      · have C3 := Lib.hid (cmp_end hb hc (ca RB RC _ y))
        by_cases en : a.n = b.n
        · obtain ⟨n, ad⟩ := a
          obtain ⟨n', bd⟩ := b
          simp only at en hne
          subst en
          exact order_ltdy1_0 n ad bd c _ _ W S A1 A2 A3 C1 C2 C3 D (fun hh => hne ⟨rfl, hh⟩) hd1 hd2
        · exact order_ltny1_0 a b c _ _ W S A1 A2 A3 C1 C2 C3 D en hd1 hd2
      · have C3 := Lib.hid (cmp_end hb hc (ca RB RC _ rfl))
        have C4 := Lib.hid (cmp_end ha hc (ca RA RC _ rfl))
        have z := hz (by rw [cmpN_lt h]; omega) y
        by_cases en : a.n = b.n
        · obtain ⟨n, ad⟩ := a
          obtain ⟨n', bd⟩ := b
          simp only at en hne
          subst en
          exact order_ltdy0_0 n ad bd c _ _ _ _ W S A1 A2 A3 C1 C2 C3 C4 D (fun hh => hne ⟨rfl, hh⟩) y z hd1 hd2
        · exact order_ltny0_0 a b c _ _ _ _ W S A1 A2 A3 C1 C2 C3 C4 D en y z hd1 hd2
    · have D := Lib.hid (sub_end ha hb (sv.1.trans (lim_bad (fun hh => by rw [(lim_ok hh.1 hh.2).2] at l; omega)).1) (sv.2.trans l))
      rcases cmpN_vals b c with y | y
      · have C3 := Lib.hid (cmp_end hb hc (ca RB RC _ y))
        by_cases en : a.n = b.n
        · obtain ⟨n, ad⟩ := a
          obtain ⟨n', bd⟩ := b
          simp only at en hne
          subst en
          exact order_ltdy1_3 n ad bd c _ _ W S A1 A2 A3 C1 C2 C3 D (fun hh => hne ⟨rfl, hh⟩)
        · exact order_ltny1_3 a b c _ _ W S A1 A2 A3 C1 C2 C3 D en
      · have C3 := Lib.hid (cmp_end hb hc (ca RB RC _ rfl))
        have C4 := Lib.hid (cmp_end ha hc (ca RA RC _ rfl))
        have z := hz (by rw [cmpN_lt h]; omega) y
        by_cases en : a.n = b.n
        · obtain ⟨n, ad⟩ := a
          obtain ⟨n', bd⟩ := b
          simp only at en hne
          subst en
          exact order_ltdy0_3 n ad bd c _ _ _ _ W S A1 A2 A3 C1 C2 C3 C4 D (fun hh => hne ⟨rfl, hh⟩) y z
        · exact order_ltny0_3 a b c _ _ _ _ W S A1 A2 A3 C1 C2 C3 C4 D en y z
  · have e := low_unique RA.pos RB.pos RA.prime RB.prime h
    subst e
    have C1 := Lib.hid (cmp_end ha ha (ca RA RA _ (cmpN_eq h)))
    rcases lim_errs (addN a (neg a)) with l | l
    · have D := Lib.hid (sub_end ha ha (sv.1.trans (lim_val0 l)) (sv.2.trans l))
      rw [s3.2 h] at D
      rcases cmpN_vals a c with y | y
      · have C3 := Lib.hid (cmp_end ha hc (ca RA RC _ y))
        exact order_eqy1_0 a c _ W S A1 A1 A3 C1 C1 C3 D
      · have C3 := Lib.hid (cmp_end ha hc (ca RA RC _ rfl))
        exact order_eqy0_0 a c _ _ _ W S A1 A1 A3 C1 C1 C3 C3 D y y
    · have D := Lib.hid (sub_end ha ha (sv.1.trans (lim_bad (fun hh => by rw [(lim_ok hh.1 hh.2).2] at l; omega)).1) (sv.2.trans l))
      rcases cmpN_vals a c with y | y
      · have C3 := Lib.hid (cmp_end ha hc (ca RA RC _ y))
        exact order_eqy1_3 a c _ _ W S A1 A1 A3 C1 C1 C3 D
      · have C3 := Lib.hid (cmp_end ha hc (ca RA RC _ rfl))
        exact order_eqy0_3 a c _ _ _ _ W S A1 A1 A3 C1 C1 C3 C3 D y y
  · have C1 := Lib.hid (cmp_end ha hb (ca RA RB _ (cmpN_gt h)))
    have C2 := Lib.hid (cmp_end hb ha (ca RB RA _ (cmpN_lt h)))
    have hd1 := decide_eq_true (s2.2 h)
    have hd2 : decide ((addN a (neg b)).n < 0) = false := decide_eq_false (by omega)
    have hne : ¬ (a.n = b.n ∧ a.d = b.d) := by
      rintro ⟨e1, e2⟩
      rw [e1, e2] at h
      omega
    rcases lim_errs (addN a (neg b)) with l | l
    · have D := Lib.hid (sub_end ha hb (sv.1.trans (lim_val0 l)) (sv.2.trans l))
      by_cases en : a.n = b.n
      · obtain ⟨n, ad⟩ := a
        obtain ⟨n', bd⟩ := b
        simp only at en hne
        subst en
        exact order_gtd_0 n ad bd c _ _ W S A1 A2 A3 C1 C2 D (fun hh => hne ⟨rfl, hh⟩) hd1 hd2
      · exact order_gtn_0 a b c _ _ W S A1 A2 A3 C1 C2 D en hd1 hd2
    · have D := Lib.hid (sub_end ha hb (sv.1.trans (lim_bad (fun hh => by rw [(lim_ok hh.1 hh.2).2] at l; omega)).1) (sv.2.trans l))
      by_cases en : a.n = b.n
      · obtain ⟨n, ad⟩ := a
        obtain ⟨n', bd⟩ := b
        simp only at en hne
        subst en
        exact order_gtd_3 n ad bd c _ _ W S A1 A2 A3 C1 C2 D (fun hh => hne ⟨rfl, hh⟩)
      · exact order_gtn_3 a b c _ _ W S A1 A2 A3 C1 C2 D en

end Go.Proofs.Ytfchbkhgoebagaa
