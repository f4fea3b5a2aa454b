/- Walks by the logic of calls, and plain laws. -/
import Derived.Test.YtfbijgbpipedoaaGUnitPl
namespace Go.Gh
open Go Go.Proofs
set_option maxRecDepth 1000000
set_option maxHeartbeats 2000000
set_option linter.unusedSimpArgs false
set_option linter.unusedVariables false
open Go.Proofs.Ytfbijgbpipedoaa Go.Proofs.Ytfbijgbpipedoaa.Ra

theorem law_pre2 {t : List Un} {a b : Qu} (h : ((fewF t 0 = true ∧ chk t = 0) ∧ quOk t a = true) ∧ quOk t b = true) : fewF t 0 = true ∧ chk t = 0 ∧ QuOk t a ∧ QuOk t b :=
  ⟨h.1.1.1, h.1.1.2, quOk_ok h.1.1.2 h.1.2, quOk_ok h.1.1.2 h.2⟩
abbrev mn (x : Int) : Int := if x < 1000 then x else 1000
def aA (t : List Un) (a b : Qu) : Int := pP t a * pD t b
theorem aA_nn {t : List Un} {a b : Qu} (ha : QuOk t a) (hb : QuOk t b) : 0 ≤ aA t a b := by
  obtain ⟨h1, h2, h3, h4⟩ := ha.parts
  obtain ⟨k1, k2, k3, k4⟩ := hb.parts
  exact Int.mul_nonneg h1 (by omega)
theorem lowV_norm {t : List Un} {a : Qu} (ha : QuOk t a) {k : Int} (h0 : 0 ≤ k) (h1 : k ≤ 2000) : lowV t a k = norm (pP t a * k) (pD t a * 1000).natAbs ∧ (pP t a * k).natAbs ≤ top := by
  obtain ⟨p1, p2, p3, p4⟩ := ha.parts
  obtain ⟨m1, m2⟩ := ha.mul3 h0 h1
  have hk : (pP t a * k).natAbs ≤ top := by unfold pP at *; unfold top; omega
  exact ⟨make_norm hk (by unfold pD at *; omega) (by unfold pD at *; unfold top; omega), hk⟩
theorem sg_le {x : Int} : sg x ≤ 0 ↔ x ≤ 0 := by unfold sg; split <;> (try split) <;> omega
def wB (t : List Un) (a b : Qu) (x y : Int) : Bool := decide ((1000 - x) * aA t a b ≤ 1000 * aA t b a) && decide (1000 * aA t b a ≤ (1000 + y) * aA t a b)
theorem withR_yes {t : List Un} {a b : Qu} (hc : chk t = 0) (ha : QuOk t a) (hb : QuOk t b) (h : (uAt t a.u).base = (uAt t b.u).base) {x y : Int} (x0 : 0 ≤ x) (x1 : x ≤ 1000) (y0 : 0 ≤ y) (y1 : y ≤ 1000) : withR t a x y b = (wB t a b x y, 0) := by
  obtain ⟨l1, l2⟩ := lowV_norm ha (k := 1000 - x) (by omega) (by omega)
  obtain ⟨r1, r2⟩ := lowV_norm ha (k := 1000 + y) (by omega) (by omega)
  obtain ⟨h1, h2, h3, h4⟩ := ha.parts
  obtain ⟨k1, k2, k3, k4⟩ := hb.parts
  have e1 : (((pD t a * 1000).natAbs : Nat) : Int) = pD t a * 1000 := by omega
  have e2 : ((pD t b).natAbs : Int) = pD t b := by omega
  rw [withR, if_pos (rght_of hc (by simp; exact ⟨ha, hb⟩)), if_neg (by omega), if_pos h, l1, r1, hb.val,
    cmp_norm (by omega) (by omega) l2 (by unfold top; omega) (by unfold top; omega) (by unfold top; omega), cmp_norm (by omega) (by omega) (by unfold top; omega) (by unfold top; omega) r2 (by unfold top; omega), e1, e2]
  refine congrArg (fun z => (z, (0 : Int))) ?_
  unfold wB
  rw [show decide (sg (pP t a * (1000 - x) * pD t b - pP t b * (pD t a * 1000)) ≤ 0) = decide ((1000 - x) * aA t a b ≤ 1000 * aA t b a) from by
      refine decide_eq_decide.2 (sg_le.trans ?_)
      have : pP t a * (1000 - x) * pD t b - pP t b * (pD t a * 1000) = (1000 - x) * aA t a b - 1000 * aA t b a := by unfold aA; grind
      omega,
    show decide (sg (pP t b * (pD t a * 1000) - pP t a * (1000 + y) * pD t b) ≤ 0) = decide (1000 * aA t b a ≤ (1000 + y) * aA t a b) from by
      refine decide_eq_decide.2 (sg_le.trans ?_)
      have : pP t b * (pD t a * 1000) - pP t a * (1000 + y) * pD t b = 1000 * aA t b a - (1000 + y) * aA t a b := by unfold aA; grind
      omega]
theorem wB_iff {t : List Un} {a b : Qu} {x y : Int} : wB t a b x y = true ↔ (1000 - x) * aA t a b ≤ 1000 * aA t b a ∧ 1000 * aA t b a ≤ (1000 + y) * aA t a b := by
  simp only [wB, Bool.and_eq_true, decide_eq_true_eq]
theorem xX_aA (t : List Un) (a b : Qu) : xX t a b = aA t a b - aA t b a := rfl
theorem mul_le_r {x y c : Int} (h : x ≤ y) (hc : 0 ≤ c) : x * c ≤ y * c := Int.mul_le_mul_of_nonneg_right h hc
theorem wB_more {t : List Un} {a b : Qu} (ha : QuOk t a) (hb : QuOk t b) {x y x' y' : Int} (hx : x ≤ x') (hy : y ≤ y') (h : wB t a b x y = true) : wB t a b x' y' = true := by
  obtain ⟨h1, h2⟩ := wB_iff.1 h
  have hA := aA_nn ha hb
  have := mul_le_r (show 1000 - x' ≤ 1000 - x by omega) hA
  have := mul_le_r (show 1000 + y ≤ 1000 + y' by omega) hA
  exact wB_iff.2 ⟨by omega, by omega⟩
theorem wB_none {t : List Un} {a b : Qu} : wB t a b 0 0 = decide (sg (xX t a b) = 0) := by
  rw [Bool.eq_iff_iff, wB_iff, decide_eq_true_eq, sg_zero, xX_aA]; omega
theorem wB_self {t : List Un} {a : Qu} (ha : QuOk t a) {x y : Int} (hx : 0 ≤ x) (hy : 0 ≤ y) : wB t a a x y = true :=
  wB_more ha ha hx hy (by rw [wB_none, xX_aA]; simp [sg])
theorem wB_gt {t : List Un} {a b : Qu} {y : Int} (h : 0 < sg (xX t a b)) : wB t a b 0 y = false := by
  rw [sg_gt, xX_aA] at h
  refine Bool.eq_false_iff.2 fun hh => ?_
  obtain ⟨h1, h2⟩ := wB_iff.1 hh
  omega
theorem wB_lt {t : List Un} {a b : Qu} {x : Int} (h : sg (xX t a b) < 0) : wB t a b x 0 = false := by
  rw [sg_lt, xX_aA] at h
  refine Bool.eq_false_iff.2 fun hh => ?_
  obtain ⟨h1, h2⟩ := wB_iff.1 hh
  omega
theorem wB_all {t : List Un} {a b : Qu} (ha : QuOk t a) (hb : QuOk t b) (h : 0 < sg (xX t a b)) : wB t a b 1000 1000 = true := by
  rw [sg_gt, xX_aA] at h
  have h1 := aA_nn ha hb
  have h2 := aA_nn hb ha
  exact wB_iff.2 ⟨by omega, by omega⟩
theorem wB_twice {t : List Un} {a b : Qu} {x y : Int} : wB t ⟨2 * a.n, a.u⟩ ⟨2 * b.n, b.u⟩ x y = wB t a b x y := by
  have e1 : aA t ⟨2 * a.n, a.u⟩ ⟨2 * b.n, b.u⟩ = 2 * aA t a b := by unfold aA pP pD; dsimp only; grind
  have e2 : aA t ⟨2 * b.n, b.u⟩ ⟨2 * a.n, a.u⟩ = 2 * aA t b a := by unfold aA pP pD; dsimp only; grind
  rw [Bool.eq_iff_iff, wB_iff, wB_iff, e1, e2]
  have e3 : (1000 - x) * (2 * aA t a b) = 2 * ((1000 - x) * aA t a b) := by grind
  have e4 : (1000 + y) * (2 * aA t a b) = 2 * ((1000 + y) * aA t a b) := by grind
  rw [e3, e4]; omega
theorem QuOk.twice {t : List Un} {q : Qu} (h : QuOk t q) (h5 : q.n ≤ 500000000) : QuOk t ⟨2 * q.n, q.u⟩ := ⟨h.u0, h.u1, by have := h.n0; dsimp only; omega, by dsimp only; omega, h.un⟩

theorem within_law (t : List Un) (ht : t.length ≤ 9223372036854775807) (hs : ∀ u, u ∈ t → u.name.size ≤ 9223372036854775807) (a b : Qu) (l m w : Int) (hl : 0 ≤ l ∧ l ≤ 65535) (hm : 0 ≤ m ∧ m ≤ 65535) (hw : 0 ≤ w ∧ w ≤ 65535) : GC Try.prog 4 [rowU t, quG a, quG b, .d (.sc (.int .u16 l)), .d (.sc (.int .u16 m)), .d (.sc (.int .u16 w))] (bG true) := by
  refine gc_of_gk Try.func4 ?_
  refine gk_region env false [] [0, 3, 4, 5, 7, 8, 12] ?_ -- 0
  refine gk_region env false [.call small_ok] [0, 3, 4, 5, 7, 8, 12, 13] ?_ -- 1
  refine gk_region env false [.call (few_ok t ht hs), .call (check_ok t ht hs), .call (rightq_ok t a), .call (rightq_ok t b)] [0, 3, 4, 5, 7, 8, 12, 13, 64] ?_ (hp := by simp only [AllP, bb, toN]; repeat' first | exact trivial | exact EntL.refl _ | exact rfl | assumption | apply And.intro | intro _ | exact (law_pre2 (by assumption)).2.2.1.u0 | exact (law_pre2 (by assumption)).2.2.1.u1 | exact (law_pre2 (by assumption)).2.2.2.u0 | exact (law_pre2 (by assumption)).2.2.2.u1) -- 2
  refine gk_if (fun c1 => ?_) (fun c1 => ?_)
  · try simp only [bb, toN] at c1
    refine gk_region env false [] [0, 3, 4, 5, 7, 8, 12, 13] ?_ -- 3
    refine gk_ret env ?_
    rfl
  · try simp only [bb, toN] at c1
    obtain ⟨fw, hc, qa, qb⟩ := law_pre2 c1.1
    obtain ⟨a1, a2, a3, a4, a5⟩ := id qa
    obtain ⟨b1, b2, b3, b4, b5⟩ := id qb
    refine gk_region env false [] [0, 4, 5, 7, 8, 12, 13, 14] ?_ -- 4
    refine gk_region env false [] [0, 5, 7, 8, 12, 13, 14, 15] ?_ -- 5
    refine gk_region env false [] [0, 7, 8, 12, 13, 14, 15, 16] ?_ -- 6
    refine gk_region env false [.call (within_ok t ht hs a (l % 1001) (m % 1001) b)] [0, 7, 8, 12, 13, 14, 15, 16, 17, 18] ?_ -- 7
    refine gk_region env false [.call (within_ok t ht hs a (mn (l % 1001 + w % 1001)) (mn (m % 1001 + w % 1001)) b)] [0, 7, 8, 12, 13, 14, 15, 17, 18, 19, 20] ?_ -- 8
    refine gk_region env false [.call (within_ok t ht hs a 0 0 b)] [0, 7, 8, 12, 13, 14, 15, 17, 18, 19, 20, 21, 22] ?_ -- 9
    refine gk_region env false [.call (within_ok t ht hs a (l % 1001) (m % 1001) a)] [0, 7, 8, 12, 13, 14, 15, 17, 18, 19, 20, 21, 22, 23, 24] ?_ -- 10
    refine gk_region env false [.call (compare_ok t ht hs a b)] [0, 7, 8, 12, 13, 14, 15, 17, 18, 19, 20, 21, 22, 23, 24, 25, 26] ?_ -- 11
    refine gk_region env false [] [0, 7, 8, 12, 13, 14, 15, 17, 25, 163] ?_ -- 12
    refine gk_if (fun c2 => ?_) (fun c2 => ?_)
    · try simp only [bb, toN] at c2
      refine gk_region env false [] [0, 7, 8, 12, 13, 14, 15, 17, 25] ?_ -- 13
      refine gk_ret env ?_
      exfalso
      have hb := c1.2
      rw [withR_yes hc qa qb hb (by omega) (by omega) (by omega) (by omega), withR_yes hc qa qb hb (x := mn _) (y := mn _) (by unfold mn; omega) (by unfold mn; omega) (by unfold mn; omega) (by unfold mn; omega), withR_yes hc qa qb hb (by omega) (by omega) (by omega) (by omega), withR_yes hc qa qa rfl (by omega) (by omega) (by omega) (by omega), cmpR_yes hc qa qb hb] at c2
      dsimp only at c2
      rcases c2 with (((((((h | h) | h) | h) | h) | h) | h) | h) | h
      · exact h rfl
      · exact h rfl
      · exact h rfl
      · exact h rfl
      · exact h rfl
      · exact absurd ((wB_more qa qb (x' := mn (l % 1001 + w % 1001)) (y' := mn (m % 1001 + w % 1001)) (by unfold mn; omega) (by unfold mn; omega) h.1).symm.trans h.2) (by decide)
      · rw [wB_none] at h; simp at h
      · rw [wB_self qa (by omega) (by omega)] at h; cases h
      · exact absurd ((wB_more qa qb (x' := l % 1001) (y' := m % 1001) (by omega) (by omega) h.1).symm.trans h.2) (by decide)
    · try simp only [bb, toN] at c2
      refine gk_region env false [] [0, 7, 8, 12, 13, 14, 15, 17, 199] ?_ -- 14
      refine gk_if (fun c3 => ?_) (fun c3 => ?_)
      · try simp only [bb, toN] at c3
        refine gk_region env false [] [0, 7, 8, 12, 13, 14, 15, 17] ?_ -- 15
        refine gk_ret env ?_
        exfalso
        have hb := c1.2
        rw [withR_yes hc qa qb hb (by omega) (by omega) (by omega) (by omega), cmpR_yes hc qa qb hb] at c3
        dsimp only at c3
        rcases c3 with (h | h) | h
        · obtain ⟨⟨h1, h2⟩, h3⟩ := h; rw [h2, wB_gt h1] at h3; cases h3
        · obtain ⟨⟨h1, h2⟩, h3⟩ := h; rw [h2, wB_lt h1] at h3; cases h3
        · obtain ⟨⟨⟨h1, h2⟩, h3⟩, h4⟩ := h; rw [h1, h2, wB_all qa qb h3] at h4; cases h4
      · try simp only [bb, toN] at c3
        refine gk_region env false [] [0, 7, 8, 12, 13, 14, 15, 17, 207] ?_ -- 16
        refine gk_if (fun c4 => ?_) (fun c4 => ?_)
        · try simp only [bb, toN] at c4
          refine gk_region env false [] [0, 7, 8, 12, 13, 14, 15, 17] ?_ -- 17
          refine gk_ret env ?_
          rfl
        · try simp only [bb, toN] at c4
          refine gk_region env false [] [0, 7, 8, 12, 13, 14, 15, 17] ?_ -- 18
          refine gk_region env false [] [0, 7, 8, 12, 13, 14, 15, 17] ?_ -- 19
          refine gk_region env false [.call (within_ok t ht hs ⟨2 * a.n, a.u⟩ (l % 1001) (m % 1001) ⟨2 * b.n, b.u⟩)] [12, 13, 17, 27, 28] ?_ -- 20
          refine gk_region env false [] [12] ?_ -- 21
          refine gk_ret env ?_
          have hb := c1.2
          rw [withR_yes hc (qa.twice c4.1) (qb.twice c4.2) hb (by omega) (by omega) (by omega) (by omega), withR_yes hc qa qb hb (by omega) (by omega) (by omega) (by omega), wB_twice]
          simp [tupG]
end Go.Gh
