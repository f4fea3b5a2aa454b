/- Walks by the logic of calls, and plain laws. -/
import Derived.Test.YtfbijgbpipedoaaGUnitPl
namespace Go.Gh
open Go Go.Proofs
set_option maxRecDepth 1000000
set_option maxHeartbeats 2000000
set_option linter.unusedSimpArgs false
set_option linter.unusedVariables false
open Go.Proofs.Ytfbijgbpipedoaa Go.Proofs.Ytfbijgbpipedoaa.Ra

theorem orders_ok (t : List Un) (ht : t.length ≤ 9223372036854775807) (hs : ∀ u, u ∈ t → u.name.size ≤ 9223372036854775807) (a b c : Qu) : GC Try.prog 3 [rowU t, quG a, quG b, quG c] (bG true) := by
  refine gc_of_gk Try.func3 ?_
  refine gk_region env false [] [0, 5, 6, 7, 8] ?_ -- 0
  refine gk_region env false [.call small_ok] [0, 5, 6, 7, 8, 9] ?_ -- 1
  refine gk_region env false [.call (few_ok t ht hs), .call (check_ok t ht hs), .call (rightq_ok t a), .call (rightq_ok t b), .call (rightq_ok t c)] [0, 5, 6, 7, 8, 9, 48] ?_ -- 2
  refine gk_if (fun c1 => ?_) (fun c1 => ?_)
  · try simp only [bb, toN] at c1
    refine gk_region env false [] [0, 5, 6, 7, 8, 9] ?_ -- 3
    refine gk_ret env ?_
    rfl
  · try simp only [bb, toN] at c1
    obtain ⟨fw, hc, qa, qb, qc⟩ := law_pre c1
    refine gk_region env false [.call (compare_ok t ht hs a b)] [0, 5, 6, 7, 8, 9, 10, 11] ?_ -- 4
    refine gk_region env false [.call (compare_ok t ht hs b a)] [0, 5, 6, 7, 8, 9, 10, 11, 12, 13] ?_ -- 5
    refine gk_region env false [.call (compare_ok t ht hs b c)] [0, 5, 6, 7, 8, 9, 10, 11, 12, 13, 14, 15] ?_ -- 6
    refine gk_region env false [.call (compare_ok t ht hs a c)] [0, 5, 6, 7, 8, 9, 10, 11, 12, 13, 14, 15, 16, 17] ?_ -- 7
    obtain ⟨a1, a2, a3, a4, a5⟩ := id qa
    obtain ⟨b1, b2, b3, b4, b5⟩ := id qb
    obtain ⟨d1, d2, d3, d4, d5⟩ := id qc
    refine gk_region env false [] [0, 5, 6, 7, 8, 9, 10, 11, 12, 13, 14, 15, 16, 17, 90] ?_ -- 8
    refine gk_ifn (fun c2 => ?_) (fun c2 => ?_)
    · try simp only [toN] at c2
      refine gk_region env false [] [0, 5, 6, 7, 8, 9, 10, 11, 12, 13, 14, 15, 16, 17] ?_ -- 9
      refine gk_ret env ?_
      rw [cmpR_no hc qa qb c2, cmpR_no hc qb qa (fun h => c2 h.symm)]; rfl
    · try simp only [toN] at c2
      refine gk_region env false [.call (Value_ok t ht hs a)] [0, 5, 6, 7, 8, 9, 10, 11, 12, 13, 14, 15, 16, 17, 18, 19] ?_ -- 10
      refine gk_region env false [.call (Value_ok t ht hs b)] [0, 5, 6, 7, 8, 9, 10, 11, 12, 13, 14, 15, 16, 17, 18, 19, 20, 21] ?_ -- 11
      have hneg : -9223372036854775808 ≤ 0 - (cmpR t b a).1 ∧ 0 - (cmpR t b a).1 ≤ 9223372036854775807 := cmp_neg t b a
      refine gk_region env false [.eq (eq_ratio (valueR t a).1.n (valueR t a).1.d (valueR t b).1.n (valueR t b).1.d), .eq (eq_quantity a.n a.u b.n b.u)] [0, 5, 6, 7, 8, 9, 10, 14, 15, 16, 17, 156] ?_ -- 12
      refine gk_if (fun c3 => ?_) (fun c3 => ?_)
      · try simp only [bb, toN] at c3
        refine gk_region env false [] [0, 5, 6, 7, 8, 9, 10, 14, 15, 16, 17] ?_ -- 13
        refine gk_ret env ?_
        exfalso
        have e1 := cmpR_yes hc qa qb c2
        have e2 := cmpR_yes hc qb qa c2.symm
        rw [e1, e2, valueR_yes hc qa, valueR_yes hc qb] at c3
        dsimp only at c3
        have z1 : (sg (xX t a b) = 0) ↔ ((valV t a).n = (valV t b).n ∧ (valV t a).d = (valV t b).d) := by rw [sg_zero, ← q_eq, qa.eq qb]
        have z2 : sg (xX t b a) = - sg (xX t a b) := by rw [xX_neg, sg_neg]
        rcases c3 with (((((h | h) | h) | h) | h) | h) | h
        · exact h rfl
        · exact h rfl
        · exact h rfl
        · exact h rfl
        · exact h (by omega)
        · simp [z1] at h
        · refine h.2 (sg_zero.2 ?_)
          unfold xX pP pD; rw [h.1.1, h.1.2.1]; omega
      · try simp only [bb, toN] at c3
        refine gk_region env false [] [0, 6, 7, 8, 9, 10, 14, 15, 16, 17, 171] ?_ -- 14
        refine gk_if (fun c4 => ?_) (fun c4 => ?_)
        · try simp only [bb, toN] at c4
          refine gk_region env false [] [0, 6, 7, 8, 9, 10, 14, 15, 16, 17] ?_ -- 15
          refine gk_ret env ?_
          exfalso
          rw [cmpR_yes hc qa qb c2] at c4
          have := sg_lt.trans (xX_same qb c4.1)
          simp [this] at c4
        · try simp only [bb, toN] at c4
          refine gk_region env false [] [8, 9, 10, 14, 15, 16, 17, 184] ?_ -- 16
          refine gk_ifn (fun c5 => ?_) (fun c5 => ?_)
          · try simp only [toN] at c5
            refine gk_region env false [] [8, 9, 10, 14, 15, 16, 17] ?_ -- 17
            refine gk_ret env ?_
            rw [cmpR_no hc qb qc c5, cmpR_no hc qa qc (fun h => c5 (c2.symm.trans h))]; rfl
          · try simp only [toN] at c5
            refine gk_region env false [] [8] ?_ -- 18
            refine gk_ret env ?_
            rw [cmpR_yes hc qa qb c2, cmpR_yes hc qb qc c5, cmpR_yes hc qa qc (c2.trans c5)]
            obtain ⟨t1, t2⟩ := xX_trans qa qb qc
            refine congrArg bG (?_ : _ = true)
            simp only [bb]
            have s1 := sg_gt (x := xX t a b)
            have s2 := sg_gt (x := xX t b c)
            have s3 := sg_gt (x := xX t a c)
            have s4 := sg_lt (x := xX t a b)
            have s5 := sg_lt (x := xX t a c)
            refine ⟨⟨⟨⟨?_, ?_⟩, ?_⟩, ?_⟩, ?_⟩
            all_goals first | trivial | omega
end Go.Gh
