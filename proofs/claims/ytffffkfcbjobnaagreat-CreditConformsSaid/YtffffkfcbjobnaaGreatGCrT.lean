/- Walks by the logic of calls, and plain laws. -/
import Derived.Test.YtffffkfcbjobnaaGreatGCrS
namespace Go.Gh
open Go Go.Proofs
set_option maxRecDepth 1000000
set_option maxHeartbeats 2000000
set_option linter.unusedSimpArgs false
set_option linter.unusedVariables false
set_option linter.unnecessarySimpa false
open Go.RowKit

theorem FitR.cityN {r : Rlm} (h : FitR r) : (cityN r).length ≤ 1000 ∧ (∀ s, s ∈ Go.Gh.cityN r → s.size ≤ 9223372036854775807) ∧ (Go.Gh.cityN r).length ≤ r.cities.length := by
  unfold Go.Gh.cityN
  refine ⟨by rw [List.length_map]; exact h.cities, fun s hs => ?_, by rw [List.length_map]; exact Nat.le_refl _⟩
  obtain ⟨c, hc, rfl⟩ := List.mem_map.1 hs
  exact (h.city c hc).name
theorem FitR.firmN {r : Rlm} (h : FitR r) : (firmN r).length ≤ 1000 ∧ (∀ s, s ∈ Go.Gh.firmN r → s.size ≤ 9223372036854775807) ∧ (Go.Gh.firmN r).length ≤ r.firms.length := by
  unfold Go.Gh.firmN
  refine ⟨by rw [List.length_map]; exact h.firms, fun s hs => ?_, by rw [List.length_map]; exact Nat.le_refl _⟩
  obtain ⟨c, hc, rfl⟩ := List.mem_map.1 hs
  exact h.firm c hc
theorem FitR.orderN {r : Rlm} (h : FitR r) : (orderN r).length ≤ 1000 ∧ (∀ s, s ∈ Go.Gh.orderN r → s.size ≤ 9223372036854775807) ∧ (Go.Gh.orderN r).length ≤ r.orders.length := by
  unfold Go.Gh.orderN
  refine ⟨by rw [List.length_map]; exact h.orders, fun s hs => ?_, by rw [List.length_map]; exact Nat.le_refl _⟩
  obtain ⟨c, hc, rfl⟩ := List.mem_map.1 hs
  exact (h.order c hc).1

theorem rcheck_realm (r : Rlm) (hr : FitR r) : GC Tryz.prog 42 [rlG r] (iG (realmE r)) := by
  have h1 := hr.groups
  refine gc_of_gk Tryz.func42 ?_
  refine gk_region env false [] [1, 2] ?_ -- 0
  refine gk_region env false [.call (names_ok r hr)] [1, 2, 3, 4, 5] ?_ -- 1
  refine gk_region env false [.call (fits1_ok r.currencies hr.cur hr.curS 8)] [1, 2, 3, 4, 5, 6] ?_ -- 2
  refine gk_region env false [] [1, 2, 3, 4, 5, 6, 23] ?_ -- 3
  refine gk_ifn (fun c1 => ?_) (fun c1 => ?_)
  · try simp only [toN] at c1
    refine gk_region env false [] [1, 2, 3, 4, 5] ?_ -- 4
    refine gk_ret env ?_
    simp only [realmE, orE]
    rw [if_neg c1]; rfl
  · try simp only [toN] at c1
    refine gk_box 0 ?_
    refine gk_region env false [.call (fits2_ok (cityN r) hr.cityN.1 hr.cityN.2.1 40 r hr hr.cityN.2.2)] [1, 2, 4, 5, 7] ?_ -- 5
    refine gk_region env false [] [1, 2, 4, 5, 7, 29] ?_ -- 6
    refine gk_ifn (fun c2 => ?_) (fun c2 => ?_)
    · try simp only [toN] at c2
      refine gk_region env false [] [1, 2, 4, 5] ?_ -- 7
      refine gk_ret env ?_
      simp only [realmE, orE]
      rw [if_pos c1, if_neg c2]; rfl
    · try simp only [toN] at c2
      refine gk_region env false [] [1, 2, 4, 5, 34] ?_ -- 8
      refine gk_ifd (fun c3 => ?_) (fun c3 => ?_)
      · try simp only [toN] at c3
        refine gk_region env false [] [1, 2, 4, 5] ?_ -- 9
        refine gk_ret env ?_
        simp only [realmE, orE]
        rw [if_pos c1, if_pos c2, if_pos (by omega)]; rfl
      · try simp only [toN] at c3
        refine gk_region env false [] [1, 2, 4, 5, 36, 37, 38] ?_ -- 10
        refine gk_loop (α := Nat) (fun i => i ≤ r.groups.length ∧ gradeF r.groups 0 = gradeF r.groups i) (fun i => [(38, iG i)]) (fun _ => []) (fun i => r.groups.length - i) 0 ⟨by omega, rfl⟩ ?_ (hp := by simp [AllP]; rfl) -- loop 11
        rintro i ⟨hi, he⟩
        refine gk_region env false [] [1, 2, 4, 5, 36, 37, 38, 39] ?_ -- 11
        refine gk_ifd (fun c4 => ?_) (fun c4 => ?_)
        · try simp only [toN] at c4
          refine gk_region env false [] [1, 2, 4, 5, 9, 36, 37, 38] ?_ -- 12
          refine gk_region env false [.call (in_ok (r.groups.getD i default) 10)] [1, 2, 4, 5, 36, 37, 38, 45] ?_ -- 13
          refine gk_if (fun c5 => ?_) (fun c5 => ?_)
          · try simp only [bb, toN] at c5
            refine gk_region env false [] [1, 2, 4, 5, 36, 37, 38] ?_ -- 14
            refine gk_ret env ?_
            simp only [realmE, orE]
            rw [if_pos c1, if_pos c2, if_neg (by omega), if_neg (by rw [he, gradeF, if_pos (by omega), if_neg (by simpa using c5)]; simp)]; rfl
          · try simp only [bb, toN] at c5
            refine gk_region env false [] [1, 2, 4, 5, 36, 37, 38] ?_ -- 15
            refine gk_round (i + 1) ?_ (hp := by simp [AllP]; rfl)
            refine ⟨by omega, he.trans ?_⟩
            rw [gradeF, if_pos (by omega), if_pos (by simpa using c5)]
        · try simp only [toN] at c4
          refine gk_region env false [.call (fits3_ok (firmN r) hr.firmN.1 hr.firmN.2.1 200 r hr hr.firmN.2.2)] [1, 2, 5, 10] ?_ -- 16
          refine gk_region env false [] [1, 2, 5, 10, 51] ?_ -- 17
          refine gk_ifn (fun c6 => ?_) (fun c6 => ?_)
          · try simp only [toN] at c6
            refine gk_region env false [] [1, 2, 5] ?_ -- 18
            refine gk_ret env ?_
            have hg : gradeF r.groups 0 = true := by rw [he, gradeF, if_neg (by omega)]
            simp only [realmE, orE]
            rw [if_pos c1, if_pos c2, if_neg (by omega), if_pos hg, if_neg c6]; rfl
          · try simp only [toN] at c6
            refine gk_region env false [.call (fits4_ok (orderN r) hr.orderN.1 hr.orderN.2.1 20 r hr hr.orderN.2.2)] [1, 2, 11] ?_ -- 19
            refine gk_region env false [] [1, 2, 11, 57] ?_ -- 20
            refine gk_ifn (fun c7 => ?_) (fun c7 => ?_)
            · try simp only [toN] at c7
              refine gk_region env false [] [1, 2] ?_ -- 21
              refine gk_ret env ?_
              have hg : gradeF r.groups 0 = true := by rw [he, gradeF, if_neg (by omega)]
              simp only [realmE, orE]
              rw [if_pos c1, if_pos c2, if_neg (by omega), if_pos hg, if_pos c6, if_neg c7]; rfl
            · try simp only [toN] at c7
              refine gk_region env false [.call (usances_ok r hr)] [1, 2, 12] ?_ -- 22
              refine gk_region env false [] [1, 2, 12, 62] ?_ -- 23
              refine gk_ifn (fun c8 => ?_) (fun c8 => ?_)
              · try simp only [toN] at c8
                refine gk_region env false [] [1, 2] ?_ -- 24
                refine gk_ret env ?_
                have hg : gradeF r.groups 0 = true := by rw [he, gradeF, if_neg (by omega)]
                simp only [realmE, orE]
                rw [if_pos c1, if_pos c2, if_neg (by omega), if_pos hg, if_pos c6, if_pos c7, if_neg c8]; rfl
              · try simp only [toN] at c8
                refine gk_region env false [.call (rest_ok r hr)] [2] ?_ -- 25
                refine gk_ret env ?_
                have hg : gradeF r.groups 0 = true := by rw [he, gradeF, if_neg (by omega)]
                simp only [realmE, orE]
                rw [if_pos c1, if_pos c2, if_neg (by omega), if_pos hg, if_pos c6, if_pos c7, if_pos c8]; rfl
end Go.Gh
