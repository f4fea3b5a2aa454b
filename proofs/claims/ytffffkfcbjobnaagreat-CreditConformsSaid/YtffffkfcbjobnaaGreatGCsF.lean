/- Walks by the logic of calls, and plain laws. -/
import Derived.Test.YtffffkfcbjobnaaGreatGCsE
namespace Go.Gh
open Go Go.Proofs
set_option maxRecDepth 1000000
set_option maxHeartbeats 2000000
set_option linter.unusedSimpArgs false
set_option linter.unusedVariables false
set_option linter.unnecessarySimpa false
set_option linter.unusedSectionVars false
variable [PowTab] [ItoaU]
open Go.RowKit

theorem sameInts37_ok (a b : List Int) (ha : a.length ≤ 9223372036854775807) (hb : b.length ≤ 9223372036854775807) : GC Tryz.prog 36 [rowI a, rowI b] (bG (decide (a = b))) := by
  refine gc_of_gk Tryz.func36 ?_
  refine gk_region env false [] [0, 1, 4] ?_ -- 0
  refine gk_region env false [] [0, 1, 4, 10] ?_ -- 1
  refine gk_ifn (fun c1 => ?_) (fun c1 => ?_)
  · try simp only [toN] at c1
    refine gk_region env false [] [0, 1, 4] ?_ -- 2
    refine gk_ret env ?_
    have e : ¬ a = b := fun h => c1 (by rw [h])
    simp [e, tupG]
  · try simp only [toN] at c1
    refine gk_region env false [] [0, 1, 4, 5] ?_ -- 3
    refine gk_loop (α := Nat) (fun i => i ≤ a.length ∧ ∀ j, j < i → a.getD j default = b.getD j default) (fun i => [(5, iG i)]) (fun _ => []) (fun i => a.length - i) 0 ⟨by omega, fun j h => by omega⟩ ?_ -- loop 4
    rintro i ⟨hi, he⟩
    refine gk_region env false [] [0, 1, 4, 5, 14] ?_ -- 4
    refine gk_ifd (fun c2 => ?_) (fun c2 => ?_)
    · try simp only [toN] at c2
      refine gk_region env false [] [0, 1, 4, 5, 25] ?_ -- 6
      refine gk_ifn (fun c3 => ?_) (fun c3 => ?_)
      · try simp only [toN] at c3
        refine gk_region env false [] [0, 1, 4, 5] ?_ -- 7
        refine gk_ret env ?_
        have e : ¬ a = b := fun h => by subst h; simp at c3
        simp [e, tupG]
      · try simp only [toN] at c3
        refine gk_region env false [] [0, 1, 4, 5] ?_ -- 5
        refine gk_round (i + 1) ?_
        refine ⟨by omega, fun j hj => ?_⟩
        by_cases e : j = i
        · subst e; exact c3
        · exact he j (by omega)
    · try simp only [toN] at c2
      refine gk_region env false [] [4] ?_ -- 8
      refine gk_ret env ?_
      have e : a = b := ext_getD (by omega) fun j h => he j (by omega)
      simp [e, tupG]

theorem sameErrs_ok (a b : List Int) (ha : a.length ≤ 9223372036854775807) (hb : b.length ≤ 9223372036854775807) : GC Tryz.prog 15 [rowI a, rowI b] (bG (decide (a = b))) := by
  refine gc_of_gk Tryz.func15 ?_
  refine gk_region env false [] [0, 1, 4] ?_ -- 0
  refine gk_region env false [] [0, 1, 4, 10] ?_ -- 1
  refine gk_ifn (fun c1 => ?_) (fun c1 => ?_)
  · try simp only [toN] at c1
    refine gk_region env false [] [0, 1, 4] ?_ -- 2
    refine gk_ret env ?_
    have e : ¬ a = b := fun h => c1 (by rw [h])
    simp [e, tupG]
  · try simp only [toN] at c1
    refine gk_region env false [] [0, 1, 4, 5] ?_ -- 3
    refine gk_loop (α := Nat) (fun i => i ≤ a.length ∧ ∀ j, j < i → a.getD j default = b.getD j default) (fun i => [(5, iG i)]) (fun _ => []) (fun i => a.length - i) 0 ⟨by omega, fun j h => by omega⟩ ?_ -- loop 4
    rintro i ⟨hi, he⟩
    refine gk_region env false [] [0, 1, 4, 5, 14] ?_ -- 4
    refine gk_ifd (fun c2 => ?_) (fun c2 => ?_)
    · try simp only [toN] at c2
      refine gk_region env false [] [0, 1, 4, 5, 25] ?_ -- 6
      refine gk_ifn (fun c3 => ?_) (fun c3 => ?_)
      · try simp only [toN] at c3
        refine gk_region env false [] [0, 1, 4, 5] ?_ -- 7
        refine gk_ret env ?_
        have e : ¬ a = b := fun h => by subst h; simp at c3
        simp [e, tupG]
      · try simp only [toN] at c3
        refine gk_region env false [] [0, 1, 4, 5] ?_ -- 5
        refine gk_round (i + 1) ?_
        refine ⟨by omega, fun j hj => ?_⟩
        by_cases e : j = i
        · subst e; exact c3
        · exact he j (by omega)
    · try simp only [toN] at c2
      refine gk_region env false [] [4] ?_ -- 8
      refine gk_ret env ?_
      have e : a = b := ext_getD (by omega) fun j h => he j (by omega)
      simp [e, tupG]

def ledEq (a b : Led) : Bool := decide (a.drawn = b.drawn ∧ a.paid = b.paid ∧ a.left = b.left ∧ a.moved = b.moved ∧ a.second = b.second ∧ a.amended = b.amended)

theorem sameLed_ok (a b : Led) (ha : a.amended.length ≤ 9223372036854775807) (hb : b.amended.length ≤ 9223372036854775807) : GC Tryz.prog 14 [ledG a, ledG b] (bG (ledEq a b)) := by
  refine gc_of_gk Tryz.func14 ?_
  refine gk_region env false [] [2, 3, 4] ?_ -- 0
  refine gk_box 0 ?_
  refine gk_box 1 ?_
  refine gk_region env false [.call (sameInts37_ok a.amended b.amended ha hb)] [4] ?_ -- 1
  refine gk_ret env ?_
  simp only [tupG, ledEq, Bool.cond_false_right, Bool.decide_and, Bool.and_assoc]

structure Cn2 (l : List Dc) (i : Nat) (acc : List Int) (n : Int) : Prop where
  le : i ≤ l.length
  ci : CntI l i acc n
  eq : cntF l 0 [] 1 = cntF l i acc n

theorem count34_ok (l : List Dc) (hl : FitL l) : GC Tryz.prog 51 [rowDc l] (.tup [iG (countsE l).2.1, iG (countsE l).2.2]) := by
  have hl1 := hl.len
  refine gc_of_gk Tryz.func51 ?_
  refine gk_region env false [] [0, 2, 3] ?_ -- 0
  refine gk_region env false [] [0, 2, 3, 12] ?_ -- 1
  refine gk_ifd (fun c1 => ?_) (fun c1 => ?_)
  · try simp only [toN] at c1
    refine gk_region env false [] [0, 2, 3] ?_ -- 2
    refine gk_ret env ?_
    rw [countsE, if_pos (by omega)]; rfl
  · try simp only [toN] at c1
    refine gk_region env false [] [0, 2, 3, 4] ?_ -- 3
    refine gk_loop (α := Nat) (fun i => i ≤ l.length ∧ dchk l 0 = dchk l i) (fun i => [(4, iG i)]) (fun _ => []) (fun i => l.length - i) 0 ⟨by omega, rfl⟩ ?_ -- loop 4
    rintro i ⟨hi, he⟩
    refine gk_region env false [] [0, 2, 3, 4, 16] ?_ -- 4
    refine gk_ifd (fun c2 => ?_) (fun c2 => ?_)
    · try simp only [toN] at c2
      refine gk_region env false [.call (GC.lift (rcheck_ok (l.getD i default) (hl.at_ (by omega))))] [0, 2, 3, 4, 5] ?_ -- 6
      refine gk_region env false [] [0, 2, 3, 4, 5, 25] ?_ -- 7
      refine gk_ifn (fun c3 => ?_) (fun c3 => ?_)
      · try simp only [toN] at c3
        refine gk_region env false [] [0, 2, 3, 4] ?_ -- 8
        refine gk_ret env ?_
        have e : dchk l 0 = checkE (l.getD i default) := by rw [he, dchk, if_pos (by omega), if_neg c3]
        have e2 : countsE l = ([], 0, checkE (l.getD i default)) := by rw [countsE, if_neg (by omega), if_neg (by rw [e]; exact c3), e]
        rw [e2]; rfl
      · try simp only [toN] at c3
        refine gk_region env false [] [0, 2, 3, 4] ?_ -- 5
        refine gk_round (i + 1) ?_
        refine ⟨by omega, he.trans ?_⟩
        rw [dchk, if_pos (by omega), if_pos c3]
    · try simp only [toN] at c2
      have hd : dchk l 0 = 0 := by rw [he, dchk, if_neg (by omega)]
      refine gk_region env false [] [0, 2, 3, 6] ?_ -- 9
      refine gk_region env false [] [0, 2, 3, 6, 7] ?_ -- 10
      refine gk_loop (α := Nat × List Int × Int) (fun x => Cn2 l x.1 x.2.1 x.2.2) (fun x => [(7, iG x.1), (6, iG x.2.2)]) (fun _ => []) (fun x => l.length - x.1) (0, [], 1) ⟨Nat.zero_le _, cntI_0 l, rfl⟩ ?_ -- loop 11
      rintro ⟨i, acc, n⟩ hI
      dsimp only at *
      have h1 := hI.le
      have hm := hI.ci.mul (l.getD i default)
      have hn0 := hI.ci.n0
      have hn1 := hI.ci.n1
      refine gk_region env false [] [0, 2, 3, 6, 7, 30] ?_ -- 11
      refine gk_ifd (fun c4 => ?_) (fun c4 => ?_)
      · try simp only [toN] at c4
        refine gk_region env false [.call (GC.lift (rcount_ok (l.getD i default) (hl.at_ (by omega))))] [0, 2, 3, 6, 7, 8, 9] ?_ -- 13
        refine gk_region env false [] [0, 2, 3, 6, 7, 8, 48] ?_ -- 14
        refine gk_if (fun c5 => ?_) (fun c5 => ?_)
        · try simp only [bb, toN] at c5
          refine gk_region env false [] [0, 2, 3, 6, 7, 8] ?_ -- 15
          refine gk_ret env ?_
          have e : cntF l 0 [] 1 = none := by rw [hI.eq, cntF, if_pos (by omega), if_pos (by simp only [cntBad, Bool.or_eq_true, Bool.not_eq_true', decide_eq_true_eq, decide_eq_false_iff_not]; omega)]
          have e2 : countsE l = ([], 0, 6) := by rw [countsE, if_neg (by omega), if_pos hd, e]
          rw [e2]; rfl
        · try simp only [bb, toN] at c5
          have hb0 : cntBad (l.getD i default) n = false := by simp only [cntBad, Bool.or_eq_false_iff, Bool.not_eq_false', decide_eq_true_eq, decide_eq_false_iff_not]; omega
          refine gk_region env false [] [0, 2, 3, 6, 7] ?_ -- 16
          refine gk_region env false [] [0, 2, 3, 6, 7] ?_ -- 12
          refine gk_round ((i + 1, acc ++ [(countE (l.getD i default)).1], n * (countE (l.getD i default)).1)) ?_
          refine ⟨by simp only; omega, hI.ci.step hb0, hI.eq.trans ?_⟩
          rw [cntF, if_pos (by omega), if_neg (by rw [hb0]; simp)]
      · try simp only [toN] at c4
        refine gk_region env false [] [2, 3] ?_ -- 17
        refine gk_ret env ?_
        have e : cntF l 0 [] 1 = some (acc, n) := by rw [hI.eq, cntF, if_neg (by omega)]
        have e2 : countsE l = (acc, n, 0) := by rw [countsE, if_neg (by omega), if_pos hd, e]
        rw [e2]; rfl
end Go.Gh
