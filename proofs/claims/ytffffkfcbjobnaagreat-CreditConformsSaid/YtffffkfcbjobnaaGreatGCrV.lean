/- Walks by the logic of calls, and plain laws. -/
import Derived.Test.YtffffkfcbjobnaaGreatGCrU
import Derived.Test.YtffffkfcbjobnaaGreatGCrF
import Derived.Test.YtffffkfcbjobnaaGreatGh3
import Derived.Test.YtffffkfcbjobnaaGreatGScF
import Derived.RangeFuncNested
import Derived.RangeFuncBound
import Derived.RangeFuncCalls
import Derived.RangeFuncLeaves
import Derived.RangeFuncBox
import Derived.Shelf.Abstract
import Derived.Shelf.RegionOpen
import Derived.OwnWalkIn
import Derived.TacticsInMore
import Derived.LoopNIn
import Derived.LoopIn
namespace Go.Gh
open Go Go.Proofs
set_option maxRecDepth 1000000
set_option maxHeartbeats 2000000
set_option linter.unusedSimpArgs false
set_option linter.unusedVariables false
set_option linter.unnecessarySimpa false
set_option linter.unusedSectionVars false
variable [PowTab] [ItoaU]
open Go.RowKit Go.Shelf
attribute [local go_sem] Oper.semAt_some

abbrev uG (x : Int) : G := .d (.sc (.int .u64 x))
def uC (x : Int) : List D := [.sc (.int .u64 x)]
/-- the bits of a list of numbers -/
def bitsF (ks : List Int) (i : Nat) (s : Int) : Int := if i < ks.length then bitsF ks (i + 1) (orI .u64 s (shlI .u64 1 (ks.getD i default))) else s
termination_by ks.length - i
def bitsE (ks : List Int) : Int := bitsF ks 0 0
def setAt (l : List Dm) (docs : List Dc) (cs : List Int) (i : Nat) : Int := bitsE (failV l (readL docs cs i))
/-- how many bits a word has -/
def ones1 (x : Int) : Int := IntKind.u64.wrap (andI .u64 (shrI .u64 x 1) 6148914691236517205 + andI .u64 x 6148914691236517205)
def ones2 (x : Int) : Int := IntKind.u64.wrap (andI .u64 (shrI .u64 x 2) 3689348814741910323 + andI .u64 x 3689348814741910323)
def ones3 (x : Int) : Int := andI .u64 (IntKind.u64.wrap (shrI .u64 x 4 + x)) 1085102592571150095
def ones4 (x : Int) : Int := IntKind.u64.wrap (x + shrI .u64 x 8)
def ones5 (x : Int) : Int := IntKind.u64.wrap (x + shrI .u64 x 16)
def ones6 (x : Int) : Int := IntKind.u64.wrap (x + shrI .u64 x 32)
def onesE (x : Int) : Int := andI .i64 (IntKind.i64.wrap (ones6 (ones5 (ones4 (ones3 (ones2 (ones1 x))))))) 127

theorem ones64_ok (x : Int) : GC Tryz.prog 172 [uG x] (iG (onesE x)) := by
  refine gc_of_gk Tryz.func172 ?_
  refine gk_region env true [] [0, 2] ?_ -- 0
  refine gk_region env true [] [0, 2] ?_ -- 1
  refine gk_region env true [] [0, 2] ?_ -- 2
  refine gk_region env true [] [0, 2] ?_ -- 3
  refine gk_region env true [] [0, 2] ?_ -- 4
  refine gk_region env true [] [0, 2] ?_ -- 5
  refine gk_region env true [] [0, 2] ?_ -- 6
  refine gk_region env true [] [2] ?_ -- 7
  refine gk_ret env ?_
  rfl

theorem ones_ok (x : Int) : GC Tryz.prog 164 [uG x] (iG (onesE x)) := by
  refine gc_of_gk Tryz.func164 ?_
  refine gk_region env false [] [0, 2] ?_ -- 0
  refine gk_if (fun c1 => ?_) (fun c1 => ?_)
  · try simp only [bb, toN] at c1
    cases c1
  · try simp only [bb, toN] at c1
    refine gk_region env false [.call (ones64_ok x)] [2] ?_ -- 2
    refine gk_ret env ?_
    rfl

theorem failings_ok (l : List Dm) (docs : List Dc) (cs : List Int) (n : Int) : GC Tryz.prog 163 [rowD l, rowDc docs, rowI cs, iG n] (.fn (.func 170) [] [.ep [.sc (.int .i64 n)], .ep [.row default dmC l], .ep [.row default dcC docs], .ep [.row default inC cs]]) := by
  refine gc_of_gk Tryz.func163 ?_
  refine gk_region env false [] [4, 5, 6, 7, 8] ?_ -- 0
  refine gk_box 0 ?_
  refine gk_box 1 ?_
  refine gk_box 2 ?_
  refine gk_box 3 ?_
  refine gk_region env false [] [8] ?_ -- 1
  refine gk_ret env ?_
  rfl

theorem textF_size {f : Fl} (hf : Good f) (i : Nat) : (textF f i).size ≤ 1000 := by
  have h1 := join_le ((wordsAt f.words i).map bs) 20 fun x hx => by
    obtain ⟨s, hs, rfl⟩ := List.mem_map.1 hx
    have := validS_size (wordsAt_mem hf.each hs)
    show s.data.toList.length ≤ 20
    rw [Array.length_toList]; exact this
  rw [List.length_map, wordsAt_length] at h1
  have h2 := hf.words
  have e : (textF f i).size = (Lib.join ((wordsAt f.words i).map bs) [32]).length := by
    unfold textF joinS
    show (Lib.join ((wordsAt f.words i).map bs) (bs sp)).toArray.size = _
    rw [List.size_toArray]; rfl
  rw [e]
  have := Nat.mul_le_mul_right 21 h2
  omega
theorem readE_short (d : Dc) (i : Int) : (readE d i).1.names.length ≤ 12 ∧ (readE d i).1.texts.length ≤ 12 ∧ ∀ t, t ∈ (readE d i).1.texts → t.size ≤ 1000 := by
  unfold readE
  split
  · rename_i hc
    have hr := right_of (countE_0 hc)
    split
    · have h := rfold_ok d.fields i.toNat (downL d.fields.length)
      refine ⟨by show (rfold _ _ _).names.length ≤ 12; rw [h.2.1]; exact hr.len, by show (rfold _ _ _).texts.length ≤ 12; rw [h.2.2]; exact hr.len, ?_⟩
      have key : ∀ (pre : List (Fin d.fields.length)) (s : Rs), (∀ t, t ∈ s.texts → t.size ≤ 1000) → ∀ t, t ∈ (pre.foldl (rstep d.fields) s).texts → t.size ≤ 1000 := by
        intro pre
        induction pre with
        | nil => intro s h; exact h
        | cons k l ih =>
          intro s h
          refine ih _ fun t ht => ?_
          rcases List.mem_or_eq_of_mem_set ht with ht | rfl
          · exact h t ht
          · exact textF_size (hr.good _ (getD_mem k.2)) _
      exact key _ _ fun t ht => by
        have : t = default := List.eq_of_mem_replicate ht
        subst this; show (⟨#[]⟩ : ByteArray).size ≤ 1000; decide
    · exact ⟨by simp, by simp, fun t ht => by cases ht⟩
  · exact ⟨by simp, by simp, fun t ht => by cases ht⟩
theorem rdL_mem (l : List Dc) (cs : List Int) : ∀ (j : Nat) (i : Int) (p : Pn), p ∈ rdL l cs j i → ∃ d k, p = (readE d k).1 := by
  intro j
  induction j with
  | zero => intro i p h; cases h
  | succ j ih =>
    intro i p h
    rw [rdL] at h
    rcases List.mem_append.1 h with h | h
    · exact ih _ p h
    · exact ⟨_, _, List.mem_singleton.1 h⟩
theorem readL_short {l : List Dc} (hl : l.length ≤ 1000) (cs : List Int) (i : Int) : Go.Gh.Short (readL l cs i) := by
  refine ⟨⟨by unfold readL; rw [rdL_len]; exact hl, fun p hp => ?_⟩, fun p hp t ht => ?_⟩
  · obtain ⟨d, k, rfl⟩ := rdL_mem l cs _ _ p hp
    have := readE_short d k
    omega
  · obtain ⟨d, k, rfl⟩ := rdL_mem l cs _ _ p hp
    exact (readE_short d k).2.2 t ht
theorem failF_ix {l : List Dm} {docs : List Pn} : ∀ (k i : Nat) (acc : List Int), l.length - i = k → (∀ x, x ∈ acc → 0 ≤ x ∧ x < l.length) → ∀ x, x ∈ failF l docs i acc → 0 ≤ x ∧ x < l.length := by
  intro k
  induction k with
  | zero => intro i acc hk h x hx; rw [failF, if_neg (by omega)] at hx; exact h x hx
  | succ k ih =>
    intro i acc hk h x hx
    rw [failF, if_pos (by omega)] at hx
    refine ih (i + 1) _ (by omega) ?_ x hx
    split
    · exact h
    · intro y hy
      rcases List.mem_append.1 hy with hy | hy
      · exact h y hy
      · rw [List.mem_singleton.1 hy]; omega
theorem failV_ix {l : List Dm} {docs : List Pn} {x : Int} (h : x ∈ failV l docs) : 0 ≤ x ∧ x < l.length := failF_ix _ 0 [] rfl (fun _ h => by cases h) x h
theorem failF_len {l : List Dm} {docs : List Pn} : ∀ (k i : Nat) (acc : List Int), l.length - i = k → i ≤ l.length → (failF l docs i acc).length ≤ acc.length + k := by
  intro k
  induction k with
  | zero => intro i acc hk hi; rw [failF, if_neg (by omega)]; omega
  | succ k ih =>
    intro i acc hk hi
    rw [failF, if_pos (by omega)]
    refine Nat.le_trans (ih (i + 1) _ (by omega) (by omega)) ?_
    split <;> simp <;> omega
theorem failV_len (l : List Dm) (docs : List Pn) : (failV l docs).length ≤ l.length := by
  have := failF_len (l := l) (docs := docs) l.length 0 [] (by omega) (by omega)
  simpa [failV] using this
end Go.Gh
