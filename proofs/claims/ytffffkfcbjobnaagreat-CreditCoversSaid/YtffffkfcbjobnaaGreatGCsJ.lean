/- Walks by the logic of calls, and plain laws. -/
import Derived.Test.YtffffkfcbjobnaaGreatGCsI
namespace Go.Gh
open Go Go.Proofs
set_option maxRecDepth 1000000
set_option maxHeartbeats 2000000
set_option linter.unusedSimpArgs false
set_option linter.unusedVariables false
set_option linter.unnecessarySimpa false
set_option linter.unusedSectionVars false
variable [PowTab] [ItoaU]
open Go.RowKit

theorem follows_self (d : Dm) : followsB d d = true := by rw [followsB, if_pos (by rw [dmEq_eq]; simp)]
theorem limF_wide {l : List ByteArray} {lo hi lo' hi' : Int} {sm : Bool} (h1 : lo' ≤ lo) (h2 : hi ≤ hi') : ∀ (k i : Nat) (acc a : Int), l.length - i = k → limF l lo hi sm i acc = some a → limF l lo' hi' sm i acc = some a := by
  intro k
  induction k with
  | zero => intro i acc a h he; rw [limF, if_neg (by omega)] at he ⊢; exact he
  | succ k ih =>
    intro i acc a h he
    rw [limF, if_pos (by omega)] at he ⊢
    have hw : offLim (l.getD i default) lo hi sm = false → offLim (l.getD i default) lo' hi' sm = false := fun ho => by
      simp only [offLim, Bool.or_eq_false_iff, Bool.and_eq_false_iff, Bool.not_eq_false', decide_eq_false_iff_not] at ho ⊢
      refine ⟨ho.1, ho.2.imp id fun h => ?_⟩
      omega
    cases ho : offLim (l.getD i default) lo hi sm with
    | true => rw [ho] at he; cases he
    | false =>
      rw [ho, if_neg (by simp)] at he
      rw [hw ho, if_neg (by simp)]
      exact ih (i + 1) _ a (by omega) he
theorem limV_wide {l : List Pn} {k f : ByteArray} {lo hi lo' hi' : Int} {sm : Bool} (h1 : lo' ≤ lo) (h2 : hi ≤ hi') (h : limV l k f lo hi sm = true) : limV l k f lo' hi' sm = true := by
  unfold limV at h ⊢
  cases he : limF (fldV l k f) lo hi sm 0 0 with
  | none => rw [he] at h; cases h
  | some a =>
    rw [he] at h
    rw [limF_wide h1 h2 _ 0 0 a rfl he]
    simp only [Bool.and_eq_true, Bool.or_eq_true, Bool.not_eq_true', decide_eq_true_eq] at h ⊢
    refine ⟨h.1, h.2.imp id fun h => ?_⟩
    omega
theorem limF_is {l : List ByteArray} {lo hi : Int} {t : ByteArray} (ht : numOk t = true) (h1 : lo ≤ numV t) (h2 : numV t ≤ hi) (hl : ∀ x, x ∈ l → x = t) : ∀ (k i : Nat) (acc : Int), l.length - i = k → ∃ a, limF l lo hi false i acc = some a := by
  intro k
  induction k with
  | zero => intro i acc h; exact ⟨acc, by rw [limF, if_neg (by omega)]⟩
  | succ k ih =>
    intro i acc h
    rw [limF, if_pos (by omega)]
    have e : l.getD i default = t := hl _ (getD_mem (by omega))
    have ho : offLim (l.getD i default) lo hi false = false := by
      rw [e]; simp only [offLim, ht, Bool.or_eq_false_iff, Bool.and_eq_false_iff, Bool.not_eq_false', decide_eq_false_iff_not]
      exact ⟨trivial, .inr ⟨by omega, by omega⟩⟩
    rw [ho, if_neg (by simp)]
    exact ih (i + 1) _ (by omega)
theorem is_lim {l : List Pn} {k f t : ByteArray} {lo hi : Int} (ht : numOk t = true) (h1 : lo ≤ numV t) (h2 : numV t ≤ hi) (h : isV l k f t = true) : limV l k f lo hi false = true := by
  simp only [isV, Bool.and_eq_true, Bool.not_eq_true', List.any_eq_false, decide_eq_false_iff_not, Decidable.not_not] at h
  obtain ⟨a, ha⟩ := limF_is (l := fldV l k f) ht h1 h2 (fun x hx => by simpa using h.2 x hx) _ 0 0 rfl
  unfold limV
  rw [ha]
  simp [h.1]
theorem same_swap {l : List Pn} (hs : Go.Gh.Short l) {k f k2 f2 : ByteArray} (h : sameV l k f k2 f2 = true) : sameV l k2 f2 k f = true := by
  unfold sameV at h ⊢
  by_cases hk : (!kindV l k || !kindV l k2) = true
  · rw [if_pos (by rw [Bool.or_comm]; exact hk)]
  · rw [if_neg hk] at h
    rw [if_neg (by rw [Bool.or_comm]; exact hk)]
    simp only [Bool.and_eq_true, Bool.not_eq_true', List.any_eq_false, decide_eq_false_iff_not, Decidable.not_not] at h ⊢
    obtain ⟨g1, g2, g3⟩ := h
    simp only [Bool.or_eq_true, Bool.not_eq_true', not_or, Bool.not_eq_false] at hk
    have hn := (fldV_mem hs k2 f2).2.2 g2 hk.2
    have e0 : ∀ x, x ∈ fldV l k f ++ fldV l k2 f2 → x = (fldV l k f).getD 0 default := fun x hx => by simpa using g3 x hx
    refine ⟨g2, g1, fun x hx => ?_⟩
    have hx2 : x ∈ fldV l k f ++ fldV l k2 f2 := by
      rcases List.mem_append.1 hx with h | h
      · exact List.mem_append_right _ h
      · exact List.mem_append_left _ h
    have e1 := e0 _ (List.mem_append_right _ (getD_mem (l := fldV l k2 f2) (i := 0) hn))
    have := e0 x hx2
    have h3 : x = (fldV l k2 f2).getD 0 default := by rw [this, e1]
    simpa using h3
theorem follows_met {d f : Dm} {docs : List Pn} (hs : Go.Gh.Short docs) (h : followsB d f = true) (hf : metV f docs = true) : metV d docs = true := by
  unfold followsB at h
  split at h
  · rename_i h1
    rw [dmEq_eq, decide_eq_true_eq] at h1
    rw [h1]; exact hf
  · split at h
    · rename_i h1
      simp only [fieldB, Bool.cond_false_right, Bool.and_eq_true, decide_eq_true_eq] at h
      obtain ⟨⟨e1, e2⟩, e3, e4⟩ := h
      unfold metV at hf ⊢
      rw [← h1.1, ← e1, ← e2] at hf
      rcases h1.2 with e | e
      · rw [e] at hf ⊢
        exact limV_wide e3 e4 hf
      · rw [e] at hf ⊢
        exact limV_wide e3 e4 hf
    · split at h
      · rename_i h1
        rw [dmEq_eq, decide_eq_true_eq] at h
        unfold metV at hf ⊢
        rw [h1.2] at hf
        rw [h1.1]
        have e1 : d.doc = f.other := by rw [h]; rfl
        have e2 : d.field = f.second := by rw [h]; rfl
        have e3 : d.other = f.doc := by rw [h]; rfl
        have e4 : d.second = f.field := by rw [h]; rfl
        rw [e1, e2, e3, e4]
        exact same_swap hs hf
      · split at h
        · rename_i h1
          simp only [fieldB, Bool.cond_false_right, Bool.and_eq_true, decide_eq_true_eq] at h
          obtain ⟨⟨e1, e2⟩, e3, e4, e5⟩ := h
          unfold metV at hf ⊢
          rw [h1.2, ← e1, ← e2] at hf
          rw [h1.1]
          exact is_lim e3 e4 e5 hf
        · cases h
theorem failF_some {l : List Dm} {docs : List Pn} : ∀ (k i : Nat) (acc : List Int), l.length - i = k → acc.length ≤ (failF l docs i acc).length ∧ ((failF l docs i acc).length = acc.length → ∀ j, i ≤ j → j < l.length → metV (l.getD j default) docs = true) := by
  intro k
  induction k with
  | zero => intro i acc h; rw [failF, if_neg (by omega)]; exact ⟨Nat.le_refl _, fun _ j h1 h2 => by omega⟩
  | succ k ih =>
    intro i acc h
    rw [failF, if_pos (by omega)]
    cases hm : metV (l.getD i default) docs with
    | true =>
      rw [if_pos rfl]
      obtain ⟨h1, h2⟩ := ih (i + 1) acc (by omega)
      refine ⟨h1, fun he j h3 h4 => ?_⟩
      by_cases e : j = i
      · subst e; exact hm
      · exact h2 he j (by omega) h4
    | false =>
      rw [if_neg (by simp)]
      obtain ⟨h1, h2⟩ := ih (i + 1) (acc ++ [(i : Int)]) (by omega)
      rw [List.length_append, List.length_singleton] at h1
      exact ⟨by omega, fun he => by omega⟩
theorem failV_met {l : List Dm} {docs : List Pn} (h : (failV l docs).length = 0) {d : Dm} (hd : d ∈ l) : metV d docs = true := by
  obtain ⟨j, h1, h2⟩ := mem_getD hd
  have := (failF_some (l := l) (docs := docs) _ 0 [] rfl).2 (by simpa [failV] using h) j (Nat.zero_le _) h1
  rw [h2] at this
  exact this
theorem failF_none {l : List Dm} {docs : List Pn} (hm : ∀ d, d ∈ l → metV d docs = true) : ∀ (k i : Nat) (acc : List Int), l.length - i = k → failF l docs i acc = acc := by
  intro k
  induction k with
  | zero => intro i acc h; rw [failF, if_neg (by omega)]
  | succ k ih =>
    intro i acc h
    rw [failF, if_pos (by omega), hm _ (getD_mem (by omega)), if_pos rfl]
    exact ih (i + 1) acc (by omega)
theorem failV_none {l : List Dm} {docs : List Pn} (hm : ∀ d, d ∈ l → metV d docs = true) : failV l docs = [] := failF_none hm _ 0 [] rfl
theorem covers_law {a b : List Dm} {docs : List Pn} (hs : Go.Gh.Short docs) (h : coversB a b = true) : 0 < (failV b docs).length ∨ (failV a docs).length = 0 := by
  by_cases hb : (failV b docs).length = 0
  · right
    rw [failV_none fun d hd => ?_]
    · rfl
    · have := List.all_eq_true.1 h d hd
      obtain ⟨f, hf, hff⟩ := List.any_eq_true.1 this
      exact follows_met hs hff (failV_met hb hf)
  · left; omega

theorem covers_law_ok (a b : List Dm) (ha : a.length ≤ 9223372036854775807) (hb : b.length ≤ 9223372036854775807) (docs : List Pn) (hd : docs.length ≤ 9223372036854775807) (ht : ∀ p, p ∈ docs → p.names.length ≤ 9223372036854775807 ∧ p.texts.length ≤ 9223372036854775807) : GC Tryz.prog 6 [rowD a, rowD b, rowP docs] (bG true) := by
  refine gc_of_gk Tryz.func6 ?_
  refine gk_region env false [] [0, 1, 2, 6] ?_ -- 0
  refine gk_region env false [.call small37_ok] [0, 1, 2, 6, 7] ?_ -- 1
  refine gk_region env false [.call (GC.lift (few33_ok a ha)), .call (GC.lift (few33_ok b hb)), .call (GC.lift (small_ok docs hd ht))] [0, 1, 2, 6, 7, 23] ?_ -- 2
  refine gk_if (fun c1 => ?_) (fun c1 => ?_)
  · try simp only [bb, toN] at c1
    refine gk_region env false [] [0, 1, 2, 6, 7] ?_ -- 3
    refine gk_ret env ?_
    rfl
  · try simp only [bb, toN] at c1
    have fa := few33V_spec c1.1.1
    have fb := few33V_spec c1.1.2
    have hs := (smallV_spec c1.2).short
    refine gk_region env false [] [0, 1, 2, 6, 7, 8] ?_ -- 4
    refine gk_loop (α := Nat) (fun i => i ≤ a.length) (fun i => [(8, iG i)]) (fun _ => []) (fun i => a.length - i) 0 (Nat.zero_le _) ?_ -- loop 5
    rintro i hi
    refine gk_region env false [] [0, 1, 2, 6, 7, 8, 28] ?_ -- 5
    refine gk_ifd (fun c2 => ?_) (fun c2 => ?_)
    · try simp only [toN] at c2
      refine gk_region env false [] [0, 1, 2, 6, 7, 8, 9] ?_ -- 7
      refine gk_loop (α := Nat) (fun j => j ≤ b.length) (fun j => [(9, iG j)]) (fun _ => []) (fun j => b.length - j) 0 (Nat.zero_le _) ?_ -- loop 8
      rintro j hj
      refine gk_region env false [] [0, 1, 2, 6, 7, 8, 9, 34] ?_ -- 8
      refine gk_ifd (fun c3 => ?_) (fun c3 => ?_)
      · try simp only [toN] at c3
        refine gk_region env false [.call (follows_ok (a.getD i default) (b.getD j default) (few_text fb.2 _ (getD_mem (by omega)))), .call (GC.lift (met_ok (b.getD j default) docs hs)), .call (GC.lift (met_ok (a.getD i default) docs hs))] [0, 1, 2, 6, 7, 8, 9, 62] ?_ -- 10
        refine gk_if (fun c4 => ?_) (fun c4 => ?_)
        · try simp only [bb, toN] at c4
          exact absurd (follows_met hs c4.1.1 c4.1.2) (by rw [c4.2]; simp)
        · try simp only [bb, toN] at c4
          refine gk_region env false [] [0, 1, 2, 6, 7, 8, 9] ?_ -- 9
          refine gk_round (j + 1) ?_
          omega
      · try simp only [toN] at c3
        refine gk_region env false [.call (follows_ok (a.getD i default) (a.getD i default) (few_text fa.2 _ (getD_mem (by omega))))] [0, 1, 2, 6, 7, 8, 72] ?_ -- 12
        refine gk_if (fun c5 => ?_) (fun c5 => ?_)
        · try simp only [bb, toN] at c5
          rw [follows_self] at c5; cases c5
        · try simp only [bb, toN] at c5
          refine gk_region env false [] [0, 1, 2, 6, 7, 8] ?_ -- 6
          refine gk_round (i + 1) ?_
          omega
    · try simp only [toN] at c2
      refine gk_region env false [.call (covers_ok a b ha hb (few_text fb.2))] [0, 1, 2, 6, 7, 76] ?_ -- 14
      refine gk_if (fun c6 => ?_) (fun c6 => ?_)
      · try simp only [bb, toN] at c6
        refine gk_region env false [] [0, 1, 2, 6, 7] ?_ -- 15
        refine gk_ret env ?_
        rfl
      · try simp only [bb, toN] at c6
        refine gk_region env false [.call (GC.lift (failing_ok b (by omega) docs hs)), .call (GC.lift (failing_ok a (by omega) docs hs))] [6] ?_ -- 16
        refine gk_ret env ?_
        have e : (bif decide ((0 : Int) < (failV b docs).length) then true else decide (((failV a docs).length : Int) = 0)) = true := by
          rcases covers_law hs c6 with h | h
          · rw [decide_eq_true (show (0 : Int) < (failV b docs).length by omega)]; rfl
          · rw [decide_eq_true (show ((failV a docs).length : Int) = 0 by omega)]; cases decide ((0 : Int) < (failV b docs).length) <;> rfl
        rw [e]; rfl
end Go.Gh
