/- Walks by the logic of calls, and plain laws. -/
import Derived.Test.YtffffkfcbjobnaaGreatGCsA
namespace Go.Gh
open Go Go.Proofs
set_option maxRecDepth 1000000
set_option maxHeartbeats 2000000
set_option linter.unusedSimpArgs false
set_option linter.unusedVariables false
set_option linter.unnecessarySimpa false
set_option linter.unusedSectionVars false
variable [PowTab] [ItoaU]
open Go.RowKit

def argB (r : Rlm) (c : Crd) : Bool := ((((inB c.app r.firms.length && inB c.iss r.firms.length) && inB c.ben r.firms.length) && (decide (c.conf = -1) || (inB c.conf r.firms.length && !decide (c.conf = c.iss)))) && inB c.cur r.currencies.length) && inB c.city r.cities.length
def rngB (c : Crd) : Bool := ((decide (1 ≤ c.sum) && decide (c.sum ≤ 1099511627776)) && inB c.exp 100001) && inB c.rev 11
def crdE (r : Rlm) (c : Crd) : Int := if realmE r = 0 then if argB r c = true then if rngB c = true then if printOk c.terms = true then 0 else 2 else 3 else 1 else realmE r
theorem arg_t {r : Rlm} {c : Crd} : argB r c = true ↔ ((((inB c.app r.firms.length = true ∧ inB c.iss r.firms.length = true) ∧ inB c.ben r.firms.length = true) ∧ (c.conf = -1 ∨ inB c.conf r.firms.length = true ∧ ¬ c.conf = c.iss)) ∧ inB c.cur r.currencies.length = true) ∧ inB c.city r.cities.length = true := by
  simp only [argB, Bool.and_eq_true, Bool.or_eq_true, decide_eq_true_eq, Bool.not_eq_true', decide_eq_false_iff_not]
theorem arg_f {r : Rlm} {c : Crd} : argB r c = false ↔ ((((inB c.app r.firms.length = false ∨ inB c.iss r.firms.length = false) ∨ inB c.ben r.firms.length = false) ∨ ¬ c.conf = -1 ∧ (inB c.conf r.firms.length = false ∨ c.conf = c.iss)) ∨ inB c.cur r.currencies.length = false) ∨ inB c.city r.cities.length = false := by
  simp only [argB, Bool.and_eq_false_iff, Bool.or_eq_false_iff, decide_eq_false_iff_not, Bool.not_eq_false', decide_eq_true_eq]
theorem rng_t {c : Crd} : rngB c = true ↔ ((1 ≤ c.sum ∧ c.sum ≤ 1099511627776) ∧ inB c.exp 100001 = true) ∧ inB c.rev 11 = true := by
  simp only [rngB, Bool.and_eq_true, decide_eq_true_eq]
theorem rng_f {c : Crd} : rngB c = false ↔ ((c.sum < 1 ∨ 1099511627776 < c.sum) ∨ inB c.exp 100001 = false) ∨ inB c.rev 11 = false := by
  simp only [rngB, Bool.and_eq_false_iff, decide_eq_false_iff_not, Int.not_le]
structure FitCr (c : Crd) : Prop where
  terms : c.terms.length ≤ 30 ∧ ∀ d, d ∈ c.terms → FewD d
def fieldB (d f : Dm) : Bool := bif decide (d.doc = f.doc) then decide (d.field = f.field) else false
def swapD (f : Dm) : Dm := ⟨f.op, f.other, f.second, f.doc, f.field, f.text, f.lo, f.hi⟩
def followsB (d f : Dm) : Bool :=
  if dmEq d f = true then true else if d.op = f.op ∧ (d.op = 2 ∨ d.op = 4) then fieldB d f && (decide (d.lo ≤ f.lo) && decide (f.hi ≤ d.hi))
  else if d.op = 3 ∧ f.op = 3 then dmEq d (swapD f) else if d.op = 2 ∧ f.op = 1 then fieldB d f && (numOk f.text && (decide (d.lo ≤ numV f.text) && decide (numV f.text ≤ d.hi))) else false
def coversB (a b : List Dm) : Bool := a.all fun d => b.any fun f => followsB d f

theorem ccheck_ok (r : Rlm) (hr : FitR r) (c : Crd) (hc : FitCr c) : GC Tryz.prog 21 [rlG r, crdG c] (iG (crdE r c)) := by
  refine gc_of_gk Tryz.func21 ?_
  refine gk_region env false [] [2, 3, 4] ?_ -- 0
  refine gk_box 0 ?_
  refine gk_box 1 ?_
  refine gk_region env false [.call (GC.lift (rcheck_realm r hr))] [2, 3, 4, 5] ?_ -- 1
  refine gk_region env false [] [2, 3, 4, 5, 11] ?_ -- 2
  refine gk_ifn (fun c1 => ?_) (fun c1 => ?_)
  · try simp only [toN] at c1
    refine gk_region env false [] [2, 3, 4] ?_ -- 3
    refine gk_ret env ?_
    rw [crdE, if_neg c1]; rfl
  · try simp only [toN] at c1
    refine gk_region env false [] [2, 3, 4, 6] ?_ -- 4
    refine gk_region env false [.call (cin_ok c.conf r.firms.length)] [2, 3, 4, 6, 7] ?_ -- 5
    refine gk_region env false [.call (cin_ok c.app r.firms.length), .call (cin_ok c.iss r.firms.length), .call (cin_ok c.ben r.firms.length), .call (cin_ok c.cur r.currencies.length), .call (cin_ok c.city r.cities.length)] [3, 4, 32] ?_ -- 6
    refine gk_if (fun c2 => ?_) (fun c2 => ?_)
    · try simp only [bb, toN] at c2
      refine gk_region env false [] [4] ?_ -- 7
      refine gk_ret env ?_
      rw [crdE, if_pos c1, if_neg (by rw [arg_f.2 c2]; simp)]; rfl
    · try simp only [bb, toN] at c2
      refine gk_region env false [.call (cin_ok c.exp 100001), .call (cin_ok c.rev 11)] [3, 4, 74] ?_ -- 8
      refine gk_if (fun c3 => ?_) (fun c3 => ?_)
      · try simp only [bb, toN] at c3
        refine gk_region env false [] [4] ?_ -- 9
        refine gk_ret env ?_
        rw [crdE, if_pos c1, if_pos (arg_t.2 c2), if_neg (by rw [rng_f.2 c3]; simp)]; rfl
      · try simp only [bb, toN] at c3
        refine gk_region env false [.call (written_ok c.terms hc.terms.1 hc.terms.2)] [4, 95] ?_ -- 10
        refine gk_if (fun c4 => ?_) (fun c4 => ?_)
        · try simp only [bb, toN] at c4
          refine gk_region env false [] [4] ?_ -- 11
          refine gk_ret env ?_
          rw [crdE, if_pos c1, if_pos (arg_t.2 c2), if_pos (rng_t.2 c3), if_neg (by rw [c4]; simp)]; rfl
        · try simp only [bb, toN] at c4
          refine gk_region env false [] [4] ?_ -- 12
          refine gk_ret env ?_
          rw [crdE, if_pos c1, if_pos (arg_t.2 c2), if_pos (rng_t.2 c3), if_pos c4]; rfl

theorem follows_ok (d f : Dm) (hx : f.text.size ≤ 9223372036854775807) : GC Tryz.prog 17 [dmG d, dmG f] (bG (followsB d f)) := by
  refine gc_of_gk Tryz.func17 ?_
  refine gk_region env false [] [2, 3, 4] ?_ -- 0
  refine gk_region env false [.eq (eq_demand d f)] [2, 3, 4, 10] ?_ -- 1
  refine gk_if (fun c1 => ?_) (fun c1 => ?_)
  · try simp only [bb, toN] at c1
    refine gk_region env false [] [2, 3, 4] ?_ -- 2
    refine gk_ret env ?_
    rw [followsB, if_pos c1]; rfl
  · try simp only [bb, toN] at c1
    refine gk_region env false [] [2, 3, 4, 5] ?_ -- 3
    refine gk_region env false [] [2, 3, 4, 5, 23] ?_ -- 4
    refine gk_if (fun c2 => ?_) (fun c2 => ?_)
    · try simp only [bb, toN] at c2
      refine gk_region env false [] [4] ?_ -- 5
      refine gk_ret env ?_
      rw [followsB, if_neg (by rw [c1]; simp), if_pos c2]; simp only [tupG, fieldB, Bool.cond_false_right, Bool.and_assoc]
    · try simp only [bb, toN] at c2
      refine gk_region env false [] [2, 3, 4, 5, 54] ?_ -- 6
      refine gk_if (fun c3 => ?_) (fun c3 => ?_)
      · try simp only [bb, toN] at c3
        refine gk_region env false [] [2, 3, 4] ?_ -- 7
        refine gk_region env false [.eq (eq_demand d (swapD f))] [4] ?_ -- 8
        refine gk_ret env ?_
        rw [followsB, if_neg (by rw [c1]; simp), if_neg (by omega), if_pos c3]; rfl
      · try simp only [bb, toN] at c3
        refine gk_region env false [] [2, 3, 4, 5, 78] ?_ -- 9
        refine gk_if (fun c4 => ?_) (fun c4 => ?_)
        · try simp only [bb, toN] at c4
          refine gk_region env false [.call (GC.lift (number_ok f.text hx))] [2, 4, 5, 6, 7] ?_ -- 10
          refine gk_region env false [] [4] ?_ -- 11
          refine gk_ret env ?_
          rw [followsB, if_neg (by rw [c1]; simp), if_neg (by omega), if_neg (by omega), if_pos c4]; simp only [tupG, fieldB, Bool.cond_false_right, Bool.and_assoc]
        · try simp only [bb, toN] at c4
          refine gk_region env false [] [4] ?_ -- 12
          refine gk_ret env ?_
          rw [followsB, if_neg (by rw [c1]; simp), if_neg (by omega), if_neg (by omega), if_neg (by omega)]; rfl

theorem covers1_ok (d f : Dm) (hx : f.text.size ≤ 9223372036854775807) : GC Tryz.prog 41 [dmG f, .ep (dmC d)] (bG (followsB d f)) := by
  refine gc_of_gk Tryz.func41 ?_
  refine gk_region env false [] [1, 2, 3] ?_ -- 0
  refine gk_region env false [.call (follows_ok d f hx)] [3] ?_ -- 1
  refine gk_ret env ?_
  rfl

theorem indexC_ok (l : List Dm) (hl : l.length ≤ 9223372036854775807) (hx : ∀ f, f ∈ l → f.text.size ≤ 9223372036854775807) (d : Dm) : GC Tryz.prog 60 [rowD l, .fn (.func 41) [] [.ep (dmC d)]] (iG (findI (fun f => followsB d f) l 0)) := by
  refine gc_of_gk Tryz.func60 ?_
  refine gk_region env false [] [0, 1, 4] ?_ -- 0
  refine gk_region env false [] [0, 1, 4, 7, 8] ?_ -- 1
  refine gk_loop (α := Nat) (fun i => i ≤ l.length ∧ findI (fun f => followsB d f) l 0 = findI (fun f => followsB d f) l i) (fun i => [(8, iG i)]) (fun _ => []) (fun i => l.length - i) 0 ⟨by omega, rfl⟩ ?_ (hp := by simp [AllP]; rfl) -- loop 2
  rintro i ⟨hi, he⟩
  refine gk_region env false [] [0, 1, 4, 7, 8, 9] ?_ -- 2
  refine gk_ifd (fun c1 => ?_) (fun c1 => ?_)
  · try simp only [toN] at c1
    refine gk_region env false [] [0, 1, 4, 5, 7, 8] ?_ -- 3
    refine gk_region env false [.call (covers1_ok d (l.getD i default) (hx _ (getD_mem (by omega))))] [0, 1, 4, 5, 7, 8, 16] ?_ -- 4
    refine gk_if (fun c2 => ?_) (fun c2 => ?_)
    · try simp only [bb, toN] at c2
      refine gk_region env false [] [0, 1, 4, 7, 8] ?_ -- 5
      refine gk_ret env ?_
      rw [he, findI, if_pos (by omega), if_pos (by simpa using c2)]; rfl
    · try simp only [bb, toN] at c2
      refine gk_region env false [] [0, 1, 4, 7, 8] ?_ -- 6
      refine gk_round (i + 1) ?_ (hp := by simp [AllP]; rfl)
      refine ⟨by omega, he.trans ?_⟩
      rw [findI, if_pos (by omega), if_neg (by simpa using c2)]
  · try simp only [toN] at c1
    refine gk_region env false [] [4] ?_ -- 7
    refine gk_ret env ?_
    rw [he, findI, if_neg (by omega)]; rfl

theorem hasC_ok (l : List Dm) (hl : l.length ≤ 9223372036854775807) (hx : ∀ f, f ∈ l → f.text.size ≤ 9223372036854775807) (d : Dm) : GC Tryz.prog 40 [rowD l, .fn (.func 41) [] [.ep (dmC d)]] (bG (l.any fun f => followsB d f)) := by
  refine gc_of_gk Tryz.func40 ?_
  refine gk_region env false [] [0, 1, 4] ?_ -- 0
  refine gk_region env false [.call (indexC_ok l hl hx d)] [4] ?_ -- 1
  refine gk_ret env ?_
  rw [← findI_any]; rfl

def coversF (a b : List Dm) (i : Nat) : Bool := if i < a.length then if (b.any fun f => followsB (a.getD i default) f) = true then coversF a b (i + 1) else false else true
termination_by a.length - i
theorem coversF_eq {a b : List Dm} : ∀ (k i : Nat), a.length - i = k → coversF a b i = (a.drop i).all fun d => b.any fun f => followsB d f := by
  intro k
  induction k with
  | zero => intro i h; rw [coversF, if_neg (by omega), List.drop_eq_nil_of_le (by omega)]; rfl
  | succ k ih =>
    intro i h
    rw [coversF, if_pos (by omega), List.drop_eq_getElem_cons (show i < a.length by omega), List.all_cons, ← ih (i + 1) (by omega)]
    have e : a.getD i default = a[i] := by rw [List.getD_eq_getElem?_getD, List.getElem?_eq_getElem (show i < a.length by omega)]; rfl
    rw [e]
    split
    · rename_i h1; rw [h1]; rfl
    · rename_i h1
      rw [show (b.any fun f => followsB a[i] f) = false from by simpa using h1]; rfl
theorem covers_eq (a b : List Dm) : coversF a b 0 = coversB a b := by rw [coversF_eq _ 0 rfl]; rfl

theorem covers_ok (a b : List Dm) (ha : a.length ≤ 9223372036854775807) (hb : b.length ≤ 9223372036854775807) (hx : ∀ f, f ∈ b → f.text.size ≤ 9223372036854775807) : GC Tryz.prog 19 [rowD a, rowD b] (bG (coversB a b)) := by
  refine gc_of_gk Tryz.func19 ?_
  refine gk_region env false [] [0, 1, 4] ?_ -- 0
  refine gk_region env false [] [1, 4, 7, 8, 9] ?_ -- 1
  refine gk_loop (α := Nat) (fun i => i ≤ a.length ∧ coversF a b 0 = coversF a b i) (fun i => [(9, iG i)]) (fun _ => []) (fun i => a.length - i) 0 ⟨by omega, rfl⟩ ?_ -- loop 2
  rintro i ⟨hi, he⟩
  refine gk_region env false [] [1, 4, 7, 8, 9, 10] ?_ -- 2
  refine gk_ifd (fun c1 => ?_) (fun c1 => ?_)
  · try simp only [toN] at c1
    refine gk_region env false [] [1, 4, 6, 7, 8, 9] ?_ -- 3
    refine gk_box 0 ?_
    refine gk_region env false [.call (hasC_ok b hb hx (a.getD i default))] [1, 4, 7, 8, 9, 16] ?_ -- 4
    refine gk_if (fun c2 => ?_) (fun c2 => ?_)
    · try simp only [bb, toN] at c2
      refine gk_region env false [] [1, 4, 7, 8, 9] ?_ -- 5
      refine gk_ret env ?_
      rw [← covers_eq, he, coversF, if_pos (by omega), if_neg (by simpa using c2)]; rfl
    · try simp only [bb, toN] at c2
      refine gk_region env false [] [1, 4, 7, 8, 9] ?_ -- 6
      refine gk_round (i + 1) ?_
      refine ⟨by omega, he.trans ?_⟩
      rw [coversF, if_pos (by omega), if_pos (by simpa using c2)]
  · try simp only [toN] at c1
    refine gk_region env false [] [4] ?_ -- 7
    refine gk_ret env ?_
    rw [← covers_eq, he, coversF, if_neg (by omega)]; rfl
end Go.Gh
