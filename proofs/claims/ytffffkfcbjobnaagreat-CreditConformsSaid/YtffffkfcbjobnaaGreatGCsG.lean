/- Walks by the logic of calls, and plain laws. -/
import Derived.Test.YtffffkfcbjobnaaGreatGCsF
namespace Go.Gh
open Go Go.Proofs
set_option maxRecDepth 1000000
set_option maxHeartbeats 2000000
set_option linter.unusedSimpArgs false
set_option linter.unusedVariables false
set_option linter.unnecessarySimpa false
set_option linter.unusedSectionVars false
variable [PowTab] [ItoaU]
open Go.RowKit

def few34F (docs : List Dc) (i : Nat) : Bool := if i < docs.length ∧ i < 12 then if fewD (docs.getD i default) = true then few34F docs (i + 1) else false else true
termination_by docs.length - i
def few34V (l : List Dm) (docs : List Dc) : Bool := if few34F docs 0 = true then if ((8 : Int) < l.length ∨ (12 : Int) < docs.length) ∨ few33V l = false then false else (if (countsE docs).2.2 = 0 then decide ((countsE docs).2.1 ≤ 128) else true) else false
theorem few34F_spec {docs : List Dc} : ∀ (k i : Nat), docs.length - i = k → few34F docs i = true → docs.length ≤ 12 → ∀ j, i ≤ j → j < docs.length → fewD (docs.getD j default) = true := by
  intro k
  induction k with
  | zero => intro i h _ _ j h1 h2; omega
  | succ k ih =>
    intro i h hf hl j h1 h2
    rw [few34F, if_pos (by omega)] at hf
    split at hf
    · rename_i hd
      by_cases e : j = i
      · subst e; exact hd
      · exact ih (i + 1) (by omega) hf hl j (by omega) h2
    · cases hf
theorem few34_fit {docs : List Dc} (h : few34F docs 0 = true) (hl : docs.length ≤ 12) : FitL docs := ⟨by omega, fun d hd => by
  obtain ⟨j, h1, h2⟩ := mem_getD hd
  have := few34F_spec _ 0 rfl h hl j (Nat.zero_le _) h1
  rw [h2] at this
  exact few_fit this⟩
theorem few34_spec {l : List Dm} {docs : List Dc} (h : few34V l docs = true) : (l.length ≤ 8 ∧ ∀ d, d ∈ l → FewD d) ∧ docs.length ≤ 12 ∧ FitL docs ∧ ((countsE docs).2.2 = 0 → (countsE docs).2.1 ≤ 128) := by
  unfold few34V at h
  split at h
  · rename_i h1
    split at h
    · cases h
    · rename_i h2
      have hf : few33V l = true := by
        cases e : few33V l with
        | true => rfl
        | false => exact absurd (.inr e) h2
      refine ⟨⟨by omega, (few33V_spec hf).2⟩, by omega, few34_fit h1 (by omega), fun e => ?_⟩
      rw [if_pos e] at h
      exact of_decide_eq_true h
  · cases h

theorem few34_ok (l : List Dm) (hl : l.length ≤ 9223372036854775807) (docs : List Dc) (hd : docs.length ≤ 9223372036854775807) : GC Tryz.prog 32 [rowD l, rowDc docs] (bG (few34V l docs)) := by
  refine gc_of_gk Tryz.func32 ?_
  refine gk_region env false [] [0, 1, 4] ?_ -- 0
  refine gk_region env false [] [0, 1, 4, 5] ?_ -- 1
  refine gk_loop (α := Nat) (fun i => i ≤ docs.length ∧ few34F docs 0 = few34F docs i) (fun i => [(5, iG i)]) (fun _ => []) (fun i => docs.length - i) 0 ⟨by omega, rfl⟩ ?_ -- loop 2
  rintro i ⟨hi, he⟩
  refine gk_region env false [] [0, 1, 4, 5, 15] ?_ -- 2
  refine gk_if (fun c1 => ?_) (fun c1 => ?_)
  · try simp only [bb, toN] at c1
    refine gk_region env false [.call (GC.lift (few_ok (docs.getD i default)))] [0, 1, 4, 5, 23] ?_ -- 4
    refine gk_if (fun c2 => ?_) (fun c2 => ?_)
    · try simp only [bb, toN] at c2
      refine gk_region env false [] [0, 1, 4, 5] ?_ -- 5
      refine gk_ret env ?_
      have e : few34F docs 0 = false := by rw [he, few34F, if_pos (by omega), if_neg (by rw [c2]; simp)]
      rw [few34V, if_neg (by rw [e]; simp)]; rfl
    · try simp only [bb, toN] at c2
      refine gk_region env false [] [0, 1, 4, 5] ?_ -- 3
      refine gk_round (i + 1) ?_
      refine ⟨by omega, he.trans ?_⟩
      rw [few34F, if_pos (by omega), if_pos c2]
  · try simp only [bb, toN] at c1
    have h34 : few34F docs 0 = true := by rw [he, few34F, if_neg (by omega)]
    refine gk_region env false [.call (GC.lift (few33_ok l hl))] [1, 4, 36] ?_ -- 6
    refine gk_if (fun c3 => ?_) (fun c3 => ?_)
    · try simp only [bb, toN] at c3
      refine gk_region env false [] [1, 4] ?_ -- 7
      refine gk_ret env ?_
      rw [few34V, if_pos h34, if_pos c3]; rfl
    · try simp only [bb, toN] at c3
      have hfit := few34_fit h34 (by omega)
      refine gk_region env false [.call (count34_ok docs hfit)] [4, 6, 7] ?_ -- 8
      refine gk_region env false [] [4] ?_ -- 9
      refine gk_ret env ?_
      rw [few34V, if_pos h34, if_neg (by rintro (h | h); omega; rw [c3.2] at h; cases h)]
      by_cases hz : (countsE docs).2.2 = 0
      · simp [hz, tupG]
      · simp [hz, tupG]

/-- what memory says of a realm -/
structure MemR (r : Rlm) : Prop where
  cur : r.currencies.length ≤ 9223372036854775807 ∧ ∀ s, s ∈ r.currencies → s.size ≤ 9223372036854775807
  cities : r.cities.length ≤ 9223372036854775807 ∧ ∀ c, c ∈ r.cities → FitC c
  groups : r.groups.length ≤ 9223372036854775807
  firms : r.firms.length ≤ 9223372036854775807 ∧ ∀ c, c ∈ r.firms → c.name.size ≤ 9223372036854775807
  orders : r.orders.length ≤ 9223372036854775807 ∧ ∀ o, o ∈ r.orders → o.name.size ≤ 9223372036854775807 ∧ o.choices.length ≤ 9223372036854775807 ∧ o.rules.length ≤ 9223372036854775807
  usances : r.usances.length ≤ 9223372036854775807
  rates : r.rates.length ≤ 9223372036854775807 ∧ ∀ x, x ∈ r.rates → In64 x.num ∧ In64 x.den
  halts : r.halts.length ≤ 9223372036854775807
def cityFew (c : Cty) : Prop := ((c.feasts.length : Int) ≤ 70 ∧ (c.shut.length : Int) ≤ 210) ∧ (c.rest.length : Int) ≤ 8
instance (c : Cty) : Decidable (cityFew c) := by unfold cityFew; infer_instance
def ordFew (o : Od) : Prop := (o.choices.length : Int) ≤ 40 ∧ (o.rules.length : Int) ≤ 40
instance (o : Od) : Decidable (ordFew o) := by unfold ordFew; infer_instance
def cityFewF (l : List Cty) (i : Nat) : Bool := if i < l.length ∧ i < 50 then if cityFew (l.getD i default) then cityFewF l (i + 1) else false else true
termination_by l.length - i
def ordFewF (l : List Od) (i : Nat) : Bool := if i < l.length ∧ i < 50 then if ordFew (l.getD i default) then ordFewF l (i + 1) else false else true
termination_by l.length - i
abbrev lensFew (r : Rlm) : Prop := ((((((((r.currencies.length : Int) < 50 ∧ (r.cities.length : Int) < 50) ∧ (r.groups.length : Int) < 50) ∧ (r.firms.length : Int) < 210) ∧ (r.orders.length : Int) < 50) ∧ (r.usances.length : Int) < 110) ∧ (r.rates.length : Int) < 110) ∧ (r.halts.length : Int) < 50)
def few09V (r : Rlm) : Bool := if cityFewF r.cities 0 = true then if ordFewF r.orders 0 = true then decide (lensFew r) else false else false
theorem ordFewF_spec {l : List Od} : ∀ (k i : Nat), l.length - i = k → ordFewF l i = true → l.length ≤ 50 → ∀ j, i ≤ j → j < l.length → ordFew (l.getD j default) := by
  intro k
  induction k with
  | zero => intro i h _ _ j h1 h2; omega
  | succ k ih =>
    intro i h hf hl j h1 h2
    rw [ordFewF, if_pos (by omega)] at hf
    split at hf
    · rename_i hd
      by_cases e : j = i
      · subst e; exact hd
      · exact ih (i + 1) (by omega) hf hl j (by omega) h2
    · cases hf
theorem few09_fit {r : Rlm} (h : few09V r = true) (hm : MemR r) : FitR r := by
  unfold few09V at h
  split at h
  · split at h
    · rename_i h1 h2
      have hl : lensFew r := of_decide_eq_true h
      unfold lensFew at hl
      refine ⟨by omega, hm.cur.2, by omega, hm.cities.2, by omega, by omega, hm.firms.2, by omega, fun o ho => ?_, by omega, by omega, hm.rates.2, by omega⟩
      obtain ⟨j, h3, h4⟩ := mem_getD ho
      have := ordFewF_spec _ 0 rfl h2 (by omega) j (Nat.zero_le _) h3
      rw [h4] at this
      unfold ordFew at this
      exact ⟨(hm.orders.2 o ho).1, by omega, by omega⟩
    · cases h
  · cases h

theorem few09_ok (r : Rlm) (hm : MemR r) : GC Tryz.prog 31 [rlG r] (bG (few09V r)) := by
  have m1 := hm.cities
  have m2 := hm.orders
  have m3 := hm.cur.1
  have m4 := hm.groups
  have m5 := hm.firms.1
  have m6 := hm.usances
  have m7 := hm.rates.1
  have m8 := hm.halts
  refine gc_of_gk Tryz.func31 ?_
  refine gk_region env false [] [1, 2] ?_ -- 0
  refine gk_box 0 ?_
  refine gk_region env false [] [1, 2, 3] ?_ -- 1
  refine gk_loop (α := Nat) (fun i => i ≤ r.cities.length ∧ cityFewF r.cities 0 = cityFewF r.cities i) (fun i => [(3, iG i)]) (fun _ => []) (fun i => r.cities.length - i) 0 ⟨by omega, rfl⟩ ?_ (hp := by simp [AllP]; rfl) -- loop 2
  rintro i ⟨hi, he⟩
  refine gk_region env false [] [1, 2, 3, 13] ?_ -- 2
  refine gk_if (fun c1 => ?_) (fun c1 => ?_)
  · try simp only [bb, toN] at c1
    refine gk_region env false [] [1, 2, 3, 43] ?_ -- 4
    refine gk_if (fun c2 => ?_) (fun c2 => ?_)
    · try simp only [bb, toN] at c2
      refine gk_region env false [] [1, 2, 3] ?_ -- 5
      refine gk_ret env ?_
      have e : cityFewF r.cities 0 = false := by rw [he, cityFewF, if_pos (by omega), if_neg (by unfold cityFew; omega)]
      rw [few09V, if_neg (by rw [e]; simp)]; rfl
    · try simp only [bb, toN] at c2
      refine gk_region env false [] [1, 2, 3] ?_ -- 3
      refine gk_round (i + 1) ?_ (hp := by simp [AllP]; rfl)
      refine ⟨by omega, he.trans ?_⟩
      rw [cityFewF, if_pos (by omega), if_pos (by unfold cityFew; omega)]
  · try simp only [bb, toN] at c1
    have hc0 : cityFewF r.cities 0 = true := by rw [he, cityFewF, if_neg (by omega)]
    refine gk_region env false [] [1, 2, 4] ?_ -- 6
    refine gk_loop (α := Nat) (fun i => i ≤ r.orders.length ∧ ordFewF r.orders 0 = ordFewF r.orders i) (fun i => [(4, iG i)]) (fun _ => []) (fun i => r.orders.length - i) 0 ⟨by omega, rfl⟩ ?_ (hp := by simp [AllP]; rfl) -- loop 7
    rintro i ⟨hi, he⟩
    refine gk_region env false [] [1, 2, 4, 52] ?_ -- 7
    refine gk_if (fun c3 => ?_) (fun c3 => ?_)
    · try simp only [bb, toN] at c3
      refine gk_region env false [] [1, 2, 4, 72] ?_ -- 9
      refine gk_if (fun c4 => ?_) (fun c4 => ?_)
      · try simp only [bb, toN] at c4
        refine gk_region env false [] [1, 2, 4] ?_ -- 10
        refine gk_ret env ?_
        have e : ordFewF r.orders 0 = false := by rw [he, ordFewF, if_pos (by omega), if_neg (by unfold ordFew; omega)]
        rw [few09V, if_pos hc0, if_neg (by rw [e]; simp)]; rfl
      · try simp only [bb, toN] at c4
        refine gk_region env false [] [1, 2, 4] ?_ -- 8
        refine gk_round (i + 1) ?_ (hp := by simp [AllP]; rfl)
        refine ⟨by omega, he.trans ?_⟩
        rw [ordFewF, if_pos (by omega), if_pos (by unfold ordFew; omega)]
    · try simp only [bb, toN] at c3
      refine gk_region env false [] [2] ?_ -- 11
      refine gk_ret env ?_
      have e : ordFewF r.orders 0 = true := by rw [he, ordFewF, if_neg (by omega)]
      rw [few09V, if_pos hc0, if_pos e]; simp only [tupG, lensFew, Bool.decide_and, Bool.cond_false_right, Bool.and_assoc]

def few37F (l : List Trn) (i : Nat) : Bool := if i < l.length ∧ i < 12 then if few34V (l.getD i default).terms (l.getD i default).docs = true ∧ few34V [] (l.getD i default).docs = true then few37F l (i + 1) else false else true
termination_by l.length - i
def few37V (r : Rlm) (c : Crd) (l : List Trn) : Bool :=
  if (((few09V r = false ∨ few33V c.terms = false) ∨ (30 : Int) < c.terms.length) ∨ ((12 : Int) < l.length ∧ (l.length : Int) ≤ 60)) ∨ (70 : Int) < l.length then false
  else if few37F l 0 = true then (if (c.terms.length : Int) ≤ 8 then true else !rprintOk c.terms) else false
theorem few37F_spec {l : List Trn} : ∀ (k i : Nat), l.length - i = k → few37F l i = true → l.length ≤ 12 → ∀ j, i ≤ j → j < l.length → FitT (l.getD j default) ∧ (l.getD j default).terms.length ≤ 8 := by
  intro k
  induction k with
  | zero => intro i h _ _ j h1 h2; omega
  | succ k ih =>
    intro i h hf hl j h1 h2
    rw [few37F, if_pos (by omega)] at hf
    split at hf
    · rename_i hd
      by_cases e : j = i
      · subst e
        obtain ⟨a1, a2, a3, a4⟩ := few34_spec hd.1
        exact ⟨⟨⟨by omega, a1.2⟩, a3⟩, a1.1⟩
      · exact ih (i + 1) (by omega) hf hl j (by omega) h2
    · cases hf
structure Few37 (r : Rlm) (c : Crd) (l : List Trn) : Prop where
  fr : FitR r
  fc : FitCr c
  fn : l.length ≤ 12 ∨ 60 < l.length ∧ l.length ≤ 70
  ft : l.length ≤ 60 → ∀ t, t ∈ l → FitT t
  few : c.terms.length ≤ 8 ∨ rprintOk c.terms = false
theorem few37_spec {r : Rlm} {c : Crd} {l : List Trn} (h : few37V r c l = true) (hm : MemR r) : Few37 r c l := by
  unfold few37V at h
  split at h
  · cases h
  · rename_i h1
    split at h
    · rename_i h2
      have e1 : few09V r = true := by
        cases e : few09V r with
        | true => rfl
        | false => exact absurd (.inl (.inl (.inl (.inl e)))) h1
      have e2 : few33V c.terms = true := by
        cases e : few33V c.terms with
        | true => rfl
        | false => exact absurd (.inl (.inl (.inl (.inr e)))) h1
      refine ⟨few09_fit e1 hm, ⟨by omega, (few33V_spec e2).2⟩, by omega, fun hl t ht => ?_, ?_⟩
      · obtain ⟨j, h3, h4⟩ := mem_getD ht
        have := (few37F_spec _ 0 rfl h2 (by omega) j (Nat.zero_le _) h3).1
        rw [h4] at this
        exact this
      · split at h
        · left; omega
        · right; simpa using h
    · cases h
structure MemC (c : Crd) (l : List Trn) : Prop where
  terms : c.terms.length ≤ 9223372036854775807
  len : l.length ≤ 9223372036854775807
  each : ∀ t, t ∈ l → t.terms.length ≤ 9223372036854775807 ∧ t.docs.length ≤ 9223372036854775807

theorem few37_ok (r : Rlm) (hm : MemR r) (c : Crd) (l : List Trn) (hc : MemC c l) : GC Tryz.prog 9 [rlG r, crdG c, rowTn l] (bG (few37V r c l)) := by
  have m1 := hc.terms
  have m2 := hc.len
  have m3 := fun i (h : i < l.length) => hc.each _ (getD_mem h)
  refine gc_of_gk Tryz.func9 ?_
  refine gk_region env false [] [2, 3, 4, 6] ?_ -- 0
  refine gk_box 0 ?_
  refine gk_box 1 ?_
  refine gk_region env false [.call (few09_ok r hm), .call (GC.lift (few33_ok c.terms m1))] [2, 4, 6, 37] ?_ -- 1
  refine gk_if (fun c1 => ?_) (fun c1 => ?_)
  · try simp only [bb, toN] at c1
    refine gk_region env false [] [2, 4, 6] ?_ -- 2
    refine gk_ret env ?_
    rw [few37V, if_pos c1]; rfl
  · try simp only [bb, toN] at c1
    refine gk_region env false [] [2, 4, 6, 7] ?_ -- 3
    refine gk_loop (α := Nat) (fun i => i ≤ l.length ∧ few37F l 0 = few37F l i) (fun i => [(7, iG i)]) (fun _ => []) (fun i => l.length - i) 0 ⟨by omega, rfl⟩ ?_ (hp := by simp [AllP]; rfl) -- loop 4
    rintro i ⟨hi, he⟩
    refine gk_region env false [] [2, 4, 6, 7, 45] ?_ -- 4
    refine gk_if (fun c2 => ?_) (fun c2 => ?_)
    · try simp only [bb, toN] at c2
      have m4 := m3 i (by omega)
      refine gk_region env false [.call (few34_ok (l.getD i default).terms m4.1 (l.getD i default).docs m4.2), .call (few34_ok [] (by simp) (l.getD i default).docs m4.2)] [2, 4, 6, 7, 68] ?_ (hp := (by simp only [AllP, bb, toN]; repeat' first | exact trivial | exact EntL.refl _ | exact ⟨Ent.nil, Ent.refl _, trivial⟩ | exact rfl | omega | apply And.intro | intro _)) -- 6
      refine gk_if (fun c3 => ?_) (fun c3 => ?_)
      · try simp only [bb, toN] at c3
        refine gk_region env false [] [2, 4, 6, 7] ?_ -- 7
        refine gk_ret env ?_
        have e : few37F l 0 = false := by rw [he, few37F, if_pos (by omega), if_neg (by rintro ⟨h1, h2⟩; rw [h1, h2] at c3; simp at c3)]
        rw [few37V, if_neg (by rw [c1.1.1.1.1, c1.1.1.1.2]; simp; omega), if_neg (by rw [e]; simp)]; rfl
      · try simp only [bb, toN] at c3
        refine gk_region env false [] [2, 4, 6, 7] ?_ -- 5
        refine gk_round (i + 1) ?_ (hp := by simp [AllP]; rfl)
        refine ⟨by omega, he.trans ?_⟩
        rw [few37F, if_pos (by omega), if_pos c3]
    · try simp only [bb, toN] at c2
      have h37 : few37F l 0 = true := by rw [he, few37F, if_neg (by omega)]
      have hb : few33V c.terms = true := by cases e : few33V c.terms with
        | true => rfl
        | false => rw [e] at c1; simp at c1
      refine gk_region env false [.call (rwritten_ok c.terms (by omega) (few33V_spec hb).2)] [6] ?_ -- 8
      refine gk_ret env ?_
      rw [few37V, if_neg (by rw [c1.1.1.1.1, c1.1.1.1.2]; simp; omega), if_pos h37]
      by_cases h8 : (c.terms.length : Int) ≤ 8
      · simp [h8, tupG]
      · simp [h8, tupG]
end Go.Gh
