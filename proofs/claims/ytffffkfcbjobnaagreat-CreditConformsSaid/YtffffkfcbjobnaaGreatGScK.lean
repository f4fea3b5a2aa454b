/- Walks by the logic of calls, and plain laws. -/
import Derived.Test.YtffffkfcbjobnaaGreatGScJ
import Derived.Test.YtffffkfcbjobnaaGreatGScI
namespace Go.Gh
open Go Go.Proofs
set_option maxRecDepth 1000000
set_option maxHeartbeats 2000000
set_option linter.unusedSimpArgs false
set_option linter.unusedVariables false
open Go.RowKit

/-- the words of a text, as the reference finds them -/
def refW (s : ByteArray) (i fr : Nat) (out : List ByteArray) : List ByteArray :=
  if i ≤ s.size then if i = s.size ∨ byteAt s i = 32 then refW s (i + 1) (i + 1) (out ++ [s.extract fr i]) else refW s (i + 1) fr out else out
termination_by s.size + 1 - i
theorem splitL_end : ∀ (l : List UInt8), (∀ c, c ∈ l → c ≠ 32) → splitL l = [l] := by
  intro l
  induction l with
  | nil => intro _; rfl
  | cons c l ih =>
    intro h
    have h1 := h c List.mem_cons_self
    rw [splitL, if_neg h1, ih fun x hx => h x (List.mem_cons_of_mem _ hx)]
theorem splitL_seg : ∀ (l : List UInt8) (m : Nat), (∀ j, j < m → l.getD j 0 ≠ 32) → m < l.length → l.getD m 0 = 32 → splitL l = l.take m :: splitL (l.drop (m + 1)) := by
  intro l
  induction l with
  | nil => intro m _ h; simp at h
  | cons c l ih =>
    intro m h1 h2 h3
    cases m with
    | zero => simp at h3; rw [splitL, if_pos h3]; simp
    | succ m =>
      have hc := h1 0 (by omega)
      have hc' : c ≠ 32 := by simpa using hc
      rw [splitL, if_neg hc', ih m (fun j hj => by have := h1 (j + 1) (by omega); simpa using this) (by simpa using h2) (by simpa using h3)]
      simp
theorem byteAt_32 (s : ByteArray) (i : Nat) : byteAt s i = 32 ↔ (bs s).getD i 0 = 32 := by
  rw [byteAt_bs]
  constructor
  · intro h; exact UInt8.toNat_inj.1 (by have : ((32 : UInt8)).toNat = 32 := rfl; omega)
  · intro h; rw [h]; rfl
theorem refW_parts (s : ByteArray) : ∀ (k i fr : Nat) (out : List ByteArray), s.size - i = k → fr ≤ i → i ≤ s.size → (∀ j, fr ≤ j → j < i → byteAt s j ≠ 32) → refW s i fr out = out ++ (splitL ((bs s).drop fr)).map ofL := by
  intro k
  induction k with
  | zero =>
    intro i fr out hk h1 h2 h3
    obtain rfl : i = s.size := by omega
    rw [refW, if_pos (Nat.le_refl _), if_pos (.inl rfl), refW, if_neg (by omega), splitL_end]
    · have : s.extract fr s.size = ofL ((bs s).drop fr) := by rw [← ofL_bs (s.extract fr s.size), bs_extract, List.take_of_length_le (by rw [bs_size]; exact Nat.le_refl _)]
      rw [this]; rfl
    · intro c hc e
      obtain ⟨j, hj, hjc⟩ := List.getElem_of_mem hc
      rw [List.getElem_drop] at hjc
      simp only [List.length_drop, bs_size] at hj
      refine h3 (fr + j) (by omega) (by omega) ((byteAt_32 _ _).2 ?_)
      rw [List.getD_eq_getElem?_getD, List.getElem?_eq_getElem (by rw [bs_size]; omega)]
      rw [← e, ← hjc]; rfl
  | succ k ih =>
    intro i fr out hk h1 h2 h3
    rw [refW, if_pos h2]
    by_cases hc : i = s.size ∨ byteAt s i = 32
    · have hb : byteAt s i = 32 := hc.resolve_left (by omega)
      rw [if_pos hc, ih (i + 1) (i + 1) _ (by omega) (Nat.le_refl _) (by omega) (fun j a b => by omega)]
      have hg : ∀ j, ((bs s).drop fr).getD j 0 = (bs s).getD (fr + j) 0 := fun j => by simp [List.getD_eq_getElem?_getD]
      have e := splitL_seg ((bs s).drop fr) (i - fr) (fun j hj => by rw [hg]; exact fun h => h3 (fr + j) (by omega) (by omega) ((byteAt_32 _ _).2 h)) (by rw [List.length_drop, bs_size]; omega) (by rw [hg, show fr + (i - fr) = i by omega]; exact (byteAt_32 _ _).1 hb)
      rw [e, List.map_cons, List.drop_drop, show fr + (i - fr + 1) = i + 1 by omega]
      have : s.extract fr i = ofL (((bs s).drop fr).take (i - fr)) := by
        rw [← ofL_bs (s.extract fr i), bs_extract, ← List.drop_take]
      rw [this]; simp
    · rw [if_neg hc]
      have hc' := not_or.1 hc
      exact ih (i + 1) fr out (by omega) (by omega) (by omega) (fun j a b => by
        by_cases e : j = i
        · subst e; exact hc'.2
        · exact h3 j a (by omega))
theorem refW_ok (s : ByteArray) : refW s 0 0 [] = parts s := by
  rw [refW_parts s _ 0 0 [] rfl (Nat.le_refl _) (Nat.zero_le _) (fun j _ h => by omega)]; rfl


theorem hasB_eq (d : Dc) (n : Int) : hasB d n = !(decide (¬ checkE d = 0) || decide (n < 0) || decide ((d.fields.length : Int) ≤ n)) := by
  unfold hasB
  by_cases h1 : checkE d = 0 <;> by_cases h2 : 0 ≤ n <;> by_cases h3 : n < d.fields.length <;> simp [h1, h2, h3] <;> omega
def foundF (l : List ByteArray) (w : ByteArray) (k : Nat) : Bool := (l.drop k).any fun x => decide (x = w)




/-! few -/
def fewS (s : ByteArray) : Bool := decide (s.size ≤ 100)
def fewW (w : List ByteArray) : Bool := decide (w.length ≤ 6) && w.all fewS
def fewF (f : Fl) : Bool := (decide (f.words.length ≤ 10) && decide (f.name.size ≤ 100)) && f.words.all fewW
def fewD (d : Dc) : Bool := (decide (d.fields.length ≤ 14) && decide (d.kind.size ≤ 100)) && d.fields.all fewF
theorem all_at {α : Type} [Inhabited α] {l : List α} {i : Nat} (h : i < l.length) (p : α → Bool) : (l.drop i).all p = (p (l.getD i default) && (l.drop (i + 1)).all p) := by
  rw [drop_at h, List.all_cons]
theorem all_end {α : Type} {l : List α} {i : Nat} (h : l.length ≤ i) (p : α → Bool) : (l.drop i).all p = true := by rw [List.drop_eq_nil_of_le h]; rfl
theorem fewS_on {s : ByteArray} (h : (s.size : Int) ≤ 100) : fewS s = true := decide_eq_true (by omega)
theorem fewS_off {s : ByteArray} (h : (100 : Int) < s.size) : fewS s = false := decide_eq_false (by omega)
theorem fewW_on {w : List ByteArray} (h : (w.length : Int) ≤ 6) (h2 : w.all fewS = true) : fewW w = true := by rw [fewW, decide_eq_true (by omega), h2]; rfl
theorem fewW_off {w : List ByteArray} (h : (6 : Int) < w.length ∨ w.all fewS = false) : fewW w = false := by
  rcases h with h | h
  · rw [fewW, decide_eq_false (by omega)]; rfl
  · rw [fewW, h, Bool.and_false]
theorem fewF_on {f : Fl} (h : (f.words.length : Int) ≤ 10 ∧ (f.name.size : Int) ≤ 100) (h2 : f.words.all fewW = true) : fewF f = true := by rw [fewF, decide_eq_true (by omega), decide_eq_true (by omega), h2]; rfl
theorem fewF_off {f : Fl} (h : ((10 : Int) < f.words.length ∨ (100 : Int) < f.name.size) ∨ f.words.all fewW = false) : fewF f = false := by
  rcases h with (h | h) | h
  · rw [fewF, decide_eq_false (by omega)]; rfl
  · rw [fewF, show decide (f.name.size ≤ 100) = false from decide_eq_false (by omega), Bool.and_false]; rfl
  · rw [fewF, h, Bool.and_false]
theorem fewD_on {d : Dc} (h : (d.fields.length : Int) ≤ 14 ∧ (d.kind.size : Int) ≤ 100) (h2 : d.fields.all fewF = true) : fewD d = true := by rw [fewD, decide_eq_true (by omega), decide_eq_true (by omega), h2]; rfl
theorem fewD_off {d : Dc} (h : ((14 : Int) < d.fields.length ∨ (100 : Int) < d.kind.size) ∨ d.fields.all fewF = false) : fewD d = false := by
  rcases h with (h | h) | h
  · rw [fewD, decide_eq_false (by omega)]; rfl
  · rw [fewD, show decide (d.kind.size ≤ 100) = false from decide_eq_false (by omega), Bool.and_false]; rfl
  · rw [fewD, h, Bool.and_false]
theorem few_fit {d : Dc} (h : fewD d = true) : Fit d := by
  simp only [fewD, fewF, fewW, fewS, Bool.and_eq_true, decide_eq_true_eq, List.all_eq_true] at h
  refine ⟨by omega, by omega, fun f hf => ?_⟩
  have h1 := h.2 f hf
  exact ⟨by omega, by omega, fun w hw => by have := h1.2 w hw; omega, fun w hw s hs => by have := (h1.2 w hw).2 s hs; omega⟩

theorem few_ok (d : Dc) : GC Tryz.prog 50 [dcG d] (bG (fewD d)) := by
  refine gc_of_gk Tryz.func50 ?_
  refine gk_region env false [] [1, 2] ?_ -- 0
  refine gk_region env false [] [1, 2, 16] ?_ -- 1
  refine gk_if (fun c1 => ?_) (fun c1 => ?_)
  · try simp only [bb, toN] at c1
    refine gk_region env false [] [1, 2] ?_ -- 2
    refine gk_ret env ?_
    rw [fewD_off (.inl (by omega))]; rfl
  · try simp only [bb, toN] at c1
    refine gk_region env false [] [1, 2, 3] ?_ -- 3
    refine gk_loop (α := Nat) (fun i => i ≤ d.fields.length ∧ d.fields.all fewF = (d.fields.drop i).all fewF) (fun i => [(3, iG i)]) (fun _ => []) (fun i => d.fields.length - i) 0 ⟨by omega, rfl⟩ ?_ -- loop 4
    rintro i ⟨hi, he⟩
    refine gk_region env false [] [1, 2, 3, 21] ?_ -- 4
    refine gk_ifd (fun c2 => ?_) (fun c2 => ?_)
    · try simp only [toN] at c2
      refine gk_region env false [] [1, 2, 3, 41] ?_ -- 6
      refine gk_if (fun c3 => ?_) (fun c3 => ?_)
      · try simp only [bb, toN] at c3
        refine gk_region env false [] [1, 2, 3] ?_ -- 7
        refine gk_ret env ?_
        have e : d.fields.all fewF = false := by rw [he, all_at (by omega), fewF_off (.inl (by omega))]; rfl
        rw [fewD_off (.inr e)]; rfl
      · try simp only [bb, toN] at c3
        refine gk_region env false [] [1, 2, 3, 4] ?_ -- 8
        refine gk_loop (α := Nat) (fun k => k ≤ (d.fields.getD i default).words.length ∧ (d.fields.getD i default).words.all fewW = ((d.fields.getD i default).words.drop k).all fewW) (fun k => [(4, iG k)]) (fun _ => []) (fun k => (d.fields.getD i default).words.length - k) 0 ⟨by omega, rfl⟩ ?_ -- loop 9
        rintro k ⟨hk, hk2⟩
        refine gk_region env false [] [1, 2, 3, 4, 50] ?_ -- 9
        refine gk_ifd (fun c4 => ?_) (fun c4 => ?_)
        · try simp only [toN] at c4
          refine gk_region env false [] [1, 2, 3, 4, 5] ?_ -- 11
          refine gk_region env false [] [1, 2, 3, 4, 5, 65] ?_ -- 12
          refine gk_ifd (fun c5 => ?_) (fun c5 => ?_)
          · try simp only [toN] at c5
            refine gk_region env false [] [1, 2, 3, 4, 5] ?_ -- 13
            refine gk_ret env ?_
            have e2 : (d.fields.getD i default).words.all fewW = false := by rw [hk2, all_at (by omega), fewW_off (.inl (by omega))]; rfl
            have e : d.fields.all fewF = false := by rw [he, all_at (by omega), fewF_off (.inr e2)]; rfl
            rw [fewD_off (.inr e)]; rfl
          · try simp only [toN] at c5
            refine gk_region env false [] [1, 2, 3, 4, 5, 6] ?_ -- 14
            refine gk_loop (α := Nat) (fun j => j ≤ ((d.fields.getD i default).words.getD k default).length ∧ ((d.fields.getD i default).words.getD k default).all fewS = (((d.fields.getD i default).words.getD k default).drop j).all fewS) (fun j => [(6, iG j)]) (fun _ => []) (fun j => ((d.fields.getD i default).words.getD k default).length - j) 0 ⟨by omega, rfl⟩ ?_ -- loop 15
            rintro j ⟨hj, hj2⟩
            refine gk_region env false [] [1, 2, 3, 4, 5, 6, 69] ?_ -- 15
            refine gk_ifd (fun c6 => ?_) (fun c6 => ?_)
            · try simp only [toN] at c6
              refine gk_region env false [] [1, 2, 3, 4, 5, 6, 77] ?_ -- 17
              refine gk_ifd (fun c7 => ?_) (fun c7 => ?_)
              · try simp only [toN] at c7
                refine gk_region env false [] [1, 2, 3, 4, 5, 6] ?_ -- 18
                refine gk_ret env ?_
                have e3 : ((d.fields.getD i default).words.getD k default).all fewS = false := by rw [hj2, all_at (by omega), fewS_off (by omega)]; rfl
                have e2 : (d.fields.getD i default).words.all fewW = false := by rw [hk2, all_at (by omega), fewW_off (.inr e3)]; rfl
                have e : d.fields.all fewF = false := by rw [he, all_at (by omega), fewF_off (.inr e2)]; rfl
                rw [fewD_off (.inr e)]; rfl
              · try simp only [toN] at c7
                refine gk_region env false [] [1, 2, 3, 4, 5, 6] ?_ -- 16
                refine gk_round (j + 1) ?_
                refine ⟨by omega, hj2.trans ?_⟩
                rw [all_at (by omega), fewS_on (by omega)]; rfl
            · try simp only [toN] at c6
              refine gk_region env false [] [1, 2, 3, 4] ?_ -- 10
              refine gk_round (k + 1) ?_
              refine ⟨by omega, hk2.trans ?_⟩
              rw [all_at (by omega), fewW_on (by omega) (by rw [hj2, all_end (by omega)])]; rfl
        · try simp only [toN] at c4
          refine gk_region env false [] [1, 2, 3] ?_ -- 5
          refine gk_round (i + 1) ?_
          refine ⟨by omega, he.trans ?_⟩
          rw [all_at (by omega), fewF_on (by omega) (by rw [hk2, all_end (by omega)])]; rfl
    · try simp only [toN] at c2
      refine gk_region env false [] [2] ?_ -- 19
      refine gk_ret env ?_
      rw [fewD_on (by omega) (by rw [he, all_end (by omega)])]; rfl
end Go.Gh
