/- Walks by the logic of calls, and plain laws (several texts in one). -/
import Derived.Test.YtfbijgbpipedoaaGreatDoorGUnitPl
import Derived.Test.YtfbijgbpipedoaaGreatDoorGNum
import Derived.Test.YtfbijgbpipedoaaGreatDoorGBack
import Derived.Test.YtfbijgbpipedoaaGreatDoorRDX2
namespace Go.Gh
open Go Go.Proofs
set_option maxRecDepth 1000000
set_option maxHeartbeats 2000000
set_option linter.unusedSimpArgs false
set_option linter.unusedVariables false
open Go.Proofs.YtfbijgbpipedoaaGreatDoor Go.Proofs.YtfbijgbpipedoaaGreatDoor.Ra Go.RowKit

theorem valL_ge : ∀ (l : List UInt8) (n : Int), (∀ c, c ∈ l → isDg c) → 0 ≤ n → n * 10 ^ l.length ≤ valL l n := by
  intro l
  induction l with
  | nil => intro n _ _; simp [valL]
  | cons c l ih =>
    intro n hd h
    have hc := hd c List.mem_cons_self
    unfold isDg at hc
    have := ih (10 * n + ((c.toNat : Int) - 48)) (fun c hc => hd c (List.mem_cons_of_mem _ hc)) (by omega)
    show n * 10 ^ (l.length + 1) ≤ valL l (10 * n + ((c.toNat : Int) - 48))
    have hp : (0 : Int) ≤ 10 ^ l.length := Int.pow_nonneg (by omega)
    have h1 : ((c.toNat : Int) - 48) * 10 ^ l.length ≥ 0 := Int.mul_nonneg (by omega) hp
    have h2 : (10 * n + ((c.toNat : Int) - 48)) * 10 ^ l.length = n * 10 ^ (l.length + 1) + ((c.toNat : Int) - 48) * 10 ^ l.length := by rw [Int.pow_succ]; grind
    omega
theorem num_big {l : List UInt8} (hd : ∀ c, c ∈ l → isDg c) (h0 : l.getD 0 0 ≠ 48) (hl : 14 ≤ l.length) : 1099511627776 < valL l 0 := by
  cases l with
  | nil => simp at hl
  | cons x a =>
    have hx := hd x List.mem_cons_self
    unfold isDg at hx
    have hxn : x.toNat ≠ 48 := fun e => h0 (UInt8.toNat_inj.1 (by show x.toNat = _; rw [e]; rfl))
    have := valL_ge a (10 * 0 + ((x.toNat : Int) - 48)) (fun c hc => hd c (List.mem_cons_of_mem _ hc)) (by omega)
    show 1099511627776 < valL a (10 * 0 + ((x.toNat : Int) - 48))
    have hp : (10 : Int) ^ 13 ≤ 10 ^ a.length := by
      have := Nat.pow_le_pow_right (n := 10) (by omega) (show 13 ≤ a.length by simpa using hl)
      exact_mod_cast this
    have h2 : 1 * (10 : Int) ^ a.length ≤ (10 * 0 + ((x.toNat : Int) - 48)) * 10 ^ a.length := Int.mul_le_mul_of_nonneg_right (by omega) (by omega)
    omega
theorem numOk_of {l : List UInt8} (hd : ∀ c, c ∈ l → isDg c) (hne : l ≠ []) (h48 : l.length ≤ 1 ∨ l.getD 0 0 ≠ 48) (hv : valL l 0 ≤ 1099511627776) : numOk (ofL l) = true ∧ numV (ofL l) = valL l 0 := by
  have hb : numBad (ofL l) = false := by
    refine numBad_list.2 ⟨hne, hd, fun h => ?_, ?_⟩
    · rcases h48 with h1 | h1
      · cases l with
        | nil => exact absurd rfl hne
        | cons x a =>
          have : a = [] := List.eq_nil_of_length_eq_zero (by simpa using h1)
          subst this
          have h : x = 48 := h
          rw [h]
      · exact absurd h h1
    · refine Classical.byContradiction fun hn => ?_
      rcases h48 with h1 | h1
      · omega
      · have := num_big hd h1 (by omega); omega
  have hv' : ¬ 1099511627776 < numVal (ofL l) 0 0 := by rw [numVal_of]; omega
  refine ⟨?_, ?_⟩
  · unfold numOk; rw [hb]; simp [hv']
  · unfold numV; rw [hb, if_neg (by simp), if_neg hv', numVal_of]
theorem numV_not {s : ByteArray} (h : numOk s = false) : numV s = 0 := by
  unfold numOk at h
  unfold numV
  split
  · rfl
  · rename_i hb
    rw [if_pos ?_]
    have hb : numBad s = false := by simpa using hb
    rw [hb] at h
    simpa using h
theorem numOk_bad {s : ByteArray} (h : numBad s = true) : numOk s = false ∧ numV s = 0 := by
  have : numOk s = false := by unfold numOk; rw [h]; rfl
  exact ⟨this, numV_not this⟩
theorem numOk_big {s : ByteArray} (h : 1099511627776 < numVal s 0 0) : numOk s = false ∧ numV s = 0 := by
  have : numOk s = false := by unfold numOk; simp [h]
  exact ⟨this, numV_not this⟩
theorem numVal_le {s : ByteArray} : ∀ (k i : Nat) (n : Int), s.size - i = k → 0 ≤ n → (∀ j, i ≤ j → j < s.size → 48 ≤ byteAt s j) → n ≤ numVal s i n := by
  intro k
  induction k with
  | zero => intro i n h _ _; rw [numVal, if_neg (by omega)]; exact Int.le_refl _
  | succ k ih =>
    intro i n h hn hd
    have h1 := hd i (Nat.le_refl _) (by omega)
    rw [numVal, if_pos (by omega)]
    have := ih (i + 1) (10 * n + (byteAt s i - 48)) (by omega) (by omega) fun j a b => hd j (by omega) b
    omega
theorem span_stop {p : Int → Bool} {s : ByteArray} {i : Nat} (hi : i < s.size) (h : span p s 0 = span p s i) (hp : p (byteAt s i) = false) : span p s 0 ≠ s.size := by
  rw [h, span, if_pos hi, if_neg (by rw [hp]; simp)]
  omega
theorem numBad_span {s : ByteArray} (h : span digit s 0 ≠ s.size) : numBad s = true := by
  unfold numBad; simp [h]
/-! suffixes -/
theorem hasS_iff (s w : ByteArray) : hasS s w = true ↔ w.size ≤ s.size ∧ s.extract (s.size - w.size) s.size = w := by
  have e1 : s = ofL s.data.toList := (ofL_self s).symm
  have e2 : w = ofL w.data.toList := (ofL_self w).symm
  generalize s.data.toList = l at e1
  generalize w.data.toList = m at e2
  subst e1 e2
  show Lib.hasSuffix l m = true ↔ _
  rw [← Lib.hasSuffix_of_drop, extract_of, ofL_size, ofL_size, List.take_length]
  simp only [Bool.and_eq_true, decide_eq_true_eq, beq_iff_eq]
  exact ⟨fun ⟨a, b⟩ => ⟨a, by rw [b]⟩, fun ⟨a, b⟩ => ⟨a, ofL_inj b⟩⟩
theorem cutS_of {s w : ByteArray} (h : hasS s w = true) : cutS s w = s.extract 0 (s.size - w.size) := by
  have e1 : s = ofL s.data.toList := (ofL_self s).symm
  have e2 : w = ofL w.data.toList := (ofL_self w).symm
  generalize s.data.toList = l at e1
  generalize w.data.toList = m at e2
  subst e1 e2
  have h : Lib.hasSuffix l m = true := h
  rw [extract_of, ofL_size, ofL_size]
  show ofL (Lib.trimSuffix l m) = _
  unfold Lib.trimSuffix
  rw [if_pos h]; simp
def pcw (s w : ByteArray) : Int := if (!hasS s w || !numOk (cutS s w) || decide (numV (cutS s w) < 1) || decide (100 < numV (cutS s w))) = true then 0 else 10 * numV (cutS s w)
theorem pcw_eq (s e : ByteArray) : pcV s e = pcw s (wPc ++ e) := rfl
theorem pcw_pos {s w : ByteArray} (h : 0 < pcw s w) : hasS s w = true := by
  unfold pcw at h
  split at h
  · omega
  · rename_i hb
    cases hh : hasS s w with
    | true => rfl
    | false => rw [hh] at hb; simp at hb
def vA : ByteArray := ⟨#[32, 112, 101, 114, 99, 101, 110, 116, 32, 109, 111, 114, 101, 32, 111, 114, 32, 108, 101, 115, 115]⟩
def vB : ByteArray := ⟨#[32, 112, 101, 114, 99, 101, 110, 116, 32, 109, 111, 114, 101]⟩
def vC : ByteArray := ⟨#[32, 112, 101, 114, 99, 101, 110, 116, 32, 108, 101, 115, 115]⟩
theorem vA_eq : wPc ++ wMol = vA := by kernel_rfl
theorem vB_eq : wPc ++ wMore = vB := by kernel_rfl
theorem vC_eq : wPc ++ wLess = vC := by kernel_rfl
theorem bc_not {s : ByteArray} (hb : hasS s vB = true) (hc : hasS s vC = true) : False := by
  obtain ⟨_, h1⟩ := (hasS_iff s vB).1 hb
  obtain ⟨_, h2⟩ := (hasS_iff s vC).1 hc
  have e1 : vB.size = 13 := rfl
  have e2 : vC.size = 13 := rfl
  rw [e1] at h1
  rw [e2] at h2
  have : vB = vC := h1.symm.trans h2
  exact absurd this (by decide)
theorem pcw_nn (s w : ByteArray) : 0 ≤ pcw s w := by
  unfold pcw
  split
  · omega
  · rename_i h
    simp only [Bool.or_eq_true, decide_eq_true_eq, not_or] at h
    omega
def rtol (s : ByteArray) : Tol :=
  if s = ⟨#[]⟩ then ⟨0, 0, true⟩ else if s = wAbout then ⟨100, 100, true⟩
  else if 0 < pcw s vA then ⟨pcw s vA, pcw s vA, true⟩ else ⟨pcw s vC, pcw s vB, decide (0 < pcw s vB) || decide (0 < pcw s vC)⟩
theorem rtol_eq (s : ByteArray) : rtol s = tolV s := by
  unfold rtol tolV
  rw [pcw_eq, pcw_eq, pcw_eq, vA_eq, vB_eq, vC_eq]
  split
  · rfl
  · split
    · rfl
    · split
      · rfl
      · have hb := pcw_nn s vB
        have hc := pcw_nn s vC
        by_cases h1 : 0 < pcw s vB
        · rw [if_pos h1]
          have hn : pcw s vC = 0 := by
            refine Classical.byContradiction fun hn => ?_
            exact bc_not (pcw_pos h1) (pcw_pos (by omega))
          rw [hn]; simp [h1]
        · rw [if_neg h1]
          have hn : pcw s vB = 0 := by omega
          by_cases h2 : 0 < pcw s vC
          · rw [if_pos h2, hn]; simp [h2]
          · rw [if_neg h2, hn]
            have : pcw s vC = 0 := by omega
            rw [this]; simp
/-! the digits of a number, from behind -/
theorem dig_slice {d : Int} (h0 : 0 ≤ d) (h1 : d < 10) : (ByteArray.extract ⟨#[48, 49, 50, 51, 52, 53, 54, 55, 56, 57]⟩ d.toNat (d + 1).toNat) = ofL [UInt8.ofNat (48 + d.toNat)] := by
  have key : ((List.range 10).all fun m => decide (ByteArray.extract ⟨#[48, 49, 50, 51, 52, 53, 54, 55, 56, 57]⟩ m (m + 1) = ofL [UInt8.ofNat (48 + m)])) = true := by kernel_rfl
  have := List.all_eq_true.1 key d.toNat (by simp; omega)
  have e : (d + 1).toNat = d.toNat + 1 := by omega
  rw [e]
  exact of_decide_eq_true this
end Go.Gh

namespace Go.Gh
open Go Go.Proofs
set_option maxRecDepth 1000000
set_option maxHeartbeats 2000000
set_option linter.unusedSimpArgs false
set_option linter.unusedVariables false
open Go.Proofs.YtfbijgbpipedoaaGreatDoor Go.Proofs.YtfbijgbpipedoaaGreatDoor.Ra Go.RowKit

theorem empty_iff (s : ByteArray) : s = ⟨#[]⟩ ↔ s.size = 0 := by
  constructor
  · intro h; rw [h]; rfl
  · intro h
    refine Classical.byContradiction fun hn => ?_
    have := size_pos hn
    omega
theorem digit_in {c : Int} (h : digit c = true) : 48 ≤ c ∧ c ≤ 57 := by simpa [digit] using h
theorem inner_not {c : Int} (h1 : letter c = false) (h2 : digit c = false) (h3 : ¬ c = 95) : inner c = false := by simp [inner, h1, h2, h3]
theorem inner_yes {c : Int} (h : ¬ ((letter c = false ∧ digit c = false) ∧ ¬ c = 95)) : inner c = true := by
  cases hl : letter c <;> cases hd : digit c <;> simp [inner, hl, hd] at h ⊢
  exact h
theorem inner_on {c : Int} (h : (letter c = true ∨ digit c = true) ∨ c = 95) : inner c = true := by
  rcases h with (h | h) | h <;> simp [inner, h]
theorem num_end {s : ByteArray} {n : Int} (hsp : span digit s 0 = s.size) (hv : numVal s 0 0 = n) :
    ((((s.size : Int) < 1 ∨ (1 : Int) < s.size ∧ byteAt s 0 = 48) ∨ 1099511627776 < n) → numOk s = false ∧ numV s = 0) ∧
    (¬ (((s.size : Int) < 1 ∨ (1 : Int) < s.size ∧ byteAt s 0 = 48) ∨ 1099511627776 < n) → numOk s = true ∧ numV s = n) := by
  have e1 : s = ofL s.data.toList := (ofL_self s).symm
  generalize s.data.toList = l at e1
  subst e1
  rw [ofL_size] at *
  have hd : ∀ c, c ∈ l → isDg c := fun c hc => by
    obtain ⟨i, hi⟩ := List.getElem?_of_mem hc
    have hlt := (List.getElem?_eq_some_iff.1 hi).1
    have := span_digit (ofL l) _ 0 rfl (hsp.trans (by rw [ofL_size])) i (Nat.zero_le _) (by rw [ofL_size]; exact hlt)
    rw [ofL_at] at this
    have e : l.getD i 0 = c := by simp [List.getD, hi]
    rw [e] at this
    have := digit_in this
    unfold isDg; omega
  constructor
  · rintro ((h | ⟨h1, h2⟩) | h)
    · refine numOk_bad ?_
      have : l = [] := List.eq_nil_of_length_eq_zero (by omega)
      subst this; rfl
    · refine numOk_bad ?_
      cases hb : numBad (ofL l) with
      | true => rfl
      | false =>
        obtain ⟨q1, q2, q3, q4⟩ := numBad_list.1 hb
        rw [ofL_at] at h2
        have h2 : (l.getD 0 0).toNat = 48 := by omega
        have := q3 (UInt8.toNat_inj.1 (by rw [h2]; rfl))
        rw [this] at h1; simp at h1
    · exact numOk_big (by rw [hv]; exact h)
  · intro h
    have h1 : ¬ (l.length : Int) < 1 := fun e => h (.inl (.inl e))
    have h2 : ¬ ((1 : Int) < l.length ∧ byteAt (ofL l) 0 = 48) := fun e => h (.inl (.inr e))
    have h3 : ¬ 1099511627776 < n := fun e => h (.inr e)
    have hvl : valL l 0 = n := by rw [← numVal_of]; exact hv
    obtain ⟨a, b⟩ := numOk_of hd (fun e => by subst e; simp at h1) (by
      rcases Nat.lt_or_ge 1 l.length with hl | hl
      · refine .inr fun e => h2 ⟨by omega, ?_⟩
        rw [ofL_at, e]; rfl
      · exact .inl hl) (by omega)
    exact ⟨a, b.trans hvl⟩

theorem rletter_ok (c : Int) : GC Tryz.prog 56 [cG c] (bG (letter c)) := by
  refine gc_of_gk Tryz.func56 ?_
  refine gk_region env false [] [0, 2] ?_ -- 0
  refine gk_region env false [] [2] ?_ -- 1
  refine gk_ret env ?_
  simp [letter, tupG]

theorem rdigit_ok (c : Int) : GC Tryz.prog 57 [cG c] (bG (digit c)) := by
  refine gc_of_gk Tryz.func57 ?_
  refine gk_region env false [] [0, 2] ?_ -- 0
  refine gk_region env false [] [2] ?_ -- 1
  refine gk_ret env ?_
  simp [digit, tupG]

theorem rname_ok (s : ByteArray) (hs : s.size ≤ 9223372036854775807) : GC Tryz.prog 29 [sG s] (bG (nameOk s)) := by
  refine gc_of_gk Tryz.func29 ?_
  refine gk_region env false [] [0, 2] ?_ -- 0
  refine gk_region env false [.call (rletter_ok (byteAt s 0))] [0, 2, 17] ?_ -- 1
  refine gk_if (fun c1 => ?_) (fun c1 => ?_)
  · try simp only [bb, toN] at c1
    refine gk_region env false [] [0, 2] ?_ -- 2
    refine gk_ret env ?_
    have e := empty_iff s
    rcases c1 with (h | h) | h
    · have : s = ⟨#[]⟩ := e.2 (by omega)
      simp [nameOk, this, tupG]
    · have : ¬ (s.size : Int) ≤ 20 := by omega
      simp [nameOk, this, tupG]
    · simp [nameOk, h, tupG]
  · try simp only [bb, toN] at c1
    refine gk_region env false [] [0, 2, 3] ?_ -- 3
    refine gk_loop (α := Nat) (fun i => 1 ≤ i ∧ i ≤ s.size ∧ span inner s 0 = span inner s i) (fun i => [(3, iG i)]) (fun _ => []) (fun i => s.size - i) 1 ⟨by omega, by omega, by rw [span, if_pos (by omega), if_pos (by simp [inner, c1.2])]⟩ ?_ -- loop 4
    rintro i ⟨h1, hi, he⟩
    refine gk_region env false [] [0, 2, 3, 21] ?_ -- 4
    refine gk_ifd (fun c2 => ?_) (fun c2 => ?_)
    · try simp only [toN] at c2
      refine gk_region env false [.call (rletter_ok (byteAt s i)), .call (rdigit_ok (byteAt s i))] [0, 2, 3, 41] ?_ -- 6
      refine gk_if (fun c3 => ?_) (fun c3 => ?_)
      · try simp only [bb, toN] at c3
        refine gk_region env false [] [0, 2, 3] ?_ -- 7
        refine gk_ret env ?_
        have hp : inner (byteAt s i) = false := by
          have c3 : (letter (byteAt s i) = false ∧ digit (byteAt s i) = false) ∧ ¬ byteAt s i = 95 := by simpa using c3
          exact inner_not c3.1.1 c3.1.2 c3.2
        have := span_stop (by omega) he hp
        simp [nameOk, this, tupG]
      · try simp only [bb, toN] at c3
        refine gk_region env false [] [0, 2, 3] ?_ -- 5
        refine gk_round (i + 1) ?_
        exact ⟨by omega, by omega, he.trans (by rw [span, if_pos (by omega), if_pos (inner_on c3)])⟩
    · try simp only [toN] at c2
      refine gk_region env false [] [2] ?_ -- 8
      refine gk_ret env ?_
      have e := empty_iff s
      have h0 : ¬ s = ⟨#[]⟩ := fun h => by have := e.1 h; omega
      have hz : span inner s 0 = s.size := by rw [he, span, if_neg (by omega)]; omega
      have h20 : (s.size : Int) ≤ 20 := by omega
      simp [nameOk, h0, hz, c1.2, h20, tupG]

theorem rnumber_ok (s : ByteArray) (hs : s.size ≤ 9223372036854775807) : GC Tryz.prog 52 [sG s] (.tup [iG (numV s), bG (numOk s)]) := by
  refine gc_of_gk Tryz.func52 ?_
  refine gk_region env false [] [0, 2, 3] ?_ -- 0
  refine gk_region env false [] [0, 2, 3, 4] ?_ -- 1
  refine gk_region env false [] [0, 2, 3, 4, 5] ?_ -- 2
  refine gk_loop (α := Nat × Int) (fun x => x.1 ≤ s.size ∧ 0 ≤ x.2 ∧ x.2 ≤ 10995116277769 ∧ span digit s 0 = span digit s x.1 ∧ numVal s 0 0 = numVal s x.1 x.2) (fun x => [(4, iG x.2), (5, iG x.1)]) (fun _ => []) (fun x => s.size - x.1) (0, 0) ⟨by simp, by simp, by simp, rfl, rfl⟩ ?_ -- loop 3
  rintro ⟨i, n⟩ ⟨hi, n0, n1, he, hv⟩
  dsimp only at *
  refine gk_region env false [] [0, 2, 3, 4, 5, 9] ?_ -- 3
  refine gk_ifd (fun c1 => ?_) (fun c1 => ?_)
  · try simp only [toN] at c1
    refine gk_region env false [.call (rdigit_ok (byteAt s i))] [0, 2, 3, 4, 5, 20] ?_ -- 5
    refine gk_if (fun c2 => ?_) (fun c2 => ?_)
    · try simp only [bb, toN] at c2
      refine gk_region env false [] [0, 2, 3, 4, 5] ?_ -- 6
      refine gk_ret env ?_
      have hz : numOk s = false ∧ numV s = 0 := by
        rcases c2 with h | h
        · exact numOk_bad (numBad_span (span_stop (by omega) he h))
        · cases hb : numBad s with
          | true => exact numOk_bad hb
          | false =>
            refine numOk_big ?_
            have := numVal_le _ i n rfl n0 fun j _ hj => (digit_of hb hj).1
            omega
      rw [hz.1, hz.2]; rfl
    · try simp only [bb, toN] at c2
      have hd := digit_in c2.1
      refine gk_region env false [] [0, 2, 3, 4, 5] ?_ -- 7
      refine gk_region env false [] [0, 2, 3, 4, 5] ?_ -- 4
      refine gk_round ((i + 1, 10 * n + byteAt s i - 48)) ?_
      refine ⟨by simp only; omega, by simp only; omega, by simp only; omega, ?_, ?_⟩
      · rw [he, span, if_pos (by omega), if_pos c2.1]
      · rw [hv, numVal, if_pos (by omega)]
        congr 1; omega
  · try simp only [toN] at c1
    refine gk_region env false [] [2, 3, 4, 45] ?_ -- 8
    refine gk_if (fun c3 => ?_) (fun c3 => ?_)
    · try simp only [bb, toN] at c3
      refine gk_region env false [] [2, 3, 4] ?_ -- 9
      refine gk_ret env ?_
      have hsp : span digit s 0 = s.size := by rw [he, span, if_neg (by omega)]; omega
      have hn : numVal s 0 0 = n := by rw [hv, numVal, if_neg (by omega)]
      have hz := (num_end hsp hn).1 c3
      rw [hz.1, hz.2]; rfl
    · try simp only [bb, toN] at c3
      refine gk_region env false [] [2, 3] ?_ -- 10
      refine gk_ret env ?_
      have hsp : span digit s 0 = s.size := by rw [he, span, if_neg (by omega)]; omega
      have hn : numVal s 0 0 = n := by rw [hv, numVal, if_neg (by omega)]
      have hz := (num_end hsp hn).2 (by rintro ((h | h) | h) <;> omega)
      rw [hz.1, hz.2]; rfl
end Go.Gh

namespace Go.Gh
open Go Go.Proofs
set_option maxRecDepth 1000000
set_option maxHeartbeats 2000000
set_option linter.unusedSimpArgs false
set_option linter.unusedVariables false
open Go.Proofs.YtfbijgbpipedoaaGreatDoor Go.Proofs.YtfbijgbpipedoaaGreatDoor.Ra Go.RowKit

def IntI (n i m : Nat) (suf : List UInt8) : Prop := ((i = 0 ∧ m = n ∧ suf = []) ∨ (0 < i ∧ ((m = 0 ∧ Lib.decDigits n = suf) ∨ (0 < m ∧ Lib.decDigits n = Lib.decDigits m ++ suf)))) ∧ i + m ≤ n + 1 ∧ suf.length = i
theorem IntI.next {n i m : Nat} {suf : List UInt8} (h : IntI n i m suf) (hc : i = 0 ∨ ¬ m = 0) : IntI n (i + 1) (m / 10) (UInt8.ofNat (48 + m % 10) :: suf) := by
  obtain ⟨h1, h2, h3⟩ := h
  have hd : Lib.decDigits m ++ suf = (if m / 10 = 0 then [] else Lib.decDigits (m / 10)) ++ UInt8.ofNat (48 + m % 10) :: suf := by
    by_cases hm : m < 10
    · rw [dec_small hm, if_pos (by omega), Nat.mod_eq_of_lt hm]; rfl
    · rw [dec_big hm, if_neg (by omega), List.append_assoc]; rfl
  have hn : Lib.decDigits n = Lib.decDigits m ++ suf := by
    rcases h1 with ⟨_, rfl, rfl⟩ | ⟨h0, ⟨h4, _⟩ | ⟨_, h4⟩⟩
    · simp
    · omega
    · exact h4
  refine ⟨.inr ⟨by omega, ?_⟩, ?_, by simp [h3]⟩
  · by_cases hm : m / 10 = 0
    · rw [if_pos hm] at hd
      exact .inl ⟨hm, hn.trans hd⟩
    · rw [if_neg hm] at hd
      exact .inr ⟨by omega, hn.trans hd⟩
  · rcases h1 with ⟨a, b, _⟩ | ⟨a, ⟨b, _⟩ | ⟨b, _⟩⟩ <;> omega
theorem IntI.done {n i m : Nat} {suf : List UInt8} (h : IntI n i m suf) (h1 : i ≠ 0) (h2 : m = 0) : suf = Lib.decDigits n := by
  rcases h.1 with ⟨a, _, _⟩ | ⟨_, ⟨_, b⟩ | ⟨b, _⟩⟩
  · exact absurd a h1
  · exact b.symm
  · omega
theorem ofL_cons (c : UInt8) (l : List UInt8) : ofL [c] ++ ofL l = ofL (c :: l) := (ofL_append [c] l).symm

def tens : ByteArray := ⟨#[48, 49, 50, 51, 52, 53, 54, 55, 56, 57]⟩
theorem dg_eq (m : Nat) (suf : List UInt8) : tens.extract (loI (some ((m : Int) % 10))).toNat (hiI tens.size (some ((m : Int) % 10 + 1))).toNat ++ ofL (suf ++ [59]) = ofL ((UInt8.ofNat (48 + m % 10) :: suf) ++ [59]) := by
  show tens.extract ((m : Int) % 10).toNat ((m : Int) % 10 + 1).toNat ++ _ = _
  rw [show tens.extract ((m : Int) % 10).toNat ((m : Int) % 10 + 1).toNat = _ from dig_slice (by omega) (by omega), ← ofL_append]
  have : ((m : Int) % 10).toNat = m % 10 := by omega
  rw [this]; rfl
theorem dg_ob (m : Nat) (suf : List UInt8) (h : suf.length ≤ 2000000000) : inR .i64 ((m : Int) % 10 + 1) ∧ (0 ≤ loI (some ((m : Int) % 10)) ∧ loI (some ((m : Int) % 10)) ≤ hiI tens.size (some ((m : Int) % 10 + 1)) ∧ hiI tens.size (some ((m : Int) % 10 + 1)) ≤ tens.size) ∧
    (tens.extract (loI (some ((m : Int) % 10))).toNat (hiI tens.size (some ((m : Int) % 10 + 1))).toNat).size + (ofL (suf ++ [59])).size ≤ 9223372036854775807 := by
  have hz : tens.size = 10 := rfl
  have z2 : (ofL (suf ++ [59])).size = suf.length + 1 := by rw [ofL_size]; simp
  have z1 : (tens.extract (loI (some ((m : Int) % 10))).toNat (hiI tens.size (some ((m : Int) % 10 + 1))).toNat).size ≤ 10 := by
    rw [ByteArray.size_extract]; omega
  exact ⟨⟨by omega, by omega⟩, ⟨by simp only [loI]; omega, by simp only [loI, hiI]; omega, by simp only [hiI]; omega⟩, by omega⟩
theorem dg_size (m : Nat) : (tens.extract (loI (some ((m : Int) % 10))).toNat (hiI tens.size (some ((m : Int) % 10 + 1))).toNat).size ≤ 10 := by
  rw [ByteArray.size_extract]
  have : tens.size = 10 := rfl
  omega

theorem rint_ok (n : Nat) (hn : n ≤ 1000000000) : GC Tryz.prog 34 [iG (n : Int)] (sG (ofL (Lib.decDigits n ++ [59]))) := by
  refine gc_of_gk Tryz.func34 ?_
  refine gk_region env false [] [0, 2] ?_ -- 0
  refine gk_region env false [] [0, 2, 3] ?_ -- 1
  refine gk_region env false [] [0, 2, 3, 4] ?_ -- 2
  refine gk_region env false [] [0, 2, 3, 4, 5] ?_ -- 3
  refine gk_loop (α := Nat × Nat × List UInt8) (fun x => IntI n x.1 x.2.1 x.2.2) (fun x => [(3, sG (ofL (x.2.2 ++ [59]))), (4, iG (x.2.1 : Int)), (5, iG (x.1 : Int))]) (fun _ => []) (fun x => x.2.1 + (1 - x.1)) (0, n, []) ⟨.inl ⟨rfl, rfl, rfl⟩, by simp, rfl⟩ ?_ (hp := by refine ⟨?_, ?_, ?_, ?_, ?_⟩ <;> rfl) -- loop 4
  rintro ⟨i, m, suf⟩ hI
  dsimp only at *
  obtain ⟨hI1, hI2, hI3⟩ := id hI
  refine gk_region env false [] [0, 2, 3, 4, 5, 13] ?_ -- 4
  refine gk_if (fun c1 => ?_) (fun c1 => ?_)
  · try simp only [bb, toN] at c1
    refine gk_region env false [] [0, 2, 3, 4, 5, 6] ?_ -- 6
    refine gk_region env false [] [0, 2, 3, 4, 5, 6, 19] ?_ -- 7
    refine gk_ifd (fun c2 => ?_) (fun c2 => ?_)
    · try simp only [toN] at c2
      exfalso; omega
    · try simp only [toN] at c2
      refine gk_region env false [] [0, 2, 3, 4, 5] ?_ (hp := by exact dg_ob m suf (by omega)) -- 9
      refine gk_region env false [] [0, 2, 3, 4, 5] ?_ -- 10
      refine gk_region env false [] [0, 2, 3, 4, 5] ?_ -- 5
      refine gk_round ((i + 1, m / 10, UInt8.ofNat (48 + m % 10) :: suf)) ?_ (hp := by exact ⟨dg_eq m suf, (by show (m : Int) / 10 = ((m / 10 : Nat) : Int); omega), (by show (i : Int) + 1 = ((i + 1 : Nat) : Int); omega), rfl, rfl⟩) (hm := by show (m / 10) + (1 - (i + 1)) < m + (1 - i); omega)
      exact hI.next (by omega)
  · try simp only [bb, toN] at c1
    refine gk_region env false [] [2, 3, 31] ?_ -- 11
    refine gk_ifd (fun c3 => ?_) (fun c3 => ?_)
    · try simp only [toN] at c3
      exfalso; omega
    · try simp only [toN] at c3
      refine gk_region env false [] [2] ?_ -- 13
      refine gk_ret env ?_
      have := hI.done (by omega) (by omega)
      rw [this]; rfl
end Go.Gh

namespace Go.Gh
open Go Go.Proofs
set_option maxRecDepth 1000000
set_option maxHeartbeats 2000000
set_option linter.unusedSimpArgs false
set_option linter.unusedVariables false
open Go.Proofs.YtfbijgbpipedoaaGreatDoor Go.Proofs.YtfbijgbpipedoaaGreatDoor.Ra Go.RowKit

theorem rfind_ok (t : List Un) (s : ByteArray) (ht : t.length ≤ 9223372036854775807) : GC Tryz.prog 9 [rowU t, sG s] (iG (find t s 0)) := by
  refine gc_of_gk Tryz.func9 ?_
  refine gk_region env false [] [0, 1, 4] ?_ -- 0
  refine gk_region env false [] [0, 1, 4, 5] ?_ -- 1
  refine gk_loop (α := Nat) (fun i => i ≤ t.length ∧ find t s 0 = find t s i) (fun i => [(5, iG i)]) (fun _ => []) (fun i => t.length - i) 0 ⟨by omega, rfl⟩ ?_ -- loop 2
  rintro i ⟨hi, he⟩
  refine gk_region env false [] [0, 1, 4, 5, 9] ?_ -- 2
  refine gk_ifd (fun c1 => ?_) (fun c1 => ?_)
  · try simp only [toN] at c1
    refine gk_region env false [] [0, 1, 4, 5, 18] ?_ -- 4
    refine gk_ifd (fun c2 => ?_) (fun c2 => ?_)
    · try simp only [toN] at c2
      refine gk_region env false [] [0, 1, 4, 5] ?_ -- 5
      refine gk_ret env ?_
      rw [he, find, if_pos (by omega), if_pos (by simpa using c2)]; rfl
    · try simp only [toN] at c2
      refine gk_region env false [] [0, 1, 4, 5] ?_ -- 3
      refine gk_round (i + 1) ?_
      refine ⟨by omega, he.trans ?_⟩
      rw [find, if_pos (by omega), if_neg (by simpa using c2)]
  · try simp only [toN] at c1
    refine gk_region env false [] [4] ?_ -- 6
    refine gk_ret env ?_
    rw [he, find, if_neg (by omega)]; rfl

theorem rbase_ok (t : List Un) (i : Int) : GC Tryz.prog 30 [rowU t, iG i] (bG (baseOk t i)) := by
  refine gc_of_gk Tryz.func30 ?_
  refine gk_region env false [] [0, 1, 4] ?_ -- 0
  refine gk_region env false [] [4] ?_ -- 1
  refine gk_ret env ?_
  simp [baseOk, tupG]

theorem find_named {t : List Un} {s : ByteArray} : ∀ (k m i : Nat), m - i = k → i ≤ m → m ≤ t.length → (find t s i < m ∧ find t s i ≠ -1 ↔ ∃ j, i ≤ j ∧ j < m ∧ (t.getD j default).name = s) := by
  intro k
  induction k with
  | zero =>
    intro m i h hi hm
    refine ⟨fun ⟨h1, h2⟩ => ?_, fun ⟨j, h1, h2, _⟩ => by omega⟩
    have := (find_spec _ i rfl h2).1
    omega
  | succ k ih =>
    intro m i h hi hm
    rw [find, if_pos (by omega)]
    by_cases he : (t.getD i default).name = s
    · rw [if_pos he]
      exact ⟨fun _ => ⟨i, Nat.le_refl _, by omega, he⟩, fun _ => ⟨by omega, by omega⟩⟩
    · rw [if_neg he, ih m (i + 1) (by omega) (by omega) hm]
      refine ⟨fun ⟨j, h1, h2, h3⟩ => ⟨j, by omega, h2, h3⟩, fun ⟨j, h1, h2, h3⟩ => ⟨j, ?_, h2, h3⟩⟩
      by_cases e : j = i
      · subst e; exact absurd h3 he
      · omega
theorem find_lt {t : List Un} {i : Nat} (hi : i < t.length) : find t (t.getD i default).name 0 < i ↔ named (t.take i) (t.getD i default).name = true := by
  have hne : find t (t.getD i default).name 0 ≠ -1 := by
    have := (find_named (t := t) (s := (t.getD i default).name) _ (i + 1) 0 rfl (Nat.zero_le _) (by omega)).2 ⟨i, Nat.zero_le _, by omega, rfl⟩
    exact this.2
  have h1 := find_named (t := t) (s := (t.getD i default).name) _ i 0 rfl (Nat.zero_le _) (by omega)
  simp only [named, List.any_eq_true, decide_eq_true_eq]
  constructor
  · intro h
    obtain ⟨j, _, hj, e⟩ := h1.1 ⟨h, hne⟩
    refine ⟨t.getD j default, ?_, e⟩
    rw [List.getD_eq_getElem?_getD, List.getElem?_eq_getElem (show j < t.length by omega)]
    exact List.mem_iff_getElem?.2 ⟨j, by rw [List.getElem?_take, if_pos hj, List.getElem?_eq_getElem (show j < t.length by omega)]; rfl⟩
  · rintro ⟨u, hu, e⟩
    obtain ⟨j, hj⟩ := List.mem_iff_getElem?.1 hu
    rw [List.getElem?_take] at hj
    split at hj
    · rename_i hlt
      exact (h1.2 ⟨j, Nat.zero_le _, hlt, by rw [List.getD_eq_getElem?_getD, hj]; exact e⟩).1
    · cases hj

theorem rcheck_ok (t : List Un) (ht : t.length ≤ 9223372036854775807) (hs : ∀ u, u ∈ t → u.name.size ≤ 9223372036854775807) : GC Tryz.prog 7 [rowU t] (iG (chk t)) := by
  refine gc_of_gk Tryz.func7 ?_
  refine gk_region env false [] [0, 2] ?_ -- 0
  refine gk_region env false [] [0, 2, 7] ?_ -- 1
  refine gk_ifd (fun c1 => ?_) (fun c1 => ?_)
  · try simp only [toN] at c1
    refine gk_region env false [] [0, 2] ?_ -- 2
    refine gk_ret env ?_
    rw [chk, if_pos c1]; rfl
  · try simp only [toN] at c1
    refine gk_region env false [] [0, 2, 3] ?_ -- 3
    refine gk_loop (α := Nat) (fun i => i ≤ t.length ∧ chk t = chkF t i) (fun i => [(3, iG i)]) (fun _ => []) (fun i => t.length - i) 0 ⟨by omega, by rw [chk, if_neg c1]⟩ ?_ -- loop 4
    rintro i ⟨hi, he⟩
    refine gk_region env false [] [0, 2, 3, 11] ?_ -- 4
    refine gk_ifd (fun c2 => ?_) (fun c2 => ?_)
    · try simp only [toN] at c2
      refine gk_region env false [] [0, 2, 3, 4] ?_ -- 6
      have hm : t.getD i default ∈ t := by rw [List.getD_eq_getElem?_getD, List.getElem?_eq_getElem (by omega)]; simp
      refine gk_region env false [.call (rname_ok _ (hs _ hm))] [0, 2, 3, 4, 21] ?_ -- 7
      refine gk_if (fun c3 => ?_) (fun c3 => ?_)
      · try simp only [bb, toN] at c3
        refine gk_region env false [] [0, 2, 3, 4] ?_ -- 8
        refine gk_ret env ?_
        rw [he, chkF, if_pos (by omega), if_neg (by simpa using c3)]; rfl
      · try simp only [bb, toN] at c3
        refine gk_region env false [.call (rfind_ok t _ ht)] [0, 2, 3, 4, 27] ?_ -- 9
        refine gk_ifd (fun c4 => ?_) (fun c4 => ?_)
        · try simp only [toN] at c4
          refine gk_region env false [] [0, 2, 3, 4] ?_ -- 10
          refine gk_ret env ?_
          rw [he, chkF, if_pos (by omega), if_pos (by simpa using c3), if_pos ((find_lt (by omega)).1 c4)]; rfl
        · try simp only [toN] at c4
          refine gk_region env false [.call (rbase_ok t _)] [0, 2, 3, 52] ?_ -- 11
          refine gk_if (fun c5 => ?_) (fun c5 => ?_)
          · try simp only [bb, toN] at c5
            refine gk_region env false [] [0, 2, 3] ?_ -- 12
            refine gk_ret env ?_
            rw [he, chkF, if_pos (by omega), if_pos (by simpa using c3), if_neg (fun h => c4 ((find_lt (by omega)).2 h)), if_pos (by simpa [unBad] using c5)]; rfl
          · try simp only [bb, toN] at c5
            refine gk_region env false [] [0, 2, 3] ?_ -- 5
            refine gk_round (i + 1) ?_
            refine ⟨by omega, ?_⟩
            rw [he, chkF, if_pos (by omega), if_pos (by simpa using c3), if_neg (fun h => c4 ((find_lt (by omega)).2 h)), if_neg (by simpa [unBad] using c5)]
    · try simp only [toN] at c2
      refine gk_region env false [] [2] ?_ -- 13
      refine gk_ret env ?_
      rw [he, chkF, if_neg (by omega)]; rfl

theorem rght_iff {t : List Un} {q : Qu} : rght t [q] = 0 ↔ chk t = 0 ∧ quOk t q = true := by
  constructor
  · intro h
    obtain ⟨h1, h2, h3, h4, _⟩ := rght_one h
    exact ⟨rght_chk h, by simp [quOk, h1, h2, h3, h4]⟩
  · rintro ⟨h1, h2⟩
    exact rght_of h1 (by intro x hx; rw [List.mem_singleton.1 hx]; exact quOk_ok h1 h2)
theorem quBad_not {t : List Un} {q : Qu} : quBad t q = !quOk t q := by
  unfold quBad quOk
  by_cases h1 : 0 ≤ q.u <;> by_cases h2 : q.u < t.length <;> by_cases h3 : 0 ≤ q.n <;> by_cases h4 : q.n ≤ 1000000000 <;> simp [h1, h2, h3, h4] <;> omega
theorem rght_single {t : List Un} {q : Qu} : rght t [q] = if chk t = 0 then if quOk t q then 0 else 1 else chk t := by
  unfold rght
  split
  · rw [rghtF, if_pos (by simp)]
    have e : [q].getD 0 default = q := rfl
    rw [e, quBad_not]
    cases quOk t q
    · simp
    · rw [if_neg (by simp), rghtF, if_neg (by simp)]; simp
  · rfl
theorem rght_pair {t : List Un} {a b : Qu} : rght t [a, b] = if rght t [a] = 0 then rght t [b] else rght t [a] := by
  rw [rght_single, rght_single]
  unfold rght
  by_cases hc : chk t = 0
  · rw [if_pos hc, rghtF, if_pos (by simp)]
    have e : [a, b].getD 0 default = a := rfl
    rw [e, quBad_not]
    cases ha : quOk t a
    · simp [hc]
    · rw [if_neg (by simp), rghtF, if_pos (by simp)]
      have e : [a, b].getD (0 + 1) default = b := rfl
      rw [e, quBad_not]
      cases hb : quOk t b
      · simp [hc]
      · rw [if_neg (by simp), rghtF, if_neg (by simp)]; simp [hc]
  · simp [hc]
theorem print_ob (t : List Un) (q : Qu) (h : quOk t q = true) (hn : ∀ u, u ∈ t → u.name.size ≤ 1000) : (uAt t q.u).name.size ≤ 1000 := by
  simp only [quOk, Bool.and_eq_true, decide_eq_true_eq] at h
  exact hn _ (getD_mem (by omega))
theorem cut_last (n : Nat) : (ofL (Lib.decDigits n ++ [59])).extract (loI none).toNat (hiI (ofL (Lib.decDigits n ++ [59])).size (some ((ofL (Lib.decDigits n ++ [59])).size - 1))).toNat = ofL (Lib.decDigits n) := by
  have : (hiI (ofL (Lib.decDigits n ++ [59])).size (some ((ofL (Lib.decDigits n ++ [59])).size - 1))).toNat = (Lib.decDigits n).length := by
    simp only [hiI]; rw [ofL_size]; simp
  rw [this, extract_of]
  simp [loI]

theorem rprint_ok (t : List Un) (ht : t.length ≤ 9223372036854775807) (hs : ∀ u, u ∈ t → u.name.size ≤ 9223372036854775807) (hn : ∀ u, u ∈ t → u.name.size ≤ 1000) (q : Qu) : GC Tryz.prog 11 [rowU t, quG q] (sG (printR t q)) := by
  refine gc_of_gk Tryz.func11 ?_
  refine gk_region env false [] [0, 3, 4] ?_ -- 0
  refine gk_region env false [.call (rcheck_ok t ht hs), .call (rightq_ok t q)] [0, 3, 4, 14] ?_ -- 1
  refine gk_if (fun c1 => ?_) (fun c1 => ?_)
  · try simp only [bb, toN] at c1
    refine gk_region env false [] [0, 3, 4] ?_ -- 2
    refine gk_ret env ?_
    have h0 : rght t [q] ≠ 0 := fun h => by
      have := rght_iff.1 h
      rcases c1 with h1 | h1
      · exact h1 this.1
      · rw [this.2] at h1; cases h1
    rw [printR, if_neg h0]; rfl
  · try simp only [bb, toN] at c1
    have c1 : chk t = 0 ∧ quOk t q = true := by simpa using c1
    have hq := quOk_ok c1.1 c1.2
    obtain ⟨a1, a2, a3, a4, a5⟩ := id hq
    have hz : (t.getD q.u.toNat default).name.size ≤ 1000 := print_ob t q c1.2 hn
    have e1 : ((q.n.toNat : Int)) = q.n := by omega
    have z1 := dec_length 9 q.n.toNat (by omega)
    have z2 : (ofL (Lib.decDigits q.n.toNat ++ [59])).size = (Lib.decDigits q.n.toNat).length + 1 := by rw [ofL_size]; simp
    have z3 : (ofL (Lib.decDigits q.n.toNat)).size = (Lib.decDigits q.n.toNat).length := ofL_size _
    have z4 : (ofL (Lib.decDigits q.n.toNat) ++ (⟨#[32]⟩ : ByteArray)).size = (ofL (Lib.decDigits q.n.toNat)).size + 1 := ByteArray.size_append
    have z5 := cut_last q.n.toNat
    refine gk_region env false [.call (rint_ok q.n.toNat (by omega))] [0, 3, 4, 5] ?_ (hp := by exact ⟨by rw [e1]; exact Ent.refl _, trivial⟩) -- 3
    refine gk_region env false [] [4] ?_ (hp := by simp only [AllP, bb, toN]; repeat' first | exact trivial | exact rfl | omega | (rw [z5, z4, z3]; omega) | (rw [z5, z3]; show _ + 1 ≤ _; omega) | (simp only [loI, hiI]; omega) | apply And.intro | intro _) -- 4
    refine gk_ret env ?_
    rw [printR, if_pos (rght_iff.2 c1), itoa_dec a3, z5]; rfl
end Go.Gh

namespace Go.Gh
open Go Go.Proofs
set_option maxRecDepth 1000000
set_option maxHeartbeats 2000000
set_option linter.unusedSimpArgs false
set_option linter.unusedVariables false
open Go.Proofs.YtfbijgbpipedoaaGreatDoor Go.Proofs.YtfbijgbpipedoaaGreatDoor.Ra Go.RowKit

theorem rmake_ok (n d : Int) (hn : In n) (hd : In d) : GC Tryz.prog 36 [iG n, iG d] (.tup [qG (makeV n d), iG (makeE n d)]) :=
  gc_of_old Tryz.func36 rfl rfl rfl rfl fun w => rmake_any n d w hn.1 hn.2 hd.1 hd.2
theorem radd_ok (a b : Q) (ha : Q64 a) (hb : Q64 b) : GC Tryz.prog 42 [qG a, qG b] (.tup [qG (addV a b), iG (addE a b)]) :=
  gc_of_old Tryz.func42 rfl rfl rfl rfl fun w => radd_any a b w ha hb
theorem rdiv_ok (a b : Q) (ha : Q64 a) (hb : Q64 b) : GC Tryz.prog 40 [qG a, qG b] (.tup [qG (divV a b), iG (divE a b)]) :=
  gc_of_old Tryz.func40 rfl rfl rfl rfl fun w => rdiv_any a b w ha hb
theorem rmul_ok (a b : Q) (ha : Q64 a) (hb : Q64 b) : GC Tryz.prog 46 [qG a, qG b] (.tup [qG (mulV a b), iG (mulE a b)]) :=
  gc_of_old Tryz.func46 rfl rfl rfl rfl fun w => rmul_any a b w ha hb
theorem rcmp_ok (a b : Q) (ha : Q64 a) (hb : Q64 b) : GC Tryz.prog 44 [qG a, qG b] (iG (cmpV a b)) :=
  gc_of_old Tryz.func44 rfl rfl rfl rfl fun w => rcmp_any a b w ha hb
theorem value_64 (t : List Un) (q : Qu) : Q64 (valueR t q).1 := by
  unfold valueR
  split
  · exact make_64 _ _
  · exact zero_64
theorem mul_64 (a b : Q) : Q64 (mulV a b) := by
  unfold mulV; split
  · exact lim_64 _
  · exact zero_64
theorem valueR_def (t : List Un) (q : Qu) : valueR t q = if chk t = 0 then if quOk t q = true then (valV t q, 0) else (⟨0, 0⟩, 1) else (⟨0, 0⟩, chk t) := by
  unfold valueR
  rw [rght_single]
  by_cases hc : chk t = 0
  · rw [if_pos hc, if_pos hc]
    cases hq : quOk t q <;> simp
  · rw [if_neg hc, if_neg hc, if_neg hc]
theorem valueR_ok {t : List Un} {q : Qu} (h : (valueR t q).2 = 0) : chk t = 0 ∧ QuOk t q := by
  rw [valueR_def] at h
  split at h
  · rename_i hc
    split at h
    · rename_i hq; exact ⟨hc, quOk_ok hc hq⟩
    · simp at h
  · rename_i hc; exact absurd h hc
theorem make_E {n d : Int} (h0 : n.natAbs ≤ top) (d1 : 1 ≤ d) (d2 : d.natAbs ≤ top) : makeE n d = 0 := by
  obtain ⟨k1, k2⟩ := norm_le n (d := d.natAbs) (by omega)
  unfold makeE
  rw [if_neg (by omega), if_neg (by omega)]
  exact (lim_ok (by omega) (by omega)).2
theorem QuOk.makeE {t : List Un} {q : Qu} (h : QuOk t q) : makeE (q.n * (uAt t q.u).num) (uAt t q.u).den = 0 := by
  obtain ⟨h1, h2, h3, h4⟩ := h.parts
  exact make_E (by unfold pP at *; unfold top; omega) h3 (by unfold pD at *; unfold top; omega)
def bothE (t : List Un) (a b : Qu) : Int := if (valueR t a).2 = 0 then if (valueR t b).2 = 0 then if (uAt t a.u).base = (uAt t b.u).base then 0 else 11 else (valueR t b).2 else (valueR t a).2

theorem rvalue_ok (t : List Un) (ht : t.length ≤ 9223372036854775807) (hs : ∀ u, u ∈ t → u.name.size ≤ 9223372036854775807) (q : Qu) : GC Tryz.prog 13 [rowU t, quG q] (.tup [qG (valueR t q).1, iG (valueR t q).2]) := by
  refine gc_of_gk Tryz.func13 ?_
  refine gk_region env false [] [0, 3, 4, 5] ?_ -- 0
  refine gk_region env false [.call (rcheck_ok t ht hs)] [0, 3, 4, 5, 6] ?_ -- 1
  refine gk_region env false [] [0, 3, 4, 5, 6, 12] ?_ -- 2
  refine gk_ifn (fun c1 => ?_) (fun c1 => ?_)
  · try simp only [toN] at c1
    refine gk_region env false [] [0, 3, 4, 5] ?_ -- 3
    refine gk_ret env ?_
    rw [valueR_def, if_neg (by simpa using c1)]; rfl
  · try simp only [toN] at c1
    refine gk_region env false [.call (rightq_ok t q)] [0, 3, 4, 5, 18] ?_ -- 4
    refine gk_if (fun c2 => ?_) (fun c2 => ?_)
    · try simp only [bb, toN] at c2
      refine gk_region env false [] [0, 3, 4, 5] ?_ -- 5
      refine gk_ret env ?_
      rw [valueR_def, if_pos (by simpa using c1), if_neg (by simpa using c2)]; rfl
    · try simp only [bb, toN] at c2
      have hq := quOk_ok (by simpa using c1) (by simpa using c2)
      have hE := hq.makeE
      have hm := hq.mul
      have h1 := hq.un
      obtain ⟨a1, a2, a3, a4⟩ := hq
      obtain ⟨b1, b2, b3, b4⟩ := h1
      unfold uAt at *
      refine gk_region env false [.call (rmake_ok (q.n * (t.getD q.u.toNat default).num) (t.getD q.u.toNat default).den ⟨by omega, by omega⟩ ⟨by omega, by omega⟩)] [4, 5, 7, 8] ?_ -- 6
      refine gk_region env false [] [4, 5] ?_ -- 7
      refine gk_ret env ?_
      rw [valueR_def, if_pos (by simpa using c1), if_pos (by simpa using c2), hE]; rfl

theorem rboth_ok (t : List Un) (ht : t.length ≤ 9223372036854775807) (hs : ∀ u, u ∈ t → u.name.size ≤ 9223372036854775807) (a b : Qu) : GC Tryz.prog 39 [rowU t, quG a, quG b] (.tup [qG (valueR t a).1, qG (valueR t b).1, iG (bothE t a b)]) := by
  refine gc_of_gk Tryz.func39 ?_
  refine gk_region env false [] [0, 4, 5, 6, 7, 8] ?_ -- 0
  refine gk_region env false [.call (rvalue_ok t ht hs a)] [0, 4, 5, 6, 7, 8, 9, 10] ?_ -- 1
  refine gk_region env false [.call (rvalue_ok t ht hs b)] [0, 4, 5, 6, 7, 8, 9, 10, 11, 12] ?_ -- 2
  refine gk_region env false [] [0, 4, 5, 6, 7, 8, 9, 10, 11, 12, 26] ?_ -- 3
  refine gk_ifn (fun c1 => ?_) (fun c1 => ?_)
  · try simp only [toN] at c1
    refine gk_region env false [] [0, 4, 5, 6, 7, 8, 9, 11, 12] ?_ -- 4
    refine gk_ret env ?_
    rw [bothE, if_neg (by simpa using c1)]; rfl
  · try simp only [toN] at c1
    refine gk_region env false [] [0, 4, 5, 6, 7, 8, 9, 11, 12, 31] ?_ -- 5
    refine gk_ifn (fun c2 => ?_) (fun c2 => ?_)
    · try simp only [toN] at c2
      refine gk_region env false [] [0, 4, 5, 6, 7, 8, 9, 11] ?_ -- 6
      refine gk_ret env ?_
      rw [bothE, if_pos (by simpa using c1), if_neg (by simpa using c2)]; rfl
    · try simp only [toN] at c2
      obtain ⟨hc, qa⟩ := valueR_ok (by simpa using c1)
      obtain ⟨_, qb⟩ := valueR_ok (by simpa using c2)
      obtain ⟨a1, a2, a3, a4, a5⟩ := qa
      obtain ⟨b1, b2, b3, b4, b5⟩ := qb
      refine gk_region env false [] [6, 7, 8, 9, 11, 47] ?_ -- 7
      refine gk_ifn (fun c3 => ?_) (fun c3 => ?_)
      · try simp only [toN] at c3
        refine gk_region env false [] [6, 7, 8, 9, 11] ?_ -- 8
        refine gk_ret env ?_
        rw [bothE, if_pos (by simpa using c1), if_pos (by simpa using c2), if_neg (by simpa using c3)]; rfl
      · try simp only [toN] at c3
        refine gk_region env false [] [6, 7, 8] ?_ -- 9
        refine gk_ret env ?_
        rw [bothE, if_pos (by simpa using c1), if_pos (by simpa using c2), if_pos (by simpa using c3)]; rfl

theorem bothE_def (t : List Un) (a b : Qu) : bothE t a b = if rght t [a, b] = 0 then if (uAt t a.u).base = (uAt t b.u).base then 0 else 11 else rght t [a, b] := by
  unfold bothE
  rw [rght_pair, valueR_def, valueR_def, rght_single, rght_single]
  by_cases hc : chk t = 0
  · simp only [if_pos hc]
    cases ha : quOk t a <;> cases hb : quOk t b <;> simp
  · simp [hc]
theorem quOk_one (t : List Un) (u : Int) : quOk t ⟨1, u⟩ = quOk t ⟨0, u⟩ := by simp [quOk]
theorem conv_both (t : List Un) (q : Qu) (u : Int) : convR t q u = if bothE t q ⟨1, u⟩ = 0 then (divV (valueR t q).1 (valueR t ⟨1, u⟩).1, divE (valueR t q).1 (valueR t ⟨1, u⟩).1) else (⟨0, 0⟩, bothE t q ⟨1, u⟩) := by
  have hr : rght t [q, ⟨1, u⟩] = rght t [q, ⟨0, u⟩] := by rw [rght_pair, rght_pair, rght_single (q := ⟨1, u⟩), quOk_one, ← rght_single]
  rw [bothE_def, hr]
  unfold convR
  by_cases h : rght t [q, ⟨0, u⟩] = 0
  · rw [if_pos h, if_pos h]
    obtain ⟨hq, hu⟩ := rght_two h
    have hc := rght_chk h
    have hu1 : QuOk t ⟨1, u⟩ := ⟨hu.u0, hu.u1, by simp, by simp, hu.un⟩
    by_cases hb : (uAt t q.u).base = (uAt t u).base
    · rw [if_pos hb, if_pos hb.symm, if_pos rfl, valueR_yes hc hq, valueR_yes hc hu1]
      have : valV t ⟨1, u⟩ = oneV (uAt t u) := by unfold valV oneV; simp
      rw [this]
    · rw [if_neg hb, if_neg (fun e => hb e.symm), if_neg (by omega)]
  · rw [if_neg h, if_neg h, if_neg h]
theorem cmp_both (t : List Un) (a b : Qu) : cmpR t a b = if bothE t a b = 0 then (cmpV (valueR t a).1 (valueR t b).1, 0) else (0, bothE t a b) := by
  rw [bothE_def]
  unfold cmpR
  by_cases h : rght t [a, b] = 0
  · rw [if_pos h, if_pos h]
    obtain ⟨ha, hb⟩ := rght_two h
    have hc := rght_chk h
    by_cases hbb : (uAt t a.u).base = (uAt t b.u).base
    · rw [if_pos hbb, if_pos hbb, if_pos rfl, valueR_yes hc ha, valueR_yes hc hb]
    · rw [if_neg hbb, if_neg hbb, if_neg (by omega)]
  · rw [if_neg h, if_neg h, if_neg h]
theorem chkF_ne {t : List Un} : ∀ (k i : Nat), t.length - i = k → chkF t i ≠ 11 := by
  intro k
  induction k with
  | zero => intro i h; rw [chkF, if_neg (by omega)]; omega
  | succ k ih =>
    intro i h
    rw [chkF, if_pos (by omega)]
    split
    · split
      · omega
      · split
        · omega
        · exact ih (i + 1) (by omega)
    · omega
theorem rght_ne (t : List Un) (a b : Qu) : rght t [a, b] ≠ 11 := by
  have hc : chk t ≠ 11 := by
    unfold chk; split
    · omega
    · exact chkF_ne _ 0 rfl
  rw [rght_pair, rght_single, rght_single]
  by_cases h : chk t = 0
  · simp only [if_pos h]
    cases quOk t a <;> cases quOk t b <;> simp
  · simp [h, hc]
theorem mulN_norms (n m : Int) {d e : Nat} (hd : 0 < d) (he : 0 < e) : mulN (norm n d) (norm m e) = norm (n * m) (d * e) := by
  obtain ⟨m', D, h0, hq, hc⟩ := norm_nat m he
  rw [hq, mulN_norm n hd _ h0]
  refine norm_congr (Nat.mul_pos hd h0) (Nat.mul_pos hd he) ?_
  simp only [Int.natCast_mul]
  grind
theorem low_mul {t : List Un} {q : Qu} (h : QuOk t q) {k : Int} (k0 : 0 ≤ k) (k1 : k ≤ 2000) : mulV (valV t q) (makeV k 1000) = lowV t q k := by
  obtain ⟨h1, h2, h3, h4⟩ := h.parts
  have hm := h.mul3 k0 k1
  rw [h.val, make_norm (n := k) (d := 1000) (by unfold top; omega) (by omega) (by unfold top; decide)]
  have e1000 : (1000 : Int).natAbs = 1000 := rfl
  rw [e1000]
  unfold mulV
  rw [norm_right (by omega) (by unfold top; omega) (by unfold top; omega), norm_right (n := k) (d := 1000) (by omega) (by unfold top; omega) (by unfold top; omega)]
  simp only [Bool.and_self, if_true]
  rw [mulN_norms _ _ (by omega) (by omega)]
  unfold lowV
  have hb : (uAt t q.u).den * 1000 ≤ 100000000 := by unfold pD at h4; omega
  rw [make_norm (by unfold top; omega) (by unfold pD at h3; omega) (by unfold pD at h3; unfold top; omega)]
  have e : ((uAt t q.u).den * 1000).natAbs = (pD t q).natAbs * 1000 := by unfold pD; omega
  rw [e]
  obtain ⟨l1, l2⟩ := norm_le (pP t q * k) (d := (pD t q).natAbs * 1000) (by omega)
  exact (lim_ok (by
    have : (pP t q * k).natAbs ≤ top := by unfold pP top; omega
    omega) (by
    have : (pD t q).natAbs * 1000 ≤ top := by unfold top; omega
    omega)).1
theorem with_both (t : List Un) (a : Qu) (less more : Int) (b : Qu) : withR t a less more b =
    if bothE t a b ≠ 0 ∧ bothE t a b ≠ 11 then (false, bothE t a b) else if less < 0 ∨ 1000 < less ∨ more < 0 ∨ 1000 < more then (false, 1) else if bothE t a b ≠ 0 then (false, bothE t a b) else
      (decide (cmpV (mulV (valueR t a).1 (makeV (1000 - less) 1000)) (valueR t b).1 ≤ 0) && decide (cmpV (valueR t b).1 (mulV (valueR t a).1 (makeV (1000 + more) 1000)) ≤ 0), 0) := by
  have hne := rght_ne t a b
  unfold withR
  by_cases h : rght t [a, b] = 0
  · have hE : bothE t a b = if (uAt t a.u).base = (uAt t b.u).base then 0 else 11 := by rw [bothE_def, if_pos h]
    obtain ⟨ha, hb⟩ := rght_two h
    have hc := rght_chk h
    rw [if_pos h]
    have h1 : ¬ (bothE t a b ≠ 0 ∧ bothE t a b ≠ 11) := by rw [hE]; split <;> omega
    rw [if_neg h1]
    by_cases hl : less < 0 ∨ 1000 < less ∨ more < 0 ∨ 1000 < more
    · rw [if_pos hl, if_pos hl]
    · rw [if_neg hl, if_neg hl, hE]
      by_cases hbb : (uAt t a.u).base = (uAt t b.u).base
      · rw [if_pos hbb, if_pos hbb, if_neg (by omega), valueR_yes hc ha, valueR_yes hc hb, low_mul ha (by omega) (by omega), low_mul ha (by omega) (by omega)]
      · rw [if_neg hbb, if_neg hbb, if_pos (by omega)]
  · have hE : bothE t a b = rght t [a, b] := by rw [bothE_def, if_neg h]
    rw [if_neg h, if_pos (by rw [hE]; exact ⟨h, hne⟩), hE]

theorem rconvert_ok (t : List Un) (ht : t.length ≤ 9223372036854775807) (hs : ∀ u, u ∈ t → u.name.size ≤ 9223372036854775807) (q : Qu) (u : Int) : GC Tryz.prog 15 [rowU t, quG q, iG u] (.tup [qG (convR t q u).1, iG (convR t q u).2]) := by
  refine gc_of_gk Tryz.func15 ?_
  refine gk_region env false [] [0, 2, 4, 6, 7] ?_ -- 0
  refine gk_region env false [.call (rboth_ok t ht hs q ⟨1, u⟩)] [6, 7, 8, 9, 10] ?_ -- 1
  refine gk_region env false [] [6, 7, 8, 9, 10, 23] ?_ -- 2
  refine gk_ifn (fun c1 => ?_) (fun c1 => ?_)
  · try simp only [toN] at c1
    refine gk_region env false [] [6, 7, 8, 9] ?_ -- 3
    refine gk_ret env ?_
    rw [conv_both, if_neg (by simpa using c1)]; rfl
  · try simp only [toN] at c1
    refine gk_region env false [.call (rdiv_ok (valueR t q).1 (valueR t ⟨1, u⟩).1 (value_64 _ _) (value_64 _ _))] [6, 7, 11, 12] ?_ -- 4
    refine gk_region env false [] [6, 7] ?_ -- 5
    refine gk_ret env ?_
    rw [conv_both, if_pos (by simpa using c1)]; rfl

theorem rcompare_ok (t : List Un) (ht : t.length ≤ 9223372036854775807) (hs : ∀ u, u ∈ t → u.name.size ≤ 9223372036854775807) (a b : Qu) : GC Tryz.prog 19 [rowU t, quG a, quG b] (.tup [iG (cmpR t a b).1, iG (cmpR t a b).2]) := by
  refine gc_of_gk Tryz.func19 ?_
  refine gk_region env false [] [0, 4, 5, 6, 7] ?_ -- 0
  refine gk_region env false [.call (rboth_ok t ht hs a b)] [6, 7, 8, 9, 10] ?_ -- 1
  refine gk_region env false [] [6, 7, 8, 9, 10, 20] ?_ -- 2
  refine gk_ifn (fun c1 => ?_) (fun c1 => ?_)
  · try simp only [toN] at c1
    refine gk_region env false [] [6, 7, 8, 9] ?_ -- 3
    refine gk_ret env ?_
    rw [cmp_both, if_neg (by simpa using c1)]; rfl
  · try simp only [toN] at c1
    refine gk_region env false [.call (rcmp_ok (valueR t a).1 (valueR t b).1 (value_64 _ _) (value_64 _ _))] [6, 7] ?_ -- 4
    refine gk_ret env ?_
    rw [cmp_both, if_pos (by simpa using c1)]; rfl

theorem rwithin_ok (t : List Un) (ht : t.length ≤ 9223372036854775807) (hs : ∀ u, u ∈ t → u.name.size ≤ 9223372036854775807) (a : Qu) (less more : Int) (b : Qu) : GC Tryz.prog 21 [rowU t, quG a, iG less, iG more, quG b] (.tup [bG (withR t a less more b).1, iG (withR t a less more b).2]) := by
  refine gc_of_gk Tryz.func21 ?_
  refine gk_region env false [] [0, 2, 3, 6, 9, 10, 11] ?_ -- 0
  refine gk_region env false [.call (rboth_ok t ht hs a b)] [2, 3, 10, 11, 12, 13, 14] ?_ -- 1
  refine gk_region env false [] [2, 3, 10, 11, 12, 13, 14, 36] ?_ -- 2
  refine gk_if (fun c1 => ?_) (fun c1 => ?_)
  · try simp only [bb, toN] at c1
    refine gk_region env false [] [2, 3, 10, 11, 12, 13, 14] ?_ -- 3
    refine gk_ret env ?_
    rw [with_both, if_pos (by simpa using c1)]; rfl
  · try simp only [bb, toN] at c1
    refine gk_region env false [] [2, 3, 10, 11, 12, 13, 14, 51] ?_ -- 4
    refine gk_if (fun c2 => ?_) (fun c2 => ?_)
    · try simp only [bb, toN] at c2
      refine gk_region env false [] [2, 3, 10, 11, 12, 13, 14] ?_ -- 5
      refine gk_ret env ?_
      rw [with_both, if_neg (by simp; omega), if_pos (by omega)]; rfl
    · try simp only [bb, toN] at c2
      refine gk_region env false [] [2, 3, 10, 11, 12, 13, 14, 53] ?_ -- 6
      refine gk_ifn (fun c3 => ?_) (fun c3 => ?_)
      · try simp only [toN] at c3
        refine gk_region env false [] [2, 3, 10, 11, 12, 13] ?_ -- 7
        refine gk_ret env ?_
        rw [with_both, if_neg (by simp; omega), if_neg (by omega), if_pos (by simpa using c3)]; rfl
      · try simp only [toN] at c3
        refine gk_region env false [.call (rmake_ok (1000 - less) 1000 ⟨by omega, by omega⟩ ⟨by omega, by omega⟩)] [3, 10, 11, 12, 13, 15] ?_ -- 8
        refine gk_region env false [.call (rmake_ok (1000 + more) 1000 ⟨by omega, by omega⟩ ⟨by omega, by omega⟩)] [10, 11, 12, 13, 15, 17] ?_ -- 9
        refine gk_region env false [.call (rmul_ok (valueR t a).1 (makeV (1000 - less) 1000) (value_64 _ _) (make_64 _ _))] [10, 11, 12, 13, 17, 19] ?_ -- 10
        refine gk_region env false [.call (rmul_ok (valueR t a).1 (makeV (1000 + more) 1000) (value_64 _ _) (make_64 _ _))] [10, 11, 13, 19, 21] ?_ -- 11
        refine gk_region env false [.call (rcmp_ok (mulV (valueR t a).1 (makeV (1000 - less) 1000)) (valueR t b).1 (mul_64 _ _) (value_64 _ _)), .call (rcmp_ok (valueR t b).1 (mulV (valueR t a).1 (makeV (1000 + more) 1000)) (value_64 _ _) (mul_64 _ _))] [10, 11] ?_ -- 12
        refine gk_ret env ?_
        rw [with_both, if_neg (by simp; omega), if_neg (by omega), if_neg (by simpa using c3)]; simp [tupG]
end Go.Gh

namespace Go.Gh
open Go Go.Proofs
set_option maxRecDepth 1000000
set_option maxHeartbeats 2000000
set_option linter.unusedSimpArgs false
set_option linter.unusedVariables false
open Go.Proofs.YtfbijgbpipedoaaGreatDoor Go.Proofs.YtfbijgbpipedoaaGreatDoor.Ra Go.RowKit

theorem rght_F {t : List Un} {l : List Qu} (h : chk t = 0) : rght t l = rghtF t l 0 := by unfold rght; rw [if_pos h]
theorem sumR_def (t : List Un) (l : List Qu) (hc : chk t = 0) (hl : ¬ 100 < (l.length : Int)) (hr : rght t l = 0) : sumR t l = if sameF t l 0 then sumF t l 0 ⟨0, 1⟩ else (⟨0, 0⟩, 11) := by
  unfold sumR; rw [if_pos hc, if_neg hl, if_pos hr]

theorem rsum_ok (t : List Un) (ht : t.length ≤ 9223372036854775807) (hs : ∀ u, u ∈ t → u.name.size ≤ 9223372036854775807) (l : List Qu) (hl : l.length ≤ 9223372036854775807) : GC Tryz.prog 17 [rowU t, rowQ l] (.tup [qG (sumR t l).1, iG (sumR t l).2]) := by
  refine gc_of_gk Tryz.func17 ?_
  refine gk_region env false [] [0, 1, 4, 5] ?_ -- 0
  refine gk_region env false [.call (rcheck_ok t ht hs)] [0, 1, 4, 5, 6] ?_ -- 1
  refine gk_region env false [] [0, 1, 4, 5, 6, 18] ?_ -- 2
  refine gk_ifn (fun c1 => ?_) (fun c1 => ?_)
  · try simp only [toN] at c1
    refine gk_region env false [] [0, 1, 4, 5] ?_ -- 3
    refine gk_ret env ?_
    rw [sumR, if_neg (by simpa using c1)]; rfl
  · try simp only [toN] at c1
    refine gk_region env false [] [0, 1, 4, 5, 23] ?_ -- 4
    refine gk_ifd (fun c2 => ?_) (fun c2 => ?_)
    · try simp only [toN] at c2
      refine gk_region env false [] [0, 1, 4, 5] ?_ -- 5
      refine gk_ret env ?_
      rw [sumR, if_pos (by simpa using c1), if_pos c2]; rfl
    · try simp only [toN] at c2
      refine gk_region env false [] [0, 1, 4, 5, 7] ?_ -- 6
      refine gk_loop (α := Nat) (fun i => i ≤ l.length ∧ rght t l = rghtF t l i) (fun i => [(7, iG i)]) (fun _ => []) (fun i => l.length - i) 0 ⟨by omega, rght_F (by simpa using c1)⟩ ?_ -- loop 7
      rintro i ⟨hi, he⟩
      refine gk_region env false [] [0, 1, 4, 5, 7, 28] ?_ -- 7
      refine gk_ifd (fun c3 => ?_) (fun c3 => ?_)
      · try simp only [toN] at c3
        refine gk_region env false [.call (rightq_ok t (l.getD i default))] [0, 1, 4, 5, 7, 37] ?_ -- 9
        refine gk_if (fun c4 => ?_) (fun c4 => ?_)
        · try simp only [bb, toN] at c4
          refine gk_region env false [] [0, 1, 4, 5, 7] ?_ -- 10
          refine gk_ret env ?_
          have hn : rght t l = 1 := by rw [he, rghtF, if_pos (by omega), if_pos (by rw [quBad_not]; simpa using c4)]
          rw [sumR, if_pos (by simpa using c1), if_neg c2, if_neg (by rw [hn]; omega), hn]; rfl
        · try simp only [bb, toN] at c4
          refine gk_region env false [] [0, 1, 4, 5, 7] ?_ -- 8
          refine gk_round (i + 1) ?_
          refine ⟨by omega, ?_⟩
          rw [he, rghtF, if_pos (by omega), if_neg (by rw [quBad_not]; simpa using c4)]
      · try simp only [toN] at c3
        have hr0 : rght t l = 0 := by rw [he, rghtF, if_neg (by omega)]
        refine gk_region env false [] [0, 1, 4, 5, 8] ?_ -- 11
        refine gk_region env false [] [0, 1, 4, 5, 8, 9] ?_ -- 12
        refine gk_loop (α := Nat) (fun i => i ≤ l.length ∧ sameF t l 0 = sameF t l i) (fun i => [(9, iG i)]) (fun _ => []) (fun i => l.length - i) 0 ⟨by omega, rfl⟩ ?_ -- loop 13
        rintro i ⟨hi, he⟩
        have hq := fun j (hj : j < l.length) => rght_all hr0 hj
        refine gk_region env false [] [0, 1, 4, 5, 8, 9, 43] ?_ -- 13
        refine gk_ifd (fun c5 => ?_) (fun c5 => ?_)
        · try simp only [toN] at c5
          have q1 := hq i (by omega)
          have q0 := hq 0 (by omega)
          obtain ⟨a1, a2, a3, a4, a5⟩ := q1
          obtain ⟨b1, b2, b3, b4, b5⟩ := q0
          refine gk_region env false [] [0, 1, 4, 5, 8, 9, 63] ?_ -- 15
          refine gk_ifn (fun c6 => ?_) (fun c6 => ?_)
          · try simp only [toN] at c6
            refine gk_region env false [] [0, 1, 4, 5, 8, 9] ?_ -- 16
            refine gk_ret env ?_
            have e : sameF t l 0 = false := by rw [he, sameF, if_pos (by omega), if_neg (by simpa using c6)]
            rw [sumR_def t l (by simpa using c1) c2 hr0, e]; rfl
          · try simp only [toN] at c6
            refine gk_region env false [] [0, 1, 4, 5, 8, 9] ?_ -- 14
            refine gk_round (i + 1) ?_
            refine ⟨by omega, ?_⟩
            rw [he, sameF, if_pos (by omega), if_pos (by simpa using c6)]
        · try simp only [toN] at c5
          refine gk_region env false [] [0, 1, 4, 5, 8, 10] ?_ -- 17
          refine gk_loop (α := Nat × Q) (fun x => x.1 ≤ l.length ∧ Q64 x.2 ∧ sumR t l = sumF t l x.1 x.2) (fun x => [(10, iG x.1)]) (fun x => [(1, some (.box [iG x.2.n, iG x.2.d]))]) (fun x => l.length - x.1) (0, ⟨0, 1⟩) ⟨by simp, ⟨by simp, by simp, by simp, by simp⟩, by rw [sumR_def t l (by simpa using c1) c2 hr0, if_pos (by rw [he, sameF, if_neg (by omega)])]⟩ ?_ -- loop 18
          rintro ⟨i, a⟩ ⟨hi, ha, he⟩
          dsimp only at *
          refine gk_region env false [] [0, 1, 4, 5, 8, 10, 68] ?_ -- 18
          refine gk_ifd (fun c7 => ?_) (fun c7 => ?_)
          · try simp only [toN] at c7
            refine gk_region env false [.call (rvalue_ok t ht hs (l.getD i default))] [0, 1, 4, 5, 8, 10, 11] ?_ -- 20
            have hv : valueR t (l.getD i default) = (valV t (l.getD i default), 0) := valueR_yes (by simpa using c1) (hq i (by omega))
            rw [hv]
            refine gk_region env false [.call (radd_ok a (valV t (l.getD i default)) ha (make_64 _ _))] [0, 1, 4, 5, 8, 10, 13, 14] ?_ -- 21
            refine gk_region env false [] [0, 1, 4, 5, 8, 10, 13, 14, 87] ?_ -- 22
            refine gk_ifn (fun c8 => ?_) (fun c8 => ?_)
            · try simp only [toN] at c8
              refine gk_region env false [] [0, 1, 4, 5, 8, 10, 13] ?_ -- 23
              refine gk_ret env ?_
              rw [he, sumF, if_pos (by omega), if_neg (by simpa using c8)]; rfl
            · try simp only [toN] at c8
              refine gk_region env false [] [0, 1, 4, 5, 8, 10] ?_ -- 24
              refine gk_region env false [] [0, 1, 4, 5, 8, 10] ?_ -- 19
              refine gk_round ((i + 1, addV a (valV t (l.getD i default)))) ?_ (hm := by show l.length - (i + 1) < l.length - i; omega)
              refine ⟨by simp only; omega, add_64 _ _, ?_⟩
              rw [he, sumF, if_pos (by omega), if_pos (by simpa using c8)]
          · try simp only [toN] at c7
            refine gk_region env false [] [4, 5] ?_ -- 25
            refine gk_ret env ?_
            rw [he, sumF, if_neg (by omega)]; rfl
end Go.Gh

namespace Go.Gh
open Go Go.Proofs
set_option maxRecDepth 1000000
set_option maxHeartbeats 2000000
set_option linter.unusedSimpArgs false
set_option linter.unusedVariables false
open Go.Proofs.YtfbijgbpipedoaaGreatDoor Go.Proofs.YtfbijgbpipedoaaGreatDoor.Ra Go.RowKit

theorem hasS_not {s w : ByteArray} (h : hasS s w = false) : pcw s w = 0 := by unfold pcw; rw [h]; simp
theorem cutS_empty {s w : ByteArray} (h : hasS s w = true) (hz : (s.size : Int) - w.size < 1) : pcw s w = 0 := by
  have hle := ((hasS_iff s w).1 h).1
  have e : cutS s w = ⟨#[]⟩ := by
    rw [cutS_of h, empty_iff, ByteArray.size_extract]; omega
  unfold pcw
  rw [e]
  have : numOk ⟨#[]⟩ = false := by kernel_rfl
  rw [this]; simp
theorem per_not {s w : ByteArray} (h : (s.size : Int) - w.size < 1 ∨ ¬ s.extract (loI (some ((s.size : Int) - w.size))).toNat (hiI s.size none).toNat = w) : pcw s w = 0 := by
  cases hh : hasS s w with
  | false => exact hasS_not hh
  | true =>
    rcases h with h | h
    · exact cutS_empty hh h
    · obtain ⟨h1, h2⟩ := (hasS_iff s w).1 hh
      refine absurd ?_ h
      have e1 : (loI (some ((s.size : Int) - w.size))).toNat = s.size - w.size := by simp only [loI]; omega
      have e2 : (hiI s.size none).toNat = s.size := by simp only [hiI]; omega
      rw [e1, e2]; exact h2
theorem per_yes {s w : ByteArray} (h1 : ¬ (s.size : Int) - w.size < 1) (h2 : s.extract (loI (some ((s.size : Int) - w.size))).toNat (hiI s.size none).toNat = w) : hasS s w = true ∧ cutS s w = s.extract (loI none).toNat (hiI s.size (some ((s.size : Int) - w.size))).toNat := by
  have e1 : (loI (some ((s.size : Int) - w.size))).toNat = s.size - w.size := by simp only [loI]; omega
  have e2 : (hiI s.size none).toNat = s.size := by simp only [hiI]; omega
  rw [e1, e2] at h2
  have hh : hasS s w = true := (hasS_iff s w).2 ⟨by omega, h2⟩
  refine ⟨hh, ?_⟩
  rw [cutS_of hh]
  have e3 : (loI none).toNat = 0 := rfl
  have e4 : (hiI s.size (some ((s.size : Int) - w.size))).toNat = s.size - w.size := by simp only [hiI]; omega
  rw [e3, e4]
theorem ext_size (s : ByteArray) (i j : Nat) : (s.extract i j).size ≤ s.size := by rw [ByteArray.size_extract]; omega

theorem rpercent_ok (s w : ByteArray) (hs : s.size ≤ 1000) (hw : w.size ≤ 1000) : GC Tryz.prog 50 [sG s, sG w] (iG (pcw s w)) := by
  refine gc_of_gk Tryz.func50 ?_
  refine gk_region env false [] [0, 1, 4] ?_ -- 0
  refine gk_region env false [] [0, 1, 4, 5] ?_ -- 1
  refine gk_region env false [] [0, 4, 5, 21] ?_ (hp := by simp only [AllP, bb, toN, loI, hiI]; repeat' first | exact trivial | omega | apply And.intro | intro _) -- 2
  refine gk_if (fun c1 => ?_) (fun c1 => ?_)
  · try simp only [bb, toN] at c1
    refine gk_region env false [] [0, 4, 5] ?_ -- 3
    refine gk_ret env ?_
    rw [per_not (by simpa using c1)]; rfl
  · try simp only [bb, toN] at c1
    obtain ⟨p1, p2⟩ := per_yes (s := s) (w := w) (by omega) (by simpa using c1.2)
    have hn := numV_not (s := cutS s w)
    refine gk_region env false [.call (rnumber_ok (s.extract (loI none).toNat (hiI s.size (some ((s.size : Int) - w.size))).toNat) (Nat.le_trans (ext_size _ _ _) (by omega)))] [4, 6, 7] ?_ (hp := by simp only [AllP, bb, toN]; repeat' first | exact trivial | exact EntL.refl _ | (simp only [loI, hiI]; omega) | apply And.intro) -- 4
    refine gk_region env false [] [4, 6, 38] ?_ -- 5
    refine gk_if (fun c2 => ?_) (fun c2 => ?_)
    · try simp only [bb, toN] at c2
      refine gk_region env false [] [4, 6] ?_ -- 6
      refine gk_ret env ?_
      rw [← p2] at c2
      rw [pcw, if_pos (by simpa [p1] using c2)]; rfl
    · try simp only [bb, toN] at c2
      refine gk_region env false [] [4] ?_ -- 7
      refine gk_ret env ?_
      rw [← p2] at c2 ⊢
      rw [pcw, if_neg (by simpa [p1, and_assoc] using c2)]; rfl

theorem rtolerance_ok (s : ByteArray) (hs : s.size ≤ 1000) : GC Tryz.prog 23 [sG s] (.tup [iG (tolV s).less, iG (tolV s).more, bG (tolV s).ok]) := by
  rw [← rtol_eq]
  refine gc_of_gk Tryz.func23 ?_
  refine gk_region env false [] [0, 2, 3, 4] ?_ -- 0
  refine gk_region env false [] [0, 2, 3, 4, 9] ?_ -- 1
  refine gk_ifd (fun c1 => ?_) (fun c1 => ?_)
  · try simp only [toN] at c1
    refine gk_region env false [] [0, 2, 3, 4] ?_ -- 2
    refine gk_ret env ?_
    rw [rtol, if_pos c1]; rfl
  · try simp only [toN] at c1
    refine gk_region env false [] [0, 2, 3, 4, 11] ?_ -- 3
    refine gk_ifd (fun c2 => ?_) (fun c2 => ?_)
    · try simp only [toN] at c2
      refine gk_region env false [] [0, 2, 3, 4] ?_ -- 4
      refine gk_ret env ?_
      rw [rtol, if_neg c1, if_pos (show s = wAbout from c2)]; rfl
    · try simp only [toN] at c2
      refine gk_region env false [.call (rpercent_ok s vA hs (by decide))] [0, 2, 3, 4, 5] ?_ -- 5
      refine gk_region env false [.call (rpercent_ok s vB hs (by decide))] [0, 2, 3, 4, 5, 6] ?_ -- 6
      refine gk_region env false [.call (rpercent_ok s vC hs (by decide))] [2, 3, 4, 5, 6, 7] ?_ -- 7
      refine gk_region env false [] [2, 3, 4, 5, 6, 7, 19] ?_ -- 8
      refine gk_ifd (fun c3 => ?_) (fun c3 => ?_)
      · try simp only [toN] at c3
        refine gk_region env false [] [2, 3, 4, 6, 7] ?_ -- 9
        refine gk_ret env ?_
        rw [rtol, if_neg c1, if_neg (show ¬ s = wAbout from c2), if_pos c3]; rfl
      · try simp only [toN] at c3
        refine gk_region env false [] [2, 3, 4] ?_ -- 10
        refine gk_ret env ?_
        rw [rtol, if_neg c1, if_neg (show ¬ s = wAbout from c2), if_neg c3]; simp [tupG]

def atB (s : ByteArray) (i : Nat) : Nat := if i < s.size then if byteAt s i = 32 then i else atB s (i + 1) else i
termination_by s.size - i
theorem atB_list : ∀ (b a : List UInt8), atB (ofL (a ++ b)) a.length = a.length + (if 0 ≤ Lib.indexByte b 32 then (Lib.indexByte b 32).toNat else b.length) := by
  intro b
  induction b with
  | nil => intro a; rw [atB, if_neg (by rw [ofL_size]; simp)]; simp [Lib.indexByte]
  | cons c b ih =>
    intro a
    have hr := indexByte_lt b 32
    rw [atB, if_pos (by rw [ofL_size]; simp), ofL_at]
    have e : (a ++ c :: b).getD a.length 0 = c := by simp [List.getD]
    rw [e]
    by_cases hc : c = 32
    · subst hc
      rw [if_pos (by rfl)]
      simp [Lib.indexByte]
    · have h1 : ¬ ((c.toNat : Int) = 32) := fun h => by
        have h' : c.toNat = (32 : UInt8).toNat := by show c.toNat = 32; omega
        exact hc (UInt8.toNat_inj.1 h')
      rw [if_neg h1]
      have := ih (a ++ [c])
      rw [List.append_assoc, List.length_append] at this
      rw [show a ++ c :: b = a ++ ([c] ++ b) from rfl, show a.length + 1 = a.length + [c].length from rfl, this]
      have hi : Lib.indexByte (c :: b) 32 = if Lib.indexByte b 32 == -1 then -1 else Lib.indexByte b 32 + 1 := by
        simp only [Lib.indexByte]
        rw [if_neg (by simpa using hc)]
      rw [hi]
      by_cases hn : Lib.indexByte b 32 = -1
      · rw [hn]; simp; omega
      · generalize Lib.indexByte b 32 = k at *
        have hb : (k == -1) = false := by simpa using hn
        rw [hb, if_pos (show 0 ≤ k by omega)]
        simp only [Bool.false_eq_true, if_false]
        rw [if_pos (show 0 ≤ k + 1 by omega)]
        simp only [List.length_cons, List.length_nil]; omega
theorem atB_eq (s : ByteArray) : (atB s 0 : Int) = if 0 ≤ idx1 s 32 then idx1 s 32 else s.size := by
  have e1 : s = ofL s.data.toList := (ofL_self s).symm
  generalize s.data.toList = l at e1
  subst e1
  have := atB_list l []
  simp only [List.nil_append, List.length_nil, Nat.zero_add] at this
  rw [this, ofL_size]
  show _ = if 0 ≤ Lib.indexByte l 32 then Lib.indexByte l 32 else _
  split <;> omega
theorem read_at {t : List Un} {s : ByteArray} (hc : chk t = 0) : readR t s =
    if ((numOk (s.extract 0 (atB s 0)) = false ∨ (s.size : Int) ≤ atB s 0) ∨ 1000000000 < numV (s.extract 0 (atB s 0))) then (⟨0, 0⟩, 9)
    else if find t (s.extract (atB s 0 + 1) s.size) 0 = -1 then (⟨0, 0⟩, 9) else (⟨numV (s.extract 0 (atB s 0)), find t (s.extract (atB s 0 + 1) s.size) 0⟩, 0) := by
  have he := atB_eq s
  have hlt := idx1_lt s 32
  unfold readR
  rw [if_pos hc]
  by_cases hi : 0 ≤ idx1 s 32
  · rw [if_pos hi] at he
    have ea : cutA s 32 = s.extract 0 (atB s 0) := by unfold cutA; rw [if_pos hi]; congr 1; omega
    have eb : cutB s 32 = s.extract (atB s 0 + 1) s.size := by unfold cutB; rw [if_pos hi]; congr 1; omega
    rw [ea, eb]
    cases h1 : numOk (s.extract 0 (atB s 0)) with
    | false => simp
    | true =>
      have h2 : ¬ (s.size : Int) ≤ atB s 0 := by omega
      by_cases h3 : 1000000000 < numV (s.extract 0 (atB s 0))
      · simp [h3]
      · by_cases h4 : find t (s.extract (atB s 0 + 1) s.size) 0 = -1
        · simp [h4]
        · simp [h2, h3, h4]
  · rw [if_neg hi] at he
    have eb : cutB s 32 = ⟨#[]⟩ := by unfold cutB; rw [if_neg hi]
    have hf : find t ⟨#[]⟩ 0 = -1 := by
      refine Classical.byContradiction fun hn => ?_
      obtain ⟨f1, f2, f3⟩ := find_spec _ 0 rfl hn
      exact name_ne hc (m := (find t ⟨#[]⟩ 0).toNat) (by omega) f3
    rw [eb, hf, if_pos (by simp), if_pos (.inl (.inr (by omega)))]

theorem rread_ok (t : List Un) (ht : t.length ≤ 9223372036854775807) (hs : ∀ u, u ∈ t → u.name.size ≤ 9223372036854775807) (s : ByteArray) (hz : s.size ≤ 1000) : GC Tryz.prog 25 [rowU t, sG s] (.tup [quG (readR t s).1, iG (readR t s).2]) := by
  refine gc_of_gk Tryz.func25 ?_
  refine gk_region env false [] [0, 1, 4, 5] ?_ -- 0
  refine gk_region env false [.call (rcheck_ok t ht hs)] [0, 1, 4, 5, 6] ?_ -- 1
  refine gk_region env false [] [0, 1, 4, 5, 6, 14] ?_ -- 2
  refine gk_ifn (fun c1 => ?_) (fun c1 => ?_)
  · try simp only [toN] at c1
    refine gk_region env false [] [0, 1, 4, 5] ?_ -- 3
    refine gk_ret env ?_
    rw [readR, if_neg (by simpa using c1)]; rfl
  · try simp only [toN] at c1
    refine gk_region env false [] [0, 1, 4, 5, 7] ?_ -- 4
    refine gk_loop (α := Nat) (fun i => i ≤ s.size ∧ atB s 0 = atB s i) (fun i => [(7, iG i)]) (fun _ => []) (fun i => s.size - i) 0 ⟨by omega, rfl⟩ ?_ -- loop 5
    rintro i ⟨hi, he⟩
    refine gk_region env false [] [0, 1, 4, 5, 7, 26] ?_ -- 5
    refine gk_if (fun c2 => ?_) (fun c2 => ?_)
    · try simp only [bb, toN] at c2
      refine gk_region env false [] [0, 1, 4, 5, 7] ?_ -- 6
      refine gk_round (i + 1) ?_
      refine ⟨by omega, he.trans ?_⟩
      rw [atB, if_pos (by omega), if_neg c2.2]
    · try simp only [bb, toN] at c2
      have hA : atB s 0 = i := by
            rw [he, atB]
            by_cases hlt : i < s.size
            · rw [if_pos hlt, if_pos (by rcases c2 with h | h <;> omega)]
            · rw [if_neg hlt]
      have e1 : s.extract (loI none).toNat (hiI s.size (some (i : Int))).toNat = s.extract 0 (atB s 0) := by rw [hA]; rfl
      have e2 : s.extract (loI (some ((i : Int) + 1))).toNat (hiI s.size none).toNat = s.extract (atB s 0 + 1) s.size := by rw [hA]; rfl
      refine gk_region env false [.call (rnumber_ok (s.extract (loI none).toNat (hiI s.size (some (i : Int))).toNat) (Nat.le_trans (ext_size _ _ _) (by omega)))] [0, 1, 4, 5, 7, 8, 9] ?_ (hp := by simp only [AllP, bb, toN]; repeat' first | exact trivial | exact EntL.refl _ | (simp only [loI, hiI]; omega) | apply And.intro) -- 7
      refine gk_region env false [] [0, 1, 4, 5, 7, 8, 47] ?_ -- 8
      refine gk_if (fun c3 => ?_) (fun c3 => ?_)
      · try simp only [bb, toN] at c3
        refine gk_region env false [] [0, 1, 4, 5, 7, 8] ?_ -- 9
        refine gk_ret env ?_
        rw [e1, ← hA] at c3
        rw [read_at (by simpa using c1), if_pos (by simpa using c3)]; rfl
      · try simp only [bb, toN] at c3
        refine gk_region env false [.call (rfind_ok t (s.extract (loI (some ((i : Int) + 1))).toNat (hiI s.size none).toNat) ht)] [4, 5, 10] ?_ (hp := by simp only [AllP, bb, toN]; repeat' first | exact trivial | exact EntL.refl _ | omega | (simp only [loI, hiI]; omega) | apply And.intro) -- 10
        refine gk_region env false [] [4, 5, 10, 59] ?_ -- 11
        refine gk_ifd (fun c4 => ?_) (fun c4 => ?_)
        · try simp only [toN] at c4
          refine gk_region env false [] [4, 5, 10] ?_ -- 12
          refine gk_ret env ?_
          rw [e1, ← hA] at c3
          rw [e2] at c4
          rw [read_at (by simpa using c1), if_neg (by simpa using c3), if_pos c4]; rfl
        · try simp only [toN] at c4
          refine gk_region env false [] [4, 5] ?_ -- 13
          refine gk_ret env ?_
          rw [e1, ← hA] at c3
          rw [e2] at c4
          rw [e1, e2, read_at (by simpa using c1), if_neg (by simpa using c3), if_neg c4]; rfl

theorem fewF_all {t : List Un} : ∀ (k i : Nat), t.length - i = k → fewF t i = true → i ≤ 60 → (t.length : Int) ≤ 60 ∧ ∀ j, i ≤ j → j < t.length → (t.getD j default).name.size ≤ 60 := by
  intro k
  induction k with
  | zero =>
    intro i h hf hi
    rw [fewF, if_neg (by omega)] at hf
    exact ⟨by simpa using hf, fun j h1 h2 => by omega⟩
  | succ k ih =>
    intro i h hf hi
    by_cases h60 : i < 60
    · rw [fewF, if_pos ⟨by omega, h60⟩] at hf
      split at hf
      · cases hf
      · rename_i hn
        obtain ⟨h1, h2⟩ := ih (i + 1) (by omega) hf (by omega)
        refine ⟨h1, fun j h3 h4 => ?_⟩
        by_cases e : j = i
        · subst e; omega
        · exact h2 j (by omega) h4
    · rw [fewF, if_neg (by omega)] at hf
      have : (t.length : Int) ≤ 60 := by simpa using hf
      exact ⟨this, fun j h1 h2 => by omega⟩
theorem few_names {t : List Un} (h : fewF t 0 = true) : ∀ u, u ∈ t → u.name.size ≤ 1000 := fun u hu => by
  obtain ⟨j, hj⟩ := List.getElem?_of_mem hu
  have hlt := (List.getElem?_eq_some_iff.1 hj).1
  have := (fewF_all _ 0 rfl h (by omega)).2 j (Nat.zero_le _) hlt
  have e : t.getD j default = u := by rw [List.getD_eq_getElem?_getD, hj]; rfl
  rw [e] at this; omega

theorem tells_law (t : List Un) (ht : t.length ≤ 9223372036854775807) (hs : ∀ u, u ∈ t → u.name.size ≤ 9223372036854775807) (l : List Qu) (hl : l.length ≤ 9223372036854775807) (less more : Int) (s : ByteArray) : GC Tryz.prog 3 [rowU t, rowQ l, iG less, iG more, sG s] (bG true) := by
  refine gc_of_gk Tryz.func3 ?_
  refine gk_region env false [] [0, 1, 2, 3, 4, 10] ?_ -- 0
  refine gk_region env false [.call small_ok] [0, 1, 2, 3, 4, 10, 11] ?_ -- 1
  refine gk_region env false [.call (few_ok t ht hs)] [0, 1, 2, 3, 4, 10, 11, 43] ?_ -- 2
  refine gk_if (fun c1 => ?_) (fun c1 => ?_)
  · try simp only [bb, toN] at c1
    refine gk_region env false [] [0, 1, 2, 3, 4, 10, 11] ?_ -- 3
    refine gk_ret env ?_
    rfl
  · try simp only [bb, toN] at c1
    have hn := few_names c1.1.1
    refine gk_region env false [] [0, 1, 2, 3, 4, 10, 11, 12] ?_ -- 4
    refine gk_region env false [] [0, 1, 2, 3, 4, 10, 11, 12, 13] ?_ -- 5
    refine gk_region env false [] [0, 1, 2, 3, 4, 10, 11, 12, 13, 49] ?_ -- 6
    refine gk_join (α := Qu × Qu) (fun _ => True) (fun x => ⟨[(0, rowU t), (1, rowQ l), (2, iG less), (3, iG more), (4, sG s), (10, bG false), (11, bG true), (12, .ptr 0 0 0 0), (13, .ptr 1 0 0 0)], [(0, some (.box [iG x.1.n, iG x.1.u])), (1, some (.box [iG x.2.n, iG x.2.u]))], 2⟩) ?_ ?_
    · rintro ⟨a, b⟩ -
      dsimp only
      refine gk_region env false [.call (check_ok t ht hs), .call (rcheck_ok t ht hs), .call (find_ok t s ht), .call (rfind_ok t s ht), .call (print_ok t ht hs hn a), .call (rprint_ok t ht hs hn a)] [0, 1, 2, 3, 4, 10, 11, 12, 13, 78] ?_ -- 9
      refine gk_if (fun c2 => ?_) (fun c2 => ?_)
      · try simp only [bb, toN] at c2
        refine gk_region env false [] [0, 1, 2, 3, 4, 10, 11, 12, 13] ?_ -- 10
        refine gk_ret env ?_
        exfalso; simp at c2
      · try simp only [bb, toN] at c2
        refine gk_region env false [.call (Value_ok t ht hs a)] [0, 1, 2, 3, 4, 10, 11, 12, 13, 14, 15] ?_ -- 11
        refine gk_region env false [.call (rvalue_ok t ht hs a)] [0, 1, 2, 3, 4, 10, 11, 12, 13, 14, 15, 16, 17] ?_ -- 12
        refine gk_region env false [.eq (eq_ratio (valueR t a).1.n (valueR t a).1.d (valueR t a).1.n (valueR t a).1.d)] [0, 1, 2, 3, 4, 10, 11, 12, 13, 14, 15, 16, 17, 98] ?_ -- 13
        refine gk_if (fun c3 => ?_) (fun c3 => ?_)
        · try simp only [bb, toN] at c3
          refine gk_region env false [] [0, 1, 2, 3, 4, 10, 11, 12, 13, 14, 15, 16, 17] ?_ -- 14
          refine gk_ret env ?_
          exfalso; simp at c3
        · try simp only [bb, toN] at c3
          refine gk_region env false [.call (convert_ok t ht hs a b.u)] [0, 1, 2, 3, 4, 10, 11, 12, 13, 14, 15, 16, 17] ?_ -- 15
          refine gk_region env false [.call (rconvert_ok t ht hs a b.u)] [0, 1, 2, 3, 4, 10, 11, 12, 13, 14, 15, 16, 17] ?_ -- 16
          refine gk_region env false [.eq (eq_ratio (convR t a b.u).1.n (convR t a b.u).1.d (convR t a b.u).1.n (convR t a b.u).1.d)] [0, 1, 2, 3, 4, 10, 11, 12, 13, 14, 15, 16, 17, 122] ?_ -- 17
          refine gk_if (fun c4 => ?_) (fun c4 => ?_)
          · try simp only [bb, toN] at c4
            refine gk_region env false [] [0, 1, 2, 3, 4, 10, 11, 12, 13, 14, 15, 16, 17] ?_ -- 18
            refine gk_ret env ?_
            exfalso; simp at c4
          · try simp only [bb, toN] at c4
            refine gk_region env false [.call (sum_ok t ht hs l hl)] [0, 1, 2, 3, 4, 10, 11, 12, 13, 14, 15, 16, 17] ?_ -- 19
            refine gk_region env false [.call (rsum_ok t ht hs l hl)] [0, 2, 3, 4, 10, 11, 12, 13, 14, 15, 16, 17] ?_ -- 20
            refine gk_region env false [.eq (eq_ratio (sumR t l).1.n (sumR t l).1.d (sumR t l).1.n (sumR t l).1.d)] [0, 2, 3, 4, 10, 11, 12, 13, 15, 17, 142] ?_ -- 21
            refine gk_if (fun c5 => ?_) (fun c5 => ?_)
            · try simp only [bb, toN] at c5
              refine gk_region env false [] [0, 2, 3, 4, 10, 11, 12, 13, 15, 17] ?_ -- 22
              refine gk_ret env ?_
              exfalso; simp at c5
            · try simp only [bb, toN] at c5
              refine gk_region env false [.call (compare_ok t ht hs a b)] [0, 2, 3, 4, 10, 11, 12, 13, 15, 17, 18] ?_ -- 23
              refine gk_region env false [.call (rcompare_ok t ht hs a b)] [0, 2, 3, 4, 10, 11, 12, 13, 15, 17, 18, 19] ?_ -- 24
              refine gk_region env false [] [0, 2, 3, 4, 10, 11, 12, 13, 15, 17, 164] ?_ -- 25
              refine gk_if (fun c6 => ?_) (fun c6 => ?_)
              · try simp only [bb, toN] at c6
                refine gk_region env false [] [0, 2, 3, 4, 10, 11, 12, 13, 15, 17] ?_ -- 26
                refine gk_ret env ?_
                exfalso; simp at c6
              · try simp only [bb, toN] at c6
                refine gk_region env false [.call (within_ok t ht hs a less more b)] [0, 2, 3, 4, 10, 11, 12, 13, 15, 17, 20] ?_ -- 27
                refine gk_region env false [.call (rwithin_ok t ht hs a less more b)] [0, 4, 10, 11, 15, 17, 20, 21] ?_ -- 28
                refine gk_region env false [] [0, 4, 10, 11, 15, 17, 190] ?_ -- 29
                refine gk_if (fun c7 => ?_) (fun c7 => ?_)
                · try simp only [bb, toN] at c7
                  refine gk_region env false [] [0, 4, 10, 11, 15, 17] ?_ -- 30
                  refine gk_ret env ?_
                  exfalso; simp at c7
                · try simp only [bb, toN] at c7
                  refine gk_region env false [.call (tolerance_ok s (by omega))] [0, 4, 10, 11, 15, 17, 22, 23, 24] ?_ -- 31
                  refine gk_region env false [.call (rtolerance_ok s (by omega))] [0, 4, 10, 11, 15, 17, 22, 23, 24, 25, 26, 27] ?_ -- 32
                  refine gk_region env false [] [0, 4, 10, 11, 15, 17, 215] ?_ -- 33
                  refine gk_if (fun c8 => ?_) (fun c8 => ?_)
                  · try simp only [bb, toN] at c8
                    refine gk_region env false [] [0, 4, 10, 11, 15, 17] ?_ -- 34
                    refine gk_ret env ?_
                    exfalso; simp at c8
                  · try simp only [bb, toN] at c8
                    refine gk_region env false [.call (read_ok t ht hs s (by omega))] [0, 4, 10, 11, 15, 17, 28] ?_ -- 35
                    refine gk_region env false [.call (rread_ok t ht hs s (by omega))] [10, 11, 15, 17, 28, 29] ?_ -- 36
                    refine gk_region env false [.eq (eq_quantity (readR t s).1.n (readR t s).1.u (readR t s).1.n (readR t s).1.u)] [10] ?_ -- 37
                    refine gk_ret env ?_
                    simp [tupG]
    refine gk_ifd (fun c9 => ?_) (fun c9 => ?_)
    · try simp only [toN] at c9
      refine gk_region env false [] [0, 1, 2, 3, 4, 10, 11, 12, 13] ?_ -- 7
      refine gk_region env false [] [0, 1, 2, 3, 4, 10, 11, 12, 13] ?_ -- 8
      refine gk_goal ((l.getD 0 default, l.getD 1 default)) ?_
      trivial
    · try simp only [toN] at c9
      refine gk_goal ((⟨0, 0⟩, ⟨0, 0⟩)) ?_
      trivial
end Go.Gh
