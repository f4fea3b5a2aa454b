/- Walks by the logic of calls, and plain laws. -/
import Derived.Test.YtffffkfcbjobnaaGreatTab
namespace Go.Gh
open Go Go.Proofs
set_option maxRecDepth 1000000
set_option maxHeartbeats 2000000
set_option linter.unusedSimpArgs false
set_option linter.unusedVariables false
def letter (c : Int) : Bool := decide (97 ≤ c) && decide (c ≤ 122) || decide (65 ≤ c) && decide (c ≤ 90)
def digit (c : Int) : Bool := decide (48 ≤ c) && decide (c ≤ 57)
def inner (c : Int) : Bool := letter c || digit c || decide (c = 95)
def span (p : Int → Bool) (s : ByteArray) (i : Nat) : Int := if i < s.size then if p (byteAt s i) then span p s (i + 1) else i else i
termination_by s.size - i
def numVal (s : ByteArray) (i : Nat) (n : Int) : Int := if i < s.size then numVal s (i + 1) (10 * n + (byteAt s i - 48)) else n
termination_by s.size - i
def numBad (s : ByteArray) : Bool := decide (s = ⟨#[]⟩) || !decide (span digit s 0 = s.size) || decide (byteAt s 0 = 48) && !decide (s = ⟨#[48]⟩) || decide ((13 : Int) < s.size)
def numV (s : ByteArray) : Int := if numBad s then 0 else if 1099511627776 < numVal s 0 0 then 0 else numVal s 0 0
def numOk (s : ByteArray) : Bool := !numBad s && !decide (1099511627776 < numVal s 0 0)
theorem span_digit (s : ByteArray) : ∀ (k i : Nat), s.size - i = k → span digit s i = s.size → ∀ j, i ≤ j → j < s.size → digit (byteAt s j) = true := by
  intro k
  induction k with
  | zero => intro i h _ j h1 h2; omega
  | succ k ih =>
    intro i h hs j h1 h2
    rw [span, if_pos (by omega)] at hs
    split at hs
    · rename_i hd
      by_cases e : j = i
      · subst e; exact hd
      · exact ih (i + 1) (by omega) hs j (by omega) h2
    · omega
theorem numBad_at {s : ByteArray} (h : numBad s = false) : span digit s 0 = s.size ∧ s.size ≤ 13 := by
  simp [numBad] at h
  exact ⟨h.1.1.2, by omega⟩
theorem digit_of {s : ByteArray} (h : numBad s = false) {i : Nat} (hi : i < s.size) : 48 ≤ byteAt s i ∧ byteAt s i ≤ 57 := by
  have := span_digit s _ 0 rfl (numBad_at h).1 i (Nat.zero_le _) hi
  simpa [digit] using this
theorem pow_le {s : ByteArray} (h : numBad s = false) {i : Nat} (hi : i ≤ s.size) : (10 : Int) ^ i ≤ 10 ^ 13 := by
  have := Nat.pow_le_pow_right (n := 10) (by omega) (show i ≤ 13 by have := (numBad_at h).2; omega)
  exact_mod_cast this
def nameOk (s : ByteArray) : Bool := !decide (s = ⟨#[]⟩) && letter (byteAt s 0) && decide ((s.size : Int) ≤ 20) && decide (span inner s 0 = s.size)

theorem letter_ok (c : Int) : GC Tryz.prog 138 [cG c] (bG (letter c)) := by
  refine gc_of_gk Tryz.func138 ?_
  refine gk_region env false [] [0, 2] ?_ -- 0
  refine gk_region env false [] [2] ?_ -- 1
  refine gk_ret env ?_
  simp [letter, tupG, Bool.or_assoc]

theorem digit_ok (c : Int) : GC Tryz.prog 58 [cG c] (bG (digit c)) := by
  refine gc_of_gk Tryz.func58 ?_
  refine gk_region env false [] [0, 2] ?_ -- 0
  refine gk_region env false [] [2] ?_ -- 1
  refine gk_ret env ?_
  simp [digit, tupG]

theorem inner_ok (c : Int) : GC Tryz.prog 139 [cG c] (bG (inner c)) := by
  refine gc_of_gk Tryz.func139 ?_
  refine gk_region env false [] [0, 2] ?_ -- 0
  refine gk_region env false [.call (letter_ok c), .call (digit_ok c)] [2] ?_ -- 1
  refine gk_ret env ?_
  simp [inner, tupG]

theorem spanI_ok (s : ByteArray) (hs : s.size ≤ 9223372036854775807) : GC Tryz.prog 57 [sG s, fG 139] (iG (span inner s 0)) := by
  refine gc_of_gk Tryz.func57 ?_
  refine gk_region env false [] [0, 1, 4] ?_ -- 0
  refine gk_region env false [] [0, 1, 4, 5] ?_ -- 1
  refine gk_loop (α := Nat) (fun i => i ≤ s.size ∧ span inner s 0 = span inner s i) (fun i => [(5, iG i)]) (fun _ => []) (fun i => s.size - i) 0 ⟨by omega, rfl⟩ ?_ -- loop 2
  rintro i ⟨hi, he⟩
  refine gk_region env false [.call (inner_ok (byteAt s i))] [0, 1, 4, 5, 16] ?_ -- 2
  refine gk_if (fun c1 => ?_) (fun c1 => ?_)
  · try simp only [bb, toN] at c1
    refine gk_region env false [] [0, 1, 4, 5] ?_ -- 3
    refine gk_round (i + 1) ?_
    refine ⟨by omega, he.trans ?_⟩
    rw [span, if_pos (by omega), if_pos c1.2]
  · try simp only [bb, toN] at c1
    refine gk_region env false [] [4] ?_ -- 4
    refine gk_ret env ?_
    rw [he, span]
    rcases c1 with h | h
    · rw [if_neg (by omega)]; rfl
    · rw [h]; simp [tupG]

theorem spanD_ok (s : ByteArray) (hs : s.size ≤ 9223372036854775807) : GC Tryz.prog 57 [sG s, fG 58] (iG (span digit s 0)) := by
  refine gc_of_gk Tryz.func57 ?_
  refine gk_region env false [] [0, 1, 4] ?_ -- 0
  refine gk_region env false [] [0, 1, 4, 5] ?_ -- 1
  refine gk_loop (α := Nat) (fun i => i ≤ s.size ∧ span digit s 0 = span digit s i) (fun i => [(5, iG i)]) (fun _ => []) (fun i => s.size - i) 0 ⟨by omega, rfl⟩ ?_ -- loop 2
  rintro i ⟨hi, he⟩
  refine gk_region env false [.call (digit_ok (byteAt s i))] [0, 1, 4, 5, 16] ?_ -- 2
  refine gk_if (fun c1 => ?_) (fun c1 => ?_)
  · try simp only [bb, toN] at c1
    refine gk_region env false [] [0, 1, 4, 5] ?_ -- 3
    refine gk_round (i + 1) ?_
    refine ⟨by omega, he.trans ?_⟩
    rw [span, if_pos (by omega), if_pos c1.2]
  · try simp only [bb, toN] at c1
    refine gk_region env false [] [4] ?_ -- 4
    refine gk_ret env ?_
    rw [he, span]
    rcases c1 with h | h
    · rw [if_neg (by omega)]; rfl
    · rw [h]; simp [tupG]

theorem name_ok (s : ByteArray) (hs : s.size ≤ 9223372036854775807) : GC Tryz.prog 106 [sG s] (bG (nameOk s)) := by
  refine gc_of_gk Tryz.func106 ?_
  refine gk_region env false [] [0, 2] ?_ -- 0
  refine gk_region env false [.call (letter_ok _), .call (spanI_ok s hs)] [2] ?_ -- 1
  refine gk_ret env ?_
  simp [nameOk, tupG]

theorem number_ok (s : ByteArray) (hs : s.size ≤ 9223372036854775807) : GC Tryz.prog 37 [sG s] (.tup [iG (numV s), bG (numOk s)]) := by
  obtain ⟨V, hV⟩ : ∃ V, V = numV s := ⟨_, rfl⟩
  obtain ⟨O, hO⟩ : ∃ O, O = numOk s := ⟨_, rfl⟩
  rw [← hV, ← hO]
  unfold numV at hV
  unfold numOk at hO
  refine gc_of_gk Tryz.func37 ?_
  refine gk_region env false [] [0, 2, 3] ?_ -- 0
  refine gk_region env false [.call (spanD_ok s hs)] [0, 2, 3, 28] ?_ -- 1
  refine gk_if (fun c1 => ?_) (fun c1 => ?_)
  · try simp only [bb, toN] at c1
    refine gk_region env false [] [0, 2, 3] ?_ -- 2
    refine gk_ret env ?_
    rw [hV, hO, show numBad s = true by simpa [numBad] using c1]; rfl
  · try simp only [bb, toN] at c1
    refine gk_region env false [] [0, 2, 3, 4] ?_ -- 3
    refine gk_region env false [] [0, 2, 3, 4, 30, 31] ?_ -- 4
    refine gk_loop (α := Nat × Int) (fun x => x.1 ≤ s.size ∧ numVal s 0 0 = numVal s x.1 x.2 ∧ 0 ≤ x.2 ∧ x.2 + 1 ≤ 10 ^ x.1) (fun x => [(31, iG x.1), (4, iG x.2)]) (fun _ => []) (fun x => s.size - x.1) (0, 0) ⟨by simp, rfl, by simp, by simp⟩ ?_ -- loop 5
    rintro ⟨i, n⟩ ⟨hi, hn, h0, h1⟩
    dsimp only at *
    have hb : numBad s = false := by simpa [numBad, and_assoc, Decidable.imp_iff_not_or] using c1
    have hp : (10 : Int) ^ i ≤ 10 ^ 13 := pow_le hb hi
    have hdg := fun h => digit_of hb (i := i) h
    refine gk_region env false [] [0, 2, 3, 4, 30, 31, 32] ?_ -- 5
    refine gk_ifd (fun c2 => ?_) (fun c2 => ?_)
    · try simp only [toN] at c2
      refine gk_region env false [] [0, 2, 3, 4, 5, 30, 31] ?_ -- 6
      have hd := hdg (by omega)
      refine gk_region env false [] [0, 2, 3, 4, 30, 31] ?_ -- 7
      refine gk_region env false [] [0, 2, 3, 4, 30, 31] ?_ -- 8
      refine gk_round ((i + 1, 10 * n + (byteAt s i - 48))) ?_
      refine ⟨by simp only; omega, ?_, ?_, ?_⟩
      · rw [hn, numVal, if_pos (by omega)]
      · have := hdg (by omega); dsimp only; omega
      · have := hdg (by omega); dsimp only; rw [Int.pow_succ]; omega
    · try simp only [toN] at c2
      refine gk_region env false [] [2, 3, 4, 44] ?_ -- 9
      refine gk_ifd (fun c3 => ?_) (fun c3 => ?_)
      · try simp only [toN] at c3
        refine gk_region env false [] [2, 3, 4] ?_ -- 10
        refine gk_ret env ?_
        have e : numVal s i n = n := by rw [numVal, if_neg (by omega)]
        simp [hV, hO, hb, hn, e, c3, tupG]
      · try simp only [toN] at c3
        refine gk_region env false [] [2, 3] ?_ -- 11
        refine gk_ret env ?_
        have e : numVal s i n = n := by rw [numVal, if_neg (by omega)]
        simp [hV, hO, hb, hn, e, c3, tupG]
end Go.Gh
