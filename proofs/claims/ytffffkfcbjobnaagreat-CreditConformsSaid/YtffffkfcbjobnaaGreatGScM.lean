/- Walks by the logic of calls, and plain laws. -/
import Derived.Test.YtffffkfcbjobnaaGreatGScL
namespace Go.Gh
open Go Go.Proofs
set_option maxRecDepth 1000000
set_option maxHeartbeats 2000000
set_option linter.unusedSimpArgs false
set_option linter.unusedVariables false
open Go.RowKit

theorem few_step {f : Fl} (hf : fewF f = true) {k n : Nat} (hk : k < f.words.length) (he : n * sz (f.words.drop k) = sz f.words) (hn : n ≤ 6 ^ k) : n * (f.words.getD k default).length * sz (f.words.drop (k + 1)) = sz f.words ∧ n * (f.words.getD k default).length ≤ 6 ^ (k + 1) ∧ n * (f.words.getD k default).length ≤ 60466176 := by
  simp only [fewF, fewW, Bool.and_eq_true, decide_eq_true_eq, List.all_eq_true] at hf
  rw [sz_at hk, ← Nat.mul_assoc] at he
  have h1 := (hf.2 _ (getD_mem hk)).1
  have h2 : n * (f.words.getD k default).length ≤ 6 ^ (k + 1) := by rw [Nat.pow_succ]; exact Nat.mul_le_mul hn h1
  have h3 : 6 ^ (k + 1) ≤ 6 ^ 10 := Nat.pow_le_pow_right (by omega) (by omega)
  exact ⟨he, h2, by omega⟩
theorem few_field {d : Dc} (h : fewD d = true) (n : Nat) : fewF (d.fields.getD n default) = true := by
  by_cases hn : n < d.fields.length
  · simp only [fewD, Bool.and_eq_true, List.all_eq_true] at h
    exact h.2 _ (getD_mem hn)
  · rw [List.getD_eq_getElem?_getD, List.getElem?_eq_none (by omega)]
    rfl

theorem rsizeT_ok (f : Fl) (hf : fewF f = true) : GC Tryz.prog 115 [flG f] (iG (sz f.words)) := by
  have hw : f.words.length ≤ 10 := by simp only [fewF, Bool.and_eq_true, decide_eq_true_eq] at hf; omega
  refine gc_of_gk Tryz.func115 ?_
  refine gk_region env false [] [1, 2] ?_ -- 0
  refine gk_region env false [] [1, 2, 3] ?_ -- 1
  refine gk_region env false [] [1, 2, 3, 4] ?_ -- 2
  refine gk_loop (α := Nat × Nat) (fun x => x.1 ≤ f.words.length ∧ x.2 * sz (f.words.drop x.1) = sz f.words ∧ x.2 ≤ 6 ^ x.1) (fun x => [(4, iG x.1), (3, iG x.2)]) (fun _ => []) (fun x => f.words.length - x.1) (0, 1) ⟨by simp, by simp, by simp⟩ ?_ -- loop 3
  rintro ⟨k, n⟩ ⟨hk, he, hn⟩
  dsimp only at *
  refine gk_region env false [] [1, 2, 3, 4, 9] ?_ -- 3
  refine gk_ifd (fun c1 => ?_) (fun c1 => ?_)
  · try simp only [toN] at c1
    have hk2 := few_step hf (show k < f.words.length by omega) he hn
    have hk3 : (n : Int) * ((f.words.getD k default).length : Int) = ((n * (f.words.getD k default).length : Nat) : Int) := (Int.natCast_mul _ _).symm
    refine gk_region env false [] [1, 2, 3, 4] ?_ -- 5
    refine gk_region env false [] [1, 2, 3, 4] ?_ -- 4
    refine gk_round ((k + 1, n * (f.words.getD k default).length)) ?_
    exact ⟨by simp only; omega, hk2.1, hk2.2.1⟩
  · try simp only [toN] at c1
    refine gk_region env false [] [2] ?_ -- 6
    refine gk_ret env ?_
    have e : k = f.words.length := by omega
    subst e
    rw [List.drop_length] at he
    have e2 : n = sz f.words := by rw [← he]; simp [sz]
    rw [e2]; rfl


end Go.Gh
