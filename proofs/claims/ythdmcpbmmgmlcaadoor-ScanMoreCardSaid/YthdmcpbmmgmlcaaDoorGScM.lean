/- Walks by the logic of calls, and plain laws. -/
import Derived.Test.YthdmcpbmmgmlcaaDoorGScL
namespace Go.Gh
open Go Go.Proofs
set_option maxRecDepth 1000000
set_option maxHeartbeats 2000000
set_option linter.unusedSimpArgs false
set_option linter.unusedVariables false
open Go.RowKit

theorem few_step {f : Fl} (hf : fewF f = true) {k n : Nat} (hk : k < f.words.length) (he : n * sz (f.words.drop k) = sz f.words) (hn : n ≤ 6 ^ k) : n * (f.words.getD k default).length * sz (f.words.drop (k + 1)) = sz f.words ∧ n * (f.words.getD k default).length ≤ 6 ^ (k + 1) ∧ n * (f.words.getD k default).length ≤ 60466176 := by
  simp only [fewF, fewW, Bool.and_eq_true, decide_eq_true_eq, List.all_eq_true] at hf
  rw [sz_at hk, ← Nat.mul_assoc] at he
  have h1 := (hf.2 _ (getD_mem hk)).1
  have h2 : n * (f.words.getD k default).length ≤ 6 ^ (k + 1) := by rw [Nat.pow_succ]; exact Nat.mul_le_mul hn h1
  have h3 : 6 ^ (k + 1) ≤ 6 ^ 10 := Nat.pow_le_pow_right (by omega) (by omega)
  exact ⟨he, h2, by omega⟩
theorem few_field {d : Dc} (h : fewD d = true) (n : Nat) : fewF (d.fields.getD n default) = true := by
  by_cases hn : n < d.fields.length
  · simp only [fewD, Bool.and_eq_true, List.all_eq_true] at h
    exact h.2 _ (getD_mem hn)
  · rw [List.getD_eq_getElem?_getD, List.getElem?_eq_none (by omega)]
    rfl

theorem rsizeT_ok (f : Fl) (hf : fewF f = true) : GC Tryd.prog 35 [flG f] (iG (sz f.words)) := by
  have hw : f.words.length ≤ 10 := by simp only [fewF, Bool.and_eq_true, decide_eq_true_eq] at hf; omega
  refine gc_of_gk Tryd.func35 ?_
  refine gk_region env false [] [1, 2] ?_ -- 0
  refine gk_region env false [] [1, 2, 3] ?_ -- 1
  refine gk_region env false [] [1, 2, 3, 4] ?_ -- 2
  refine gk_loop (α := Nat × Nat) (fun x => x.1 ≤ f.words.length ∧ x.2 * sz (f.words.drop x.1) = sz f.words ∧ x.2 ≤ 6 ^ x.1) (fun x => [(4, iG x.1), (3, iG x.2)]) (fun _ => []) (fun x => f.words.length - x.1) (0, 1) ⟨by simp, by simp, by simp⟩ ?_ -- loop 3
  rintro ⟨k, n⟩ ⟨hk, he, hn⟩
  dsimp only at *
  refine gk_region env false [] [1, 2, 3, 4, 9] ?_ -- 3
  refine gk_ifd (fun c1 => ?_) (fun c1 => ?_)
  · try simp only [toN] at c1
    have hk2 := few_step hf (show k < f.words.length by omega) he hn
    have hk3 : (n : Int) * ((f.words.getD k default).length : Int) = ((n * (f.words.getD k default).length : Nat) : Int) := (Int.natCast_mul _ _).symm
    refine gk_region env false [] [1, 2, 3, 4] ?_ -- 5
    refine gk_region env false [] [1, 2, 3, 4] ?_ -- 4
    refine gk_round ((k + 1, n * (f.words.getD k default).length)) ?_
    exact ⟨by simp only; omega, hk2.1, hk2.2.1⟩
  · try simp only [toN] at c1
    refine gk_region env false [] [2] ?_ -- 6
    refine gk_ret env ?_
    have e : k = f.words.length := by omega
    subst e
    rw [List.drop_length] at he
    have e2 : n = sz f.words := by rw [← he]; simp [sz]
    rw [e2]; rfl

theorem rcertain_ok (d : Dc) (hw : fewD d = true) (n : Int) : GC Tryd.prog 15 [dcG d, iG n] (.tup [sG (certE d n).1, bG (certE d n).2]) := by
  have hd := few_fit hw
  have hd2 := hd.fields
  refine gc_of_gk Tryd.func15 ?_
  refine gk_region env false [] [1, 2, 4, 5] ?_ -- 0
  refine gk_region env false [.call (rcheck_ok d hd), .call (rsizeT_ok (d.fields.getD n.toNat default) (few_field hw _))] [1, 2, 4, 5, 28] ?_ -- 1
  refine gk_if (fun c1 => ?_) (fun c1 => ?_)
  · try simp only [bb, toN] at c1
    refine gk_region env false [] [1, 2, 4, 5] ?_ -- 2
    refine gk_ret env ?_
    rw [certE, if_neg (fun h => by obtain ⟨a1, a2, a3⟩ := hasB_at h.1; have h2 := h.2; rw [fieldAt] at h2; omega)]; rfl
  · try simp only [bb, toN] at c1
    have hb : hasB d n = true := by rw [hasB_eq]; simp; omega
    have hg : Good (d.fields.getD n.toNat default) := hasB_good hb
    refine gk_region env false [.call (rtext_ok (d.fields.getD n.toNat default) hg 0 (by omega))] [4, 5] ?_ -- 3
    refine gk_ret env ?_
    rw [certE, if_pos ⟨hb, by rw [fieldAt]; omega⟩]; rfl

theorem rtexts_ok (d : Dc) (hd : Fit d) (n : Int) : GC Tryd.prog 19 [dcG d, iG n] (.tup [rowS (textsE d n).1, iG (textsE d n).2]) := by
  have hd2 := hd.fields
  refine gc_of_gk Tryd.func19 ?_
  refine gk_region env false [] [1, 2, 4, 5] ?_ -- 0
  refine gk_region env false [.call (rcheck_ok d hd)] [1, 2, 4, 5, 6] ?_ -- 1
  refine gk_region env false [] [1, 2, 4, 5, 6, 13] ?_ -- 2
  refine gk_ifn (fun c1 => ?_) (fun c1 => ?_)
  · try simp only [toN] at c1
    refine gk_region env false [] [1, 2, 4, 5] ?_ -- 3
    refine gk_retE env ?_
    rw [textsE, if_neg c1]; exact Ent.tup ⟨Ent.nil, Ent.refl _, trivial⟩
  · try simp only [toN] at c1
    refine gk_region env false [] [1, 2, 4, 5, 23] ?_ -- 4
    refine gk_if (fun c2 => ?_) (fun c2 => ?_)
    · try simp only [bb, toN] at c2
      refine gk_region env false [] [1, 2, 4, 5] ?_ -- 5
      refine gk_retE env ?_
      have hb : hasB d n = false := by
        cases hb : hasB d n with
        | false => rfl
        | true => obtain ⟨a1, a2, a3⟩ := hasB_at hb; omega
      rw [textsE, if_pos c1, if_neg (by simp [hb])]; exact Ent.tup ⟨Ent.nil, Ent.refl _, trivial⟩
    · try simp only [bb, toN] at c2
      have hb : hasB d n = true := by rw [hasB_eq]; simp; omega
      obtain ⟨h1, h2, h3⟩ := hasB_at hb
      have hg : Good (d.fields.getD n.toNat default) := hasB_good hb
      have hsz := hg.sz
      have hfa : sz (fieldAt d n).words = sz (d.fields.getD n.toNat default).words := rfl
      refine gk_region env false [.call (rsize_ok (d.fields.getD n.toNat default) hg)] [1, 2, 4, 5, 7] ?_ -- 6
      refine gk_region env false [] [1, 2, 4, 5, 7, 31] ?_ -- 7
      refine gk_ifd (fun c3 => ?_) (fun c3 => ?_)
      · try simp only [toN] at c3
        refine gk_region env false [] [1, 2, 4, 5, 7] ?_ -- 8
        refine gk_retE env ?_
        rw [textsE, if_pos c1, if_pos hb, if_pos (by omega)]; exact Ent.tup ⟨Ent.nil, Ent.refl _, trivial⟩
      · try simp only [toN] at c3
        refine gk_region env false [] [1, 2, 4, 5, 7, 8] ?_ -- 9
        refine gk_nil 8 9 1 (default : ByteArray) strC (by rfl) (by rfl) ?_
        refine gk_region env false [] [1, 2, 4, 5, 7, 8, 9] ?_ -- 10
        refine gk_loop (α := Nat) (fun k => k ≤ sz (d.fields.getD n.toNat default).words) (fun k => [(9, iG k), (8, .sl 1 1 0 k)]) (fun k => [(1, some (.row 9 1 default strC ((List.range k).map (textF (d.fields.getD n.toNat default))) 0))]) (fun k => sz (d.fields.getD n.toNat default).words - k) 0 (Nat.zero_le _) ?_ -- loop 11
        rintro k hk
        refine gk_region env false [] [1, 2, 4, 5, 7, 8, 9, 34] ?_ -- 11
        refine gk_ifd (fun c4 => ?_) (fun c4 => ?_)
        · try simp only [toN] at c4
          refine gk_region env false [.call (rtext_ok (d.fields.getD n.toNat default) hg k (by omega)), .el default strC [textF (d.fields.getD n.toNat default) k], .el default strC ((List.range k).map (textF (d.fields.getD n.toNat default)) ++ [textF (d.fields.getD n.toNat default) k])] [1, 2, 4, 5, 7, 8, 9] ?_ (hp := (by simp only [AllP, Int.toNat_natCast, List.length_map, List.length_range]; repeat' first | exact trivial | exact EntL.refl _ | exact BEntL.refl _ | exact rfl | omega | (simp only [List.length_append, List.length_cons, List.length_nil, List.length_map, List.length_range]; omega) | apply And.intro | intro _ | (simp [rowL, strC]; done))) -- 13
          refine gk_region env false [] [1, 2, 4, 5, 7, 8, 9] ?_ -- 12
          refine gk_round (k + 1) ?_ (hp := by simp [AllP, List.range_succ])
          omega
        · try simp only [toN] at c4
          refine gk_region env false [] [4, 5] ?_ -- 14
          refine gk_ret env ?_
          obtain rfl : k = sz (d.fields.getD n.toNat default).words := by omega
          rw [textsE, if_pos c1, if_pos hb, if_neg (by omega)]; rfl
end Go.Gh
