/- Walks by the logic of calls, and plain laws. -/
import Derived.Test.YtffffkfcbjobnaaGreatGScE
namespace Go.Gh
open Go Go.Proofs
set_option maxRecDepth 1000000
set_option maxHeartbeats 2000000
set_option linter.unusedSimpArgs false
set_option linter.unusedVariables false
open Go.RowKit

theorem rletter_ok (c : Int) : GC Tryz.prog 145 [cG c] (bG (letter c)) := by
  refine gc_of_gk Tryz.func145 ?_
  refine gk_region env false [] [0, 2] ?_ -- 0
  refine gk_region env false [] [2] ?_ -- 1
  refine gk_ret env ?_
  simp [letter, tupG]

theorem rdigit_ok (c : Int) : GC Tryz.prog 59 [cG c] (bG (digit c)) := by
  refine gc_of_gk Tryz.func59 ?_
  refine gk_region env false [] [0, 2] ?_ -- 0
  refine gk_region env false [] [2] ?_ -- 1
  refine gk_ret env ?_
  simp [digit, tupG]

theorem rname_ok (s : ByteArray) (hs : s.size ≤ 9223372036854775807) : GC Tryz.prog 113 [sG s] (bG (nameOk s)) := by
  refine gc_of_gk Tryz.func113 ?_
  refine gk_region env false [] [0, 2] ?_ -- 0
  refine gk_region env false [.call (rletter_ok (byteAt s 0))] [0, 2, 17] ?_ -- 1
  refine gk_if (fun c1 => ?_) (fun c1 => ?_)
  · try simp only [bb, toN] at c1
    refine gk_region env false [] [0, 2] ?_ -- 2
    refine gk_ret env ?_
    have e := empty_iff s
    rcases c1 with (h | h) | h
    · have : s = ⟨#[]⟩ := e.2 (by omega)
      simp [nameOk, this, tupG]
    · have : ¬ (s.size : Int) ≤ 20 := by omega
      simp [nameOk, this, tupG]
    · simp [nameOk, h, tupG]
  · try simp only [bb, toN] at c1
    refine gk_region env false [] [0, 2, 3] ?_ -- 3
    refine gk_loop (α := Nat) (fun i => 1 ≤ i ∧ i ≤ s.size ∧ span inner s 0 = span inner s i) (fun i => [(3, iG i)]) (fun _ => []) (fun i => s.size - i) 1 ⟨by omega, by omega, by rw [span, if_pos (by omega), if_pos (by simp [inner, c1.2])]⟩ ?_ -- loop 4
    rintro i ⟨h1, hi, he⟩
    refine gk_region env false [] [0, 2, 3, 21] ?_ -- 4
    refine gk_ifd (fun c2 => ?_) (fun c2 => ?_)
    · try simp only [toN] at c2
      refine gk_region env false [.call (rletter_ok (byteAt s i)), .call (rdigit_ok (byteAt s i))] [0, 2, 3, 41] ?_ -- 6
      refine gk_if (fun c3 => ?_) (fun c3 => ?_)
      · try simp only [bb, toN] at c3
        refine gk_region env false [] [0, 2, 3] ?_ -- 7
        refine gk_ret env ?_
        have hp : inner (byteAt s i) = false := by
          have c3 : (letter (byteAt s i) = false ∧ digit (byteAt s i) = false) ∧ ¬ byteAt s i = 95 := by simpa using c3
          exact inner_not c3.1.1 c3.1.2 c3.2
        have := span_stop (by omega) he hp
        simp [nameOk, this, tupG]
      · try simp only [bb, toN] at c3
        refine gk_region env false [] [0, 2, 3] ?_ -- 5
        refine gk_round (i + 1) ?_
        exact ⟨by omega, by omega, he.trans (by rw [span, if_pos (by omega), if_pos (inner_on c3)])⟩
    · try simp only [toN] at c2
      refine gk_region env false [] [2] ?_ -- 8
      refine gk_ret env ?_
      have e := empty_iff s
      have h0 : ¬ s = ⟨#[]⟩ := fun h => by have := e.1 h; omega
      have hz : span inner s 0 = s.size := by rw [he, span, if_neg (by omega)]; omega
      have h20 : (s.size : Int) ≤ 20 := by omega
      simp [nameOk, h0, hz, c1.2, h20, tupG]

theorem bs_at {s : ByteArray} {i : Nat} (h : i < s.size) : (bs s).drop i = (bs s).getD i 0 :: (bs s).drop (i + 1) := by
  have hl : i < (bs s).length := by rw [bs_size]; exact h
  rw [List.drop_eq_getElem_cons hl, List.getD_eq_getElem?_getD, List.getElem?_eq_getElem hl]; rfl
theorem byteAt_bs (s : ByteArray) (i : Nat) : byteAt s i = (((bs s).getD i 0).toNat : Int) := rfl
theorem okB_byte (s : ByteArray) (i : Nat) : okB ((bs s).getD i 0) = (decide (33 ≤ byteAt s i) && decide (byteAt s i ≤ 126)) := by
  rw [byteAt_bs, okB]; congr 1 <;> exact decide_eq_decide.2 (by omega)
theorem all_step {s : ByteArray} {i : Nat} (h : i < s.size) : ((bs s).drop i).all okB = ((decide (33 ≤ byteAt s i) && decide (byteAt s i ≤ 126)) && ((bs s).drop (i + 1)).all okB) := by
  rw [bs_at h, List.all_cons, okB_byte]
theorem dec1 (n : Nat) : decide ((1 : Int) ≤ n) = decide (1 ≤ n) := decide_eq_decide.2 (by omega)
theorem validS_iff (s : ByteArray) : validS s = ((decide (1 ≤ s.size) && decide ((s.size : Int) ≤ 20)) && (bs s).all okB) := by
  have : (!decide (s = ⟨#[]⟩)) = decide (1 ≤ s.size) := by
    rw [← decide_not]
    refine decide_eq_decide.2 ?_
    rw [empty_iff]; omega
  rw [validS, this]

theorem rvalid_ok (s : ByteArray) (hs : s.size ≤ 9223372036854775807) : GC Tryz.prog 146 [sG s] (bG (validS s)) := by
  refine gc_of_gk Tryz.func146 ?_
  refine gk_region env false [] [0, 2] ?_ -- 0
  refine gk_region env false [] [0, 2, 3] ?_ -- 1
  refine gk_loop (α := Nat) (fun i => i ≤ s.size ∧ (bs s).all okB = ((bs s).drop i).all okB) (fun i => [(3, iG i)]) (fun _ => []) (fun i => s.size - i) 0 ⟨by omega, rfl⟩ ?_ -- loop 2
  rintro i ⟨hi, he⟩
  refine gk_region env false [] [0, 2, 3, 7] ?_ -- 2
  refine gk_ifd (fun c1 => ?_) (fun c1 => ?_)
  · try simp only [toN] at c1
    refine gk_region env false [] [0, 2, 3, 19] ?_ -- 4
    refine gk_if (fun c2 => ?_) (fun c2 => ?_)
    · try simp only [bb, toN] at c2
      refine gk_region env false [] [0, 2, 3] ?_ -- 5
      refine gk_ret env ?_
      have e : (bs s).all okB = false := by
        rw [he, all_step (by omega)]
        rcases c2 with h | h
        · simp [show ¬ 33 ≤ byteAt s i by omega]
        · simp [show ¬ byteAt s i ≤ 126 by omega]
      rw [validS_iff, e]; simp [tupG]
    · try simp only [bb, toN] at c2
      refine gk_region env false [] [0, 2, 3] ?_ -- 3
      refine gk_round (i + 1) ?_
      refine ⟨by omega, he.trans ?_⟩
      rw [all_step (by omega)]; simp [show 33 ≤ byteAt s i by omega, show byteAt s i ≤ 126 by omega]
  · try simp only [toN] at c1
    refine gk_region env false [] [2] ?_ -- 6
    refine gk_ret env ?_
    have e : (bs s).all okB = true := by rw [he, List.drop_eq_nil_of_le (by rw [bs_size]; omega)]; rfl
    rw [validS_iff, e]; simp [tupG, dec1]

theorem any_at {α : Type} [Inhabited α] {l : List α} {i : Nat} (h : i < l.length) (p : α → Bool) : (l.drop i).any p = (p (l.getD i default) || (l.drop (i + 1)).any p) := by
  rw [drop_at h, List.any_cons]
theorem getD_take {α : Type} [Inhabited α] {l : List α} {i j : Nat} (h : j < i) : (l.take i).getD j default = l.getD j default := by
  rw [List.getD_eq_getElem?_getD, List.getD_eq_getElem?_getD, List.getElem?_take, if_pos h]
theorem drop_all {α : Type} {l : List α} {i : Nat} (h : l.length ≤ i) (p : α → Bool) : (l.drop i).any p = false := by rw [List.drop_eq_nil_of_le h]; rfl

theorem rword_ok (l : List ByteArray) (hl : l.length ≤ 1000) (hs : ∀ s, s ∈ l → s.size ≤ 1000) : GC Tryz.prog 114 [rowS l] (iG (wordE l)) := by
  refine gc_of_gk Tryz.func114 ?_
  refine gk_region env false [] [0, 2] ?_ -- 0
  refine gk_region env false [] [0, 2, 8] ?_ -- 1
  refine gk_ifd (fun c1 => ?_) (fun c1 => ?_)
  · try simp only [toN] at c1
    refine gk_region env false [] [0, 2] ?_ -- 2
    refine gk_ret env ?_
    rw [wordE, if_pos (by omega)]; rfl
  · try simp only [toN] at c1
    refine gk_region env false [] [0, 2, 11] ?_ -- 3
    refine gk_ifd (fun c2 => ?_) (fun c2 => ?_)
    · try simp only [toN] at c2
      refine gk_region env false [] [0, 2] ?_ -- 4
      refine gk_ret env ?_
      rw [wordE, if_neg (by omega), if_pos (by omega)]; rfl
    · try simp only [toN] at c2
      refine gk_region env false [] [0, 2, 3] ?_ -- 5
      refine gk_loop (α := Nat) (fun i => i ≤ l.length ∧ (l.any fun x => !validS x) = ((l.drop i).any fun x => !validS x)) (fun i => [(3, iG i)]) (fun _ => []) (fun i => l.length - i) 0 ⟨by omega, rfl⟩ ?_ -- loop 6
      rintro i ⟨hi, he⟩
      refine gk_region env false [] [0, 2, 3, 15] ?_ -- 6
      refine gk_ifd (fun c3 => ?_) (fun c3 => ?_)
      · try simp only [toN] at c3
        refine gk_region env false [.call (rvalid_ok (l.getD i default) (by have := hs _ (getD_mem (show i < l.length by omega)); omega))] [0, 2, 3, 23] ?_ -- 8
        refine gk_if (fun c4 => ?_) (fun c4 => ?_)
        · try simp only [bb, toN] at c4
          refine gk_region env false [] [0, 2, 3] ?_ -- 9
          refine gk_ret env ?_
          have e : (l.any fun x => !validS x) = true := by rw [he, any_at (by omega), c4]; rfl
          rw [wordE, if_neg (by omega), if_neg (by omega), if_pos e]; rfl
        · try simp only [bb, toN] at c4
          refine gk_region env false [] [0, 2, 3] ?_ -- 7
          refine gk_round (i + 1) ?_
          refine ⟨by omega, he.trans ?_⟩
          rw [any_at (by omega), c4]; rfl
      · try simp only [toN] at c3
        refine gk_region env false [] [0, 2, 4] ?_ -- 10
        refine gk_loop (α := Nat) (fun j => j ≤ l.length ∧ dupW l 0 = dupW l j) (fun j => [(4, iG j)]) (fun _ => []) (fun j => l.length - j) 0 ⟨by omega, rfl⟩ ?_ -- loop 11
        rintro j ⟨hj, hd⟩
        have hv : (l.any fun x => !validS x) = false := by rw [he, drop_all (by omega)]
        refine gk_region env false [] [0, 2, 4, 27] ?_ -- 11
        refine gk_ifd (fun c5 => ?_) (fun c5 => ?_)
        · try simp only [toN] at c5
          refine gk_region env false [] [0, 2, 4, 5] ?_ -- 13
          refine gk_loop (α := Nat) (fun k => k ≤ j ∧ ((l.take j).any fun x => decide (x = l.getD j default)) = (((l.take j).drop k).any fun x => decide (x = l.getD j default))) (fun k => [(5, iG k)]) (fun _ => []) (fun k => j - k) 0 ⟨by omega, rfl⟩ ?_ -- loop 14
          rintro k ⟨hk, hn⟩
          refine gk_region env false [] [0, 2, 4, 5, 32] ?_ -- 14
          refine gk_ifd (fun c6 => ?_) (fun c6 => ?_)
          · try simp only [toN] at c6
            refine gk_region env false [] [0, 2, 4, 5, 43] ?_ -- 16
            refine gk_ifd (fun c7 => ?_) (fun c7 => ?_)
            · try simp only [toN] at c7
              refine gk_region env false [] [0, 2, 4, 5] ?_ -- 17
              refine gk_ret env ?_
              have e : dupW l 0 = true := by rw [hd, dupW, if_pos (by omega), hn, any_at (by simp; omega), getD_take (by omega), decide_eq_true c7.symm]; rfl
              rw [wordE, if_neg (by omega), if_neg (by omega), if_neg (by simp [hv]), if_pos e]; rfl
            · try simp only [toN] at c7
              refine gk_region env false [] [0, 2, 4, 5] ?_ -- 15
              refine gk_round (k + 1) ?_
              refine ⟨by omega, hn.trans ?_⟩
              rw [any_at (by simp; omega), getD_take (by omega), decide_eq_false (fun e => c7 e.symm)]; rfl
          · try simp only [toN] at c6
            refine gk_region env false [] [0, 2, 4] ?_ -- 12
            refine gk_round (j + 1) ?_
            refine ⟨by omega, hd.trans ?_⟩
            rw [dupW, if_pos (by omega), hn, drop_all (by simp; omega)]; rfl
        · try simp only [toN] at c5
          refine gk_region env false [] [2] ?_ -- 18
          refine gk_ret env ?_
          have e : dupW l 0 = false := by rw [hd, dupW, if_neg (by omega)]
          rw [wordE, if_neg (by omega), if_neg (by omega), if_neg (by rw [hv]; simp), if_neg (by simp [e])]; rfl

theorem rcheck_ok (d : Dc) (hd : Fit d) : GC Tryz.prog 81 [dcG d] (iG (checkE d)) := by
  have hd1 := hd.kind
  have hd2 := hd.fields
  refine gc_of_gk Tryz.func81 ?_
  refine gk_region env false [] [1, 2] ?_ -- 0
  refine gk_region env false [.call (rname_ok d.kind (by omega))] [1, 2, 11] ?_ -- 1
  refine gk_if (fun c1 => ?_) (fun c1 => ?_)
  · try simp only [bb, toN] at c1
    refine gk_region env false [] [1, 2] ?_ -- 2
    refine gk_ret env ?_
    rw [checkE, if_pos (by simpa using c1)]; rfl
  · try simp only [bb, toN] at c1
    refine gk_region env false [] [1, 2, 15] ?_ -- 3
    refine gk_ifd (fun c2 => ?_) (fun c2 => ?_)
    · try simp only [toN] at c2
      refine gk_region env false [] [1, 2] ?_ -- 4
      refine gk_ret env ?_
      rw [checkE, if_neg (by simp [c1]), if_pos (by omega)]; rfl
    · try simp only [toN] at c2
      refine gk_region env false [] [1, 2, 3] ?_ -- 5
      refine gk_loop (α := Nat) (fun i => i ≤ d.fields.length ∧ fieldsE d.fields 0 = fieldsE d.fields i) (fun i => [(3, iG i)]) (fun _ => []) (fun i => d.fields.length - i) 0 ⟨by omega, rfl⟩ ?_ -- loop 6
      rintro i ⟨hi, he⟩
      have hf := fun h : i < d.fields.length => hd.at_ h
      refine gk_region env false [] [1, 2, 3, 20] ?_ -- 6
      refine gk_ifd (fun c3 => ?_) (fun c3 => ?_)
      · try simp only [toN] at c3
        refine gk_region env false [] [1, 2, 3, 4] ?_ -- 8
        refine gk_region env false [.call (rname_ok (d.fields.getD i default).name (by have := (hf (by omega)).name; omega))] [1, 2, 3, 4, 31] ?_ -- 9
        refine gk_if (fun c4 => ?_) (fun c4 => ?_)
        · try simp only [bb, toN] at c4
          refine gk_region env false [] [1, 2, 3, 4] ?_ -- 10
          refine gk_ret env ?_
          rw [checkE, if_neg (by simp [c1]), if_neg (by omega), fieldsE_bad (by omega) he (fieldE_2 c4) (by omega)]; rfl
        · try simp only [bb, toN] at c4
          refine gk_region env false [] [1, 2, 3, 4, 5] ?_ -- 11
          refine gk_loop (α := Nat) (fun j => j ≤ i ∧ ((d.fields.take i).any fun g => decide (g.name = (d.fields.getD i default).name)) = (((d.fields.take i).drop j).any fun g => decide (g.name = (d.fields.getD i default).name))) (fun j => [(5, iG j)]) (fun _ => []) (fun j => i - j) 0 ⟨by omega, rfl⟩ ?_ -- loop 12
          rintro j ⟨hj, hn⟩
          refine gk_region env false [] [1, 2, 3, 4, 5, 34] ?_ -- 12
          refine gk_ifd (fun c5 => ?_) (fun c5 => ?_)
          · try simp only [toN] at c5
            refine gk_region env false [] [1, 2, 3, 4, 5, 45] ?_ -- 14
            refine gk_ifd (fun c6 => ?_) (fun c6 => ?_)
            · try simp only [toN] at c6
              refine gk_region env false [] [1, 2, 3, 4, 5] ?_ -- 15
              refine gk_ret env ?_
              have hdup : ((d.fields.take i).any fun g => decide (g.name = (d.fields.getD i default).name)) = true := by rw [hn, any_at (by simp; omega), getD_take (by omega), decide_eq_true c6]; rfl
              rw [checkE, if_neg (by simp [c1]), if_neg (by omega), fieldsE_bad (by omega) he (fieldE_5 c4 hdup) (by omega)]; rfl
            · try simp only [toN] at c6
              refine gk_region env false [] [1, 2, 3, 4, 5] ?_ -- 13
              refine gk_round (j + 1) ?_
              refine ⟨by omega, hn.trans ?_⟩
              rw [any_at (by simp; omega), getD_take (by omega), decide_eq_false c6]; rfl
          · try simp only [toN] at c5
            have hdup : ((d.fields.take i).any fun g => decide (g.name = (d.fields.getD i default).name)) = false := by rw [hn, drop_all (by simp; omega)]
            refine gk_region env false [] [1, 2, 3, 4, 49] ?_ -- 16
            refine gk_ifd (fun c7 => ?_) (fun c7 => ?_)
            · try simp only [toN] at c7
              refine gk_region env false [] [1, 2, 3, 4] ?_ -- 17
              refine gk_ret env ?_
              rw [checkE, if_neg (by simp [c1]), if_neg (by omega), fieldsE_bad (by omega) he (fieldE_6 c4 hdup c7) (by omega)]; rfl
            · try simp only [toN] at c7
              refine gk_region env false [] [1, 2, 3, 4, 6] ?_ -- 18
              refine gk_loop (α := Nat) (fun k => k ≤ (d.fields.getD i default).words.length ∧ wordsE (d.fields.getD i default).words 0 = wordsE (d.fields.getD i default).words k) (fun k => [(6, iG k)]) (fun _ => []) (fun k => (d.fields.getD i default).words.length - k) 0 ⟨by omega, rfl⟩ ?_ -- loop 19
              rintro k ⟨hk, hk2⟩
              have hf2 := fun h : k < (d.fields.getD i default).words.length => (hf (by omega)).at_ h
              refine gk_region env false [] [1, 2, 3, 4, 6, 54] ?_ -- 19
              refine gk_ifd (fun c8 => ?_) (fun c8 => ?_)
              · try simp only [toN] at c8
                refine gk_region env false [.call (rword_ok ((d.fields.getD i default).words.getD k default) (hf2 (by omega)).1 (hf2 (by omega)).2)] [1, 2, 3, 4, 6, 7] ?_ -- 21
                refine gk_region env false [] [1, 2, 3, 4, 6, 7, 65] ?_ -- 22
                refine gk_ifn (fun c9 => ?_) (fun c9 => ?_)
                · try simp only [toN] at c9
                  refine gk_region env false [] [1, 2, 3, 4, 6] ?_ -- 23
                  refine gk_ret env ?_
                  have e : fieldE d.fields i = wordE ((d.fields.getD i default).words.getD k default) := (fieldE_w c4 hdup c7).trans (by rw [hk2, wordsE, if_pos (by omega), if_neg c9])
                  rw [checkE, if_neg (by simp [c1]), if_neg (by omega), fieldsE_bad (by omega) he e c9]; rfl
                · try simp only [toN] at c9
                  refine gk_region env false [] [1, 2, 3, 4, 6] ?_ -- 20
                  refine gk_round (k + 1) ?_
                  exact ⟨by omega, hk2.trans (by rw [wordsE, if_pos (by omega), if_pos (by omega)])⟩
              · try simp only [toN] at c8
                refine gk_region env false [] [1, 2, 3] ?_ -- 7
                refine gk_round (i + 1) ?_
                exact ⟨by omega, fieldsE_on (by omega) he ((fieldE_w c4 hdup c7).trans (by rw [hk2, wordsE, if_neg (by omega)]))⟩
      · try simp only [toN] at c3
        refine gk_region env false [] [2] ?_ -- 24
        refine gk_ret env ?_
        rw [checkE, if_neg (by simp [c1]), if_neg (by omega), he, fieldsE, if_neg (by omega)]; rfl

theorem rsize_ok (f : Fl) (hf : Good f) : GC Tryz.prog 115 [flG f] (iG (sz f.words)) := by
  have hw := hf.words
  refine gc_of_gk Tryz.func115 ?_
  refine gk_region env false [] [1, 2] ?_ -- 0
  refine gk_region env false [] [1, 2, 3] ?_ -- 1
  refine gk_region env false [] [1, 2, 3, 4] ?_ -- 2
  refine gk_loop (α := Nat × Nat) (fun x => x.1 ≤ f.words.length ∧ x.2 * sz (f.words.drop x.1) = sz f.words) (fun x => [(4, iG x.1), (3, iG x.2)]) (fun _ => []) (fun x => f.words.length - x.1) (0, 1) ⟨by simp, by simp⟩ ?_ -- loop 3
  rintro ⟨k, n⟩ ⟨hk, he⟩
  dsimp only at *
  refine gk_region env false [] [1, 2, 3, 4, 9] ?_ -- 3
  refine gk_ifd (fun c1 => ?_) (fun c1 => ?_)
  · try simp only [toN] at c1
    have hk2 := size_step hf (show k < f.words.length by omega) he
    have hk3 : (n : Int) * ((f.words.getD k default).length : Int) = ((n * (f.words.getD k default).length : Nat) : Int) := (Int.natCast_mul _ _).symm
    refine gk_region env false [] [1, 2, 3, 4] ?_ -- 5
    refine gk_region env false [] [1, 2, 3, 4] ?_ -- 4
    refine gk_round ((k + 1, n * (f.words.getD k default).length)) ?_
    exact ⟨by simp only; omega, hk2.1⟩
  · try simp only [toN] at c1
    refine gk_region env false [] [2] ?_ -- 6
    refine gk_ret env ?_
    have e : k = f.words.length := by omega
    subst e
    rw [List.drop_length] at he
    have e2 : n = sz f.words := by rw [← he]; simp [sz]
    rw [e2]; rfl

theorem rcount_ok (d : Dc) (hd : Fit d) : GC Tryz.prog 82 [dcG d] (.tup [iG (countE d).1, iG (countE d).2]) := by
  have hd2 := hd.fields
  refine gc_of_gk Tryz.func82 ?_
  refine gk_region env false [] [1, 2, 3] ?_ -- 0
  refine gk_region env false [.call (rcheck_ok d hd)] [1, 2, 3, 4] ?_ -- 1
  refine gk_region env false [] [1, 2, 3, 4, 10] ?_ -- 2
  refine gk_ifn (fun c1 => ?_) (fun c1 => ?_)
  · try simp only [toN] at c1
    refine gk_region env false [] [1, 2, 3] ?_ -- 3
    refine gk_ret env ?_
    rw [countE, if_neg c1]; rfl
  · try simp only [toN] at c1
    have hr := right_of c1
    refine gk_region env false [] [1, 2, 3, 5] ?_ -- 4
    refine gk_region env false [] [1, 2, 3, 5, 6] ?_ -- 5
    refine gk_loop (α := Nat × Nat) (fun x => x.1 ≤ d.fields.length ∧ x.2 ≤ 4096 ∧ countF d.fields 0 1 = countF d.fields x.1 x.2) (fun x => [(6, iG x.1), (5, iG x.2)]) (fun _ => []) (fun x => d.fields.length - x.1) (0, 1) ⟨by simp, by simp, rfl⟩ ?_ -- loop 6
    rintro ⟨i, n⟩ ⟨hi, hn, he⟩
    dsimp only at *
    refine gk_region env false [] [1, 2, 3, 5, 6, 16] ?_ -- 6
    refine gk_ifd (fun c2 => ?_) (fun c2 => ?_)
    · try simp only [toN] at c2
      have hs := (hr.good _ (getD_mem (show i < d.fields.length by omega))).sz
      have hk := count_step hn hs.2
      refine gk_region env false [.call (rsize_ok (d.fields.getD i default) (hr.good _ (getD_mem (by omega))))] [1, 2, 3, 5, 6] ?_ -- 8
      refine gk_region env false [] [1, 2, 3, 5, 6, 28] ?_ -- 9
      refine gk_ifd (fun c3 => ?_) (fun c3 => ?_)
      · try simp only [toN] at c3
        refine gk_region env false [] [1, 2, 3, 5, 6] ?_ -- 10
        refine gk_ret env ?_
        rw [countE, if_pos c1, he, countF, if_pos (by omega), if_pos (by omega)]; rfl
      · try simp only [toN] at c3
        refine gk_region env false [] [1, 2, 3, 5, 6] ?_ -- 7
        refine gk_round ((i + 1, n * sz (d.fields.getD i default).words)) ?_
        refine ⟨by simp only; omega, by simp only; omega, he.trans ?_⟩
        rw [countF, if_pos (by omega), if_neg (by omega)]
    · try simp only [toN] at c2
      refine gk_region env false [] [2, 3] ?_ -- 11
      refine gk_ret env ?_
      rw [countE, if_pos c1, he, countF, if_neg (by omega)]; rfl
end Go.Gh
