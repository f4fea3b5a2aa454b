/- Walks by the logic of calls, and plain laws. -/
import Derived.Test.YthdmcpbmmgmlcaaDoorGScS
import Derived.Test.YthdmcpbmmgmlcaaDoorGScP
namespace Go.Gh
open Go Go.Proofs
set_option maxRecDepth 1000000
set_option maxHeartbeats 2000000
set_option linter.unusedSimpArgs false
set_option linter.unusedVariables false
open Go.RowKit

theorem fewY_ok (d : Dc) (h : fewD d = true) : GC Tryd.prog 9 [dcG d] (bG true) := by have e := few_ok d; rw [h] at e; exact e
theorem fewN_ok (d : Dc) (h : fewD d = false) : GC Tryd.prog 9 [dcG d] (bG false) := by have e := few_ok d; rw [h] at e; exact e
theorem checkY_ok (d : Dc) (hd : Fit d) (h : checkE d = 0) : GC Tryd.prog 20 [dcG d] (iG 0) := by have e := check_ok d hd; rw [h] at e; exact e
theorem countE_or (d : Dc) : (countE d).2 = 0 ∨ (countE d).1 = 0 := by
  unfold countE
  split
  · exact (countF_range _ 0 1 rfl (by omega)).imp id (·.2)
  · exact .inr rfl
theorem textsE_yes {d : Dc} {n : Int} (h : hasB d n = true) (hs : sz (fieldAt d n).words ≤ 4096) : textsE d n = (textsL (fieldAt d n), 0) := by
  rw [textsE, if_pos (hasB_at h).1, if_pos h, if_neg (by omega)]
theorem textsY_ok (d : Dc) (hd : Fit d) (i : Nat) (h : hasB d i = true) (hs : sz (d.fields.getD i default).words ≤ 4096) : GC Tryd.prog 18 [dcG d, iG i] (.tup [rowS (textsL (d.fields.getD i default)), iG 0]) := by
  have e := texts_ok d hd i
  rw [textsE_yes h (by exact hs)] at e
  exact e
theorem textsL_length (f : Fl) : (textsL f).length = sz f.words := by simp [textsL]
theorem textsL_getD {f : Fl} {k : Nat} (h : k < sz f.words) : (textsL f).getD k default = textF f k := by
  rw [List.getD_eq_getElem?_getD, List.getElem?_eq_getElem (by rw [textsL_length]; exact h)]
  simp [textsL]
theorem textF_size {f : Fl} (hf : Good f) (i : Nat) : (textF f i).size ≤ 16000 := by
  have := joinS_size (xs := wordsAt f.words i) fun x hx => validS_size (wordsAt_mem hf.each hx)
  rw [wordsAt_length] at this
  have h2 := hf.words
  show (joinS _ _).size ≤ 16000
  omega
theorem possY_ok (d : Dc) (hd : Fit d) (n : Int) (t : ByteArray) (ht : t.size ≤ 1000000) (h : possV d n t = true) : GC Tryd.prog 25 [dcG d, iG n, sG t] (bG true) := by
  have e := possible_ok d hd n t ht; rw [h] at e; exact e
theorem readY_ok (d : Dc) (hd : Fit d) (i : Nat) (hc : (countE d).2 = 0) (h : (i : Int) < (countE d).1) : GC Tryd.prog 12 [dcG d, iG i] (.tup [pnG ⟨d.kind, d.fields.map (·.name), readT d.fields i⟩, iG 0]) := by
  have e := read_ok d hd i
  rw [readE, if_pos hc, if_pos ⟨by omega, h⟩, Int.toNat_natCast, readP_eq] at e
  exact e
theorem readN_ok (d : Dc) (hd : Fit d) (i : Nat) (hc : (countE d).2 = 0) (h : ¬ (i : Int) < (countE d).1) : GC Tryd.prog 12 [dcG d, iG i] (.tup [pnG ⟨⟨#[]⟩, [], []⟩, iG 4]) := by
  have e := read_ok d hd i
  rw [readE, if_pos hc, if_neg (fun x => h x.2)] at e
  exact e
theorem sz_le_tot {fs : List Fl} (hg : ∀ f, f ∈ fs → Good f) {k : Nat} (h : k < fs.length) : sz (fs.getD k default).words ≤ tot fs := by
  have h1 := tot_drop_le hg k
  have h2 : 1 ≤ tot (fs.drop (k + 1)) := tot_pos fun f hf => hg f (List.mem_of_mem_drop hf)
  rw [tot_at h] at h1
  have : sz (fs.getD k default).words * 1 ≤ sz (fs.getD k default).words * tot (fs.drop (k + 1)) := Nat.mul_le_mul_left _ h2
  omega
theorem prod_step {fs : List Fl} (hg : ∀ f, f ∈ fs → Good f) {k n : Nat} (hk : k < fs.length) (he : n * tot (fs.drop k) = tot fs) : n * sz (fs.getD k default).words * tot (fs.drop (k + 1)) = tot fs ∧ n * sz (fs.getD k default).words ≤ tot fs := by
  rw [tot_at hk, ← Nat.mul_assoc] at he
  refine ⟨he, ?_⟩
  have h1 : 1 ≤ tot (fs.drop (k + 1)) := tot_pos fun f hf => hg f (List.mem_of_mem_drop hf)
  have h2 : n * sz (fs.getD k default).words * 1 ≤ n * sz (fs.getD k default).words * tot (fs.drop (k + 1)) := Nat.mul_le_mul_left _ h1
  omega
abbrev rdP (d : Dc) (i : Nat) : Pn := ⟨d.kind, d.fields.map (·.name), readT d.fields i⟩
theorem poss_read {d : Dc} (h : checkE d = 0) {k : Nat} (hk : k < d.fields.length) (i : Nat) : possV d k ((readT d.fields i).getD k default) = true := by
  rw [readT_getD hk]
  exact poss_text (hasB_of h hk) _
theorem readT_size {d : Dc} (h : Right d) {k : Nat} (hk : k < d.fields.length) (i : Nat) : ((readT d.fields i).getD k default).size ≤ 1000000 := by
  rw [readT_getD hk]
  have := textF_size (h.good _ (getD_mem hk)) (i / tot (d.fields.drop (k + 1)) % sz (d.fields.getD k default).words)
  omega
theorem names_getD {fs : List Fl} {k : Nat} (h : k < fs.length) : (fs.map (·.name)).getD k default = (fs.getD k default).name := by
  simp [List.getD_eq_getElem?_getD, List.getElem?_eq_getElem h]
theorem rds_getD {d : Dc} {n k : Nat} (h : k < n) : ((List.range n).map (rdP d)).getD k default = rdP d k := by
  rw [List.getD_eq_getElem?_getD, List.getElem?_eq_getElem (by simpa using h)]; simp

theorem reads_ok (d : Dc) : GC Tryd.prog 4 [dcG d] (bG true) := by
  refine gc_of_gk Tryd.func4 ?_
  refine gk_region env false [] [1, 2] ?_ (hp := (by simp only [AllP, bb, toN]; repeat' first | exact trivial | exact EntL.refl _ | exact rfl | omega | apply And.intro | intro _)) -- 0
  refine gk_region env false [.call sane_ok] [1, 2, 3] ?_ (hp := (by simp only [AllP, bb, toN]; repeat' first | exact trivial | exact EntL.refl _ | exact rfl | omega | apply And.intro | intro _)) -- 1
  cases hw : fewD d
  · refine gk_region env false [.call (fewN_ok d hw), .no, .nu] [1, 2, 3, 28] ?_ (hp := (by simp only [AllP, bb, toN]; repeat' first | exact trivial | exact EntL.refl _ | exact rfl | omega | apply And.intro | intro _)) -- 2
    refine gk_if (fun c1 => ?_) (fun c1 => ?_)
    · try simp only [bb, toN] at c1
      refine gk_region env false [] [1, 2, 3] ?_ (hp := (by simp only [AllP, bb, toN]; repeat' first | exact trivial | exact EntL.refl _ | exact rfl | omega | apply And.intro | intro _)) -- 3
      refine gk_ret env ?_
      simp [tupG]
    · try simp only [bb, toN] at c1
      exact absurd c1 (by simp)
  · have hd := few_fit hw
    have hd2 := hd.fields
    refine gk_region env false [.call (fewY_ok d hw), .call (check_ok d hd)] [1, 2, 3, 28] ?_ (hp := (by simp only [AllP, bb, toN]; repeat' first | exact trivial | exact EntL.refl _ | exact rfl | omega | apply And.intro | intro _)) -- 2
    refine gk_if (fun c1 => ?_) (fun c1 => ?_)
    · try simp only [bb, toN] at c1
      refine gk_region env false [] [1, 2, 3] ?_ (hp := (by simp only [AllP, bb, toN]; repeat' first | exact trivial | exact EntL.refl _ | exact rfl | omega | apply And.intro | intro _)) -- 3
      refine gk_ret env ?_
      rfl
    · try simp only [bb, toN] at c1
      refine gk_region env false [.call (count_ok d hd)] [1, 2, 3, 4, 5] ?_ (hp := (by simp only [AllP, bb, toN]; repeat' first | exact trivial | exact EntL.refl _ | exact rfl | omega | apply And.intro | intro _)) -- 4
      refine gk_region env false [] [1, 2, 3, 4, 5, 40] ?_ (hp := (by simp only [AllP, bb, toN]; repeat' first | exact trivial | exact EntL.refl _ | exact rfl | omega | apply And.intro | intro _)) -- 5
      refine gk_if (fun c2 => ?_) (fun c2 => ?_)
      · try simp only [bb, toN] at c2
        refine gk_region env false [] [1, 2, 3, 4] ?_ (hp := (by simp only [AllP, bb, toN]; repeat' first | exact trivial | exact EntL.refl _ | exact rfl | omega | apply And.intro | intro _)) -- 6
        refine gk_ret env ?_
        have h0 := countE_or d
        simp [tupG]
        omega
      · try simp only [bb, toN] at c2
        have hc0 : checkE d = 0 := by simpa using c1
        obtain ⟨hr, hct, htt⟩ := countE_yes c2.1
        simp only [hct]
        refine gk_region env false [] [1, 2, 3, 4, 6] ?_ (hp := (by simp only [AllP, bb, toN]; repeat' first | exact trivial | exact EntL.refl _ | exact rfl | omega | apply And.intro | intro _)) -- 7
        refine gk_region env false [] [1, 2, 3, 4, 6, 7] ?_ (hp := (by simp only [AllP, bb, toN]; repeat' first | exact trivial | exact EntL.refl _ | exact rfl | omega | apply And.intro | intro _)) -- 8
        refine gk_loop (α := Nat × Nat) (fun x => x.1 ≤ d.fields.length ∧ x.2 * tot (d.fields.drop x.1) = tot d.fields) (fun x => [(7, iG x.1), (6, iG x.2)]) (fun _ => []) (fun x => d.fields.length - x.1) (0, 1) ⟨by simp, by simp⟩ ?_ -- loop 9
        rintro ⟨i, pr⟩ ⟨hi, he⟩
        dsimp only at *
        refine gk_region env false [] [1, 2, 3, 4, 6, 7, 54] ?_ (hp := (by simp only [AllP, bb, toN]; repeat' first | exact trivial | exact EntL.refl _ | exact rfl | omega | apply And.intro | intro _)) -- 9
        refine gk_ifd (fun c3 => ?_) (fun c3 => ?_)
        · try simp only [toN] at c3
          refine gk_region env false [.call (textsY_ok d hd i (hasB_of hc0 (by omega)) (by have := sz_le_tot hr.good (show i < d.fields.length by omega); omega))] [1, 2, 3, 4, 6, 7, 8, 9] ?_ (hp := (by simp only [AllP, bb, toN]; repeat' first | exact trivial | exact EntL.refl _ | exact rfl | omega | apply And.intro | intro _)) -- 11
          have hg := hr.good _ (getD_mem (show i < d.fields.length by omega))
          have hgs := hg.sz
          have htl := textsL_length (d.fields.getD i default)
          refine gk_region env false [] [1, 2, 3, 4, 6, 7, 8, 69] ?_ (hp := (by simp only [AllP, bb, toN]; repeat' first | exact trivial | exact EntL.refl _ | exact rfl | omega | apply And.intro | intro _)) -- 12
          refine gk_if (fun c4 => ?_) (fun c4 => ?_)
          · try simp only [bb, toN] at c4
            rcases c4 with h | h
            · exact absurd trivial h
            · rw [htl] at h; exact absurd h (by omega)
          · try simp only [bb, toN] at c4
            refine gk_region env false [] [1, 2, 3, 4, 6, 7, 8, 10] ?_ (hp := (by simp only [AllP, bb, toN]; repeat' first | exact trivial | exact EntL.refl _ | exact rfl | omega | apply And.intro | intro _)) -- 14
            refine gk_loop (α := Nat) (fun k => k ≤ (textsL (d.fields.getD i default)).length) (fun k => [(10, iG k)]) (fun _ => []) (fun k => (textsL (d.fields.getD i default)).length - k) 0 (Nat.zero_le _) ?_ -- loop 15
            rintro k hk
            refine gk_region env false [] [1, 2, 3, 4, 6, 7, 8, 10, 73] ?_ (hp := (by simp only [AllP, bb, toN]; repeat' first | exact trivial | exact EntL.refl _ | exact rfl | omega | apply And.intro | intro _)) -- 15
            refine gk_ifd (fun c5 => ?_) (fun c5 => ?_)
            · try simp only [toN] at c5
              refine gk_region env false [] [1, 2, 3, 4, 6, 7, 8, 10, 11] ?_ (hp := (by simp only [AllP, bb, toN]; repeat' first | exact trivial | exact EntL.refl _ | exact rfl | omega | apply And.intro | intro _)) -- 17
              refine gk_loop (α := Nat) (fun j => j ≤ k) (fun j => [(11, iG j)]) (fun _ => []) (fun j => k - j) 0 (Nat.zero_le _) ?_ -- loop 18
              rintro j hj
              refine gk_region env false [] [1, 2, 3, 4, 6, 7, 8, 10, 11, 78] ?_ (hp := (by simp only [AllP, bb, toN]; repeat' first | exact trivial | exact EntL.refl _ | exact rfl | omega | apply And.intro | intro _)) -- 18
              refine gk_ifd (fun c6 => ?_) (fun c6 => ?_)
              · try simp only [toN] at c6
                refine gk_region env false [] [1, 2, 3, 4, 6, 7, 8, 10, 11, 89] ?_ (hp := (by simp only [AllP, bb, toN]; repeat' first | exact trivial | exact EntL.refl _ | exact rfl | omega | apply And.intro | intro _)) -- 20
                refine gk_ifd (fun c7 => ?_) (fun c7 => ?_)
                · try simp only [toN] at c7
                  have h5 : k < sz (d.fields.getD i default).words := by rw [htl] at c5; omega
                  rw [textsL_getD (by omega), textsL_getD h5] at c7
                  have := text_inj hg (by omega) h5 c7
                  omega
                · try simp only [toN] at c7
                  refine gk_region env false [] [1, 2, 3, 4, 6, 7, 8, 10, 11] ?_ (hp := (by simp only [AllP, bb, toN]; repeat' first | exact trivial | exact EntL.refl _ | exact rfl | omega | apply And.intro | intro _)) -- 19
                  refine gk_round (j + 1) ?_
                  omega
              · try simp only [toN] at c6
                have hk1 : k < sz (d.fields.getD i default).words := by rw [textsL_length] at c5; omega
                refine gk_region env false [.call (possY_ok d hd i ((textsL (d.fields.getD i default)).getD k default) (by rw [textsL_getD hk1]; have := textF_size hg k; omega) (by rw [textsL_getD hk1]; exact poss_text (hasB_of hc0 (by omega)) k))] [1, 2, 3, 4, 6, 7, 8, 10, 97] ?_ (hp := (by simp only [AllP, bb, toN]; repeat' first | exact trivial | exact EntL.refl _ | exact rfl | omega | apply And.intro | intro _)) -- 22
                refine gk_if (fun c8 => ?_) (fun c8 => ?_)
                · try simp only [bb, toN] at c8
                  cases c8
                · try simp only [bb, toN] at c8
                  refine gk_region env false [] [1, 2, 3, 4, 6, 7, 8, 10] ?_ (hp := (by simp only [AllP, bb, toN]; repeat' first | exact trivial | exact EntL.refl _ | exact rfl | omega | apply And.intro | intro _)) -- 16
                  refine gk_round (k + 1) ?_
                  omega
            · try simp only [toN] at c5
              have hps := prod_step hr.good (show i < d.fields.length by omega) he
              have hpm : (pr : Int) * ((textsL (d.fields.getD i default)).length : Int) = ((pr * sz (d.fields.getD i default).words : Nat) : Int) := by rw [textsL_length]; exact (Int.natCast_mul _ _).symm
              refine gk_region env false [] [1, 2, 3, 4, 6, 7] ?_ (hp := (by simp only [AllP, bb, toN, hpm]; repeat' first | exact trivial | exact EntL.refl _ | exact rfl | omega | apply And.intro | intro _)) -- 24
              refine gk_region env false [] [1, 2, 3, 4, 6, 7] ?_ (hp := (by simp only [AllP, bb, toN]; repeat' first | exact trivial | exact EntL.refl _ | exact rfl | omega | apply And.intro | intro _)) -- 10
              refine gk_round ((i + 1, pr * sz (d.fields.getD i default).words)) ?_ (hp := by simp only [AllP, hpm]; simp)
              exact ⟨by simp only; omega, hps.1⟩
        · try simp only [toN] at c3
          have hpr : pr = tot d.fields := by rw [List.drop_eq_nil_of_le (by omega)] at he; simpa [tot] using he
          refine gk_region env false [] [1, 2, 3, 4, 6, 12] ?_ (hp := (by simp only [AllP, bb, toN]; repeat' first | exact trivial | exact EntL.refl _ | exact rfl | omega | apply And.intro | intro _)) -- 25
          refine gk_nil 12 32 3 (default : Pn) pnC (by rfl) (by rfl) ?_
          refine gk_region env false [] [1, 2, 3, 4, 6, 12, 13] ?_ (hp := (by simp only [AllP, bb, toN]; repeat' first | exact trivial | exact EntL.refl _ | exact rfl | omega | apply And.intro | intro _)) -- 26
          refine gk_loop (α := Nat) (fun i => i ≤ tot d.fields) (fun i => [(13, iG i), (12, .sl 1 3 0 i)]) (fun i => [(1, some (.row 32 3 default pnC ((List.range i).map (rdP d)) 0))]) (fun i => tot d.fields - i) 0 (Nat.zero_le _) ?_ -- loop 27
          rintro i hi
          refine gk_region env false [] [1, 2, 3, 4, 6, 12, 13, 104] ?_ (hp := (by simp only [AllP, bb, toN]; repeat' first | exact trivial | exact EntL.refl _ | exact rfl | omega | apply And.intro | intro _)) -- 27
          refine gk_ifd (fun c9 => ?_) (fun c9 => ?_)
          · try simp only [toN] at c9
            refine gk_region env false [.call (readY_ok d hd i c2.1 (by omega))] [1, 2, 3, 4, 6, 12, 13, 14, 15] ?_ (hp := (by simp only [AllP, bb, toN]; repeat' first | exact trivial | exact EntL.refl _ | exact rfl | omega | apply And.intro | intro _)) -- 29
            refine gk_region env false [] [1, 2, 3, 4, 6, 12, 13, 14, 139] ?_ (hp := (by simp only [AllP, bb, toN]; repeat' first | exact trivial | exact EntL.refl _ | exact rfl | omega | apply And.intro | intro _)) -- 30
            refine gk_if (fun c10 => ?_) (fun c10 => ?_)
            · try simp only [bb, toN] at c10
              rw [readT_length, List.length_map] at c10
              exact absurd c10 (by simp)
            · try simp only [bb, toN] at c10
              refine gk_region env false [] [1, 2, 3, 4, 6, 12, 13, 14, 16] ?_ (hp := (by simp only [AllP, bb, toN]; repeat' first | exact trivial | exact EntL.refl _ | exact rfl | omega | apply And.intro | intro _)) -- 32
              refine gk_loop (α := Nat) (fun k => k ≤ d.fields.length) (fun k => [(16, iG k)]) (fun _ => []) (fun k => d.fields.length - k) 0 (Nat.zero_le _) ?_ -- loop 33
              rintro k hk
              refine gk_region env false [] [1, 2, 3, 4, 6, 12, 13, 14, 16, 144] ?_ (hp := (by simp only [AllP, bb, toN]; repeat' first | exact trivial | exact EntL.refl _ | exact rfl | omega | apply And.intro | intro _)) -- 33
              refine gk_ifd (fun c11 => ?_) (fun c11 => ?_)
              · try simp only [toN] at c11
                have hk1 : k < d.fields.length := by omega
                refine gk_region env false [.call (possY_ok d hd k ((readT d.fields i).getD k default) (readT_size hr hk1 i) (poss_read hc0 hk1 i))] [1, 2, 3, 4, 6, 12, 13, 14, 16, 169] ?_ (hp := (by simp only [AllP, bb, toN]; repeat' first | exact trivial | exact EntL.refl _ | exact rfl | omega | apply And.intro | intro _)) -- 35
                refine gk_if (fun c12 => ?_) (fun c12 => ?_)
                · try simp only [bb, toN] at c12
                  rw [names_getD hk1] at c12
                  exact absurd c12 (by simp)
                · try simp only [bb, toN] at c12
                  refine gk_region env false [] [1, 2, 3, 4, 6, 12, 13, 14, 16] ?_ (hp := (by simp only [AllP, bb, toN]; repeat' first | exact trivial | exact EntL.refl _ | exact rfl | omega | apply And.intro | intro _)) -- 34
                  refine gk_round (k + 1) ?_
                  omega
              · try simp only [toN] at c11
                refine gk_region env false [] [1, 2, 3, 4, 6, 12, 13, 14, 17] ?_ (hp := (by simp only [AllP, bb, toN]; repeat' first | exact trivial | exact EntL.refl _ | exact rfl | omega | apply And.intro | intro _)) -- 37
                refine gk_loop (α := Nat) (fun k => k ≤ i) (fun k => [(17, iG k)]) (fun _ => []) (fun k => i - k) 0 (Nat.zero_le _) ?_ -- loop 38
                rintro k hk
                refine gk_region env false [] [1, 2, 3, 4, 6, 12, 13, 14, 17, 173] ?_ (hp := (by simp only [AllP, bb, toN]; repeat' first | exact trivial | exact EntL.refl _ | exact rfl | omega | apply And.intro | intro _)) -- 38
                refine gk_ifd (fun c13 => ?_) (fun c13 => ?_)
                · try simp only [toN] at c13
                  have hk1 : k < i := by omega
                  refine gk_region env false [.call (sameT_ok (((List.range i).map (rdP d)).getD k default).texts (readT d.fields i) (by rw [rds_getD hk1, readT_length]; omega))] [1, 2, 3, 4, 6, 12, 13, 14, 17, 183] ?_ (hp := (by simp only [AllP, bb, toN, Nat.zero_add, List.length_map, List.length_range]; repeat' first | exact trivial | exact EntL.refl _ | exact rfl | omega | apply And.intro | intro _)) -- 40
                  refine gk_if (fun c14 => ?_) (fun c14 => ?_)
                  · try simp only [bb, toN] at c14
                    rw [rds_getD hk1] at c14
                    have := readT_inj hr.good (by omega) (by omega) c14
                    omega
                  · try simp only [bb, toN] at c14
                    refine gk_region env false [] [1, 2, 3, 4, 6, 12, 13, 14, 17] ?_ (hp := (by simp only [AllP, bb, toN]; repeat' first | exact trivial | exact EntL.refl _ | exact rfl | omega | apply And.intro | intro _)) -- 39
                    refine gk_round (k + 1) ?_
                    omega
                · try simp only [toN] at c13
                  refine gk_region env false [.el default pnC [rdP d i], .el default pnC ((List.range i).map (rdP d) ++ [rdP d i])] [1, 2, 3, 4, 6, 12, 13] ?_ (hp := (by simp only [AllP, Int.toNat_natCast, List.length_map, List.length_range]; repeat' first | exact trivial | exact EntL.refl _ | exact BEntL.refl _ | exact rfl | omega | (simp only [List.length_append, List.length_cons, List.length_nil, List.length_map, List.length_range]; omega) | apply And.intro | intro _ | (simp [rowL]; done))) -- 42
                  refine gk_region env false [] [1, 2, 3, 4, 6, 12, 13] ?_ (hp := (by simp only [AllP, bb, toN]; repeat' first | exact trivial | exact EntL.refl _ | exact rfl | omega | apply And.intro | intro _)) -- 28
                  refine gk_round (i + 1) ?_ (hp := by simp [AllP, List.range_succ])
                  omega
          · try simp only [toN] at c9
            refine gk_region env false [.call (readN_ok d hd (tot d.fields) c2.1 (by omega))] [2, 3, 4, 6, 19] ?_ (hp := (by simp only [AllP, bb, toN]; repeat' first | exact trivial | exact EntL.refl _ | exact rfl | omega | apply And.intro | intro _)) -- 43
            refine gk_region env false [] [2] ?_ (hp := (by simp only [AllP, bb, toN]; repeat' first | exact trivial | exact EntL.refl _ | exact rfl | omega | apply And.intro | intro _)) -- 44
            refine gk_ret env ?_
            rw [← hpr]; simp [tupG]
end Go.Gh
