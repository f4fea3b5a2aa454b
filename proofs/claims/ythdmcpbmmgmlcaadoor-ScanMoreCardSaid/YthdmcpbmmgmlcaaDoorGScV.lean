/- Walks by the logic of calls, and plain laws. -/
import Derived.Test.YthdmcpbmmgmlcaaDoorGScU
import Derived.Test.YthdmcpbmmgmlcaaDoorGScQ
namespace Go.Gh
open Go Go.Proofs
set_option maxRecDepth 1000000
set_option maxHeartbeats 2000000
set_option linter.unusedSimpArgs false
set_option linter.unusedVariables false
open Go.RowKit

theorem setD_length (d : Dc) (n : Int) (t : ByteArray) : (setD d n t).fields.length = d.fields.length := setL_length _ _ _ _
theorem setD_getD {d : Dc} {n : Int} {t : ByteArray} {j : Nat} (hj : j < d.fields.length) : (setD d n t).fields.getD j default = setF n t j (d.fields.getD j default) := by
  show (setL d n t d.fields.length).getD j default = _
  rw [List.getD_eq_getElem?_getD, List.getElem?_eq_getElem (by rw [setL_length]; exact hj)]
  simp [setL]
theorem setF_name (n : Int) (t : ByteArray) (i : Nat) (f : Fl) : (setF n t i f).name = f.name := by unfold setF; split <;> rfl
theorem setD_name {d : Dc} {n : Int} {t : ByteArray} {j : Nat} (hj : j < d.fields.length) : ((setD d n t).fields.getD j default).name = (d.fields.getD j default).name := by rw [setD_getD hj, setF_name]
theorem setD_names (d : Dc) (n : Int) (t : ByteArray) : (setD d n t).fields.map (·.name) = d.fields.map (·.name) := by
  refine List.ext_getElem (by simp [setD_length]) fun j h1 h2 => ?_
  have hj : j < d.fields.length := by simpa using h2
  have := setD_name (n := n) (t := t) hj
  rw [List.getD_eq_getElem?_getD, List.getElem?_eq_getElem (by rw [setD_length]; exact hj), List.getD_eq_getElem?_getD, List.getElem?_eq_getElem hj] at this
  simpa using this
theorem any_name (l : List Fl) (x : ByteArray) : (l.any fun g => decide (g.name = x)) = ((l.map (·.name)).any fun m => decide (m = x)) := by rw [List.any_map]; rfl
theorem wordE_one {s : ByteArray} (h : validS s = true) : wordE [s] = 0 := by
  have hd : dupW [s] 0 = false := by rw [dupW, if_pos (by simp), if_neg (by simp), dupW, if_neg (by simp)]
  rw [wordE, if_neg (by simp), if_neg (by simp), if_neg (by simp [h]), if_neg (by simp [hd])]
theorem set_right {d : Dc} (h : Right d) {n : Int} {t : ByteArray} (hf : inForm t = true) : Right (setD d n t) := by
  simp only [inForm, Bool.and_eq_true, decide_eq_true_eq, List.all_eq_true] at hf
  refine ⟨h.kind, by rw [setD_length]; exact h.len, fun f hm => ?_, fun f hm => ?_, fun j hj => ?_⟩
  · obtain ⟨j, hj, rfl⟩ := List.mem_map.1 hm
    rw [setF_name]
    exact h.name _ (getD_mem (List.mem_range.1 hj))
  · obtain ⟨j, hj, rfl⟩ := List.mem_map.1 hm
    unfold setF
    split
    · refine ⟨by simp; omega, fun w hw => ?_⟩
      obtain ⟨s, hs, rfl⟩ := List.mem_map.1 hw
      exact wordE_one (hf.2 s hs)
    · exact h.good _ (getD_mem (List.mem_range.1 hj))
  · rw [setD_length] at hj
    rw [setD_name hj, any_name, List.map_take, setD_names, ← List.map_take, ← any_name]
    exact h.one j hj
theorem find_at {d : Dc} (h : Right d) (hc : checkE d = 0) {j : Nat} (hj : j < d.fields.length) : findE d (d.fields.getD j default).name = j := by
  rw [findE, if_pos hc]
  rcases findI_range (fun f => decide (f.name = (d.fields.getD j default).name)) d.fields _ 0 rfl with ⟨_, h2⟩ | ⟨m, _, h2, h3, h4, h5⟩
  · have := h2 j (Nat.zero_le _) hj
    simp at this
  · rw [h3]
    by_cases e : m = j
    · rw [e]
    · by_cases e2 : m < j
      · have h6 := h.one j hj
        rw [List.any_eq_false] at h6
        have h7 := h6 (d.fields.getD m default) (by
          rw [List.getD_eq_getElem?_getD, List.getElem?_eq_getElem h2]
          exact List.mem_take_iff_getElem.2 ⟨m, by omega, rfl⟩)
        exact absurd h4 h7
      · have := h5 j (Nat.zero_le _) (by omega)
        simp at this
theorem sz_single (l : List ByteArray) : sz (l.map fun s => [s]) = 1 := by
  induction l with
  | nil => rfl
  | cons a l ih => simp [sz, ih]
theorem wordsAt_single (l : List ByteArray) : wordsAt (l.map fun s => [s]) 0 = l := by
  induction l with
  | nil => rfl
  | cons a l ih => simp [wordsAt, ih]
theorem setF_at (n : Int) (t : ByteArray) (i : Nat) (f : Fl) (h : (i : Int) = n) : setF n t i f = ⟨f.name, (wordsF t).map fun s => [s]⟩ := if_pos h
theorem set_cert {d : Dc} {K : Nat} (hK : K < d.fields.length) {t : ByteArray} (hx : checkE (setD d K t) = 0) : certE (setD d K t) K = (t, true) := by
  have hb := hasB_of hx (by rw [setD_length]; exact hK)
  have hfa : fieldAt (setD d K t) K = ⟨(d.fields.getD K default).name, (wordsF t).map fun s => [s]⟩ := by
    show (setD d K t).fields.getD K default = _
    rw [setD_getD hK, setF_at _ _ _ _ rfl]
  rw [certE, if_pos ⟨hb, by rw [hfa]; exact sz_single _⟩, hfa, textF, wordsAt_single, join_wordsF]
theorem set_poss {d : Dc} {K : Nat} (hK : K < d.fields.length) {t : ByteArray} (hx : checkE (setD d K t) = 0) : possV (setD d K t) K t = true := by
  have hb := hasB_of hx (by rw [setD_length]; exact hK)
  have hfa : fieldAt (setD d K t) K = ⟨(d.fields.getD K default).name, (wordsF t).map fun s => [s]⟩ := by
    show (setD d K t).fields.getD K default = _
    rw [setD_getD hK, setF_at _ _ _ _ rfl]
  rw [possV_iff hb, hfa]
  refine ⟨by simp, fun j hj => ?_⟩
  show (wordsF t).getD j default ∈ ((wordsF t).map fun s => [s]).getD j default
  rw [List.getD_eq_getElem?_getD, List.getD_eq_getElem?_getD, List.getElem?_eq_getElem hj, List.getElem?_eq_getElem (by simpa using hj)]
  simp
theorem set_other {d : Dc} {K i : Nat} {t : ByteArray} (hi : i < d.fields.length) (h : i ≠ K) : (setD d K t).fields.getD i default = d.fields.getD i default := by
  rw [setD_getD hi, setF, if_neg (by omega)]
theorem setY_ok (d : Dc) (hd : Fit d) (K : Nat) (t : ByteArray) (ht : t.size ≤ 1000000) (hc : checkE d = 0) (hK : K < d.fields.length) (h : inForm t = true) : GC Tryd.prog 16 [dcG d, iG K, sG t] (.tup [dcG (setD d K t), iG 0]) := by
  have e := set_ok d hd K t ht
  rw [setE, if_pos hc, if_pos (hasB_of hc hK), if_pos h] at e
  exact e
theorem setN_ok (d : Dc) (hd : Fit d) (K : Nat) (t : ByteArray) (ht : t.size ≤ 1000000) (hc : checkE d = 0) (hK : K < d.fields.length) (h : inForm t = false) : GC Tryd.prog 16 [dcG d, iG K, sG t] (.tup [dcG ⟨⟨#[]⟩, []⟩, iG 2]) := by
  have e := set_ok d hd K t ht
  rw [setE, if_pos hc, if_pos (hasB_of hc hK), if_neg (by simp [h])] at e
  exact e
theorem inFormY_ok (t : ByteArray) (ht : t.size ≤ 1000000) {b : Bool} (h : inForm t = b) : GC Tryd.prog 30 [sG t] (bG b) := by have e := rinForm_ok t ht; rw [h] at e; exact e
theorem textsL_1 {f : Fl} (h : sz f.words = 1) : textsL f = [textF f 0] := by rw [textsL, h]; rfl
theorem texts1y_ok (d : Dc) (hd : Fit d) (K : Nat) (hc : checkE d = 0) (hK : K < d.fields.length) (h : sz (d.fields.getD K default).words = 1) : GC Tryd.prog 18 [dcG d, iG K] (.tup [rowS [textF (d.fields.getD K default) 0], iG 0]) := by
  have e := textsY_ok d hd K (hasB_of hc hK) (by omega)
  rw [textsL_1 h] at e
  exact e
theorem cert1_ok (d : Dc) (hd : Fit d) (K : Nat) (hc : checkE d = 0) (hK : K < d.fields.length) (h : sz (d.fields.getD K default).words = 1) : GC Tryd.prog 14 [dcG d, iG K] (.tup [sG (textF (d.fields.getD K default) 0), bG true]) := by
  have e := certain_ok d hd K
  rw [certE, if_pos ⟨hasB_of hc hK, h⟩] at e
  exact e
theorem cert0_ok (d : Dc) (hd : Fit d) (K : Nat) (h : ¬ sz (d.fields.getD K default).words = 1) : GC Tryd.prog 14 [dcG d, iG K] (.tup [sG ⟨#[]⟩, bG false]) := by
  have e := certain_ok d hd K
  rw [certE, if_neg (fun q => h q.2)] at e
  exact e
theorem texts_0 {d : Dc} {K : Nat} (hc : checkE d = 0) (hK : K < d.fields.length) (h : ¬ sz (d.fields.getD K default).words = 1) : ¬ ((textsE d K).2 = 0 ∧ ((textsE d K).1.length : Int) = 1) := by
  rw [textsE, if_pos hc, if_pos (hasB_of hc hK)]
  split
  · simp
  · intro q
    have h3 := q.2
    simp only [textsL_length] at h3
    have h4 : fieldAt d K = d.fields.getD K default := rfl
    rw [h4] at h3
    omega
theorem certS_ok (d : Dc) {K : Nat} {t : ByteArray} (hx : Fit (setD d K t)) (hK : K < d.fields.length) (hc : checkE (setD d K t) = 0) : GC Tryd.prog 14 [dcG (setD d K t), iG K] (.tup [sG t, bG true]) := by
  have e := certain_ok _ hx K
  rw [set_cert hK hc] at e
  exact e
theorem possS_ok (d : Dc) {K : Nat} {t : ByteArray} (hx : Fit (setD d K t)) (ht : t.size ≤ 1000000) (hK : K < d.fields.length) (hc : checkE (setD d K t) = 0) : GC Tryd.prog 25 [dcG (setD d K t), iG K, sG t] (bG true) := possY_ok _ hx K t ht (set_poss hK hc)
theorem findS_ok (d : Dc) {K : Nat} {t : ByteArray} (hx : Fit (setD d K t)) (hr : Right (setD d K t)) {j : Nat} (hj : j < d.fields.length) : GC Tryd.prog 27 [dcG (setD d K t), sG (d.fields.getD j default).name] (iG j) := by
  have e := find_ok (setD d K t) hx (d.fields.getD j default).name
  have q := find_at hr (check_right hr) (j := j) (by rw [setD_length]; exact hj)
  rw [setD_name hj] at q
  rw [q] at e
  exact e

theorem sets_ok (d : Dc) (a : Int) (t : ByteArray) : GC Tryd.prog 6 [dcG d, iG a, sG t] (bG true) := by
  refine gc_of_gk Tryd.func6 ?_
  refine gk_region env false [] [1, 2, 3, 6] ?_ (hp := (by simp only [AllP, bb, toN]; repeat' first | exact trivial | exact EntL.refl _ | exact rfl | omega | apply And.intro | intro _)) -- 0
  refine gk_region env false [.call sane_ok] [1, 2, 3, 6, 7] ?_ (hp := (by simp only [AllP, bb, toN]; repeat' first | exact trivial | exact EntL.refl _ | exact rfl | omega | apply And.intro | intro _)) -- 1
  cases hw : fewD d
  · refine gk_region env false [.call (fewN_ok d hw), .no, .nu, .no, .no, .nu, .no, .nu] [1, 2, 3, 6, 7, 37] ?_ (hp := (by simp only [AllP, bb, toN]; repeat' first | exact trivial | exact EntL.refl _ | exact rfl | omega | apply And.intro | intro _)) -- 2
    refine gk_if (fun c1 => ?_) (fun c1 => ?_)
    · try simp only [bb, toN] at c1
      refine gk_region env false [] [1, 2, 3, 6, 7] ?_ (hp := (by simp only [AllP, bb, toN]; repeat' first | exact trivial | exact EntL.refl _ | exact rfl | omega | apply And.intro | intro _)) -- 3
      refine gk_ret env ?_
      simp [tupG]
    · try simp only [bb, toN] at c1
      exact absurd c1 (by simp)
  · have hd := few_fit hw
    have hd2 := hd.fields
    refine gk_region env false [.call (fewY_ok d hw), .call (check_ok d hd)] [1, 2, 3, 6, 7, 37] ?_ (hp := (by simp only [AllP, bb, toN]; repeat' first | exact trivial | exact EntL.refl _ | exact rfl | omega | apply And.intro | intro _)) -- 2
    refine gk_if (fun c1 => ?_) (fun c1 => ?_)
    · try simp only [bb, toN] at c1
      refine gk_region env false [] [1, 2, 3, 6, 7] ?_ (hp := (by simp only [AllP, bb, toN]; repeat' first | exact trivial | exact EntL.refl _ | exact rfl | omega | apply And.intro | intro _)) -- 3
      refine gk_ret env ?_
      simp [tupG]
    · try simp only [bb, toN] at c1
      have hc0 : checkE d = 0 := by simpa using c1.1.1.2
      have hr := right_of hc0
      have hl12 := hr.len
      have hl1 : 1 ≤ d.fields.length := by omega
      refine gk_region env true [] [2, 3, 6, 7, 8] ?_ (hp := (by simp only [AllP, bb, toN]; repeat' first | exact trivial | exact EntL.refl _ | exact rfl | omega | apply And.intro | intro _)) -- 4
      obtain ⟨ea, hK⟩ := mod_norm a hl1 (by omega)
      simp only [ea]
      generalize (a % (d.fields.length : Int)).toNat = K at hK
      by_cases hs1 : sz (d.fields.getD K default).words = 1
      · refine gk_region env false [.call (texts1y_ok d hd K hc0 hK hs1)] [2, 3, 6, 7, 8, 9, 10] ?_ (hp := (by simp only [AllP, bb, toN]; repeat' first | exact trivial | exact EntL.refl _ | exact rfl | omega | apply And.intro | intro _)) -- 5
        refine gk_region env false [.call (cert1_ok d hd K hc0 hK hs1)] [2, 3, 6, 7, 8, 9, 10, 11, 12] ?_ (hp := (by simp only [AllP, bb, toN]; repeat' first | exact trivial | exact EntL.refl _ | exact rfl | omega | apply And.intro | intro _)) -- 6
        refine gk_region env false [] [2, 3, 6, 7, 8, 90] ?_ (hp := (by simp only [AllP, bb, toN]; repeat' first | exact trivial | exact EntL.refl _ | exact rfl | omega | apply And.intro | intro _ | (simp; done))) -- 7
        refine gk_if (fun c2 => ?_) (fun c2 => ?_)
        · try simp only [bb, toN] at c2
          exact absurd c2 (by simp)
        · try simp only [bb, toN] at c2
          cases hin : inForm t
          · refine gk_region env false [.call (setN_ok d hd K t (by omega) hc0 hK hin)] [2, 3, 6, 7, 8, 13, 14] ?_ (hp := (by simp only [AllP, bb, toN]; repeat' first | exact trivial | exact EntL.refl _ | exact rfl | omega | apply And.intro | intro _)) -- 9
            refine gk_region env false [.call (inFormY_ok t (by omega) hin)] [2, 3, 6, 7, 8, 13, 14, 110] ?_ (hp := (by simp only [AllP, bb, toN]; repeat' first | exact trivial | exact EntL.refl _ | exact rfl | omega | apply And.intro | intro _)) -- 10
            refine gk_if (fun c3 => ?_) (fun c3 => ?_)
            · try simp only [bb, toN] at c3
              exact absurd c3 (by simp)
            · try simp only [bb, toN] at c3
              refine gk_region env false [] [2, 3, 6, 7, 8, 13, 112] ?_ (hp := (by simp only [AllP, bb, toN]; repeat' first | exact trivial | exact EntL.refl _ | exact rfl | omega | apply And.intro | intro _)) -- 12
              refine gk_ifn (fun c4 => ?_) (fun c4 => ?_)
              · try simp only [toN] at c4
                refine gk_region env false [] [2, 3, 6, 7, 8, 13] ?_ (hp := (by simp only [AllP, bb, toN]; repeat' first | exact trivial | exact EntL.refl _ | exact rfl | omega | apply And.intro | intro _)) -- 13
                refine gk_ret env ?_
                simp [tupG]
              · try simp only [toN] at c4
                exact absurd c4 (by simp)
          · have hx : Fit (setD d K t) := by have := setE_fit d hd K t; rw [setE, if_pos hc0, if_pos (hasB_of hc0 hK), if_pos hin] at this; exact this
            have hxr := set_right hr (n := K) hin
            have hxc := check_right hxr
            have hxl := setD_length d K t
            refine gk_region env false [.call (setY_ok d hd K t (by omega) hc0 hK hin)] [2, 3, 6, 7, 8, 13, 14] ?_ (hp := (by simp only [AllP, bb, toN]; repeat' first | exact trivial | exact EntL.refl _ | exact rfl | omega | apply And.intro | intro _)) -- 9
            refine gk_region env false [.call (inFormY_ok t (by omega) hin)] [2, 3, 6, 7, 8, 13, 14, 110] ?_ (hp := (by simp only [AllP, bb, toN]; repeat' first | exact trivial | exact EntL.refl _ | exact rfl | omega | apply And.intro | intro _)) -- 10
            refine gk_if (fun c3 => ?_) (fun c3 => ?_)
            · try simp only [bb, toN] at c3
              exact absurd c3 (by simp)
            · try simp only [bb, toN] at c3
              refine gk_region env false [] [2, 3, 6, 7, 8, 13, 112] ?_ (hp := (by simp only [AllP, bb, toN]; repeat' first | exact trivial | exact EntL.refl _ | exact rfl | omega | apply And.intro | intro _)) -- 12
              refine gk_ifn (fun c4 => ?_) (fun c4 => ?_)
              · try simp only [toN] at c4
                exact absurd c4 (by simp)
              · try simp only [toN] at c4
                refine gk_region env false [.call (checkY_ok (setD d K t) hx hxc)] [2, 3, 6, 7, 8, 13, 138] ?_ (hp := (by simp only [AllP, bb, toN]; repeat' first | exact trivial | exact EntL.refl _ | exact rfl | omega | apply And.intro | intro _)) -- 14
                refine gk_if (fun c5 => ?_) (fun c5 => ?_)
                · try simp only [bb, toN] at c5
                  have hkd : (setD d K t).kind = d.kind := rfl
                  exact absurd c5 (by simp [setD_length, hkd])
                · try simp only [bb, toN] at c5
                  refine gk_region env false [] [2, 3, 6, 7, 8, 13, 15] ?_ (hp := (by simp only [AllP, bb, toN]; repeat' first | exact trivial | exact EntL.refl _ | exact rfl | omega | apply And.intro | intro _)) -- 16
                  refine gk_loop (α := Nat) (fun i => i ≤ d.fields.length) (fun i => [(15, iG i)]) (fun _ => []) (fun i => d.fields.length - i) 0 (Nat.zero_le _) ?_ -- loop 17
                  rintro i hi
                  refine gk_region env false [] [2, 3, 6, 7, 8, 13, 15, 143] ?_ (hp := (by simp only [AllP, bb, toN]; repeat' first | exact trivial | exact EntL.refl _ | exact rfl | omega | apply And.intro | intro _)) -- 17
                  refine gk_ifd (fun c6 => ?_) (fun c6 => ?_)
                  · try simp only [toN] at c6
                    have hi1 : i < d.fields.length := by omega
                    refine gk_region env false [.call (sameF_ok ((setD d K t).fields.getD i default) (d.fields.getD i default) (hx.at_ (by rw [setD_length]; omega))), .call (findS_ok d hx hxr hi1)] [2, 3, 6, 7, 8, 13, 15, 189] ?_ (hp := (by simp only [AllP, bb, toN]; repeat' first | exact trivial | exact EntL.refl _ | exact rfl | omega | apply And.intro | intro _)) -- 19
                    refine gk_if (fun c7 => ?_) (fun c7 => ?_)
                    · try simp only [bb, toN] at c7
                      rw [setD_name hi1] at c7
                      have ho : i ≠ K → _ := fun q => set_other (t := t) hi1 q
                      exact absurd c7 (by simp; intro q; exact ho (fun e => q (by rw [e])))
                    · try simp only [bb, toN] at c7
                      refine gk_region env false [] [2, 3, 6, 7, 8, 13, 15] ?_ (hp := (by simp only [AllP, bb, toN]; repeat' first | exact trivial | exact EntL.refl _ | exact rfl | omega | apply And.intro | intro _)) -- 18
                      refine gk_round (i + 1) ?_
                      omega
                  · try simp only [toN] at c6
                    refine gk_region env false [.call (certS_ok d hx hK hxc)] [2, 6, 7, 8, 13, 16, 17] ?_ (hp := (by simp only [AllP, bb, toN]; repeat' first | exact trivial | exact EntL.refl _ | exact rfl | omega | apply And.intro | intro _)) -- 21
                    refine gk_region env false [.call (possS_ok d hx (by omega) hK hxc)] [6] ?_ (hp := (by simp only [AllP, bb, toN]; repeat' first | exact trivial | exact EntL.refl _ | exact rfl | omega | apply And.intro | intro _)) -- 22
                    refine gk_ret env ?_
                    simp [tupG]
      · refine gk_region env false [.call (texts_ok d hd K)] [2, 3, 6, 7, 8, 9, 10] ?_ (hp := (by simp only [AllP, bb, toN]; repeat' first | exact trivial | exact EntL.refl _ | exact rfl | omega | apply And.intro | intro _)) -- 5
        refine gk_region env false [.call (cert0_ok d hd K hs1)] [2, 3, 6, 7, 8, 9, 10, 11, 12] ?_ (hp := (by simp only [AllP, bb, toN]; repeat' first | exact trivial | exact EntL.refl _ | exact rfl | omega | apply And.intro | intro _)) -- 6
        have htl := textsE_len d K
        refine gk_region env false [] [2, 3, 6, 7, 8, 90] ?_ (hp := (by simp only [AllP, bb, toN]; repeat' first | exact trivial | exact EntL.refl _ | exact rfl | omega | apply And.intro | intro _ | contradiction | (simp at *; done) | (exfalso; simp_all; done))) -- 7
        refine gk_if (fun c2 => ?_) (fun c2 => ?_)
        · try simp only [bb, toN] at c2
          have ht0 := texts_0 hc0 hK hs1
          exact absurd c2 (by simpa using ht0)
        · try simp only [bb, toN] at c2
          cases hin : inForm t
          · refine gk_region env false [.call (setN_ok d hd K t (by omega) hc0 hK hin)] [2, 3, 6, 7, 8, 13, 14] ?_ (hp := (by simp only [AllP, bb, toN]; repeat' first | exact trivial | exact EntL.refl _ | exact rfl | omega | apply And.intro | intro _)) -- 9
            refine gk_region env false [.call (inFormY_ok t (by omega) hin)] [2, 3, 6, 7, 8, 13, 14, 110] ?_ (hp := (by simp only [AllP, bb, toN]; repeat' first | exact trivial | exact EntL.refl _ | exact rfl | omega | apply And.intro | intro _)) -- 10
            refine gk_if (fun c3 => ?_) (fun c3 => ?_)
            · try simp only [bb, toN] at c3
              exact absurd c3 (by simp)
            · try simp only [bb, toN] at c3
              refine gk_region env false [] [2, 3, 6, 7, 8, 13, 112] ?_ (hp := (by simp only [AllP, bb, toN]; repeat' first | exact trivial | exact EntL.refl _ | exact rfl | omega | apply And.intro | intro _)) -- 12
              refine gk_ifn (fun c4 => ?_) (fun c4 => ?_)
              · try simp only [toN] at c4
                refine gk_region env false [] [2, 3, 6, 7, 8, 13] ?_ (hp := (by simp only [AllP, bb, toN]; repeat' first | exact trivial | exact EntL.refl _ | exact rfl | omega | apply And.intro | intro _)) -- 13
                refine gk_ret env ?_
                simp [tupG]
              · try simp only [toN] at c4
                exact absurd c4 (by simp)
          · have hx : Fit (setD d K t) := by have := setE_fit d hd K t; rw [setE, if_pos hc0, if_pos (hasB_of hc0 hK), if_pos hin] at this; exact this
            have hxr := set_right hr (n := K) hin
            have hxc := check_right hxr
            have hxl := setD_length d K t
            refine gk_region env false [.call (setY_ok d hd K t (by omega) hc0 hK hin)] [2, 3, 6, 7, 8, 13, 14] ?_ (hp := (by simp only [AllP, bb, toN]; repeat' first | exact trivial | exact EntL.refl _ | exact rfl | omega | apply And.intro | intro _)) -- 9
            refine gk_region env false [.call (inFormY_ok t (by omega) hin)] [2, 3, 6, 7, 8, 13, 14, 110] ?_ (hp := (by simp only [AllP, bb, toN]; repeat' first | exact trivial | exact EntL.refl _ | exact rfl | omega | apply And.intro | intro _)) -- 10
            refine gk_if (fun c3 => ?_) (fun c3 => ?_)
            · try simp only [bb, toN] at c3
              exact absurd c3 (by simp)
            · try simp only [bb, toN] at c3
              refine gk_region env false [] [2, 3, 6, 7, 8, 13, 112] ?_ (hp := (by simp only [AllP, bb, toN]; repeat' first | exact trivial | exact EntL.refl _ | exact rfl | omega | apply And.intro | intro _)) -- 12
              refine gk_ifn (fun c4 => ?_) (fun c4 => ?_)
              · try simp only [toN] at c4
                exact absurd c4 (by simp)
              · try simp only [toN] at c4
                refine gk_region env false [.call (checkY_ok (setD d K t) hx hxc)] [2, 3, 6, 7, 8, 13, 138] ?_ (hp := (by simp only [AllP, bb, toN]; repeat' first | exact trivial | exact EntL.refl _ | exact rfl | omega | apply And.intro | intro _)) -- 14
                refine gk_if (fun c5 => ?_) (fun c5 => ?_)
                · try simp only [bb, toN] at c5
                  have hkd : (setD d K t).kind = d.kind := rfl
                  exact absurd c5 (by simp [setD_length, hkd])
                · try simp only [bb, toN] at c5
                  refine gk_region env false [] [2, 3, 6, 7, 8, 13, 15] ?_ (hp := (by simp only [AllP, bb, toN]; repeat' first | exact trivial | exact EntL.refl _ | exact rfl | omega | apply And.intro | intro _)) -- 16
                  refine gk_loop (α := Nat) (fun i => i ≤ d.fields.length) (fun i => [(15, iG i)]) (fun _ => []) (fun i => d.fields.length - i) 0 (Nat.zero_le _) ?_ -- loop 17
                  rintro i hi
                  refine gk_region env false [] [2, 3, 6, 7, 8, 13, 15, 143] ?_ (hp := (by simp only [AllP, bb, toN]; repeat' first | exact trivial | exact EntL.refl _ | exact rfl | omega | apply And.intro | intro _)) -- 17
                  refine gk_ifd (fun c6 => ?_) (fun c6 => ?_)
                  · try simp only [toN] at c6
                    have hi1 : i < d.fields.length := by omega
                    refine gk_region env false [.call (sameF_ok ((setD d K t).fields.getD i default) (d.fields.getD i default) (hx.at_ (by rw [setD_length]; omega))), .call (findS_ok d hx hxr hi1)] [2, 3, 6, 7, 8, 13, 15, 189] ?_ (hp := (by simp only [AllP, bb, toN]; repeat' first | exact trivial | exact EntL.refl _ | exact rfl | omega | apply And.intro | intro _)) -- 19
                    refine gk_if (fun c7 => ?_) (fun c7 => ?_)
                    · try simp only [bb, toN] at c7
                      rw [setD_name hi1] at c7
                      have ho : i ≠ K → _ := fun q => set_other (t := t) hi1 q
                      exact absurd c7 (by simp; intro q; exact ho (fun e => q (by rw [e])))
                    · try simp only [bb, toN] at c7
                      refine gk_region env false [] [2, 3, 6, 7, 8, 13, 15] ?_ (hp := (by simp only [AllP, bb, toN]; repeat' first | exact trivial | exact EntL.refl _ | exact rfl | omega | apply And.intro | intro _)) -- 18
                      refine gk_round (i + 1) ?_
                      omega
                  · try simp only [toN] at c6
                    refine gk_region env false [.call (certS_ok d hx hK hxc)] [2, 6, 7, 8, 13, 16, 17] ?_ (hp := (by simp only [AllP, bb, toN]; repeat' first | exact trivial | exact EntL.refl _ | exact rfl | omega | apply And.intro | intro _)) -- 21
                    refine gk_region env false [.call (possS_ok d hx (by omega) hK hxc)] [6] ?_ (hp := (by simp only [AllP, bb, toN]; repeat' first | exact trivial | exact EntL.refl _ | exact rfl | omega | apply And.intro | intro _)) -- 22
                    refine gk_ret env ?_
                    simp [tupG]
end Go.Gh
