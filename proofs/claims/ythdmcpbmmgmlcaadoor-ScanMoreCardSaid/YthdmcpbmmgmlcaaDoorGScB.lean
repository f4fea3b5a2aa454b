/- Walks by the logic of calls, and plain laws. -/
import Derived.Test.YthdmcpbmmgmlcaaDoorGScA
namespace Go.Gh
open Go Go.Proofs
set_option maxRecDepth 1000000
set_option maxHeartbeats 2000000
set_option linter.unusedSimpArgs false
set_option linter.unusedVariables false
open Go.RowKit

theorem fieldsE_bad {fs : List Fl} {i : Nat} {e : Int} (hi : i < fs.length) (he : fieldsE fs 0 = fieldsE fs i) (h : fieldE fs i = e) (h0 : e ≠ 0) : fieldsE fs 0 = e := by
  rw [he, fieldsE, if_pos hi, if_neg (by rw [h]; exact h0), h]
theorem fieldsE_on {fs : List Fl} {i : Nat} (hi : i < fs.length) (he : fieldsE fs 0 = fieldsE fs i) (h : fieldE fs i = 0) : fieldsE fs 0 = fieldsE fs (i + 1) := by
  rw [he, fieldsE, if_pos hi, if_pos h]
theorem fieldE_2 {fs : List Fl} {i : Nat} (h : nameOk (fs.getD i default).name = false) : fieldE fs i = 2 := by rw [fieldE, if_pos h]
theorem fieldE_5 {fs : List Fl} {i : Nat} (h : nameOk (fs.getD i default).name = true) (h2 : ((fs.take i).any fun g => decide (g.name = (fs.getD i default).name)) = true) : fieldE fs i = 5 := by rw [fieldE, if_neg (by rw [h]; simp), if_pos h2]
theorem fieldE_6 {fs : List Fl} {i : Nat} (h : nameOk (fs.getD i default).name = true) (h2 : ((fs.take i).any fun g => decide (g.name = (fs.getD i default).name)) = false) (h3 : (8 : Int) < (fs.getD i default).words.length) : fieldE fs i = 6 := by
  rw [fieldE, if_neg (by rw [h]; simp), if_neg (by rw [h2]; simp), if_pos (by omega)]
theorem fieldE_w {fs : List Fl} {i : Nat} (h : nameOk (fs.getD i default).name = true) (h2 : ((fs.take i).any fun g => decide (g.name = (fs.getD i default).name)) = false) (h3 : ¬ (8 : Int) < (fs.getD i default).words.length) : fieldE fs i = wordsE (fs.getD i default).words 0 := by
  rw [fieldE, if_neg (by rw [h]; simp), if_neg (by rw [h2]; simp), if_neg (by omega)]

theorem check_ok (d : Dc) (hd : Fit d) : GC Tryd.prog 20 [dcG d] (iG (checkE d)) := by
  have hd1 := hd.kind
  have hd2 := hd.fields
  refine gc_of_gk Tryd.func20 ?_
  refine gk_region env false [] [1, 2] ?_ -- 0
  refine gk_region env false [.call (name_ok d.kind (by omega))] [1, 2, 11] ?_ -- 1
  refine gk_if (fun c1 => ?_) (fun c1 => ?_)
  · try simp only [bb, toN] at c1
    refine gk_region env false [] [1, 2] ?_ -- 2
    refine gk_ret env ?_
    rw [checkE, if_pos (by simpa using c1)]; rfl
  · try simp only [bb, toN] at c1
    refine gk_region env false [] [1, 2, 15] ?_ -- 3
    refine gk_ifd (fun c2 => ?_) (fun c2 => ?_)
    · try simp only [toN] at c2
      refine gk_region env false [] [1, 2] ?_ -- 4
      refine gk_ret env ?_
      rw [checkE, if_neg (by simp [c1]), if_pos (by omega)]; rfl
    · try simp only [toN] at c2
      refine gk_region env false [] [1, 2, 17, 18, 19] ?_ -- 5
      refine gk_loop (α := Nat) (fun i => i ≤ d.fields.length ∧ fieldsE d.fields 0 = fieldsE d.fields i) (fun i => [(19, iG i)]) (fun _ => []) (fun i => d.fields.length - i) 0 ⟨by omega, rfl⟩ ?_ -- loop 6
      rintro i ⟨hi, he⟩
      have hf := fun h : i < d.fields.length => hd.at_ h
      refine gk_region env false [] [1, 2, 17, 18, 19, 20] ?_ -- 6
      refine gk_ifd (fun c3 => ?_) (fun c3 => ?_)
      · try simp only [toN] at c3
        refine gk_region env false [] [1, 2, 3, 4, 17, 18, 19] ?_ -- 7
        refine gk_region env false [.call (name_ok (d.fields.getD i default).name (by have := (hf (by omega)).name; omega))] [1, 2, 3, 4, 17, 18, 19, 24] ?_ -- 8
        refine gk_if (fun c4 => ?_) (fun c4 => ?_)
        · try simp only [bb, toN] at c4
          refine gk_region env false [] [1, 2, 4, 17, 18, 19] ?_ -- 9
          refine gk_ret env ?_
          rw [checkE, if_neg (by simp [c1]), if_neg (by omega), fieldsE_bad (by omega) he (fieldE_2 c4) (by omega)]; rfl
        · try simp only [bb, toN] at c4
          refine gk_box 1 ?_
          refine gk_region env false [.call (hasF_ok (d.fields.take i) (by simp; omega) (d.fields.getD i default))] [1, 2, 4, 17, 18, 19, 29] ?_ (hp := (by simp only [AllP, bb, toN, loI, hiI]; repeat' first | exact trivial | exact EntL.refl _ | exact BEntL.refl _ | exact rfl | omega | apply And.intro | intro _)) -- 10
          refine gk_if (fun c5 => ?_) (fun c5 => ?_)
          · try simp only [bb, toN] at c5
            refine gk_region env false [] [1, 2, 4, 17, 18, 19] ?_ -- 11
            refine gk_ret env ?_
            rw [checkE, if_neg (by simp [c1]), if_neg (by omega), fieldsE_bad (by omega) he (fieldE_5 c4 c5) (by omega)]; rfl
          · try simp only [bb, toN] at c5
            refine gk_region env false [] [1, 2, 4, 17, 18, 19, 36] ?_ -- 12
            refine gk_ifd (fun c6 => ?_) (fun c6 => ?_)
            · try simp only [toN] at c6
              refine gk_region env false [] [1, 2, 4, 17, 18, 19] ?_ -- 13
              refine gk_ret env ?_
              rw [checkE, if_neg (by simp [c1]), if_neg (by omega), fieldsE_bad (by omega) he (fieldE_6 c4 c5 c6) (by omega)]; rfl
            · try simp only [toN] at c6
              refine gk_region env false [] [1, 2, 17, 18, 19, 42, 43, 44] ?_ -- 14
              refine gk_loop (α := Nat) (fun k => k ≤ (d.fields.getD i default).words.length ∧ wordsE (d.fields.getD i default).words 0 = wordsE (d.fields.getD i default).words k) (fun k => [(44, iG k)]) (fun _ => []) (fun k => (d.fields.getD i default).words.length - k) 0 ⟨by omega, rfl⟩ ?_ -- loop 15
              rintro k ⟨hk, hk2⟩
              have hf2 := fun h : k < (d.fields.getD i default).words.length => (hf (by omega)).at_ h
              refine gk_region env false [] [1, 2, 17, 18, 19, 42, 43, 44, 45] ?_ -- 15
              refine gk_ifd (fun c7 => ?_) (fun c7 => ?_)
              · try simp only [toN] at c7
                refine gk_region env false [] [1, 2, 6, 17, 18, 19, 42, 43, 44] ?_ -- 16
                refine gk_region env false [.call (word_ok ((d.fields.getD i default).words.getD k default) (hf2 (by omega)).1 (hf2 (by omega)).2)] [1, 2, 7, 17, 18, 19, 42, 43, 44] ?_ -- 17
                refine gk_region env false [] [1, 2, 7, 17, 18, 19, 42, 43, 44, 51] ?_ -- 18
                refine gk_ifn (fun c8 => ?_) (fun c8 => ?_)
                · try simp only [toN] at c8
                  refine gk_region env false [] [1, 2, 17, 18, 19, 42, 43, 44] ?_ -- 19
                  refine gk_ret env ?_
                  have e : fieldE d.fields i = wordE ((d.fields.getD i default).words.getD k default) := (fieldE_w c4 c5 c6).trans (by rw [hk2, wordsE, if_pos (by omega), if_neg c8])
                  rw [checkE, if_neg (by simp [c1]), if_neg (by omega), fieldsE_bad (by omega) he e c8]; rfl
                · try simp only [toN] at c8
                  refine gk_region env false [] [1, 2, 17, 18, 19, 42, 43, 44] ?_ -- 20
                  refine gk_round (k + 1) ?_
                  exact ⟨by omega, hk2.trans (by rw [wordsE, if_pos (by omega), if_pos (by omega)])⟩
              · try simp only [toN] at c7
                refine gk_region env false [] [1, 2, 17, 18, 19] ?_ -- 21
                refine gk_round (i + 1) ?_
                exact ⟨by omega, fieldsE_on (by omega) he ((fieldE_w c4 c5 c6).trans (by rw [hk2, wordsE, if_neg (by omega)]))⟩
      · try simp only [toN] at c3
        refine gk_region env false [] [2] ?_ -- 22
        refine gk_ret env ?_
        rw [checkE, if_neg (by simp [c1]), if_neg (by omega), he, fieldsE, if_neg (by omega)]; rfl
end Go.Gh
