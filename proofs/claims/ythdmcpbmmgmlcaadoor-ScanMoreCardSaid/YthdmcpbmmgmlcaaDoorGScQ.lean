/- Walks by the logic of calls, and plain laws. -/
import Derived.Test.YthdmcpbmmgmlcaaDoorGScP
namespace Go.Gh
open Go Go.Proofs
set_option maxRecDepth 1000000
set_option maxHeartbeats 2000000
set_option linter.unusedSimpArgs false
set_option linter.unusedVariables false
open Go.RowKit

theorem readE_len (d : Dc) (hd : Fit d) (i : Int) : (readE d i).1.names.length ≤ 9223372036854775807 ∧ (readE d i).1.texts.length ≤ 9223372036854775807 := by
  have h1 := hd.fields
  unfold readE
  split
  · split
    · rw [readP_eq]; simp only [List.length_map, readT_length]; omega
    · simp
  · simp
theorem setE_fit (d : Dc) (hd : Fit d) (n : Int) (t : ByteArray) : Fit (setE d n t).1 := by
  have h0 : Fit ⟨⟨#[]⟩, []⟩ := ⟨by show (0 : Nat) ≤ 1000; omega, by simp, fun f hf => (by cases hf)⟩
  unfold setE
  split
  · split
    · split
      · rename_i h1 h2 h3
        simp only [inForm, Bool.and_eq_true, decide_eq_true_eq, List.all_eq_true] at h3
        have hl : (setD d n t).fields.length = d.fields.length := setL_length _ _ _ _
        refine ⟨hd.kind, by rw [hl]; exact hd.fields, fun f hf => ?_⟩
        obtain ⟨j, hj, rfl⟩ := List.mem_map.1 hf
        have hj := List.mem_range.1 hj
        have hf := hd.at_ hj
        unfold setF
        split
        · refine ⟨hf.name, by simp; omega, fun w hw => ?_, fun w hw s hs => ?_⟩
          · obtain ⟨x, hx, rfl⟩ := List.mem_map.1 hw
            simp
          · obtain ⟨x, hx, rfl⟩ := List.mem_map.1 hw
            simp at hs; subst hs
            have := validS_size (h3.2 _ hx); omega
        · exact hf
      · exact h0
    · exact h0
  · exact h0
theorem textsE_len (d : Dc) (n : Int) : (textsE d n).1.length ≤ 9223372036854775807 := by
  unfold textsE
  split
  · split
    · split
      · simp
      · rename_i h; simp only [textsL, List.length_map, List.length_range]; omega
    · simp
  · simp

theorem tells_ok (d : Dc) (a n : Int) (t : ByteArray) : GC Tryd.prog 3 [dcG d, iG a, iG n, sG t] (bG true) := by
  refine gc_of_gk Tryd.func3 ?_
  refine gk_region env false [] [1, 2, 3, 4, 8] ?_ -- 0
  refine gk_region env false [.call sane_ok] [1, 2, 3, 4, 8, 9] ?_ -- 1
  refine gk_region env false [.call (few_ok d)] [1, 2, 3, 4, 8, 9, 38] ?_ -- 2
  refine gk_if (fun c1 => ?_) (fun c1 => ?_)
  · try simp only [bb, toN] at c1
    refine gk_region env false [] [1, 2, 3, 4, 8, 9] ?_ -- 3
    refine gk_ret env ?_
    simp [tupG]
  · try simp only [bb, toN] at c1
    have hw : fewD d = true := by simpa using c1.1
    have hd := few_fit hw
    have ht : t.size ≤ 1000000 := by omega
    refine gk_region env false [.call (count_ok d hd)] [1, 2, 3, 4, 8, 9, 10, 11] ?_ -- 4
    refine gk_region env false [.call (rcount_ok d hd)] [1, 2, 3, 4, 8, 9, 10, 11, 12, 13] ?_ -- 5
    refine gk_region env false [.call (read_ok d hd a)] [1, 2, 3, 4, 8, 9, 10, 11, 12, 13, 14, 15] ?_ -- 6
    refine gk_region env false [.call (rread_ok d hd a)] [2, 3, 4, 8, 9, 10, 11, 12, 13, 14, 15, 16, 17] ?_ -- 7
    refine gk_region env false [.call (certain_ok d hd n)] [2, 3, 4, 8, 9, 10, 11, 12, 13, 14, 15, 16, 17, 18, 19] ?_ -- 8
    refine gk_region env false [.call (rcertain_ok d hw n)] [2, 3, 4, 8, 9, 10, 11, 12, 13, 14, 15, 16, 17, 18, 19, 20, 21] ?_ -- 9
    refine gk_region env false [.call (set_ok d hd n t ht)] [2, 3, 4, 8, 9, 10, 11, 12, 13, 14, 15, 16, 17, 18, 19, 20, 21, 22, 23] ?_ -- 10
    refine gk_region env false [.call (rset_ok d hd n t ht)] [2, 3, 4, 8, 9, 10, 11, 12, 13, 14, 15, 16, 17, 18, 19, 20, 21, 22, 23, 24, 25] ?_ -- 11
    refine gk_region env false [.call (texts_ok d hd n)] [2, 3, 4, 8, 9, 10, 11, 12, 13, 14, 15, 16, 17, 18, 19, 20, 21, 22, 23, 24, 25, 26, 27] ?_ -- 12
    refine gk_region env false [.call (rtexts_ok d hd n)] [2, 3, 4, 8, 9, 10, 11, 12, 13, 14, 15, 16, 17, 18, 19, 20, 21, 22, 23, 24, 25, 26, 27, 28, 29] ?_ -- 13
    refine gk_region env false [.call (check_ok d hd), .call (rcheck_ok d hd), .call (samePl_ok _ (readE d a).1 (readE_len d hd a).1 (readE_len d hd a).2)] [2, 3, 4, 8, 9, 22, 23, 24, 25, 26, 27, 28, 29, 135] ?_ -- 14
    refine gk_if (fun c2 => ?_) (fun c2 => ?_)
    · try simp only [bb, toN] at c2
      simp at c2
    · try simp only [bb, toN] at c2
      refine gk_region env false [.call (same_ok _ (setE d n t).1 (setE_fit d hd n t)), .call (sameT_ok _ (textsE d n).1 (textsE_len d n)), .call (possible_ok d hd n t ht), .call (rpossible_ok d hd n t ht), .call (find_ok d hd t), .call (rfind_ok d hd t)] [8] ?_ -- 16
      refine gk_ret env ?_
      simp [tupG]
end Go.Gh
