/- Walks by the logic of calls, and plain laws. -/
import Derived.Test.YtfbijgbpipedoaaGreatDoorGUnit
namespace Go.Gh
open Go Go.Proofs
set_option maxRecDepth 1000000
set_option maxHeartbeats 2000000
set_option linter.unusedSimpArgs false
set_option linter.unusedVariables false
open Go.Proofs.YtfbijgbpipedoaaGreatDoor Go.Proofs.YtfbijgbpipedoaaGreatDoor.Ra

theorem eq_ratio (a b c d : Int) : EqC Tryz.prog 33 [.int .i64 a, .int .i64 b] [.int .i64 c, .int .i64 d] (decide (a = c) && (decide (b = d) && true)) :=
  EqC.of tab_ok rfl rfl (by kernel_rfl) (by kernel_rfl) (.int tab_ok rfl rfl rfl rfl (.int tab_ok rfl rfl rfl rfl .nil))
theorem eq_quantity (a b c d : Int) : EqC Tryz.prog 27 [.int .i64 a, .int .i64 b] [.int .i64 c, .int .i64 d] (decide (a = c) && (decide (b = d) && true)) :=
  EqC.of tab_ok rfl rfl (by kernel_rfl) (by kernel_rfl) (.int tab_ok rfl rfl rfl rfl (.int tab_ok rfl rfl rfl rfl .nil))
def tbl : List Un := [⟨⟨#[107, 103]⟩, 0, 1, 1⟩, ⟨⟨#[116]⟩, 0, 1000, 1⟩, ⟨⟨#[112, 99, 115]⟩, 2, 1, 1⟩, ⟨⟨#[100, 111, 122, 101, 110]⟩, 2, 12, 1⟩]
theorem tbl_len : tbl.length ≤ 9223372036854775807 := by decide
theorem tbl_names : ∀ u, u ∈ tbl → u.name.size ≤ 9223372036854775807 := by
  intro u hu
  simp only [tbl, List.mem_cons, List.not_mem_nil, or_false] at hu
  rcases hu with rfl | rfl | rfl | rfl <;> decide
def fewF (t : List Un) (i : Nat) : Bool := if i < t.length ∧ i < 60 then if 60 < ((t.getD i default).name.size : Int) then false else fewF t (i + 1) else decide ((t.length : Int) ≤ 60)
termination_by t.length - i
def quOk (t : List Un) (q : Qu) : Bool := decide (0 ≤ q.u) && decide (q.u < t.length) && decide (0 ≤ q.n) && decide (q.n ≤ 1000000000)
theorem quOk_ok {t : List Un} (hc : chk t = 0) {q : Qu} (h : quOk t q = true) : QuOk t q := by
  simp only [quOk, Bool.and_eq_true, decide_eq_true_eq] at h
  exact ⟨by omega, by omega, by omega, by omega, chk_ok hc (by omega) (by omega)⟩
theorem law_pre {t : List Un} {a b c : Qu} (h : (((fewF t 0 = true ∧ chk t = 0) ∧ quOk t a = true) ∧ quOk t b = true) ∧ quOk t c = true) : fewF t 0 = true ∧ chk t = 0 ∧ QuOk t a ∧ QuOk t b ∧ QuOk t c :=
  ⟨h.1.1.1.1, h.1.1.1.2, quOk_ok h.1.1.1.2 h.1.1.2, quOk_ok h.1.1.1.2 h.1.2, quOk_ok h.1.1.1.2 h.2⟩
theorem cmpV_in (a b : Q) : -1 ≤ cmpV a b ∧ cmpV a b ≤ 1 := by
  unfold cmpV cmpN; split
  · split
    · omega
    · split <;> omega
  · omega
theorem cmp_neg (t : List Un) (a b : Qu) : -9223372036854775808 ≤ 0 - (cmpR t a b).1 ∧ 0 - (cmpR t a b).1 ≤ 9223372036854775807 := by
  have := cmpV_in (valV t a) (valV t b)
  unfold cmpR
  split
  · split <;> dsimp only <;> omega
  · dsimp only; omega

theorem table_ok  : GC Tryz.prog 26 [] (rowU tbl) := by
  refine gc_of_gk Tryz.func26 ?_
  refine gk_region env false [] [0] ?_ -- 0
  refine gk_region env false [.el default unC tbl] [0] ?_ -- 1
  refine gk_ret env ?_
  rfl

theorem few_ok (t : List Un) (ht : t.length ≤ 9223372036854775807) (hs : ∀ u, u ∈ t → u.name.size ≤ 9223372036854775807) : GC Tryz.prog 5 [rowU t] (bG (fewF t 0)) := by
  refine gc_of_gk Tryz.func5 ?_
  refine gk_region env false [] [0, 2] ?_ -- 0
  refine gk_region env false [] [0, 2, 3] ?_ -- 1
  refine gk_loop (α := Nat) (fun i => i ≤ t.length ∧ fewF t 0 = fewF t i) (fun i => [(3, iG i)]) (fun _ => []) (fun i => t.length - i) 0 ⟨by omega, rfl⟩ ?_ -- loop 2
  rintro i ⟨hi, he⟩
  refine gk_region env false [] [0, 2, 3, 11] ?_ -- 2
  refine gk_if (fun c1 => ?_) (fun c1 => ?_)
  · try simp only [bb, toN] at c1
    refine gk_region env false [] [0, 2, 3, 20] ?_ -- 4
    refine gk_ifd (fun c2 => ?_) (fun c2 => ?_)
    · try simp only [toN] at c2
      refine gk_region env false [] [0, 2, 3] ?_ -- 5
      refine gk_ret env ?_
      rw [he, fewF, if_pos (by omega), if_pos c2]; rfl
    · try simp only [toN] at c2
      refine gk_region env false [] [0, 2, 3] ?_ -- 3
      refine gk_round (i + 1) ?_
      refine ⟨by omega, ?_⟩
      rw [he, fewF, if_pos (by omega), if_neg c2]
  · try simp only [bb, toN] at c1
    refine gk_region env false [] [2] ?_ -- 6
    refine gk_ret env ?_
    rw [he, fewF, if_neg (by omega)]; rfl

theorem rightq_ok (t : List Un) (q : Qu) : GC Tryz.prog 33 [rowU t, quG q] (bG (quOk t q)) := by
  refine gc_of_gk Tryz.func33 ?_
  refine gk_region env false [] [0, 3, 4] ?_ -- 0
  refine gk_region env false [] [4] ?_ -- 1
  refine gk_ret env ?_
  simp [quOk, tupG]

theorem small_ok  : GC Tryz.prog 4 [] (bG true) := by
  refine gc_of_gk Tryz.func4 ?_
  refine gk_region env false [] [0] ?_ -- 0
  refine gk_region env false [.call table_ok] [0, 1] ?_ -- 1
  refine gk_region env false [.call (Value_ok tbl tbl_len tbl_names ⟨3, 1⟩)] [0, 1, 2, 3] ?_ -- 2
  refine gk_region env false [.call (convert_ok tbl tbl_len tbl_names ⟨30, 2⟩ 3)] [0, 1, 2, 3, 4, 5] ?_ -- 3
  refine gk_region env false [.call (compare_ok tbl tbl_len tbl_names ⟨2, 1⟩ ⟨1999, 0⟩)] [0, 1, 2, 3, 4, 5, 6, 7] ?_ -- 4
  refine gk_region env false [.call (compare_ok tbl tbl_len tbl_names ⟨1, 1⟩ ⟨1, 2⟩)] [0, 1, 2, 3, 4, 5, 6, 7, 9] ?_ -- 5
  refine gk_region env false [.call (within_ok tbl tbl_len tbl_names ⟨1, 1⟩ 50 50 ⟨950, 0⟩)] [0, 1, 2, 3, 4, 5, 6, 7, 9, 10, 11] ?_ -- 6
  refine gk_region env false [.call (within_ok tbl tbl_len tbl_names ⟨1, 1⟩ 50 50 ⟨949, 0⟩)] [0, 1, 2, 3, 4, 5, 6, 7, 9, 10, 11, 12, 13] ?_ -- 7
  refine gk_region env false [.call (tolerance_ok ⟨#[53, 32, 112, 101, 114, 99, 101, 110, 116, 32, 109, 111, 114, 101, 32, 111, 114, 32, 108, 101, 115, 115]⟩ (by decide))] [0, 1, 2, 3, 4, 5, 6, 7, 9, 10, 11, 12, 13, 14, 15, 16] ?_ -- 8
  refine gk_region env false [.call (tolerance_ok ⟨#[48, 53, 32, 112, 101, 114, 99, 101, 110, 116, 32, 109, 111, 114, 101]⟩ (by decide))] [0, 1, 2, 3, 4, 5, 6, 7, 9, 10, 11, 12, 13, 14, 15, 16, 19] ?_ -- 9
  refine gk_region env false [.call (read_ok tbl tbl_len tbl_names ⟨#[49, 50, 32, 107, 103]⟩ (by decide))] [0, 1, 2, 3, 4, 5, 6, 7, 9, 10, 11, 12, 13, 14, 15, 16, 19, 20, 21] ?_ -- 10
  refine gk_region env false [.call (read_ok tbl tbl_len tbl_names ⟨#[49, 50, 107, 103]⟩ (by decide))] [0, 1, 2, 3, 4, 5, 6, 7, 9, 10, 11, 12, 13, 14, 15, 16, 19, 20, 21, 23] ?_ -- 11
  refine gk_region env false [] [0, 1, 2, 4, 6, 10, 12, 14, 15, 16, 19, 20, 114] ?_ -- 12
  refine gk_if (fun c1 => ?_) (fun c1 => ?_)
  · refine gk_region env false [] [0, 1, 2, 4, 6, 10, 12, 14, 15, 16, 19, 20] ?_ -- 13
    refine gk_ret env ?_
    exact absurd (c1.symm.trans (show _ = false by kernel_rfl)) (by decide)
  · refine gk_region env false [.eq (eq_ratio (valueR tbl ⟨3, 1⟩).1.n (valueR tbl ⟨3, 1⟩).1.d 3000 1), .eq (eq_ratio (convR tbl ⟨30, 2⟩ 3).1.n (convR tbl ⟨30, 2⟩ 3).1.d 5 2), .eq (eq_quantity (readR tbl ⟨#[49, 50, 32, 107, 103]⟩).1.n (readR tbl ⟨#[49, 50, 32, 107, 103]⟩).1.u 12 0), .call (check_ok tbl tbl_len tbl_names), .call (find_ok tbl ⟨#[100, 111, 122, 101, 110]⟩ tbl_len)] [0] ?_ -- 14
    refine gk_ret env ?_
    kernel_rfl
end Go.Gh
