/- Walks by the logic of calls, and plain laws. -/
import Derived.Test.YtffffkfcbjobnaaGreatGCsH
import Derived.KernelRfl
namespace Go.Gh
open Go Go.Proofs
set_option maxRecDepth 1000000
set_option maxHeartbeats 2000000
set_option linter.unusedSimpArgs false
set_option linter.unusedVariables false
set_option linter.unnecessarySimpa false
set_option linter.unusedSectionVars false
variable [PowTab] [ItoaU]
open Go.RowKit

theorem ev1 : runE exR exC (exL.take 1) = 0 := by kernel_rfl
theorem ev2 : runL exR exC (exL.take 1) = ⟨60, 0, 40, 0, [], -1⟩ := by kernel_rfl
theorem ev3 : runE exR exC exL = 0 := by kernel_rfl
theorem ev4 : runL exR exC exL = ⟨120, 120, 0, 0, [0], -1⟩ := by kernel_rfl
theorem ev5 : runX exR exC exL = [0, 0, 0, 19, 3, 0] := by kernel_rfl
theorem ev6 : termsR exR exC exL = exIs s8 := by kernel_rfl

theorem memR_ex : MemR exR := by
  refine ⟨⟨by simp [exR], fun s hs => ?_⟩, ⟨by simp [exR], fun c hc => ?_⟩, by simp [exR], ⟨by simp [exR], fun c hc => ?_⟩, ⟨by simp [exR], fun o ho => ?_⟩, by simp [exR], ⟨by simp [exR], fun x hx => by cases hx⟩, by simp [exR]⟩
  · simp only [exR, List.mem_cons, List.not_mem_nil, or_false] at hs; subst hs; decide
  · simp only [exR, List.mem_cons, List.not_mem_nil, or_false] at hc; subst hc; exact ⟨by decide, by decide, by decide, by decide⟩
  · simp only [exR, List.mem_cons, List.not_mem_nil, or_false] at hc; rcases hc with rfl | rfl | rfl <;> decide
  · simp only [exR, List.mem_cons, List.not_mem_nil, or_false] at ho; subst ho; exact ⟨by decide, by decide, by decide⟩
theorem few_ex : Few37 exR exC exL := few37_spec (by kernel_rfl) memR_ex
theorem p0 : crdE ⟨[], [], [], [], [], [], [], []⟩ exC = 1 := by kernel_rfl
theorem p1 : GC Tryz.prog 10 [rlG exR, crdG exC, rowTn (exL.take 1)] (.tup [ledG ⟨60, 0, 40, 0, [], -1⟩, rowI [0], iG 0]) := by
  have h := Run_ok exR few_ex.fr exC few_ex.fc (exL.take 1) fun _ t ht => few_ex.ft (by decide) t (List.mem_of_mem_take ht)
  rw [ev1, ev2, show runX exR exC (exL.take 1) = [0] by kernel_rfl] at h
  exact h
theorem p2 : GC Tryz.prog 10 [rlG exR, crdG exC, rowTn exL] (.tup [ledG ⟨120, 120, 0, 0, [0], -1⟩, rowI [0, 0, 0, 19, 3, 0], iG 0]) := by
  have h := Run_ok exR few_ex.fr exC few_ex.fc exL few_ex.ft
  rw [ev3, ev4, ev5] at h
  exact h
theorem p3 : GC Tryz.prog 12 [rlG exR, crdG exC, rowTn exL] (.tup [rowD (exIs s8), iG 0]) := by
  have h := Terms_ok exR few_ex.fr exC few_ex.fc exL few_ex.ft
  rw [ev3, ev6] at h
  exact h
theorem p4 : GC Tryz.prog 14 [ledG ⟨60, 0, 40, 0, [], -1⟩, ledG ⟨60, 0, 40, 0, [], -1⟩] (bG true) := by
  have h := sameLed_ok ⟨60, 0, 40, 0, [], -1⟩ ⟨60, 0, 40, 0, [], -1⟩ (by simp) (by simp)
  rw [show ledEq ⟨60, 0, 40, 0, [], -1⟩ ⟨60, 0, 40, 0, [], -1⟩ = true by kernel_rfl] at h
  exact h
theorem p5 : GC Tryz.prog 14 [ledG ⟨120, 120, 0, 0, [0], -1⟩, ledG ⟨120, 120, 0, 0, [0], -1⟩] (bG true) := by
  have h := sameLed_ok ⟨120, 120, 0, 0, [0], -1⟩ ⟨120, 120, 0, 0, [0], -1⟩ (by simp) (by simp)
  rw [show ledEq ⟨120, 120, 0, 0, [0], -1⟩ ⟨120, 120, 0, 0, [0], -1⟩ = true by kernel_rfl] at h
  exact h
theorem p6 : GC Tryz.prog 15 [rowI [0, 0, 0, 19, 3, 0], rowI [0, 0, 0, 19, 3, 0]] (bG true) := by
  have h := sameErrs_ok [0, 0, 0, 19, 3, 0] [0, 0, 0, 19, 3, 0] (by simp) (by simp)
  simpa using h
theorem p7 : GC Tryz.prog 16 [rowD (exIs s8), rowD (exIs s8)] (bG true) := by
  have h := GC.lift (sameDemands_ok (exIs s8) (exIs s8) (by simp [exIs]) (by simp [exIs]))
  simpa using h
def exW : Dm := ⟨2, sInv, sNo, ⟨#[]⟩, ⟨#[]⟩, ⟨#[]⟩, 7, 9⟩
def exD (s : ByteArray) : Dm := ⟨1, sInv, sNo, ⟨#[]⟩, ⟨#[]⟩, s, 0, 0⟩
theorem p8 : GC Tryz.prog 17 [dmG exW, dmG (exD s8)] (bG true) := by
  have h := follows_ok exW (exD s8) (by decide)
  rw [show followsB exW (exD s8) = true by kernel_rfl] at h
  exact h
theorem p9 : GC Tryz.prog 17 [dmG exW, dmG (exD sX)] (bG false) := by
  have h := follows_ok exW (exD sX) (by decide)
  rw [show followsB exW (exD sX) = false by kernel_rfl] at h
  exact h
theorem few_text {l : List Dm} (h : ∀ d, d ∈ l → FewD d) : ∀ f, f ∈ l → f.text.size ≤ 9223372036854775807 := fun f hf => by have := (h f hf).text; omega
theorem p10 : GC Tryz.prog 19 [rowD [exW], rowD (exIs s9)] (bG true) := by
  have h := covers_ok [exW] (exIs s9) (by simp) (by simp [exIs]) (few_text (few33V_spec (l := exIs s9) (by kernel_rfl)).2)
  rw [show coversB [exW] (exIs s9) = true by kernel_rfl] at h
  exact h
theorem p11 : GC Tryz.prog 19 [rowD (exIs s9), rowD []] (bG false) := by
  have h := covers_ok (exIs s9) [] (by simp [exIs]) (by simp) (fun f hf => by cases hf)
  rw [show coversB (exIs s9) [] = false by kernel_rfl] at h
  exact h
theorem fitR_nil : FitR ⟨[], [], [], [], [], [], [], []⟩ := ⟨by simp, fun s h => (by cases h), by simp, fun s h => (by cases h), by simp, by simp, fun s h => (by cases h), by simp, fun s h => (by cases h), by simp, by simp, fun s h => (by cases h), by simp⟩
theorem p12 : GC Tryz.prog 21 [rlG ⟨[], [], [], [], [], [], [], []⟩, crdG exC] (iG 1) := by
  have h := ccheck_ok ⟨[], [], [], [], [], [], [], []⟩ fitR_nil exC few_ex.fc
  rw [p0] at h
  exact h

theorem small37_ok  : GC Tryz.prog 8 [] (bG true) := by
  refine gc_of_gk Tryz.func8 ?_
  refine gk_region env false [] [0] ?_ -- 0
  refine gk_region env false [.call example_ok] [0, 1, 2, 3] ?_ -- 1
  refine gk_region env false [.call p1] [0, 1, 2, 3, 4, 6] ?_ (hp := (by simp only [AllP, bb, toN]; repeat' first | exact trivial | exact EntL.refl _ | exact Ent.refl _ | exact Ent.nil | exact Ent.agg ⟨Ent.refl _, Ent.refl _, Ent.refl _, Ent.refl _, Ent.nil, Ent.refl _, trivial⟩ | exact Ent.agg ⟨Ent.nil, Ent.nil, Ent.nil, Ent.nil, Ent.nil, Ent.nil, Ent.nil, Ent.nil, trivial⟩ | exact rfl | omega | decide | apply And.intro | intro _ | (show _ ≤ _; decide))) -- 2
  refine gk_region env false [.call p2] [0, 1, 2, 3, 4, 6, 7, 8, 9] ?_ -- 3
  refine gk_region env false [.call p3] [0, 2, 4, 6, 7, 8, 9, 10, 11] ?_ -- 4
  refine gk_region env false [] [0, 2, 4, 7, 8, 10, 53] ?_ -- 5
  refine gk_if (fun c1 => ?_) (fun c1 => ?_)
  · try simp only [bb, toN] at c1
    exact absurd c1 (by simp)
  · try simp only [bb, toN] at c1
    refine gk_region env false [.call p4, .el default inC [0], .call p5] [0, 2, 8, 10, 12] ?_ (hp := (by simp only [AllP, bb, toN]; repeat' first | exact trivial | exact EntL.refl _ | exact Ent.refl _ | exact Ent.nil | exact Ent.agg ⟨Ent.refl _, Ent.refl _, Ent.refl _, Ent.refl _, Ent.nil, Ent.refl _, trivial⟩ | exact Ent.agg ⟨Ent.nil, Ent.nil, Ent.nil, Ent.nil, Ent.nil, Ent.nil, Ent.nil, Ent.nil, trivial⟩ | exact rfl | omega | decide | apply And.intro | intro _ | (show _ ≤ _; decide))) -- 7
    refine gk_region env false [.el default inC [0, 0, 0, 19, 3, 0], .call p6, .call (is_ok s8), .call p7] [0, 2, 12, 13] ?_ (hp := (by simp only [AllP, bb, toN]; repeat' first | exact trivial | exact EntL.refl _ | exact Ent.refl _ | exact Ent.nil | exact Ent.agg ⟨Ent.refl _, Ent.refl _, Ent.refl _, Ent.refl _, Ent.nil, Ent.refl _, trivial⟩ | exact Ent.agg ⟨Ent.nil, Ent.nil, Ent.nil, Ent.nil, Ent.nil, Ent.nil, Ent.nil, Ent.nil, trivial⟩ | exact rfl | omega | decide | apply And.intro | intro _ | (show _ ≤ _; decide))) -- 8
    refine gk_region env false [] [0, 2, 12, 13, 14] ?_ -- 9
    refine gk_region env false [.call (is_ok s8), .call p8, .call (is_ok sX), .call p9, .el default dmC [exW], .call (is_ok s9), .call p10, .call (is_ok s9), .call p11, .call p12] [0] ?_ (hp := (by simp only [AllP, bb, toN]; repeat' first | exact trivial | exact EntL.refl _ | exact Ent.refl _ | exact Ent.nil | exact Ent.agg ⟨Ent.refl _, Ent.refl _, Ent.refl _, Ent.refl _, Ent.nil, Ent.refl _, trivial⟩ | exact Ent.agg ⟨Ent.nil, Ent.nil, Ent.nil, Ent.nil, Ent.nil, Ent.nil, Ent.nil, Ent.nil, trivial⟩ | exact rfl | omega | decide | apply And.intro | intro _ | (show _ ≤ _; decide))) -- 10
    refine gk_ret env ?_
    rfl
end Go.Gh
