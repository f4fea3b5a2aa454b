/- Walks by the logic of calls, and plain laws. -/
import Derived.Test.YtffffkfcbjobnaaGreatGCsB
namespace Go.Gh
open Go Go.Proofs
set_option maxRecDepth 1000000
set_option maxHeartbeats 2000000
set_option linter.unusedSimpArgs false
set_option linter.unusedVariables false
set_option linter.unnecessarySimpa false
set_option linter.unusedSectionVars false
variable [PowTab] [ItoaU]
open Go.RowKit

abbrev rowTn (l : List Trn) : G := .d (.row default trnC l)
def runF (l : List Trn) (i : Nat) (s : Sta) (out : List Int) : Sta × List Int := if i < l.length then runF l (i + 1) (turnS s (l.getD i default)).1 (out ++ [(turnS s (l.getD i default)).2]) else (s, out)
termination_by l.length - i
def sta0 (r : Rlm) (c : Crd) : Sta := ⟨r.firms.length, c, c.terms, 0, 0, c.sum, 0, [], -1, [], false, c.rev, 0⟩
def runS (r : Rlm) (c : Crd) (l : List Trn) : Sta × List Int := runF l 0 (sta0 r c) []
def runE (r : Rlm) (c : Crd) (l : List Trn) : Int := if crdE r c = 0 then if (60 : Int) < l.length then 6 else 0 else crdE r c
theorem fits_0 {r : Rlm} {c : Crd} (h : crdE r c = 0) (hc : FitCr c) : Fits 0 (sta0 r c) := by
  have hr : rngB c = true := by
    unfold crdE at h
    split at h
    · split at h
      · split at h
        · assumption
        · omega
      · omega
    · contradiction
  rw [rng_t, inB_iff, inB_iff] at hr
  exact ⟨by omega, by simp only [sta0]; omega, by simp only [sta0]; omega, by simp only [sta0]; omega, by simp only [sta0]; omega, by simp [sta0], fun a h => (by cases h), hc.terms, by simp [sta0], by simp only [sta0]; omega, by simp only [sta0]; omega⟩
structure RunI (l : List Trn) (i : Nat) (s : Sta) (out : List Int) : Prop where
  le : i ≤ l.length
  fits : Fits i s
  out : out.length = i
structure Led where
  drawn : Int
  paid : Int
  left : Int
  moved : Int
  amended : List Int
  second : Int
abbrev ledG (x : Led) : G := .agg [iG x.drawn, iG x.paid, iG x.left, iG x.moved, rowI x.amended, iG x.second]
def ledS (s : Sta) : Led := ⟨s.drawn, s.paid, s.left, s.moved, s.amended, s.second⟩
def led0 : Led := ⟨0, 0, 0, 0, [], 0⟩
def runL (r : Rlm) (c : Crd) (l : List Trn) : Led := if runE r c l = 0 then ledS (runS r c l).1 else led0
def runX (r : Rlm) (c : Crd) (l : List Trn) : List Int := if runE r c l = 0 then (runS r c l).2 else []
def termsR (r : Rlm) (c : Crd) (l : List Trn) : List Dm := if runE r c l = 0 then (runS r c l).1.terms else []
theorem runE_0 {r : Rlm} {c : Crd} {l : List Trn} (h : runE r c l = 0) : crdE r c = 0 ∧ l.length ≤ 60 := by
  unfold runE at h
  split at h
  · rename_i h1; split at h
    · omega
    · exact ⟨h1, by omega⟩
  · contradiction
theorem runE_not {r : Rlm} {c : Crd} {l : List Trn} (h : ¬ runE r c l = 0) : runE r c l ≠ 0 := h

theorem run_bad (r : Rlm) (hr : FitR r) (c : Crd) (hc : FitCr c) (l : List Trn) (hb : ¬ runE r c l = 0) : GC Tryz.prog 34 [rlG r, crdG c, rowTn l] (.tup [.d (.sc (.pointer none)), .d (.sc (.slice none 0 0)), iG (runE r c l)]) := by
  refine gc_of_gk Tryz.func34 ?_
  refine gk_region env false [] [2, 3, 4, 6, 7, 8] ?_ -- 0
  refine gk_box 0 ?_
  refine gk_box 1 ?_
  refine gk_region env false [.call (ccheck_ok r hr c hc)] [2, 3, 4, 6, 7, 8, 9] ?_ -- 1
  refine gk_region env false [] [2, 3, 4, 6, 7, 8, 9, 18] ?_ -- 2
  refine gk_ifn (fun c1 => ?_) (fun c1 => ?_)
  · try simp only [toN] at c1
    refine gk_region env false [] [2, 3, 4, 6, 7, 8] ?_ -- 3
    refine gk_ret env ?_
    rw [runE, if_neg c1]; rfl
  · try simp only [toN] at c1
    refine gk_region env false [] [2, 3, 4, 6, 7, 8, 22] ?_ -- 4
    refine gk_ifd (fun c2 => ?_) (fun c2 => ?_)
    · try simp only [toN] at c2
      refine gk_region env false [] [2, 3, 4, 6, 7, 8] ?_ -- 5
      refine gk_ret env ?_
      rw [runE, if_pos c1, if_pos c2]; rfl
    · try simp only [toN] at c2
      exact absurd (by rw [runE, if_pos c1, if_neg c2]) hb

theorem run_good (r : Rlm) (hr : FitR r) (c : Crd) (hc : FitCr c) (l : List Trn) (ht : l.length ≤ 60 → ∀ t, t ∈ l → FitT t) (h0 : runE r c l = 0) : GM Tryz.prog 34 [rlG r, crdG c, rowTn l] [] (.tup [.ptr 0 0 0 0, .sl 3 1 0 (runS r c l).2.length, iG 0]) [some (staB 1 2 (runS r c l).1), some (amdB (runS r c l).1), some (amnB (runS r c l).1), some (.row 44 1 (default : Int) inC (runS r c l).2 0)] := by
  obtain ⟨h1, h2⟩ := runE_0 h0
  refine gm_of_gk Tryz.func34 ?_
  refine gk_region env false [] [2, 3, 4, 6, 7, 8] ?_ -- 0
  refine gk_box 0 ?_
  refine gk_box 1 ?_
  refine gk_region env false [.call (ccheck_ok r hr c hc)] [2, 3, 4, 6, 7, 8, 9] ?_ -- 1
  refine gk_region env false [] [2, 3, 4, 6, 7, 8, 9, 18] ?_ -- 2
  refine gk_ifn (fun c1 => ?_) (fun c1 => ?_)
  · try simp only [toN] at c1
    exact absurd h1 c1
  · try simp only [toN] at c1
    refine gk_region env false [] [2, 3, 4, 6, 7, 8, 22] ?_ -- 4
    refine gk_ifd (fun c2 => ?_) (fun c2 => ?_)
    · try simp only [toN] at c2
      omega
    · try simp only [toN] at c2
      refine gk_region env false [.call (cloneD_ok c.terms (by have := hc.terms.1; omega))] [2, 6, 7, 8, 10] ?_ -- 6
      refine gk_nilB 2 20 194 3 (default : Amd) amC ?_
      refine gk_nilB 2 18 3 1 (default : Int) inC ?_
      refine gk_region env false [] [2, 6, 7, 8, 10, 11] ?_ -- 7
      refine gk_nil 11 44 1 (default : Int) inC (by rfl) (by rfl) ?_
      refine gk_region env false [] [6, 7, 8, 10, 11, 37, 38, 39] ?_ -- 8
      refine gk_loop (α := Nat × Sta × List Int) (fun x => RunI l x.1 x.2.1 x.2.2 ∧ runS r c l = runF l x.1 x.2.1 x.2.2) (fun x => [(39, iG x.1), (11, .sl 5 1 0 x.2.2.length)]) (fun x => [(2, some (staB 3 4 x.2.1)), (3, some (amdB x.2.1)), (4, some (amnB x.2.1)), (5, some (.row 44 1 (default : Int) inC x.2.2 0))]) (fun x => l.length - x.1) (0, sta0 r c, []) ⟨⟨Nat.zero_le _, fits_0 h1 hc, rfl⟩, rfl⟩ ?_ (hp := by simp only [AllP]; repeat' first | exact trivial | exact EntL.refl _ | exact BEntL.refl _ | exact rfl | omega | apply And.intro | intro _) -- loop 9
      rintro ⟨i, s, out⟩ ⟨hI, he⟩
      dsimp only at *
      have hI1 := hI.le
      have hI2 := hI.out
      refine gk_region env false [] [6, 7, 8, 10, 11, 37, 38, 39, 40] ?_ -- 9
      refine gk_ifd (fun c3 => ?_) (fun c3 => ?_)
      · try simp only [toN] at c3
        refine gk_region env false [] [6, 7, 8, 10, 11, 13, 37, 38, 39] ?_ -- 10
        have htt := ht h2 _ (getD_mem (l := l) (i := i) (by omega))
        refine gk_region env false [.callm [2, 3, 4] (turn_st i s hI.fits (l.getD i default).kind (l.getD i default).day (l.getD i default).by_ (l.getD i default).to_ (l.getD i default).sum (l.getD i default).no (l.getD i default).terms (l.getD i default).docs htt), .el default inC [(turnS s (l.getD i default)).2], .el default inC (out ++ [(turnS s (l.getD i default)).2])] [6, 7, 8, 10, 11, 37, 38, 39] ?_ (hp := (by simp only [AllP, Int.toNat_natCast]; repeat' first | exact trivial | exact EntL.refl _ | exact BEntL.refl _ | exact rfl | omega | apply And.intro | intro _ | (simp [rowL]; done) | (simp only [List.length_append, List.length_cons, List.length_nil]; omega) | (simp [*]; done))) -- 11
        refine gk_region env false [] [6, 7, 8, 10, 11, 37, 38, 39] ?_ -- 12
        refine gk_round ((i + 1, (turnS s (l.getD i default)).1, out ++ [(turnS s (l.getD i default)).2])) ?_ (hp := by simp only [AllP]; repeat' first | exact trivial | exact EntL.refl _ | exact BEntL.refl _ | exact rfl | omega | apply And.intro | intro _ | (simp; done))
        refine ⟨⟨by simp only; omega, fits_turn hI.fits (by omega) htt, by simp only [List.length_append, List.length_cons, List.length_nil]; omega⟩, he.trans ?_⟩
        rw [runF, if_pos (by omega)]
      · try simp only [toN] at c3
        refine gk_region env false [] [6, 7, 8] ?_ -- 13
        refine gk_retX env [.ptr 0 0 0 0, .sl 3 1 0 (runS r c l).2.length, iG 0] (hp := ?_)
        have e : runS r c l = (s, out) := by rw [he, runF, if_neg (by omega)]
        simp only [AllP, e]
        repeat' first | exact trivial | exact rfl | apply And.intro

theorem Run_ok (r : Rlm) (hr : FitR r) (c : Crd) (hc : FitCr c) (l : List Trn) (ht : l.length ≤ 60 → ∀ t, t ∈ l → FitT t) : GC Tryz.prog 10 [rlG r, crdG c, rowTn l] (.tup [ledG (runL r c l), rowI (runX r c l), iG (runE r c l)]) := by
  refine gc_of_gk Tryz.func10 ?_
  refine gk_region env false [] [2, 3, 4, 6, 7, 8] ?_ -- 0
  by_cases h0 : runE r c l = 0
  · refine gk_box 0 ?_
    refine gk_box 1 ?_
    refine gk_region env false [.callm [] (run_good r hr c hc l ht h0)] [6, 7, 8, 9, 10, 11] ?_ -- 1
    refine gk_region env false [] [6, 7, 8, 9, 10, 11, 21] ?_ -- 2
    refine gk_ifn (fun c1 => ?_) (fun c1 => ?_)
    · try simp only [toN] at c1
      exact absurd trivial c1
    · try simp only [toN] at c1
      refine gk_region env false [] [6, 7, 8] ?_ -- 4
      refine gk_retE env ?_
      rw [show runL r c l = ledS (runS r c l).1 from if_pos h0, show runX r c l = (runS r c l).2 from if_pos h0, h0]
      exact Ent.refl _
  · refine gk_box 0 ?_
    refine gk_box 1 ?_
    refine gk_region env false [.call (run_bad r hr c hc l h0)] [6, 7, 8, 9, 10, 11] ?_ -- 1
    refine gk_region env false [] [6, 7, 8, 9, 10, 11, 21] ?_ -- 2
    refine gk_ifn (fun c1 => ?_) (fun c1 => ?_)
    · try simp only [toN] at c1
      refine gk_region env false [] [6, 7, 8, 9, 10] ?_ -- 3
      refine gk_retE env ?_
      rw [show runL r c l = led0 from if_neg h0, show runX r c l = [] from if_neg h0]
      exact Ent.tup ⟨Ent.agg ⟨Ent.refl _, Ent.refl _, Ent.refl _, Ent.refl _, Ent.nil, Ent.refl _, trivial⟩, Ent.nil, Ent.refl _, trivial⟩
    · try simp only [toN] at c1
      exact absurd c1 h0

theorem Terms_ok (r : Rlm) (hr : FitR r) (c : Crd) (hc : FitCr c) (l : List Trn) (ht : l.length ≤ 60 → ∀ t, t ∈ l → FitT t) : GC Tryz.prog 12 [rlG r, crdG c, rowTn l] (.tup [rowD (termsR r c l), iG (runE r c l)]) := by
  refine gc_of_gk Tryz.func12 ?_
  refine gk_region env false [] [2, 3, 4, 6, 7] ?_ -- 0
  by_cases h0 : runE r c l = 0
  · refine gk_box 0 ?_
    refine gk_box 1 ?_
    refine gk_region env false [.callm [] (run_good r hr c hc l ht h0)] [6, 7, 8, 10] ?_ -- 1
    refine gk_region env false [] [6, 7, 8, 10, 20] ?_ -- 2
    refine gk_ifn (fun c1 => ?_) (fun c1 => ?_)
    · try simp only [toN] at c1
      exact absurd trivial c1
    · try simp only [toN] at c1
      refine gk_region env false [] [6, 7] ?_ -- 4
      refine gk_retE env ?_
      rw [show termsR r c l = (runS r c l).1.terms from if_pos h0, h0]
      exact Ent.refl _
  · refine gk_box 0 ?_
    refine gk_box 1 ?_
    refine gk_region env false [.call (run_bad r hr c hc l h0)] [6, 7, 8, 10] ?_ -- 1
    refine gk_region env false [] [6, 7, 8, 10, 20] ?_ -- 2
    refine gk_ifn (fun c1 => ?_) (fun c1 => ?_)
    · try simp only [toN] at c1
      refine gk_region env false [] [6, 7, 8] ?_ -- 3
      refine gk_retE env ?_
      rw [show termsR r c l = [] from if_neg h0]
      exact Ent.tup ⟨Ent.nil, Ent.refl _, trivial⟩
    · try simp only [toN] at c1
      exact absurd c1 h0
end Go.Gh
