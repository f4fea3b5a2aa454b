/- Walks by the logic of calls, and plain laws. -/
import Derived.Test.YtffffkfcbjobnaaGreatGCsM
namespace Go.Gh
open Go Go.Proofs
set_option maxRecDepth 1000000
set_option maxHeartbeats 2000000
set_option linter.unusedSimpArgs false
set_option linter.unusedVariables false
set_option linter.unnecessarySimpa false
set_option linter.unusedSectionVars false
variable [PowTab] [ItoaU]
open Go.RowKit

/-! the states in turn -/
def stF (l : List Trn) (s0 : Sta) : Nat → Sta
  | 0 => s0
  | i + 1 => (turnS (stF l s0 i) (l.getD i default)).1
def erF (l : List Trn) (s0 : Sta) (i : Nat) : Int := (turnS (stF l s0 i) (l.getD i default)).2
theorem runF_st (l : List Trn) (s0 : Sta) : ∀ (k i : Nat) (out : List Int), l.length - i = k → i ≤ l.length → runF l i (stF l s0 i) out = (stF l s0 l.length, out ++ (List.range' i k).map (erF l s0)) := by
  intro k
  induction k with
  | zero =>
    intro i out hk hi
    have : i = l.length := by omega
    subst this
    rw [runF, if_neg (by omega)]; simp
  | succ k ih =>
    intro i out hk hi
    rw [runF, if_pos (by omega)]
    have h := ih (i + 1) (out ++ [erF l s0 i]) (by omega) (by omega)
    rw [show (turnS (stF l s0 i) (l.getD i default)).1 = stF l s0 (i + 1) from rfl, show (turnS (stF l s0 i) (l.getD i default)).2 = erF l s0 i from rfl, h]
    simp [List.range'_succ]
theorem runS_st (r : Rlm) (c : Crd) (l : List Trn) : runS r c l = (stF l (sta0 r c) l.length, (List.range' 0 l.length).map (erF l (sta0 r c))) := by
  have := runF_st l (sta0 r c) l.length 0 [] (by omega) (by omega)
  simpa [runS, stF] using this
theorem errs_len (l : List Trn) (s0 : Sta) : ((List.range' 0 l.length).map (erF l s0)).length = l.length := by simp
theorem errs_at {l : List Trn} {s0 : Sta} {i : Nat} (h : i < l.length) : ((List.range' 0 l.length).map (erF l s0)).getD i default = erF l s0 i := by
  rw [List.getD_eq_getElem?_getD, List.getElem?_map, List.getElem?_range' h]; simp
theorem fits_st {r : Rlm} {c : Crd} {l : List Trn} (hc : FitCr c) (h0 : crdE r c = 0) (hl : l.length ≤ 60) (ht : ∀ t, t ∈ l → FitT t) : ∀ i, i ≤ l.length → Fits i (stF l (sta0 r c) i)
  | 0, _ => fits_0 h0 hc
  | i + 1, hi => fits_turn (fits_st hc h0 hl ht i (by omega)) (by omega) (ht _ (getD_mem (by omega)))
theorem crd_facts {r : Rlm} {c : Crd} (h : crdE r c = 0) : (1 ≤ c.sum ∧ c.sum ≤ 1099511627776) ∧ 0 ≤ c.rev ∧ c.rev ≤ 10 := by
  have hr : rngB c = true := by
    unfold crdE at h
    split at h
    · split at h
      · split at h
        · assumption
        · omega
      · omega
    · contradiction
  rw [rng_t, inB_iff, inB_iff] at hr
  omega
theorem acc_0 {r : Rlm} {c : Crd} (h : crdE r c = 0) : Acc c (sta0 r c) := by
  have hf := crd_facts h
  refine ⟨rfl, by simp only [sta0]; omega, by simp only [sta0]; omega, by simp only [sta0]; omega, fun _ => rfl, fun k hk => by simp [sta0] at hk, by simp [sta0], by simp only [sta0]; omega, ?_⟩
  simp only [sta0, sumAt]
  rw [show 1 + c.rev - c.rev = 1 by omega]
  omega
theorem acc_day {c : Crd} {s : Sta} (h : Acc c s) (d : Int) : Acc c (dayS s d) := ⟨h.cc, h.left, h.moved, h.paid, h.second, h.each, h.nodup, h.rest, h.all⟩
theorem acc_turn {c : Crd} {s : Sta} {t : Trn} {k : Nat} (h : Acc c s) (hf : Fits k s) (hc : 1 ≤ c.sum) : Acc c (turnS s t).1 := by
  by_cases he : (turnS s t).2 = 0
  · obtain ⟨h1, _, h2, h3⟩ := turn_ok he
    rw [h3]
    exact acc_day (acc_act h h1 (fun a ha => (hf.amd a ha).1.1) hc h2) _
  · rw [turn_err he]; exact h
theorem acc_st {r : Rlm} {c : Crd} {l : List Trn} (hc : FitCr c) (h0 : crdE r c = 0) (hl : l.length ≤ 60) (ht : ∀ t, t ∈ l → FitT t) : ∀ i, i ≤ l.length → Acc c (stF l (sta0 r c) i)
  | 0, _ => acc_0 h0
  | i + 1, hi => acc_turn (acc_st hc h0 hl ht i (by omega)) (fits_st hc h0 hl ht i (by omega)) (crd_facts h0).1.1
/-! what is counted -/
def errs (l : List Trn) (s0 : Sta) : List Int := (List.range' 0 l.length).map (erF l s0)
def sums (s : Sta) : List Int := s.amds.map fun a => a.sum
theorem con_not {l : List Trn} {s0 : Sta} {i : Nat} (h : erF l s0 i ≠ 0) : stF l s0 (i + 1) = stF l s0 i := turn_err h
theorem con_amend {l : List Trn} {s0 : Sta} {i : Nat} (h : erF l s0 i = 0) (hk : (l.getD i default).kind = 1) : sums (stF l s0 (i + 1)) = sums (stF l s0 i) ++ [(l.getD i default).sum] ∧ (stF l s0 (i + 1)).drawn = (stF l s0 i).drawn ∧ (stF l s0 (i + 1)).paid = (stF l s0 i).paid := by
  obtain ⟨_, _, h2, h3⟩ := turn_ok h
  have h3 : stF l s0 (i + 1) = _ := h3
  rw [h3]
  have ea : actS (stF l s0 i) (l.getD i default) = amendS (stF l s0 i) (l.getD i default) := by rw [actS, if_neg (by omega), if_pos hk]
  rw [ea] at h2 ⊢
  rw [(amend_ok h2).1]
  simp [sums, dayS]
theorem take_sums {s : Sta} {no : Int} (h0 : 0 ≤ no) (h1 : no < s.amds.length) : sums (takeS s no) = sums s := set_sums (by omega)
theorem con_draw {l : List Trn} {s0 : Sta} {i : Nat} (h : erF l s0 i = 0) (hk : (l.getD i default).kind = 0) : sums (stF l s0 (i + 1)) = sums (stF l s0 i) ∧ (stF l s0 (i + 1)).drawn = (stF l s0 i).drawn + (l.getD i default).sum ∧ (stF l s0 (i + 1)).paid = (stF l s0 i).paid := by
  obtain ⟨_, _, h2, h3⟩ := turn_ok h
  have h3 : stF l s0 (i + 1) = _ := h3
  rw [h3]
  have ea : actS (stF l s0 i) (l.getD i default) = drawS (stF l s0 i) (l.getD i default) := by rw [actS, if_pos hk]
  rw [ea] at h2 ⊢
  obtain ⟨_, _, _, h4⟩ := draw_ok h2
  rcases h4 with ⟨e, _, _⟩ | ⟨e, _, h6⟩
  · rw [e]
    unfold subS
    split <;> exact ⟨rfl, rfl, rfl⟩
  · rw [e]
    obtain ⟨n1, n2, n3⟩ := noS_at h6
    have ht := take_sums n1 n2
    unfold subS
    split <;> exact ⟨ht, rfl, rfl⟩
theorem con_pay {l : List Trn} {s0 : Sta} {i : Nat} (h : erF l s0 i = 0) (hk : (l.getD i default).kind = 6) : sums (stF l s0 (i + 1)) = sums (stF l s0 i) ∧ (stF l s0 (i + 1)).drawn = (stF l s0 i).drawn ∧ (stF l s0 (i + 1)).paid = (stF l s0 i).paid + (l.getD i default).sum := by
  obtain ⟨_, _, h2, h3⟩ := turn_ok h
  have h3 : stF l s0 (i + 1) = _ := h3
  rw [h3]
  have ea : actS (stF l s0 i) (l.getD i default) = payS (stF l s0 i) (l.getD i default) := by rw [actS, if_neg (by omega), if_neg (by omega), if_neg (by omega), if_neg (by omega), if_neg (by omega), if_neg (by omega)]
  rw [ea] at h2 ⊢
  rw [(pay_ok h2).1]
  unfold paidS
  split <;> exact ⟨rfl, rfl, rfl⟩
theorem con_other {l : List Trn} {s0 : Sta} {i : Nat} (h : erF l s0 i = 0) (h0 : (l.getD i default).kind ≠ 0) (h1 : (l.getD i default).kind ≠ 1) (h6 : (l.getD i default).kind ≠ 6) : sums (stF l s0 (i + 1)) = sums (stF l s0 i) ∧ (stF l s0 (i + 1)).drawn = (stF l s0 i).drawn ∧ (stF l s0 (i + 1)).paid = (stF l s0 i).paid := by
  obtain ⟨hk, _, h2, h3⟩ := turn_ok h
  have h3 : stF l s0 (i + 1) = _ := h3
  rw [h3]
  unfold actS at h2 ⊢
  rw [if_neg h0, if_neg h1] at h2 ⊢
  by_cases k2 : (l.getD i default).kind = 2
  · rw [if_pos k2] at h2 ⊢
    obtain ⟨e, p1, p2, _⟩ := accept_ok h2
    rw [e]
    exact ⟨take_sums p1 p2, rfl, rfl⟩
  rw [if_neg k2] at h2 ⊢
  by_cases k3 : (l.getD i default).kind = 3
  · rw [if_pos k3] at h2 ⊢
    obtain ⟨e, p1, p2⟩ := reject_ok h2
    rw [e]
    exact ⟨set_sums (by omega), rfl, rfl⟩
  rw [if_neg k3] at h2 ⊢
  by_cases k4 : (l.getD i default).kind = 4
  · rw [if_pos k4] at h2 ⊢
    rw [(transfer_ok h2).1]
    exact ⟨rfl, rfl, rfl⟩
  rw [if_neg k4, if_pos (by omega)] at h2 ⊢
  rw [confirm_ok h2]
  exact ⟨rfl, rfl, rfl⟩
theorem sumAt_bound {a : List Amd} {m : Int} : ∀ {l : List Int}, (∀ k, k ∈ l → 0 ≤ (a.getD k.toNat default).sum ∧ (a.getD k.toNat default).sum ≤ m) → 0 ≤ sumAt a l ∧ sumAt a l ≤ l.length * m
  | [], _ => by simp [sumAt]
  | k :: l, h => by
    have h1 := h k (by simp)
    have h2 := sumAt_bound (l := l) fun k hk => h k (by simp [hk])
    simp only [sumAt, List.length_cons]
    have e : ((l.length + 1 : Nat) : Int) * m = l.length * m + m := by rw [Int.natCast_add, Int.add_mul]; simp
    rw [e]
    omega
theorem sums_at {s : Sta} {k : Nat} : (sums s).getD k default = (s.amds.getD k default).sum := by
  unfold sums
  rw [List.getD_eq_getElem?_getD, List.getElem?_map, List.getD_eq_getElem?_getD]
  cases s.amds[k]? <;> rfl
theorem errs_length (l : List Trn) (s0 : Sta) : (errs l s0).length = l.length := errs_len l s0
theorem errs_getD {l : List Trn} {s0 : Sta} {i : Nat} (h : i < l.length) : (errs l s0).getD i default = erF l s0 i := errs_at h
theorem sums_length (s : Sta) : (sums s).length = s.amds.length := by simp [sums]
theorem con_err {l : List Trn} {s0 : Sta} {i : Nat} (h : erF l s0 i ≠ 0) : sums (stF l s0 (i + 1)) = sums (stF l s0 i) ∧ (stF l s0 (i + 1)).drawn = (stF l s0 i).drawn ∧ (stF l s0 (i + 1)).paid = (stF l s0 i).paid := by
  rw [con_not h]; exact ⟨rfl, rfl, rfl⟩
theorem runE_few {r : Rlm} {c : Crd} {l : List Trn} (h0 : crdE r c = 0) (hl : l.length ≤ 60) : runE r c l = 0 := by rw [runE, if_pos h0, if_neg (by omega)]
theorem GC.Run_few (r : Rlm) (c : Crd) (l : List Trn) (hf : Few37 r c l) (h0 : crdE r c = 0) (hl : l.length ≤ 60) {X : Sta} (hX : X = stF l (sta0 r c) l.length) : GC Tryz.prog 10 [rlG r, crdG c, rowTn l] (.tup [.agg [iG X.drawn, iG X.paid, iG X.left, iG X.moved, rowI X.amended, iG X.second], rowI (errs l (sta0 r c)), iG 0]) := by
  have h := Run_ok r hf.fr c hf.fc l hf.ft
  have hE := runE_few h0 hl
  rw [runL, if_pos hE, runX, if_pos hE, hE, runS_st] at h
  rw [hX]
  exact h
theorem GC.few37_is {r : Rlm} (hm : MemR r) {c : Crd} {l : List Trn} (hcl : MemC c l) {b : Bool} (h : few37V r c l = b) : GC Tryz.prog 9 [rlG r, crdG c, rowTn l] (bG b) := h ▸ few37_ok r hm c l hcl
theorem nodup_at {l : List Int} (h : l.Nodup) {i j : Nat} (hi : i < l.length) (hj : j < i) : l.getD j default ≠ l.getD i default := by
  have h1 := List.pairwise_iff_getElem.1 h j i (by omega) hi hj
  rw [List.getD_eq_getElem?_getD, List.getElem?_eq_getElem (by omega), List.getD_eq_getElem?_getD, List.getElem?_eq_getElem hi]
  exact h1
theorem take_next {l : List Int} {i : Nat} (h : i < l.length) : l.take (i + 1) = l.take i ++ [l.getD i default] := by
  rw [List.take_add_one, List.getElem?_eq_getElem h, List.getD_eq_getElem?_getD, List.getElem?_eq_getElem h]; rfl

theorem conserves_ok (r : Rlm) (hm : MemR r) (c : Crd) (l : List Trn) (hcl : MemC c l) : GC Tryz.prog 4 [rlG r, crdG c, rowTn l] (bG true) := by
  refine gc_of_gk Tryz.func4 ?_
  refine gk_region env false [] [2, 3, 4, 6] ?_ -- 0
  refine gk_box 0 ?_
  refine gk_box 1 ?_
  refine gk_region env false [.call small37_ok] [2, 3, 4, 6, 7] ?_ -- 1
  cases hfw : few37V r c l
  · refine gk_region env false [.call (GC.few37_is hm hcl hfw), .no, .nu] [2, 3, 4, 6, 7, 35] ?_ (hp := (by simp only [AllP, bb, toN]; repeat' first | exact trivial | exact EntL.refl _ | exact BEntL.refl _ | exact rfl | omega | apply And.intro | intro _ | exact Or.inl trivial)) -- 2
    refine gk_if (fun c1 => ?_) (fun c1 => ?_)
    · try simp only [bb, toN] at c1
      refine gk_region env false [] [2, 3, 4, 6, 7] ?_ -- 3
      refine gk_ret env ?_
      rfl
    · try simp only [bb, toN] at c1
      exact absurd c1 (by simp)
  · refine gk_region env false [.call (GC.few37_is hm hcl hfw), .call (ccheck_ok r (few37_spec hfw hm).fr c (few37_spec hfw hm).fc)] [2, 3, 4, 6, 7, 35] ?_ -- 2
    refine gk_if (fun c1 => ?_) (fun c1 => ?_)
    · try simp only [bb, toN] at c1
      refine gk_region env false [] [2, 3, 4, 6, 7] ?_ -- 3
      refine gk_ret env ?_
      rfl
    · try simp only [bb, toN] at c1
      have hf := few37_spec hfw hm
      have h0 : crdE r c = 0 := by omega
      have hl : l.length ≤ 12 := by omega
      obtain ⟨X, hX⟩ : ∃ X, X = stF l (sta0 r c) l.length := ⟨_, rfl⟩
      have hA : Acc c X := by rw [hX]; exact acc_st hf.fc h0 (by omega) (hf.ft (by omega)) _ (Nat.le_refl _)
      have hF : Fits l.length X := by rw [hX]; exact fits_st hf.fc h0 (by omega) (hf.ft (by omega)) _ (Nat.le_refl _)
      have hxl := errs_length l (sta0 r c)
      have hA1 := hA.left
      have hA2 := hA.moved
      have hA3 := hA.paid
      have hF1 := hF.left
      have hF2 := hF.moved
      have hF3 := hF.drawn
      have hF4 := hF.paid
      have hF5 := hF.amended
      have hF6 := hF.amds
      refine gk_region env false [.call (GC.Run_few r c l hf h0 (by omega) hX)] [2, 4, 6, 7, 8, 9, 10] ?_ -- 4
      refine gk_region env false [] [2, 4, 6, 7, 8, 9, 53] ?_ -- 5
      refine gk_if (fun c2 => ?_) (fun c2 => ?_)
      · try simp only [bb, toN] at c2
        simp [hxl] at c2
      · try simp only [bb, toN] at c2
        refine gk_region env false [.el default inC []] [2, 4, 6, 7, 8, 9, 11] ?_ (hp := (by simp only [AllP, Int.toNat_natCast]; repeat' first | exact trivial | exact EntL.refl _ | exact BEntL.refl _ | exact rfl | omega | apply And.intro | intro _ | (simp [rowL]; done) | (simp only [List.length_append, List.length_cons, List.length_nil]; omega) | (simp [*]; done))) -- 7
        refine gk_region env false [] [2, 4, 6, 7, 8, 9, 11, 12] ?_ -- 8
        refine gk_region env false [] [2, 4, 6, 7, 8, 9, 11, 12, 13] ?_ -- 9
        refine gk_region env false [] [2, 4, 6, 7, 8, 9, 11, 12, 13, 14] ?_ -- 10
        refine gk_loop (α := Nat × List Int × Int × Int) (fun x => x.1 ≤ l.length ∧ x.2.1 = sums (stF l (sta0 r c) x.1) ∧ x.2.2.1 = (stF l (sta0 r c) x.1).drawn ∧ x.2.2.2 = (stF l (sta0 r c) x.1).paid) (fun x => [(14, iG x.1), (11, .sl 3 1 0 x.2.1.length), (12, iG x.2.2.1), (13, iG x.2.2.2)]) (fun x => [(3, some (.row 3 1 (default : Int) inC x.2.1 0))]) (fun x => l.length - x.1) (0, [], 0, 0) ⟨Nat.zero_le _, rfl, rfl, rfl⟩ ?_ (hp := by simp only [AllP]; repeat' first | exact trivial | exact EntL.refl _ | exact BEntL.refl _ | exact rfl | omega | apply And.intro | intro _) -- loop 11
        rintro ⟨i, su, dr, pa⟩ ⟨hi, e1, e2, e3⟩
        dsimp only at *
        have hFi := fits_st hf.fc h0 (by omega) (hf.ft (by omega)) i hi
        have hFi1 := hFi.drawn
        have hFi2 := hFi.paid
        have hFi3 := hFi.amds
        have hsl : su.length ≤ 8 := by rw [e1, sums_length]; exact hFi3
        refine gk_region env false [] [2, 4, 6, 7, 8, 9, 11, 12, 13, 14, 58] ?_ -- 11
        refine gk_ifd (fun c3 => ?_) (fun c3 => ?_)
        · try simp only [toN] at c3
          refine gk_region env false [] [2, 4, 6, 7, 8, 9, 11, 12, 13, 14, 65] ?_ -- 13
          refine gk_ifn (fun c4 => ?_) (fun c4 => ?_)
          · try simp only [toN] at c4
            refine gk_region env false [] [2, 4, 6, 7, 8, 9, 11, 12, 13, 14] ?_ -- 12
            refine gk_round ((i + 1, su, dr, pa)) ?_ (hp := by simp only [AllP]; repeat' first | exact trivial | exact EntL.refl _ | exact BEntL.refl _ | exact rfl | omega | apply And.intro | intro _ | (simp; done))
            have hz := con_err (l := l) (s0 := (sta0 r c)) (i := i) (by rw [errs_getD (by omega)] at c4; exact c4)
            exact ⟨by simp only; omega, by simp only; rw [hz.1, e1], by simp only; rw [hz.2.1, e2], by simp only; rw [hz.2.2, e3]⟩
          · try simp only [toN] at c4
            refine gk_region env false [] [2, 4, 6, 7, 8, 9, 11, 12, 13, 14, 70] ?_ -- 14
            refine gk_region env false [] [2, 4, 6, 7, 8, 9, 11, 12, 13, 14, 70, 71] ?_ -- 15
            refine gk_ifd (fun c5 => ?_) (fun c5 => ?_)
            · try simp only [toN] at c5
              refine gk_region env false [.el default inC [(l.getD i default).sum], .el default inC (su ++ [(l.getD i default).sum])] [2, 4, 6, 7, 8, 9, 11, 12, 13, 14] ?_ (hp := (by simp only [AllP, Int.toNat_natCast]; repeat' first | exact trivial | exact EntL.refl _ | exact BEntL.refl _ | exact rfl | omega | apply And.intro | intro _ | (simp [rowL]; done) | (simp only [List.length_append, List.length_cons, List.length_nil]; omega) | (simp [*]; done))) -- 16
              refine gk_region env false [] [2, 4, 6, 7, 8, 9, 11, 12, 13, 14] ?_ -- 12
              refine gk_round ((i + 1, su ++ [(l.getD i default).sum], dr, pa)) ?_ (hp := by simp only [AllP]; repeat' first | exact trivial | exact EntL.refl _ | exact BEntL.refl _ | exact rfl | omega | apply And.intro | intro _ | (simp; done))
              have hz := con_amend (l := l) (s0 := (sta0 r c)) (i := i) (by rw [errs_getD (by omega)] at c4; omega) c5
              exact ⟨by simp only; omega, by simp only; rw [hz.1, e1], by simp only; rw [hz.2.1, e2], by simp only; rw [hz.2.2, e3]⟩
            · try simp only [toN] at c5
              refine gk_region env false [] [2, 4, 6, 7, 8, 9, 11, 12, 13, 14, 70, 81] ?_ -- 17
              refine gk_ifd (fun c6 => ?_) (fun c6 => ?_)
              · try simp only [toN] at c6
                have hz := con_draw (l := l) (s0 := (sta0 r c)) (i := i) (by rw [errs_getD (by omega)] at c4; omega) c6
                have hG := (fits_st hf.fc h0 (by omega) (hf.ft (by omega)) (i + 1) (by omega)).drawn
                refine gk_region env false [] [2, 4, 6, 7, 8, 9, 11, 12, 13, 14] ?_ -- 18
                refine gk_region env false [] [2, 4, 6, 7, 8, 9, 11, 12, 13, 14] ?_ -- 12
                refine gk_round ((i + 1, su, dr + (l.getD i default).sum, pa)) ?_ (hp := by simp only [AllP]; repeat' first | exact trivial | exact EntL.refl _ | exact BEntL.refl _ | exact rfl | omega | apply And.intro | intro _ | (simp; done))
                exact ⟨by simp only; omega, by simp only; rw [hz.1, e1], by simp only; rw [hz.2.1, e2], by simp only; rw [hz.2.2, e3]⟩
              · try simp only [toN] at c6
                refine gk_region env false [] [2, 4, 6, 7, 8, 9, 11, 12, 13, 14, 90] ?_ -- 19
                refine gk_ifd (fun c7 => ?_) (fun c7 => ?_)
                · try simp only [toN] at c7
                  have hz := con_pay (l := l) (s0 := (sta0 r c)) (i := i) (by rw [errs_getD (by omega)] at c4; omega) c7
                  have hG := (fits_st hf.fc h0 (by omega) (hf.ft (by omega)) (i + 1) (by omega)).paid
                  refine gk_region env false [] [2, 4, 6, 7, 8, 9, 11, 12, 13, 14] ?_ -- 20
                  refine gk_region env false [] [2, 4, 6, 7, 8, 9, 11, 12, 13, 14] ?_ -- 12
                  refine gk_round ((i + 1, su, dr, pa + (l.getD i default).sum)) ?_ (hp := by simp only [AllP]; repeat' first | exact trivial | exact EntL.refl _ | exact BEntL.refl _ | exact rfl | omega | apply And.intro | intro _ | (simp; done))
                  exact ⟨by simp only; omega, by simp only; rw [hz.1, e1], by simp only; rw [hz.2.1, e2], by simp only; rw [hz.2.2, e3]⟩
                · try simp only [toN] at c7
                  refine gk_region env false [] [2, 4, 6, 7, 8, 9, 11, 12, 13, 14] ?_ -- 12
                  refine gk_round ((i + 1, su, dr, pa)) ?_ (hp := by simp only [AllP]; repeat' first | exact trivial | exact EntL.refl _ | exact BEntL.refl _ | exact rfl | omega | apply And.intro | intro _ | (simp; done))
                  have hz := con_other (l := l) (s0 := (sta0 r c)) (i := i) (by rw [errs_getD (by omega)] at c4; omega) c6 c5 c7
                  exact ⟨by simp only; omega, by simp only; rw [hz.1, e1], by simp only; rw [hz.2.1, e2], by simp only; rw [hz.2.2, e3]⟩
        · try simp only [toN] at c3
          obtain rfl : i = l.length := by omega
          rw [← hX] at e1 e2 e3
          have hsl := sums_length X
          rw [← e1] at hsl
          refine gk_region env false [] [4, 6, 7, 8, 11, 12, 13, 15] ?_ -- 21
          refine gk_region env false [] [4, 6, 7, 8, 11, 12, 13, 15, 16] ?_ -- 22
          refine gk_loop (α := Nat × Int) (fun x => x.1 ≤ X.amended.length ∧ x.2 = X.drawn + X.left + X.moved - sumAt X.amds (X.amended.take x.1)) (fun x => [(16, iG x.1), (15, iG x.2)]) (fun _ => []) (fun x => X.amended.length - x.1) (0, X.drawn + X.left + X.moved) ⟨Nat.zero_le _, by simp [sumAt]⟩ ?_ (hp := by simp only [AllP]; repeat' first | exact trivial | exact EntL.refl _ | exact BEntL.refl _ | exact rfl | omega | apply And.intro | intro _) -- loop 23
          rintro ⟨k, v⟩ ⟨hk, hv⟩
          dsimp only at *
          refine gk_region env false [] [4, 6, 7, 8, 11, 12, 13, 15, 16, 111] ?_ -- 23
          refine gk_ifd (fun c8 => ?_) (fun c8 => ?_)
          · try simp only [toN] at c8
            refine gk_region env false [] [4, 6, 7, 8, 11, 12, 13, 15, 16, 17] ?_ -- 25
            have hE := hA.each (X.amended.getD k default) (getD_mem (by omega))
            refine gk_region env false [] [4, 6, 7, 8, 11, 12, 13, 15, 16, 17, 126] ?_ -- 26
            refine gk_if (fun c9 => ?_) (fun c9 => ?_)
            · try simp only [bb, toN] at c9
              omega
            · try simp only [bb, toN] at c9
              refine gk_region env false [] [4, 6, 7, 8, 11, 12, 13, 15, 16, 17, 18] ?_ -- 28
              refine gk_loop (α := Nat) (fun j => j ≤ k) (fun j => [(18, iG j)]) (fun _ => []) (fun j => k - j) 0 (Nat.zero_le _) ?_ (hp := by simp only [AllP]; repeat' first | exact trivial | exact EntL.refl _ | exact BEntL.refl _ | exact rfl | omega | apply And.intro | intro _) -- loop 29
              rintro j hj
              refine gk_region env false [] [4, 6, 7, 8, 11, 12, 13, 15, 16, 17, 18, 129] ?_ -- 29
              refine gk_ifd (fun c10 => ?_) (fun c10 => ?_)
              · try simp only [toN] at c10
                refine gk_region env false [] [4, 6, 7, 8, 11, 12, 13, 15, 16, 17, 18, 138] ?_ -- 31
                refine gk_ifd (fun c11 => ?_) (fun c11 => ?_)
                · try simp only [toN] at c11
                  exact absurd c11 (nodup_at hA.nodup (by omega) (by omega))
                · try simp only [toN] at c11
                  refine gk_region env false [] [4, 6, 7, 8, 11, 12, 13, 15, 16, 17, 18] ?_ -- 30
                  refine gk_round (j + 1) ?_ (hp := by simp only [AllP]; repeat' first | exact trivial | exact EntL.refl _ | exact BEntL.refl _ | exact rfl | omega | apply And.intro | intro _)
                  omega
              · try simp only [toN] at c10
                have hsu : su.getD (0 + (X.amended.getD k default).toNat) default = (X.amds.getD (X.amended.getD k default).toNat default).sum := by rw [Nat.zero_add, e1, sums_at]
                have htk := take_next (l := X.amended) (i := k) (by omega)
                have hsa := congrArg (sumAt X.amds) htk
                rw [sumAt_append] at hsa
                simp only [sumAt] at hsa
                have hbd := sumAt_bound (a := X.amds) (m := 1099511627776) (l := X.amended.take (k + 1)) fun q hq => (hF.at_ (i := q.toNat) (by have := (hA.each q (List.mem_of_mem_take hq)).1; omega)).1
                have hln : (X.amended.take (k + 1)).length = k + 1 := by rw [List.length_take]; omega
                rw [hln] at hbd
                refine gk_region env false [] [4, 6, 7, 8, 11, 12, 13, 15, 16] ?_ -- 33
                refine gk_region env false [] [4, 6, 7, 8, 11, 12, 13, 15, 16] ?_ -- 24
                refine gk_round ((k + 1, v - su.getD (0 + (X.amended.getD k default).toNat) default)) ?_ (hp := by simp only [AllP]; repeat' first | exact trivial | exact EntL.refl _ | exact BEntL.refl _ | exact rfl | omega | apply And.intro | intro _)
                refine ⟨by simp only; omega, ?_⟩
                simp only
                rw [hsu]
                omega
          · try simp only [toN] at c8
            obtain rfl : k = X.amended.length := by omega
            rw [List.take_of_length_le (Nat.le_refl _)] at hv
            have hall := hA.all
            have hcs := crd_facts h0
            have hrs := hA.rest
            have hvv : v = c.sum * (1 + c.rev - X.rest) := by omega
            have hv0 : 0 ≤ v := by rw [hvv]; exact Int.mul_nonneg (by omega) (by omega)
            have hmod : v % c.sum = 0 := by rw [hvv]; exact Int.mul_emod_right _ _
            have hdiv : v / c.sum = 1 + c.rev - X.rest := by rw [hvv]; exact Int.mul_ediv_cancel_left _ (by omega)
            refine gk_region env false [] [4, 6, 7, 15, 179] ?_ -- 34
            refine gk_if (fun c12 => ?_) (fun c12 => ?_)
            · try simp only [bb, toN] at c12
              have hs2 := hA.second
              omega
            · try simp only [bb, toN] at c12
              refine gk_region env false [] [6] ?_ -- 36
              refine gk_ret env ?_
              rw [hmod, hdiv, decide_eq_true (show (1 : Int) ≤ 1 + c.rev - X.rest by omega), decide_eq_true (show 1 + c.rev - X.rest ≤ c.rev + 1 by omega)]
              rfl
end Go.Gh
