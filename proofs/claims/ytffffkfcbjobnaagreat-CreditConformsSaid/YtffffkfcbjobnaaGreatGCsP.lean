/- Walks by the logic of calls, and plain laws. -/
import Derived.Test.YtffffkfcbjobnaaGreatGCsO
namespace Go.Gh
open Go Go.Proofs
set_option maxRecDepth 1000000
set_option maxHeartbeats 2000000
set_option linter.unusedSimpArgs false
set_option linter.unusedVariables false
set_option linter.unnecessarySimpa false
set_option linter.unusedSectionVars false
variable [PowTab] [ItoaU]
open Go.RowKit

/-! what conforms meets all demands in all readings -/
theorem wrap_u64 {n : Nat} (h : n < 18446744073709551616) : IntKind.u64.wrap (n : Int) = n := by
  show (if (IntKind.u64.signed && decide ((n : Int) % 2 ^ IntKind.u64.bits ≥ 2 ^ (IntKind.u64.bits - 1))) = true then (n : Int) % 2 ^ IntKind.u64.bits - 2 ^ IntKind.u64.bits else (n : Int) % 2 ^ IntKind.u64.bits) = n
  rw [if_neg (by simp [IntKind.signed])]
  show (n : Int) % 2 ^ 64 = n
  omega
theorem orI_zero {a b : Int} (h : orI .u64 a b = 0) : BitVec.ofInt 64 a = 0#64 ∧ BitVec.ofInt 64 b = 0#64 := by
  have h : IntKind.u64.wrap ((BitVec.ofInt 64 a ||| BitVec.ofInt 64 b).toNat : Nat) = 0 := h
  rw [wrap_u64 (BitVec.ofInt 64 a ||| BitVec.ofInt 64 b).isLt] at h
  have h2 : BitVec.ofInt 64 a ||| BitVec.ofInt 64 b = 0#64 := BitVec.eq_of_toNat_eq (by simpa using h)
  exact BitVec.or_eq_zero_iff.1 h2
theorem ofI_nat (x : BitVec 64) : BitVec.ofInt 64 ((x.toNat : Nat) : Int) = x := by
  rw [BitVec.ofInt_natCast, BitVec.ofNat_toNat]; simp
theorem bit_not {k : Int} (h0 : 0 ≤ k) (h1 : k < 30) : BitVec.ofInt 64 (shlI .u64 1 k) ≠ 0#64 := by
  have h : ∀ j : Fin 30, BitVec.ofInt 64 (shlI .u64 1 ((j.val : Nat) : Int)) ≠ 0#64 := by decide
  have e : k = ((k.toNat : Nat) : Int) := by omega
  rw [e]
  exact h ⟨k.toNat, by omega⟩
theorem bitsF_pos {ks : List Int} (hk : ∀ x, x ∈ ks → 0 ≤ x ∧ x < 30) : ∀ (n i : Nat) (s : Int), ks.length - i = n → BitVec.ofInt 64 s ≠ 0#64 → bitsF ks i s ≠ 0 := by
  intro n
  induction n with
  | zero =>
    intro i s hn hs
    rw [bitsF, if_neg (by omega)]
    intro e; subst e; exact hs rfl
  | succ n ih =>
    intro i s hn hs
    rw [bitsF, if_pos (by omega)]
    refine ih (i + 1) _ (by omega) fun e => ?_
    have hw : BitVec.ofInt 64 (orI .u64 s (shlI .u64 1 (ks.getD i default))) = BitVec.ofInt 64 s ||| BitVec.ofInt 64 (shlI .u64 1 (ks.getD i default)) := by
      show BitVec.ofInt 64 (IntKind.u64.wrap ((BitVec.ofInt 64 s ||| BitVec.ofInt 64 (shlI .u64 1 (ks.getD i default))).toNat : Nat)) = _
      rw [wrap_u64 (BitVec.ofInt 64 s ||| BitVec.ofInt 64 (shlI .u64 1 (ks.getD i default))).isLt]
      exact ofI_nat _
    rw [hw] at e
    exact hs (BitVec.or_eq_zero_iff.1 e).1
theorem bitsE_zero {ks : List Int} (hk : ∀ x, x ∈ ks → 0 ≤ x ∧ x < 30) (h : bitsE ks = 0) : ks = [] := by
  match ks, hk, h with
  | [], _, _ => rfl
  | k :: ks, hk, h =>
    exfalso
    unfold bitsE at h
    rw [bitsF, if_pos (by simp)] at h
    have h1 := hk k (by simp)
    refine bitsF_pos hk _ 1 _ rfl (fun e => ?_) h
    have hw : BitVec.ofInt 64 (orI .u64 0 (shlI .u64 1 k)) = BitVec.ofInt 64 0 ||| BitVec.ofInt 64 (shlI .u64 1 k) := by
      show BitVec.ofInt 64 (IntKind.u64.wrap ((BitVec.ofInt 64 0 ||| BitVec.ofInt 64 (shlI .u64 1 k)).toNat : Nat)) = _
      rw [wrap_u64 (BitVec.ofInt 64 0 ||| BitVec.ofInt 64 (shlI .u64 1 k)).isLt]
      exact ofI_nat _
    have e : BitVec.ofInt 64 (orI .u64 0 (shlI .u64 1 k)) = 0#64 := e
    rw [hw] at e
    exact bit_not h1.1 h1.2 (BitVec.or_eq_zero_iff.1 e).2
theorem mem_dedL {xs : List Int} {x : Int} (h : x ∈ xs) : x ∈ dedL xs := by
  unfold dedL
  have key : ∀ (xs acc : List Int), (x ∈ acc ∨ x ∈ xs) → x ∈ xs.foldl (fun acc x => if acc.contains x then acc else acc ++ [x]) acc := by
    intro xs
    induction xs with
    | nil => intro acc h; exact h.resolve_right (by simp)
    | cons y ys ih =>
      intro acc h
      simp only [List.foldl_cons]
      refine ih _ ?_
      by_cases e : acc.contains y = true
      · rw [if_pos e]
        rcases h with h | h
        · exact .inl h
        · rcases List.mem_cons.1 h with h | h
          · subst h; exact .inl (by simpa using e)
          · exact .inr h
      · rw [if_neg e]
        rcases h with h | h
        · exact .inl (List.mem_append.2 (.inl h))
        · rcases List.mem_cons.1 h with h | h
          · subst h; exact .inl (by simp)
          · exact .inr h
  exact key xs [] (.inr h)
theorem conf_all {l : List Dm} {docs : List Dc} (hl : l.length ≤ 30) (h : confV l docs = true) : (countsE docs).2.2 = 0 ∧ ∀ a : Nat, (a : Int) < (countsE docs).2.1 → failV l (readL docs (countsE docs).1 a) = [] := by
  simp only [confV, Bool.cond_eq_ite] at h
  split at h
  · rename_i h1
    have h1 := of_decide_eq_true h1
    have h2 := of_decide_eq_true h
    have h3 : (countsE docs).2.2 = 0 := by
      unfold lookErr at h1
      split at h1
      · omega
      · split at h1
        · assumption
        · exact h1
    refine ⟨h3, fun a ha => ?_⟩
    unfold stateE at h2
    rw [if_pos h1] at h2
    split at h2
    · rename_i h4
      split at h2
      · rename_i h5
        have hm : setAt l docs (countsE docs).1 a ∈ lookS l docs := by
          rw [lookS, if_pos h1]
          refine mem_dedL ?_
          unfold setsL
          exact List.mem_map.2 ⟨a, List.mem_range.2 (by omega), rfl⟩
        have hz : ∀ x, x ∈ lookS l docs → x = 0 := by
          obtain ⟨y, hy⟩ := List.length_eq_one_iff.1 h5
          rw [hy] at h4 ⊢
          simp at h4
          intro x hx
          rw [List.mem_singleton.1 hx]; exact h4
        refine bitsE_zero (fun x hx => ?_) (hz _ hm)
        have := failV_ix hx
        omega
      · cases h2
    · cases h2
  · cases h
/-! what a turn does to the terms -/
theorem term_other {l : List Trn} {s0 : Sta} {i : Nat} (h : erF l s0 i = 0) (h0 : (l.getD i default).kind ≠ 0) (h2 : (l.getD i default).kind ≠ 2) : (stF l s0 (i + 1)).terms = (stF l s0 i).terms := by
  obtain ⟨hk, _, h2', h3⟩ := turn_ok h
  have h3 : stF l s0 (i + 1) = _ := h3
  rw [h3]
  generalize stF l s0 i = s at h2' ⊢
  unfold actS at h2' ⊢
  rw [if_neg h0] at h2' ⊢
  by_cases k1 : (l.getD i default).kind = 1
  · rw [if_pos k1] at h2' ⊢; rw [(amend_ok h2').1]; rfl
  rw [if_neg k1, if_neg h2] at h2' ⊢
  by_cases k3 : (l.getD i default).kind = 3
  · rw [if_pos k3] at h2' ⊢; rw [(reject_ok h2').1]; rfl
  rw [if_neg k3] at h2' ⊢
  by_cases k4 : (l.getD i default).kind = 4
  · rw [if_pos k4] at h2' ⊢; rw [(transfer_ok h2').1]; rfl
  rw [if_neg k4] at h2' ⊢
  by_cases k5 : (l.getD i default).kind = 5
  · rw [if_pos k5] at h2' ⊢; rw [confirm_ok h2']; rfl
  rw [if_neg k5] at h2' ⊢
  rw [(pay_ok h2').1]
  unfold paidS
  split <;> rfl
theorem term_draw {l : List Trn} {s0 : Sta} {i : Nat} (h : erF l s0 i = 0) (h0 : (l.getD i default).kind = 0) : (l.getD i default).day ≤ (stF l s0 i).c.exp ∧ confV (stF l s0 (i + 1)).terms (l.getD i default).docs = true ∧
    ((stF l s0 (i + 1)).terms = (stF l s0 i).terms ∨ (stF l s0 (i + 1)).amended.length = (stF l s0 i).amended.length + 1) := by
  obtain ⟨hk, _, h2', h3⟩ := turn_ok h
  have h3 : stF l s0 (i + 1) = _ := h3
  rw [h3]
  generalize stF l s0 i = s at h2' ⊢
  unfold actS at h2' ⊢
  rw [if_pos h0] at h2' ⊢
  obtain ⟨h1, _, _, h4⟩ := draw_ok h2'
  rcases h4 with ⟨e, _, h6⟩ | ⟨e, _, h6⟩
  · rw [e]
    have ht : (dayS (subS s (l.getD i default) ((l.getD i default).by_ = s.c.ben)) (l.getD i default).day).terms = s.terms := by
      unfold subS; split <;> rfl
    exact ⟨h1, by rw [ht]; exact h6, .inl ht⟩
  · rw [e]
    obtain ⟨n1, n2, n3⟩ := noS_at h6
    obtain ⟨_, _, c3⟩ := cand_sum n3
    have ht : (dayS (subS (takeS s (noS s (l.getD i default))) (l.getD i default) ((l.getD i default).by_ = s.c.ben)) (l.getD i default).day).terms = (s.amds.getD (noS s (l.getD i default)).toNat default).terms := by
      unfold subS; split <;> rfl
    have hm : (dayS (subS (takeS s (noS s (l.getD i default))) (l.getD i default) ((l.getD i default).by_ = s.c.ben)) (l.getD i default).day).amended = s.amended ++ [noS s (l.getD i default)] := by
      unfold subS; split <;> rfl
    exact ⟨h1, by rw [ht]; exact c3, .inr (by rw [hm]; simp)⟩
theorem st_c {r : Rlm} {c : Crd} {l : List Trn} (hc : FitCr c) (h0 : crdE r c = 0) (hl : l.length ≤ 60) (ht : ∀ t, t ∈ l → FitT t) {i : Nat} (hi : i ≤ l.length) : (stF l (sta0 r c) i).c = c := (acc_st hc h0 hl ht i hi).cc
theorem GC.Terms_few (r : Rlm) (c : Crd) (l : List Trn) (hf : Few37 r c l) (h0 : crdE r c = 0) (hl : l.length ≤ 60) {X : Sta} (hX : X = stF l (sta0 r c) l.length) : GC Tryz.prog 12 [rlG r, crdG c, rowTn l] (.tup [rowD X.terms, iG 0]) := by
  have h := Terms_ok r hf.fr c hf.fc l hf.ft
  have hE := runE_few h0 hl
  rw [termsR, if_pos hE, hE, runS_st] at h
  rw [hX]
  exact h
theorem st_take {l : List Trn} {s0 : Sta} {k : Nat} (h : k ≤ l.length) : stF (l.take k) s0 (l.take k).length = stF l s0 k := by
  have e1 : (l.take k).length = k := by rw [List.length_take]; omega
  rw [e1]
  exact stF_same _ fun j hj => tk_getD (by omega)

theorem GC.eRead_in (l : List Dc) (hl : FitL l) (i : Nat) (h : (countsE l).2.2 = 0) (hi : (i : Int) < (countsE l).2.1) : GC Tryz.prog 28 [rowDc l, iG i] (.tup [rowP (readL l (countsE l).1 i), iG 0]) := by
  have e := eRead_ok l hl i
  rw [if_pos ⟨h, by omega, hi⟩, if_pos h, if_pos ⟨by omega, hi⟩] at e
  exact GC.lift e

theorem conforms_ok (r : Rlm) (hm : MemR r) (c : Crd) (l : List Trn) (hcl : MemC c l) (w_ : Int) (ha0 : 0 ≤ w_) (ha1 : w_ ≤ 255) : GC Tryz.prog 7 [rlG r, crdG c, rowTn l, .d (.sc (.int .u8 w_))] (bG true) := by
  refine gc_of_gk Tryz.func7 ?_
  refine gk_region env false [] [2, 3, 4, 5, 8] ?_ -- 0
  refine gk_box 0 ?_
  refine gk_box 1 ?_
  refine gk_region env false [.call small37_ok] [2, 3, 4, 5, 8, 9] ?_ -- 1
  cases hfw : few37V r c l
  · refine gk_region env false [.call (GC.few37_is hm hcl hfw), .no, .nu] [2, 3, 4, 5, 8, 9, 49] ?_ (hp := (by simp only [AllP, bb, toN]; repeat' first | exact trivial | exact EntL.refl _ | exact BEntL.refl _ | exact rfl | omega | apply And.intro | intro _ | exact Or.inl trivial)) -- 2
    refine gk_if (fun c1 => ?_) (fun c1 => ?_)
    · try simp only [bb, toN] at c1
      refine gk_region env false [] [2, 3, 4, 5, 8, 9] ?_ -- 3
      refine gk_ret env ?_
      rfl
    · try simp only [bb, toN] at c1
      exact absurd c1 (by simp)
  · refine gk_region env false [.call (GC.few37_is hm hcl hfw), .call (ccheck_ok r (few37_spec hfw hm).fr c (few37_spec hfw hm).fc)] [2, 3, 4, 5, 8, 9, 49] ?_ -- 2
    refine gk_if (fun c1 => ?_) (fun c1 => ?_)
    · try simp only [bb, toN] at c1
      refine gk_region env false [] [2, 3, 4, 5, 8, 9] ?_ -- 3
      refine gk_ret env ?_
      rfl
    · try simp only [bb, toN] at c1
      have hf := few37_spec hfw hm
      have h0 : crdE r c = 0 := by omega
      have hl : l.length ≤ 12 := by omega
      have hk0 : 0 ≤ w_ % (l.length : Int) := Int.emod_nonneg _ (by omega)
      have hk1 : w_ % (l.length : Int) < l.length := Int.emod_lt_of_pos _ (by omega)
      have hk2 : (w_ % (l.length : Int) + 1).toNat = (w_ % (l.length : Int)).toNat + 1 := by omega
      obtain ⟨X, hX⟩ : ∃ X, X = stF l (sta0 r c) (w_ % (l.length : Int)).toNat := ⟨_, rfl⟩
      obtain ⟨Y, hY⟩ : ∃ Y, Y = stF l (sta0 r c) ((w_ % (l.length : Int)).toNat + 1) := ⟨_, rfl⟩
      have hXa : X = stF (l.take (w_ % (l.length : Int)).toNat) (sta0 r c) (l.take (w_ % (l.length : Int)).toNat).length := by rw [st_take (by omega), hX]
      have hYb : Y = stF (l.take (w_ % (l.length : Int) + 1).toNat) (sta0 r c) (l.take (w_ % (l.length : Int) + 1).toNat).length := by rw [st_take (by omega), hY, hk2]
      have hFX : Fits (w_ % (l.length : Int)).toNat X := by rw [hX]; exact fits_st hf.fc h0 (by omega) (hf.ft (by omega)) _ (by omega)
      have hFY : Fits ((w_ % (l.length : Int)).toNat + 1) Y := by rw [hY]; exact fits_st hf.fc h0 (by omega) (hf.ft (by omega)) _ (by omega)
      have hX1 := hFX.amended
      have hY1 := hFY.amended
      have hX2 := hFX.terms.1
      have hY2 := hFY.terms.1
      have hla : (l.take (w_ % (l.length : Int)).toNat).length ≤ 12 := by rw [List.length_take]; omega
      have hlb : (l.take (w_ % (l.length : Int) + 1).toNat).length = (w_ % (l.length : Int)).toNat + 1 := by rw [List.length_take, hk2]; omega
      have hxl := errs_length (l.take (w_ % (l.length : Int) + 1).toNat) (sta0 r c)
      have hE : (errs (l.take (w_ % (l.length : Int) + 1).toNat) (sta0 r c)).getD (w_ % (l.length : Int)).toNat default = erF l (sta0 r c) (w_ % (l.length : Int)).toNat := by rw [errs_getD (by omega)]; exact erF_same fun j hj => tk_getD (by omega)
      have hfd := (hf.ft (by omega) (l.getD (w_ % (l.length : Int)).toNat default) (getD_mem (by omega))).docs
      refine gk_region env false [] [2, 4, 5, 8, 9, 10] ?_ -- 4
      refine gk_region env false [.call (GC.Terms_few r c (l.take (w_ % (l.length : Int)).toNat) (few37_take hf hl _) h0 (by omega) hXa)] [2, 4, 5, 8, 9, 10, 11, 12] ?_ (hp := (by simp only [AllP, bb, toN, loI, hiI]; repeat' first | exact trivial | exact EntL.refl _ | exact BEntL.refl _ | exact rfl | omega | apply And.intro | intro _)) -- 5
      refine gk_region env false [.call (GC.Terms_few r c (l.take (w_ % (l.length : Int) + 1).toNat) (few37_take hf hl _) h0 (by omega) hYb)] [2, 4, 5, 8, 9, 10, 11, 12, 13, 14] ?_ (hp := (by simp only [AllP, bb, toN, loI, hiI]; repeat' first | exact trivial | exact EntL.refl _ | exact BEntL.refl _ | exact rfl | omega | apply And.intro | intro _)) -- 6
      refine gk_region env false [.call (GC.Run_few r c (l.take (w_ % (l.length : Int) + 1).toNat) (few37_take hf hl _) h0 (by omega) hYb)] [2, 4, 5, 8, 9, 10, 11, 12, 13, 14, 15, 16, 17] ?_ (hp := (by simp only [AllP, bb, toN, loI, hiI]; repeat' first | exact trivial | exact EntL.refl _ | exact BEntL.refl _ | exact rfl | omega | apply And.intro | intro _)) -- 7
      refine gk_region env false [.call (GC.Run_few r c (l.take (w_ % (l.length : Int)).toNat) (few37_take hf hl _) h0 (by omega) hXa)] [2, 5, 8, 9, 10, 11, 12, 13, 14, 15, 16, 17, 18, 20] ?_ (hp := (by simp only [AllP, bb, toN, loI, hiI]; repeat' first | exact trivial | exact EntL.refl _ | exact BEntL.refl _ | exact rfl | omega | apply And.intro | intro _)) -- 8
      refine gk_region env false [] [2, 5, 8, 9, 10, 11, 13, 15, 16, 18, 116] ?_ -- 9
      refine gk_if (fun c2 => ?_) (fun c2 => ?_)
      · try simp only [bb, toN] at c2
        simp at c2
        omega
      · try simp only [bb, toN] at c2
        refine gk_region env false [] [5, 8, 9, 10, 11, 13, 15, 16, 18, 21] ?_ -- 11
        refine gk_region env false [.call (GC.lift (sameDemands_ok X.terms Y.terms (by omega) (by omega)))] [5, 8, 9, 10, 13, 15, 16, 18, 21, 22] ?_ -- 12
        refine gk_region env false [] [5, 8, 9, 13, 15, 18, 21, 22, 128] ?_ -- 13
        refine gk_ifn (fun c3 => ?_) (fun c3 => ?_)
        · try simp only [toN] at c3
          refine gk_region env false [.call (sameLed_ok (ledS Y) (ledS X) (by show Y.amended.length ≤ _; omega) (by show X.amended.length ≤ _; omega))] [5, 8, 9, 13, 15, 18, 21, 22] ?_ -- 14
          refine gk_ret env ?_
          have hXY : Y = X := by rw [hX, hY]; exact con_not (by rw [hE] at c3; exact c3)
          rw [hXY, ledEq_self]
          simp [tupG]
        · try simp only [toN] at c3
          refine gk_region env false [] [5, 8, 9, 13, 15, 18, 21, 22, 140] ?_ -- 15
          refine gk_ifn (fun c4 => ?_) (fun c4 => ?_)
          · try simp only [toN] at c4
            refine gk_region env false [] [5, 8, 9, 13, 15, 18, 21, 22] ?_ -- 16
            refine gk_ret env ?_
            have hor : Y.terms = X.terms ∨ (l.getD (w_ % (l.length : Int)).toNat default).kind = 2 := by
              by_cases hk : (l.getD (w_ % (l.length : Int)).toNat default).kind = 2
              · exact .inr hk
              · refine .inl ?_
                rw [hX, hY]
                exact term_other (by omega) c4 hk
            rcases hor with h | h
            · rw [h]; simp [tupG]
            · rw [h]; simp [tupG]
          · try simp only [toN] at c4
            have hd := term_draw (l := l) (s0 := (sta0 r c)) (i := (w_ % (l.length : Int)).toNat) (by omega) (by omega)
            rw [← hX, ← hY, show X.c = c from by rw [hX]; exact st_c hf.fc h0 (by omega) (hf.ft (by omega)) (by omega)] at hd
            have hcf := conf_all hY2 hd.2.1
            have hcn := (countsE_ok hcf.1).n1
            refine gk_region env false [.call (GC.lift (ecount_ok (l.getD (w_ % (l.length : Int)).toNat default).docs hfd))] [5, 8, 9, 13, 15, 18, 21, 22, 23, 24] ?_ -- 17
            refine gk_region env false [] [8, 9, 13, 21, 23, 178] ?_ -- 18
            refine gk_if (fun c5 => ?_) (fun c5 => ?_)
            · try simp only [bb, toN] at c5
              exfalso
              rcases c5 with (h | h) | ⟨h, h2⟩
              · exact h hcf.1
              · omega
              · rcases hd.2.2 with q | q
                · exact h q.symm
                · omega
            · try simp only [bb, toN] at c5
              refine gk_region env false [] [8, 9, 13, 21, 23, 25] ?_ -- 20
              refine gk_loop (α := Nat) (fun a => (a : Int) ≤ (countsE (l.getD (w_ % (l.length : Int)).toNat default).docs).2.1 ∨ a = 0) (fun a => [(25, iG a)]) (fun _ => []) (fun a => (countsE (l.getD (w_ % (l.length : Int)).toNat default).docs).2.1.toNat - a) 0 (.inr rfl) ?_ (hp := by simp only [AllP]; repeat' first | exact trivial | exact EntL.refl _ | exact BEntL.refl _ | exact rfl | omega | apply And.intro | intro _) -- loop 21
              rintro a ha
              refine gk_region env false [] [8, 9, 13, 21, 23, 25, 181] ?_ -- 21
              refine gk_ifd (fun c6 => ?_) (fun c6 => ?_)
              · try simp only [toN] at c6
                refine gk_region env false [.call (GC.eRead_in (l.getD (w_ % (l.length : Int)).toNat default).docs hfd a hcf.1 (by omega))] [8, 9, 13, 21, 23, 25, 26, 27] ?_ -- 23
                refine gk_region env false [.call (GC.lift (failing_ok Y.terms (by omega) (readL (l.getD (w_ % (l.length : Int)).toNat default).docs (countsE (l.getD (w_ % (l.length : Int)).toNat default).docs).1 a) (readL_short hfd.len _ _)))] [8, 9, 13, 21, 23, 25, 199] ?_ -- 24
                refine gk_if (fun c7 => ?_) (fun c7 => ?_)
                · try simp only [bb, toN] at c7
                  rw [hcf.2 a (by omega)] at c7
                  simp at c7
                · try simp only [bb, toN] at c7
                  refine gk_region env false [] [8, 9, 13, 21, 23, 25] ?_ -- 22
                  refine gk_round (a + 1) ?_ (hp := by simp only [AllP]; repeat' first | exact trivial | exact EntL.refl _ | exact BEntL.refl _ | exact rfl | omega | apply And.intro | intro _)
                  omega
              · try simp only [toN] at c6
                refine gk_region env false [] [8] ?_ -- 26
                refine gk_ret env ?_
                rfl
end Go.Gh
