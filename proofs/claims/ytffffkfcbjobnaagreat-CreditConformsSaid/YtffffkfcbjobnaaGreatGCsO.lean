/- Walks by the logic of calls, and plain laws. -/
import Derived.Test.YtffffkfcbjobnaaGreatGCsN
namespace Go.Gh
open Go Go.Proofs
set_option maxRecDepth 1000000
set_option maxHeartbeats 2000000
set_option linter.unusedSimpArgs false
set_option linter.unusedVariables false
set_option linter.unnecessarySimpa false
set_option linter.unusedSectionVars false
variable [PowTab] [ItoaU]
open Go.RowKit

/-! the first turns, and the turns without those that have an error -/
theorem stF_same {a b : List Trn} {s0 : Sta} : ∀ i, (∀ j, j < i → a.getD j default = b.getD j default) → stF a s0 i = stF b s0 i
  | 0, _ => rfl
  | i + 1, h => by
    show (turnS (stF a s0 i) _).1 = (turnS (stF b s0 i) _).1
    rw [stF_same i fun j hj => h j (by omega), h i (by omega)]
theorem erF_same {a b : List Trn} {s0 : Sta} {i : Nat} (h : ∀ j, j ≤ i → a.getD j default = b.getD j default) : erF a s0 i = erF b s0 i := by
  unfold erF
  rw [stF_same i fun j hj => h j (by omega), h i (Nat.le_refl _)]
theorem tk_getD {α : Type} [Inhabited α] {l : List α} {k j : Nat} (h : j < k) : (l.take k).getD j default = l.getD j default := by
  rw [List.getD_eq_getElem?_getD, List.getElem?_take_of_lt h, ← List.getD_eq_getElem?_getD]
theorem app_getD {α : Type} [Inhabited α] {a b : List α} {j : Nat} (h : j < a.length) : (a ++ b).getD j default = a.getD j default := by
  rw [List.getD_eq_getElem?_getD, List.getElem?_append_left h, ← List.getD_eq_getElem?_getD]
theorem errs_take {l : List Trn} {s0 : Sta} {k : Nat} (h : k ≤ l.length) : errs (l.take k) s0 = (errs l s0).take k := by
  have e1 : (l.take k).length = k := by rw [List.length_take]; omega
  refine ext_getD (by rw [errs_length, e1, List.length_take, errs_length]; omega) fun j hj => ?_
  rw [errs_length, e1] at hj
  rw [errs_getD (by omega), tk_getD hj, errs_getD (by omega)]
  exact erF_same fun i hi => tk_getD (by omega)
theorem few37_take {r : Rlm} {c : Crd} {l : List Trn} (h : Few37 r c l) (hl : l.length ≤ 12) (k : Nat) : Few37 r c (l.take k) := by
  have e : (l.take k).length ≤ l.length := by rw [List.length_take]; omega
  exact ⟨h.fr, h.fc, .inl (by omega), fun _ t ht => h.ft (by omega) t (List.mem_of_mem_take ht), h.few⟩
def goodF (l : List Trn) (s0 : Sta) : Nat → List Trn
  | 0 => []
  | i + 1 => if erF l s0 i = 0 then goodF l s0 i ++ [l.getD i default] else goodF l s0 i
theorem good_len (l : List Trn) (s0 : Sta) : ∀ i, (goodF l s0 i).length ≤ i
  | 0 => Nat.le_refl _
  | i + 1 => by
    have := good_len l s0 i
    unfold goodF
    split
    · simp only [List.length_append, List.length_cons, List.length_nil]; omega
    · omega
theorem good_mem {l : List Trn} {s0 : Sta} : ∀ i, i ≤ l.length → ∀ t, t ∈ goodF l s0 i → t ∈ l
  | 0, _, t, h => by cases h
  | i + 1, hi, t, h => by
    unfold goodF at h
    split at h
    · rcases List.mem_append.1 h with h | h
      · exact good_mem i (by omega) t h
      · rw [List.mem_singleton.1 h]; exact getD_mem (by omega)
    · exact good_mem i (by omega) t h
theorem few37_good {r : Rlm} {c : Crd} {l : List Trn} (h : Few37 r c l) (hl : l.length ≤ 12) (s0 : Sta) : Few37 r c (goodF l s0 l.length) := by
  have := good_len l s0 l.length
  exact ⟨h.fr, h.fc, .inl (by omega), fun _ t ht => h.ft (by omega) t (good_mem _ (Nat.le_refl _) t ht), h.few⟩
theorem good_st (l : List Trn) (s0 : Sta) : ∀ n, stF (goodF l s0 n) s0 (goodF l s0 n).length = stF l s0 n ∧ ∀ j, j < (goodF l s0 n).length → erF (goodF l s0 n) s0 j = 0
  | 0 => ⟨rfl, fun j h => by cases h⟩
  | n + 1 => by
    obtain ⟨h1, h2⟩ := good_st l s0 n
    unfold goodF
    split
    · rename_i he
      generalize hg : goodF l s0 n = g at h1 h2 ⊢
      have hs : stF (g ++ [l.getD n default]) s0 g.length = stF l s0 n := by
        rw [stF_same (b := g) _ fun j hj => app_getD hj, h1]
      have hl : (g ++ [l.getD n default]).getD g.length default = l.getD n default := by
        rw [List.getD_eq_getElem?_getD, List.getElem?_append_right (Nat.le_refl _)]; simp
      refine ⟨?_, fun j hj => ?_⟩
      · rw [show (g ++ [l.getD n default]).length = g.length + 1 by simp]
        show (turnS (stF (g ++ [l.getD n default]) s0 g.length) ((g ++ [l.getD n default]).getD g.length default)).1 = (turnS (stF l s0 n) (l.getD n default)).1
        rw [hs, hl]
      · simp only [List.length_append, List.length_cons, List.length_nil] at hj
        by_cases e : j = g.length
        · subst e
          show (turnS (stF (g ++ [l.getD n default]) s0 g.length) ((g ++ [l.getD n default]).getD g.length default)).2 = 0
          rw [hs, hl]; exact he
        · rw [erF_same (b := g) fun i hi => app_getD (by omega)]
          exact h2 j (by omega)
    · rename_i he
      rw [con_not he]
      exact ⟨h1, h2⟩
theorem ledEq_self (a : Led) : ledEq a a = true := by simp [ledEq]

theorem splits_ok (r : Rlm) (hm : MemR r) (c : Crd) (l : List Trn) (hcl : MemC c l) (at_ : Int) (ha0 : 0 ≤ at_) (ha1 : at_ ≤ 255) : GC Tryz.prog 5 [rlG r, crdG c, rowTn l, .d (.sc (.int .u8 at_))] (bG true) := by
  refine gc_of_gk Tryz.func5 ?_
  refine gk_region env false [] [2, 3, 4, 5, 8] ?_ -- 0
  refine gk_box 0 ?_
  refine gk_box 1 ?_
  refine gk_region env false [.call small37_ok] [2, 3, 4, 5, 8, 9] ?_ -- 1
  cases hfw : few37V r c l
  · refine gk_region env false [.call (GC.few37_is hm hcl hfw), .no, .nu] [2, 3, 4, 5, 8, 9, 39] ?_ (hp := (by simp only [AllP, bb, toN]; repeat' first | exact trivial | exact EntL.refl _ | exact BEntL.refl _ | exact rfl | omega | apply And.intro | intro _ | exact Or.inl trivial)) -- 2
    refine gk_if (fun c1 => ?_) (fun c1 => ?_)
    · try simp only [bb, toN] at c1
      refine gk_region env false [] [2, 3, 4, 5, 8, 9] ?_ -- 3
      refine gk_ret env ?_
      rfl
    · try simp only [bb, toN] at c1
      exact absurd c1 (by simp)
  · refine gk_region env false [.call (GC.few37_is hm hcl hfw), .call (ccheck_ok r (few37_spec hfw hm).fr c (few37_spec hfw hm).fc)] [2, 3, 4, 5, 8, 9, 39] ?_ -- 2
    refine gk_if (fun c1 => ?_) (fun c1 => ?_)
    · try simp only [bb, toN] at c1
      refine gk_region env false [] [2, 3, 4, 5, 8, 9] ?_ -- 3
      refine gk_ret env ?_
      rfl
    · try simp only [bb, toN] at c1
      have hf := few37_spec hfw hm
      have h0 : crdE r c = 0 := by omega
      have hl : l.length ≤ 12 := by omega
      obtain ⟨X, hX⟩ : ∃ X, X = stF l (sta0 r c) l.length := ⟨_, rfl⟩
      obtain ⟨Z, hZ⟩ : ∃ Z, Z = stF (l.take (at_ % ((l.length : Int) + 1)).toNat) (sta0 r c) (l.take (at_ % ((l.length : Int) + 1)).toNat).length := ⟨_, rfl⟩
      obtain ⟨Y, hY⟩ : ∃ Y, Y = stF (goodF l (sta0 r c) l.length) (sta0 r c) (goodF l (sta0 r c) l.length).length := ⟨_, rfl⟩
      have hF : Fits l.length X := by rw [hX]; exact fits_st hf.fc h0 (by omega) (hf.ft (by omega)) _ (Nat.le_refl _)
      have hF5 := hF.amended
      have hxl := errs_length l (sta0 r c)
      have hyx : Y = X := by rw [hX, hY]; exact (good_st l (sta0 r c) l.length).1
      have hgl := good_len l (sta0 r c) l.length
      have hm0 : 0 ≤ at_ % ((l.length : Int) + 1) := Int.emod_nonneg _ (by omega)
      have hm1 : at_ % ((l.length : Int) + 1) < (l.length : Int) + 1 := Int.emod_lt_of_pos _ (by omega)
      have htk : (l.take (at_ % ((l.length : Int) + 1)).toNat).length ≤ 12 := by rw [List.length_take]; omega
      have hyl := errs_length (goodF l (sta0 r c) l.length) (sta0 r c)
      have hzl := errs_length (l.take (at_ % ((l.length : Int) + 1)).toNat) (sta0 r c)
      refine gk_region env false [] [2, 4, 5, 8, 9, 10] ?_ -- 4
      refine gk_region env false [.call (GC.Run_few r c l hf h0 (by omega) hX)] [2, 4, 5, 8, 9, 10, 11, 12, 13] ?_ -- 5
      refine gk_region env false [.call (GC.Run_few r c (l.take (at_ % ((l.length : Int) + 1)).toNat) (few37_take hf hl _) h0 (by omega) hZ)] [2, 4, 5, 8, 9, 10, 11, 12, 13, 15, 16] ?_ (hp := (by simp only [AllP, bb, toN, loI, hiI]; repeat' first | exact trivial | exact EntL.refl _ | exact BEntL.refl _ | exact rfl | omega | apply And.intro | intro _)) -- 6
      refine gk_region env false [.call (sameErrs_ok (errs (l.take (at_ % ((l.length : Int) + 1)).toNat) (sta0 r c)) ((errs l (sta0 r c)).take (at_ % ((l.length : Int) + 1)).toNat) (by omega) (by rw [List.length_take]; omega))] [2, 4, 5, 8, 9, 11, 12, 85] ?_ (hp := (by simp only [AllP, bb, toN, loI, hiI]; repeat' first | exact trivial | exact EntL.refl _ | exact BEntL.refl _ | exact rfl | omega | apply And.intro | intro _)) -- 7
      refine gk_if (fun c2 => ?_) (fun c2 => ?_)
      · try simp only [bb, toN] at c2
        rw [errs_take (by omega)] at c2
        simp [hxl] at c2
      · try simp only [bb, toN] at c2
        refine gk_region env false [.el default trnC []] [2, 4, 5, 8, 9, 11, 12, 17] ?_ (hp := (by simp only [AllP, Int.toNat_natCast]; repeat' first | exact trivial | exact EntL.refl _ | exact BEntL.refl _ | exact rfl | omega | apply And.intro | intro _ | (simp [rowL]; done) | (simp only [List.length_append, List.length_cons, List.length_nil]; omega) | (simp [*]; done))) -- 9
        refine gk_region env false [] [2, 4, 5, 8, 9, 11, 12, 17, 18] ?_ -- 10
        refine gk_loop (α := Nat) (fun i => i ≤ l.length) (fun i => [(18, iG i), (17, .sl 4 8 0 (goodF l (sta0 r c) i).length)]) (fun i => [(4, some (.row 57 8 (default : Trn) trnC (goodF l (sta0 r c) i) 0))]) (fun i => l.length - i) 0 (Nat.zero_le _) ?_ (hp := by simp only [AllP]; repeat' first | exact trivial | exact EntL.refl _ | exact BEntL.refl _ | exact rfl | omega | apply And.intro | intro _) -- loop 11
        rintro i hi
        have hgi := good_len l (sta0 r c) i
        refine gk_region env false [] [2, 4, 5, 8, 9, 11, 12, 17, 18, 90] ?_ -- 11
        refine gk_ifd (fun c3 => ?_) (fun c3 => ?_)
        · try simp only [toN] at c3
          refine gk_region env false [] [2, 4, 5, 8, 9, 11, 12, 17, 18, 97] ?_ -- 13
          refine gk_ifd (fun c4 => ?_) (fun c4 => ?_)
          · try simp only [toN] at c4
            refine gk_region env false [.el default trnC [(l.getD i default)], .el default trnC (goodF l (sta0 r c) i ++ [(l.getD i default)])] [2, 4, 5, 8, 9, 11, 12, 17, 18] ?_ (hp := (by simp only [AllP, Int.toNat_natCast]; repeat' first | exact trivial | exact EntL.refl _ | exact BEntL.refl _ | exact rfl | omega | apply And.intro | intro _ | (simp [rowL]; done) | (simp only [List.length_append, List.length_cons, List.length_nil]; omega) | (simp [*]; done))) -- 14
            have hge : goodF l (sta0 r c) (i + 1) = goodF l (sta0 r c) i ++ [(l.getD i default)] := if_pos (by rw [errs_getD (by omega)] at c4; exact c4)
            refine gk_region env false [] [2, 4, 5, 8, 9, 11, 12, 17, 18] ?_ -- 12
            refine gk_round (i + 1) ?_ (hp := by simp only [AllP, hge]; repeat' first | exact trivial | exact EntL.refl _ | exact BEntL.refl _ | exact rfl | omega | apply And.intro | intro _ | (simp; done))
            omega
          · try simp only [toN] at c4
            have hge : goodF l (sta0 r c) (i + 1) = goodF l (sta0 r c) i := if_neg (by rw [errs_getD (by omega)] at c4; exact c4)
            refine gk_region env false [] [2, 4, 5, 8, 9, 11, 12, 17, 18] ?_ -- 12
            refine gk_round (i + 1) ?_ (hp := by simp only [AllP, hge]; repeat' first | exact trivial | exact EntL.refl _ | exact BEntL.refl _ | exact rfl | omega | apply And.intro | intro _ | (simp; done))
            omega
        · try simp only [toN] at c3
          obtain rfl : i = l.length := by omega
          refine gk_region env false [.call (GC.Run_few r c (goodF l (sta0 r c) l.length) (few37_good hf hl _) h0 (by omega) hY)] [8, 9, 11, 17, 19, 20, 21] ?_ -- 15
          refine gk_region env false [] [8, 9, 11, 17, 19, 20, 21, 22] ?_ -- 16
          refine gk_loop (α := Nat) (fun j => j ≤ (errs (goodF l (sta0 r c) l.length) (sta0 r c)).length) (fun j => [(22, iG j)]) (fun _ => []) (fun j => (errs (goodF l (sta0 r c) l.length) (sta0 r c)).length - j) 0 (Nat.zero_le _) ?_ (hp := by simp only [AllP]; repeat' first | exact trivial | exact EntL.refl _ | exact BEntL.refl _ | exact rfl | omega | apply And.intro | intro _) -- loop 17
          rintro j hj
          refine gk_region env false [] [8, 9, 11, 17, 19, 20, 21, 22, 116] ?_ -- 17
          refine gk_ifd (fun c5 => ?_) (fun c5 => ?_)
          · try simp only [toN] at c5
            refine gk_region env false [] [8, 9, 11, 17, 19, 20, 21, 22, 123] ?_ -- 19
            refine gk_ifn (fun c6 => ?_) (fun c6 => ?_)
            · try simp only [toN] at c6
              rw [errs_getD (by omega)] at c6; exact absurd ((good_st l (sta0 r c) l.length).2 _ (by omega)) c6
            · try simp only [toN] at c6
              refine gk_region env false [] [8, 9, 11, 17, 19, 20, 21, 22] ?_ -- 18
              refine gk_round (j + 1) ?_ (hp := by simp only [AllP]; repeat' first | exact trivial | exact EntL.refl _ | exact BEntL.refl _ | exact rfl | omega | apply And.intro | intro _)
              omega
          · try simp only [toN] at c5
            refine gk_region env false [.call (sameLed_ok (ledS X) (ledS Y) (by show X.amended.length ≤ _; omega) (by show Y.amended.length ≤ _; rw [hyx]; omega))] [8] ?_ -- 21
            refine gk_ret env ?_
            rw [hyx, ledEq_self, hyl]
            simp [tupG]
end Go.Gh
