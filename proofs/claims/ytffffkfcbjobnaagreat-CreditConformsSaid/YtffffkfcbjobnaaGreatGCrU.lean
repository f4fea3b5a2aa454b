/- Walks by the logic of calls, and plain laws. -/
import Derived.Test.YtffffkfcbjobnaaGreatGCrT
namespace Go.Gh
open Go Go.Proofs
set_option maxRecDepth 1000000
set_option maxHeartbeats 2000000
set_option linter.unusedSimpArgs false
set_option linter.unusedVariables false
set_option linter.unnecessarySimpa false
open Go.RowKit

theorem Ent.rowEq {α β : Type} {df : α} {cs : α → List D} {xs : List α} {df' : β} {cs' : β → List D} {ys : List β} (h : rowL cs xs = rowL cs' ys) : Ent (.d (.row df cs xs)) (.d (.row df' cs' ys)) := fun ν F w v hv => by
  have hlen : xs.length = ys.length := by have := congrArg List.length h; simpa [rowL] using this
  have hel : ∀ (i : Nat) e, ys[i]? = some e → ∃ e', xs[i]? = some e' ∧ cs e' = cs' e := fun i e he => by
    have h1 : (rowL cs' ys)[i]? = some (cs' e) := by simp [rowL, he]
    rw [← h] at h1
    simp only [rowL, List.getElem?_map, Option.map_eq_some_iff] at h1
    exact h1
  cases hv with
  | d hd => cases hd with
    | row _ _ _ A c b off es val hA hc hl hw hF hd =>
      rw [hlen]
      refine .d (.row df' cs' ys A c b off es val (fun hy => hA fun hx => hy (List.eq_nil_of_length_eq_zero (by rw [← hlen, hx]; rfl))) (by omega) (fun e he => ?_) (fun i e j x a1 a2 => ?_) (fun i e j x a1 a2 => ?_) (fun i e j x a1 a2 => ?_))
      · obtain ⟨i, hi⟩ := List.getElem?_of_mem he
        obtain ⟨e', h1, h2⟩ := hel i e hi
        rw [← h2]; exact hl _ (List.mem_of_getElem? h1)
      · obtain ⟨e', h1, h2⟩ := hel i e a1
        exact hw i e' j x h1 (h2 ▸ a2)
      · obtain ⟨e', h1, h2⟩ := hel i e a1
        exact hF i e' j x h1 (h2 ▸ a2)
      · obtain ⟨e', h1, h2⟩ := hel i e a1
        exact hd i e' j x h1 (h2 ▸ a2)
instance : Inhabited Dc := ⟨⟨⟨#[]⟩, []⟩⟩
def dcC (d : Dc) : List D := [.sc (.string d.kind), .row default flC d.fields]
abbrev rowDc (l : List Dc) : G := .d (.row default dcC l)
structure FitL (l : List Dc) : Prop where
  len : l.length ≤ 1000
  each : ∀ d, d ∈ l → Fit d
theorem FitL.at_ {l : List Dc} (h : FitL l) {i : Nat} (hi : i < l.length) : Fit (l.getD i default) := h.each _ (getD_mem hi)
def dchk (l : List Dc) (i : Nat) : Int := if i < l.length then if checkE (l.getD i default) = 0 then dchk l (i + 1) else checkE (l.getD i default) else 0
termination_by l.length - i
def cntBad (d : Dc) (n : Int) : Bool := !decide ((countE d).2 = 0) || decide (4096 < n * (countE d).1)
def cntF (l : List Dc) (i : Nat) (acc : List Int) (n : Int) : Option (List Int × Int) :=
  if i < l.length then if cntBad (l.getD i default) n = true then none else cntF l (i + 1) (acc ++ [(countE (l.getD i default)).1]) (n * (countE (l.getD i default)).1) else some (acc, n)
termination_by l.length - i
def countsE (l : List Dc) : List Int × Int × Int := if (8 : Int) < l.length then ([], 0, 6) else if dchk l 0 = 0 then match cntF l 0 [] 1 with
  | none => ([], 0, 6)
  | some (r, n) => (r, n, 0)
  else ([], 0, dchk l 0)
theorem dchk_0 {l : List Dc} : ∀ (k i : Nat), l.length - i = k → dchk l i = 0 → ∀ j, i ≤ j → j < l.length → checkE (l.getD j default) = 0 := by
  intro k
  induction k with
  | zero => intro i h _ j h1 h2; omega
  | succ k ih =>
    intro i h hz j h1 h2
    rw [dchk, if_pos (by omega)] at hz
    split at hz
    · rename_i hc
      by_cases e : j = i
      · subst e; exact hc
      · exact ih (i + 1) (by omega) hz j (by omega) h2
    · exact absurd hz (by assumption)
theorem sz_pos_fields {fs : List Fl} (h : ∀ f, f ∈ fs → Good f) : ∀ (k i n : Nat), fs.length - i = k → 1 ≤ n → (countF fs i n).2 = 0 → 1 ≤ (countF fs i n).1 := by
  intro k
  induction k with
  | zero => intro i n hk hn _; rw [countF, if_neg (by omega)]; show (1 : Int) ≤ (n : Int); omega
  | succ k ih =>
    intro i n hk hn h0
    rw [countF, if_pos (by omega)] at h0 ⊢
    split
    · rename_i hc; rw [if_pos hc] at h0; simp at h0
    · rename_i hc
      rw [if_neg hc] at h0
      have := (h _ (getD_mem (l := fs) (i := i) (by omega))).sz.1
      exact ih (i + 1) _ (by omega) (Nat.mul_pos (by omega) (by omega)) h0
theorem countE_pos {d : Dc} (h : (countE d).2 = 0) : 1 ≤ (countE d).1 := by
  have hc := countE_0 h
  have hr := right_of hc
  unfold countE at h ⊢
  rw [if_pos hc] at h ⊢
  exact sz_pos_fields hr.good _ 0 1 rfl (by omega) h
structure CntI (l : List Dc) (i : Nat) (acc : List Int) (n : Int) : Prop where
  len : acc.length = i
  n0 : 1 ≤ n
  n1 : n ≤ 4096
  at_ : ∀ j, j < i → acc.getD j default = (countE (l.getD j default)).1 ∧ (countE (l.getD j default)).2 = 0
theorem CntI.step {l : List Dc} {i : Nat} {acc : List Int} {n : Int} (h : CntI l i acc n) (hb : cntBad (l.getD i default) n = false) : CntI l (i + 1) (acc ++ [(countE (l.getD i default)).1]) (n * (countE (l.getD i default)).1) := by
  rw [cntBad, Bool.or_eq_false_iff, Bool.not_eq_false', decide_eq_true_eq, decide_eq_false_iff_not] at hb
  obtain ⟨h1, h2⟩ := hb
  have h2 : n * (countE (l.getD i default)).1 ≤ 4096 := by omega
  have hp := countE_pos h1
  refine ⟨by simp [h.len], ?_, h2, fun j hj => ?_⟩
  · have := Int.mul_le_mul h.n0 hp (by omega) (by have := h.n0; omega)
    omega
  · by_cases e : j = i
    · subst e
      rw [List.getD_eq_getElem?_getD, List.getElem?_append_right (by rw [h.len]; omega), h.len]
      refine ⟨by simp, h1⟩
    · have := h.at_ j (by omega)
      rw [List.getD_eq_getElem?_getD, List.getElem?_append_left (by rw [h.len]; omega), ← List.getD_eq_getElem?_getD]
      exact this
theorem cntI_0 (l : List Dc) : CntI l 0 [] 1 := ⟨rfl, by omega, by omega, fun j h => by omega⟩
theorem CntI.mul {l : List Dc} {i : Nat} {acc : List Int} {n : Int} (h : CntI l i acc n) (d : Dc) : -9223372036854775808 ≤ n * (countE d).1 ∧ n * (countE d).1 ≤ 9223372036854775807 := by
  have h1 := countE_le d
  have h2 := h.n0
  have h3 := h.n1
  have h4 := Int.mul_le_mul h3 h1.2 h1.1 (by omega)
  have h5 := Int.mul_nonneg (show 0 ≤ n by omega) h1.1
  omega
theorem cntF_I {l : List Dc} : ∀ (k i : Nat) (acc : List Int) (n : Int) (r : List Int) (m : Int), l.length - i = k → i ≤ l.length → CntI l i acc n → cntF l i acc n = some (r, m) → CntI l l.length r m := by
  intro k
  induction k with
  | zero =>
    intro i acc n r m hk hi h he
    rw [cntF, if_neg (by omega)] at he
    cases he
    obtain rfl : i = l.length := by omega
    exact h
  | succ k ih =>
    intro i acc n r m hk hi h he
    rw [cntF, if_pos (by omega)] at he
    cases hb : cntBad (l.getD i default) n with
    | true => rw [hb, if_pos rfl] at he; cases he
    | false =>
      rw [hb, if_neg (by simp)] at he
      exact ih (i + 1) _ _ r m (by omega) (by omega) (h.step hb) he
theorem countsE_ok {l : List Dc} (h : (countsE l).2.2 = 0) : CntI l l.length (countsE l).1 (countsE l).2.1 := by
  unfold countsE at h ⊢
  split at h
  · simp at h
  · rename_i h8
    rw [if_neg h8]
    split at h
    · rename_i hd
      rw [if_pos hd]
      cases hc : cntF l 0 [] 1 with
      | none => rw [hc] at h; simp at h
      | some r =>
        obtain ⟨r, n⟩ := r
        exact cntF_I _ 0 [] 1 r n rfl (Nat.zero_le _) (cntI_0 l) hc
    · rename_i hd
      exact absurd h hd
/-- readings -/
def pnO : Option Pn → List D
  | none => [.sc (.string ⟨#[]⟩), .sc (.slice none 0 0), .sc (.slice none 0 0)]
  | some p => pnC p
def rdF (l : List Dc) (cs : List Int) : Nat → Int → List (Option Pn) → List (Option Pn)
  | 0, _, out => out
  | j + 1, i, out => rdF l cs j (i / cs.getD j default) (out.set j (some (readE (l.getD j default) (i % cs.getD j default)).1))
def rdL (l : List Dc) (cs : List Int) : Nat → Int → List Pn
  | 0, _ => []
  | j + 1, i => rdL l cs j (i / cs.getD j default) ++ [(readE (l.getD j default) (i % cs.getD j default)).1]
theorem rdL_len (l : List Dc) (cs : List Int) : ∀ (j : Nat) (i : Int), (rdL l cs j i).length = j := by
  intro j
  induction j with
  | zero => intro i; rfl
  | succ j ih => intro i; simp [rdL, ih]
theorem rdF_eq (l : List Dc) (cs : List Int) : ∀ (j : Nat) (i : Int) (out : List (Option Pn)), j ≤ out.length → rdF l cs j i out = (rdL l cs j i).map some ++ out.drop j := by
  intro j
  induction j with
  | zero => intro i out _; rfl
  | succ j ih =>
    intro i out hj
    rw [rdF, ih _ _ (by rw [List.length_set]; omega), rdL, List.map_append, List.append_assoc]
    congr 1
    rw [List.drop_set, if_neg (by omega), Nat.sub_self, List.drop_eq_getElem_cons (show j < out.length by omega)]
    rfl
def readL (l : List Dc) (cs : List Int) (i : Int) : List Pn := rdL l cs l.length i
theorem rdF_top (l : List Dc) (cs : List Int) (i : Int) : rowL pnO (rdF l cs l.length i (List.replicate l.length none)) = rowL pnC (readL l cs i) := by
  rw [rdF_eq _ _ _ _ _ (by simp), List.drop_eq_nil_of_le (by simp), List.append_nil]
  simp [rowL, readL, pnO]
theorem putD_pn {xs : List (Option Pn)} {k : Nat} (hk : k < xs.length) (p : Pn) : putD (rowL pnO xs) k 0 (pnC p) = rowL pnO (xs.set k (some p)) := by
  have e : (rowL pnO xs).getD k [] = pnO xs[k] := by
    simp [rowL, List.getD_eq_getElem?_getD, List.getElem?_eq_getElem hk]
  have h3 : (pnO xs[k]).length = 3 := by cases xs[k] <;> rfl
  rw [putD, e]
  simp only [rowL, List.map_set, List.take_zero, List.nil_append, Nat.zero_add]
  rw [List.drop_of_length_le (by rw [h3]; exact Nat.le_refl _), List.append_nil]
  rfl

theorem counts_ok (l : List Dc) (hl : FitL l) : GC Tryz.prog 47 [rowDc l] (.tup [rowI (countsE l).1, iG (countsE l).2.1, iG (countsE l).2.2]) := by
  have hl1 := hl.len
  refine gc_of_gk Tryz.func47 ?_
  refine gk_region env false [] [0, 2, 3, 4] ?_ -- 0
  refine gk_region env false [] [0, 2, 3, 4, 16] ?_ -- 1
  refine gk_ifd (fun c1 => ?_) (fun c1 => ?_)
  · try simp only [toN] at c1
    refine gk_region env false [] [0, 2, 3, 4] ?_ -- 2
    refine gk_retE env ?_
    rw [countsE, if_pos (by omega)]; exact Ent.tup ⟨Ent.nil, Ent.refl _, Ent.refl _, trivial⟩
  · try simp only [toN] at c1
    refine gk_region env false [] [0, 2, 3, 4, 17, 18, 19] ?_ -- 3
    refine gk_loop (α := Nat) (fun i => i ≤ l.length ∧ dchk l 0 = dchk l i) (fun i => [(19, iG i)]) (fun _ => []) (fun i => l.length - i) 0 ⟨by omega, rfl⟩ ?_ -- loop 4
    rintro i ⟨hi, he⟩
    refine gk_region env false [] [0, 2, 3, 4, 17, 18, 19, 20] ?_ -- 4
    refine gk_ifd (fun c2 => ?_) (fun c2 => ?_)
    · try simp only [toN] at c2
      refine gk_region env false [] [0, 2, 3, 4, 6, 17, 18, 19] ?_ -- 5
      refine gk_region env false [.call (check_ok (l.getD i default) (hl.at_ (by omega)))] [0, 2, 3, 4, 7, 17, 18, 19] ?_ -- 6
      refine gk_region env false [] [0, 2, 3, 4, 7, 17, 18, 19, 26] ?_ -- 7
      refine gk_ifn (fun c3 => ?_) (fun c3 => ?_)
      · try simp only [toN] at c3
        refine gk_region env false [] [0, 2, 3, 4, 17, 18, 19] ?_ -- 8
        refine gk_retE env ?_
        have e : dchk l 0 = checkE (l.getD i default) := by rw [he, dchk, if_pos (by omega), if_neg c3]
        have e2 : countsE l = ([], 0, checkE (l.getD i default)) := by rw [countsE, if_neg (by omega), if_neg (by rw [e]; exact c3), e]
        rw [e2]; exact Ent.tup ⟨Ent.nil, Ent.refl _, Ent.refl _, trivial⟩
      · try simp only [toN] at c3
        refine gk_region env false [] [0, 2, 3, 4, 17, 18, 19] ?_ -- 9
        refine gk_round (i + 1) ?_
        refine ⟨by omega, he.trans ?_⟩
        rw [dchk, if_pos (by omega), if_pos c3]
    · try simp only [toN] at c2
      have hd : dchk l 0 = 0 := by rw [he, dchk, if_neg (by omega)]
      refine gk_region env false [] [0, 2, 3, 4, 8] ?_ -- 10
      refine gk_region env false [] [0, 2, 3, 4, 8, 9] ?_ -- 11
      refine gk_nil 9 3 1 (default : Int) inC (by rfl) (by rfl) ?_
      refine gk_region env false [] [2, 3, 4, 8, 9, 29, 30, 31] ?_ -- 12
      refine gk_loop (α := Nat × List Int × Int) (fun x => x.1 ≤ l.length ∧ CntI l x.1 x.2.1 x.2.2 ∧ cntF l 0 [] 1 = cntF l x.1 x.2.1 x.2.2) (fun x => [(31, iG x.1), (9, .sl 0 1 0 x.2.1.length), (8, iG x.2.2)]) (fun x => [(0, some (.row 3 1 default inC x.2.1 0))]) (fun x => l.length - x.1) (0, [], 1) ⟨Nat.zero_le _, cntI_0 l, rfl⟩ ?_ -- loop 13
      rintro ⟨i, acc, n⟩ ⟨hi, hI, he⟩
      dsimp only at *
      have hm := hI.mul (l.getD i default)
      have hal := hI.len
      refine gk_region env false [] [2, 3, 4, 8, 9, 29, 30, 31, 32] ?_ -- 13
      refine gk_ifd (fun c4 => ?_) (fun c4 => ?_)
      · try simp only [toN] at c4
        refine gk_region env false [] [2, 3, 4, 8, 9, 11, 29, 30, 31] ?_ -- 14
        refine gk_region env false [.call (count_ok (l.getD i default) (hl.at_ (by omega)))] [2, 3, 4, 8, 9, 12, 13, 29, 30, 31] ?_ -- 15
        refine gk_region env false [] [2, 3, 4, 8, 9, 12, 29, 30, 31, 47] ?_ -- 16
        refine gk_if (fun c5 => ?_) (fun c5 => ?_)
        · try simp only [bb, toN] at c5
          refine gk_region env false [] [2, 3, 4, 8, 9, 12, 29, 30, 31] ?_ -- 17
          refine gk_retE env ?_
          have e : cntF l 0 [] 1 = none := by rw [he, cntF, if_pos (by omega), if_pos (by simp [cntBad]; simp at c5; exact c5)]
          have e2 : countsE l = ([], 0, 6) := by rw [countsE, if_neg (by omega), if_pos hd, e]
          rw [e2]; exact Ent.tup ⟨Ent.nil, Ent.refl _, Ent.refl _, trivial⟩
        · try simp only [bb, toN] at c5
          have hb0 : cntBad (l.getD i default) n = false := by simp [cntBad]; simp at c5; exact c5
          refine gk_region env false [.el default inC [(countE (l.getD i default)).1], .el default inC (acc ++ [(countE (l.getD i default)).1])] [2, 3, 4, 8, 9, 29, 30, 31] ?_ (hp := (by simp only [AllP, Int.toNat_natCast]; repeat' first | exact trivial | exact EntL.refl _ | exact BEntL.refl _ | exact rfl | omega | apply And.intro | intro _ | (simp [rowL]; done) | (simp only [List.length_append, List.length_cons, List.length_nil]; omega) | (simp [*]; done))) -- 18
          refine gk_region env false [] [2, 3, 4, 8, 9, 29, 30, 31] ?_ -- 19
          refine gk_round ((i + 1, acc ++ [(countE (l.getD i default)).1], n * (countE (l.getD i default)).1)) ?_
          refine ⟨by simp only; omega, hI.step hb0, he.trans ?_⟩
          rw [cntF, if_pos (by omega), if_neg (by rw [hb0]; simp)]
      · try simp only [toN] at c4
        refine gk_region env false [] [2, 3, 4] ?_ -- 20
        refine gk_ret env ?_
        have e : cntF l 0 [] 1 = some (acc, n) := by rw [he, cntF, if_neg (by omega)]
        have e2 : countsE l = (acc, n, 0) := by rw [countsE, if_neg (by omega), if_pos hd, e]
        rw [e2]; rfl

theorem ecount_ok (l : List Dc) (hl : FitL l) : GC Tryz.prog 27 [rowDc l] (.tup [iG (countsE l).2.1, iG (countsE l).2.2]) := by
  refine gc_of_gk Tryz.func27 ?_
  refine gk_region env false [] [0, 2, 3] ?_ -- 0
  refine gk_region env false [.call (counts_ok l hl)] [2, 3, 5, 6] ?_ -- 1
  refine gk_region env false [] [2, 3] ?_ -- 2
  refine gk_ret env ?_
  rfl

theorem eread_ok (l : List Dc) (hl : FitL l) (cs : List Int) (n : Int) (hc : CntI l l.length cs n) (i : Int) (hi : 0 ≤ i) (hi2 : i ≤ 4096) : GC Tryz.prog 48 [rowDc l, rowI cs, iG i] (rowP (readL l cs i)) := by
  have hl1 := hl.len
  have hcl := hc.len
  refine gc_of_gk Tryz.func48 ?_
  refine gk_region env false [] [0, 1, 2, 6] ?_ -- 0
  refine gk_region env false [.el none pnO (List.replicate l.length none : List (Option Pn))] [0, 1, 2, 6, 7] ?_ (hp := (by simp only [AllP, bb, toN]; repeat' first | exact trivial | exact EntL.refl _ | exact BEntL.refl _ | exact rfl | omega | apply And.intro | intro _ | (rw [rowL, List.map_replicate]; rfl))) -- 1
  refine gk_region env false [] [0, 1, 2, 6, 7, 8] ?_ -- 2
  refine gk_loop (α := Nat × Int × List (Option Pn)) (fun x => x.1 ≤ l.length ∧ (0 ≤ x.2.1 ∧ x.2.1 ≤ 4096) ∧ x.2.2.length = l.length ∧ rdF l cs l.length i (List.replicate l.length none : List (Option Pn)) = rdF l cs x.1 x.2.1 x.2.2) (fun x => [(8, iG ((x.1 : Int) - 1)), (2, iG x.2.1), (7, .sl 0 3 0 x.2.2.length)]) (fun x => [(0, some (.row 94 3 none pnO x.2.2 0))]) (fun x => x.1) (l.length, i, (List.replicate l.length none : List (Option Pn))) ⟨Nat.le_refl _, ⟨hi, hi2⟩, by simp, rfl⟩ ?_ -- loop 3
  rintro ⟨j, k, out⟩ ⟨hj, hk, ho, he⟩
  dsimp only at *
  refine gk_region env false [] [0, 1, 2, 6, 7, 8, 16] ?_ -- 3
  refine gk_ifd (fun c1 => ?_) (fun c1 => ?_)
  · try simp only [toN] at c1
    have hcj := (hc.at_ (j - 1) (by omega)).1
    have hcp := countE_pos (hc.at_ (j - 1) (by omega)).2
    have hjj : ((j : Int) - 1).toNat = j - 1 := by omega
    have hd1 : 0 ≤ k / cs.getD (j - 1) default := Int.ediv_nonneg hk.1 (by omega)
    have hd2 : k / cs.getD (j - 1) default ≤ k := Int.ediv_le_self _ hk.1
    refine gk_region env false [.call (read_ok (l.getD (j - 1) default) (hl.at_ (by omega)) (k % cs.getD (j - 1) default)), .el none pnO (out.set (j - 1) (some (readE (l.getD (j - 1) default) (k % cs.getD (j - 1) default)).1))] [0, 1, 2, 6, 7, 8] ?_ (hp := (by simp only [AllP, bb, toN, hjj, Nat.zero_add]; repeat' first | exact trivial | exact EntL.refl _ | exact BEntL.refl _ | exact rfl | omega | apply And.intro | intro _ | exact (putD_pn (by omega) _).symm | (simp; done))) -- 5
    refine gk_region env false [] [0, 1, 2, 6, 7, 8] ?_ (hp := (by simp only [AllP, bb, toN, hjj]; repeat' first | exact trivial | exact EntL.refl _ | exact BEntL.refl _ | exact rfl | omega | apply And.intro | intro _)) -- 6
    simp only [hjj]
    refine gk_region env false [] [0, 1, 2, 6, 7, 8] ?_ -- 4
    refine gk_round ((j - 1, k / cs.getD (j - 1) default, out.set (j - 1) (some (readE (l.getD (j - 1) default) (k % cs.getD (j - 1) default)).1))) ?_ (hp := by simp [AllP]; omega)
    obtain ⟨j, rfl⟩ : ∃ m, j = m + 1 := ⟨j - 1, by omega⟩
    refine ⟨by simp only; omega, ⟨hd1, by simp only; omega⟩, by simp [ho], he.trans rfl⟩
  · try simp only [toN] at c1
    refine gk_region env false [] [6] ?_ -- 7
    refine gk_retE env ?_
    obtain rfl : j = 0 := by omega
    have e : rowL pnO out = rowL pnC (readL l cs i) := by rw [← rdF_top, he]; rfl
    exact Ent.rowEq e

theorem eRead_ok (l : List Dc) (hl : FitL l) (i : Int) : GC Tryz.prog 28 [rowDc l, iG i] (.tup [rowP (if (countsE l).2.2 = 0 ∧ 0 ≤ i ∧ i < (countsE l).2.1 then readL l (countsE l).1 i else []), iG (if (countsE l).2.2 = 0 then if 0 ≤ i ∧ i < (countsE l).2.1 then 0 else 4 else (countsE l).2.2)]) := by
  refine gc_of_gk Tryz.func28 ?_
  refine gk_region env false [] [0, 1, 4, 5] ?_ -- 0
  refine gk_region env false [.call (counts_ok l hl)] [0, 1, 4, 5, 6, 7, 8] ?_ -- 1
  refine gk_region env false [] [0, 1, 4, 5, 6, 7, 8, 16] ?_ -- 2
  refine gk_ifn (fun c1 => ?_) (fun c1 => ?_)
  · try simp only [toN] at c1
    refine gk_region env false [] [0, 1, 4, 5, 6, 7] ?_ -- 3
    refine gk_retE env ?_
    rw [if_neg (fun h => c1 h.1), if_neg c1]; exact Ent.tup ⟨Ent.nil, Ent.refl _, trivial⟩
  · try simp only [toN] at c1
    refine gk_region env false [] [0, 1, 4, 5, 6, 24] ?_ -- 4
    refine gk_if (fun c2 => ?_) (fun c2 => ?_)
    · try simp only [bb, toN] at c2
      refine gk_region env false [] [0, 1, 4, 5, 6] ?_ -- 5
      refine gk_retE env ?_
      rw [if_neg (by omega), if_pos c1, if_neg (by omega)]; exact Ent.tup ⟨Ent.nil, Ent.refl _, trivial⟩
    · try simp only [bb, toN] at c2
      refine gk_region env false [.call (eread_ok l hl (countsE l).1 (countsE l).2.1 (countsE_ok c1) i (by omega) (by have := (countsE_ok c1).n1; omega))] [4, 5] ?_ -- 6
      refine gk_ret env ?_
      rw [if_pos (by omega), if_pos c1, if_pos (by omega)]; rfl
end Go.Gh
