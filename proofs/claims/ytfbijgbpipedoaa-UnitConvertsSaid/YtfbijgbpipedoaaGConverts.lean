/- Walks by the logic of calls, and plain laws. -/
import Derived.Test.YtfbijgbpipedoaaGUnitPl
import Derived.Test.YtfbijgbpipedoaaRDX2
namespace Go.Gh
open Go Go.Proofs
set_option maxRecDepth 1000000
set_option maxHeartbeats 2000000
set_option linter.unusedSimpArgs false
set_option linter.unusedVariables false
open Go.Proofs.Ytfbijgbpipedoaa Go.Proofs.Ytfbijgbpipedoaa.Ra

theorem lim_of {q : Q} (h : limE q = 0) : limV q = q := (lim_ok (lim_zero h).1 (lim_zero h).2).1
theorem norm_div (n : Int) {d : Nat} (hd : 0 < d) : (norm n d).n / (norm n d).d = n / d := by
  unfold norm
  simp only
  obtain ⟨x, hx⟩ : ((Nat.gcd n.natAbs d : Nat) : Int) ∣ n := Int.ofNat_dvd_left.2 (Nat.gcd_dvd_left _ _)
  obtain ⟨y, hy⟩ := Nat.gcd_dvd_right n.natAbs d
  have hg : 0 < Nat.gcd n.natAbs d := Nat.gcd_pos_of_pos_right _ hd
  generalize Nat.gcd n.natAbs d = g at *
  have e1 : n / (g : Int) = x := by rw [hx]; exact Int.mul_ediv_cancel_left _ (by omega)
  have e2 : d / g = y := by rw [hy]; exact Nat.mul_div_cancel_left _ hg
  rw [e1, e2, hx, hy, Int.natCast_mul]
  exact (Int.mul_ediv_mul_of_pos _ _ (by omega)).symm
theorem div_norm {p p' : Int} {d d' : Nat} (hd : 0 < d) (hd' : 0 < d') (hp : p.natAbs ≤ top) (ht : d ≤ top) (hp' : 0 < p') (hpt : p'.natAbs ≤ top) (ht' : d' ≤ top) :
    divV (norm p d) (norm p' d') = limV (norm (p * d') (d * p'.natAbs)) ∧ divE (norm p d) (norm p' d') = limE (norm (p * d') (d * p'.natAbs)) := by
  have ra := norm_right (n := p) hd hp ht
  have rb := norm_right (n := p') hd' hpt ht'
  have c1 := norm_cross p hd
  have c2 := norm_cross p' hd'
  have p1 := norm_pos p hd
  have p2 := norm_pos p' hd'
  have hn : 0 < (norm p' d').n := by
    refine Classical.byContradiction fun h => ?_
    have h1 : (norm p' d').n * (d' : Int) ≤ 0 := Int.mul_nonpos_of_nonpos_of_nonneg (by omega) (by omega)
    have h2 : 0 < p' * (norm p' d').d := Int.mul_pos hp' (by omega)
    omega
  have ri := (right_iff _).2 (right_inv ((right_iff _).1 rb) (by omega))
  have hi : inv (norm p' d') = ⟨(norm p' d').d, (norm p' d').n⟩ := by unfold inv; rw [if_neg (by omega)]
  have hm : mulN (norm p d) (inv (norm p' d')) = norm (p * d') (d * p'.natAbs) := by
    rw [hi]
    unfold mulN
    dsimp only
    have q1 : 0 < (norm p d).d * (norm p' d').n := Int.mul_pos (by omega) hn
    refine norm_congr (by omega) (Nat.mul_pos hd (by omega)) ?_
    have e1 : (((norm p d).d * (norm p' d').n).natAbs : Int) = (norm p d).d * (norm p' d').n := by omega
    have e2 : (p'.natAbs : Int) = p' := by omega
    rw [e1, Int.natCast_mul, e2]
    generalize (norm p d).n = a at *
    generalize (norm p d).d = b at *
    generalize (norm p' d').n = a' at *
    generalize (norm p' d').d = b' at *
    grind
  have hc : (rightB (norm p' d') && (norm p' d').n != 0) = true := by
    rw [rb]
    simp only [Bool.true_and, bne_iff_ne, ne_eq]
    omega
  unfold divV divE
  rw [if_pos hc, if_pos hc]
  unfold mulV mulE
  rw [ra, ri, hm]
  exact ⟨rfl, rfl⟩
theorem UnOk.one {u : Un} (h : UnOk u) : oneV u = norm u.num u.den.natAbs := by
  obtain ⟨h1, h2, h3, h4⟩ := h
  exact make_norm (by unfold top; omega) h3 (by unfold top; omega)
def cP (t : List Un) (q : Qu) (tu : Int) : Int := pP t q * (uAt t tu).den
def cD (t : List Un) (q : Qu) (tu : Int) : Int := pD t q * (uAt t tu).num
theorem conv_eq {t : List Un} {q : Qu} {tu : Int} (hq : QuOk t q) (hu : UnOk (uAt t tu)) : divV (valV t q) (oneV (uAt t tu)) = limV (norm (cP t q tu) (cD t q tu).natAbs) ∧ divE (valV t q) (oneV (uAt t tu)) = limE (norm (cP t q tu) (cD t q tu).natAbs) := by
  obtain ⟨h1, h2, h3, h4⟩ := hq.parts
  obtain ⟨u1, u2, u3, u4⟩ := id hu
  rw [hq.val, hu.one]
  have := div_norm (p := pP t q) (p' := (uAt t tu).num) (d := (pD t q).natAbs) (d' := (uAt t tu).den.natAbs) (by omega) (by omega) (by unfold top; omega) (by unfold top; omega) (by omega) (by unfold top; omega) (by unfold top; omega)
  have e1 : ((uAt t tu).den.natAbs : Int) = (uAt t tu).den := by omega
  have e2 : (cD t q tu).natAbs = (pD t q).natAbs * (uAt t tu).num.natAbs := by unfold cD; rw [Int.natAbs_mul]
  rw [e1] at this
  rw [e2]
  exact this
theorem cD_pos {t : List Un} {q : Qu} {tu : Int} (hq : QuOk t q) (hu : UnOk (uAt t tu)) : 0 < cD t q tu := by
  obtain ⟨h1, h2, h3, h4⟩ := hq.parts
  obtain ⟨u1, u2, u3, u4⟩ := hu
  exact Int.mul_pos (by omega) (by omega)
theorem cP_nn {t : List Un} {q : Qu} {tu : Int} (hq : QuOk t q) (hu : UnOk (uAt t tu)) : 0 ≤ cP t q tu := by
  obtain ⟨h1, h2, h3, h4⟩ := hq.parts
  obtain ⟨u1, u2, u3, u4⟩ := hu
  exact Int.mul_nonneg (by omega) (by omega)
/-- in its own unit -/
theorem conv_own {t : List Un} {q : Qu} (hc : chk t = 0) (hq : QuOk t q) : convR t q q.u = (⟨q.n, 1⟩, 0) := by
  have hq0 : QuOk t ⟨0, q.u⟩ := ⟨hq.u0, hq.u1, by simp, by simp, hq.un⟩
  have hr : rght t [q, ⟨0, q.u⟩] = 0 := rght_of hc (by intro x hx; simp at hx; rcases hx with rfl | rfl <;> assumption)
  obtain ⟨c1, c2⟩ := conv_eq hq hq.un
  have hp := cD_pos hq hq.un
  have n0 := hq.n0
  have n1 := hq.n1
  have hn : norm (cP t q q.u) (cD t q q.u).natAbs = ⟨q.n, 1⟩ := by
    refine norm_unique (by omega) (by simp) (by simp) ?_
    have : ((cD t q q.u).natAbs : Int) = cD t q q.u := by omega
    rw [this]
    simp only
    unfold cP cD pP pD
    grind
  rw [convR, if_pos hr, if_pos rfl, c1, c2, hn]
  obtain ⟨l1, l2⟩ := lim_ok (q := ⟨q.n, 1⟩) (by show q.n.natAbs ≤ top; unfold top; omega) (by show Int.natAbs 1 ≤ top; unfold top; decide)
  rw [l1, l2]
/-- what a conversion says -/
theorem conv_yes {t : List Un} {q : Qu} {tu : Int} (hc : chk t = 0) (hq : QuOk t q) (h : (convR t q tu).2 = 0) : QuOk t ⟨0, tu⟩ ∧ (uAt t tu).base = (uAt t q.u).base ∧ (convR t q tu).1 = norm (cP t q tu) (cD t q tu).natAbs ∧ rightB (convR t q tu).1 = true := by
  unfold convR at h ⊢
  split at h
  · rename_i hr
    have hu := (rght_two hr).2
    have hun : UnOk (uAt t tu) := hu.un
    split at h
    · rename_i hb
      obtain ⟨c1, c2⟩ := conv_eq hq hun
      rw [if_pos hr, if_pos hb]
      simp only at h ⊢
      rw [c2] at h
      have hl := lim_zero h
      rw [c1, lim_of h]
      exact ⟨hu, hb, rfl, (right_iff _).2 (right_of_norm (by have : 0 < cD t q tu := cD_pos hq hu.un; omega) hl.1 hl.2)⟩
    · simp at h
  · rename_i hr; exact absurd h hr
/-- the whole part -/
def flo (t : List Un) (q : Qu) (tu : Int) : Int := cP t q tu / cD t q tu
theorem flo_eq {t : List Un} {q : Qu} {tu : Int} (hc : chk t = 0) (hq : QuOk t q) (h : (convR t q tu).2 = 0) : floorV (convR t q tu).1 = flo t q tu := by
  obtain ⟨hu, hb, he, hr⟩ := conv_yes hc hq h
  have hp : 0 < cD t q tu := cD_pos hq hu.un
  unfold floorV
  rw [if_pos hr, he, norm_div _ (by omega)]
  unfold flo
  congr 1; omega
theorem flo_top {t : List Un} {q : Qu} {tu : Int} (hc : chk t = 0) (hq : QuOk t q) (h : (convR t q tu).2 = 0) : flo t q tu ≤ 1152921504606846976 := by
  have he := flo_eq hc hq h
  obtain ⟨_, _, _, hr⟩ := conv_yes hc hq h
  have r := (right_iff _).1 hr
  unfold floorV at he
  rw [if_pos hr] at he
  rw [← he]
  have h1 := r.hi
  have h2 := r.pos
  rcases Int.lt_or_le (convR t q tu).1.n 0 with hn | hn
  · have := Int.ediv_neg_of_neg_of_pos hn (show 0 < (convR t q tu).1.d by omega)
    omega
  · have := Int.ediv_le_self (convR t q tu).1.d hn
    omega
theorem flo_low {t : List Un} {q : Qu} {tu : Int} (hq : QuOk t q) (hu : UnOk (uAt t tu)) : 0 ≤ flo t q tu ∧ xX t ⟨flo t q tu, tu⟩ q ≤ 0 ∧ 0 < xX t ⟨flo t q tu + 1, tu⟩ q := by
  have hp := cD_pos hq hu
  have hn := cP_nn hq hu
  have h1 := Int.ediv_mul_le (cP t q tu) (b := cD t q tu) (by omega)
  have h2 := Int.lt_ediv_add_one_mul_self (cP t q tu) hp
  refine ⟨Int.ediv_nonneg hn (by omega), ?_, ?_⟩
  · have : xX t ⟨flo t q tu, tu⟩ q = flo t q tu * cD t q tu - cP t q tu := by unfold xX cD cP pP pD; dsimp only; grind
    rw [this]; unfold flo; omega
  · have : xX t ⟨flo t q tu + 1, tu⟩ q = (flo t q tu + 1) * cD t q tu - cP t q tu := by unfold xX cD cP pP pD; dsimp only; grind
    rw [this]; unfold flo; omega
theorem flo_one {t : List Un} {q : Qu} {tu : Int} (hc : chk t = 0) (hq : QuOk t q) (h : (convR t q tu).2 = 0) : xX t ⟨flo t q tu, tu⟩ q = 0 ↔ (convR t q tu).1.d = 1 := by
  obtain ⟨hu, hb, he, hr⟩ := conv_yes hc hq h
  have hp : 0 < cD t q tu := cD_pos hq hu.un
  have e1 : xX t ⟨flo t q tu, tu⟩ q = flo t q tu * cD t q tu - cP t q tu := by unfold xX cD cP pP pD; dsimp only; grind
  have e2 : ((cD t q tu).natAbs : Int) = cD t q tu := by omega
  rw [e1, he]
  constructor
  · intro hx
    have : norm (cP t q tu) (cD t q tu).natAbs = ⟨flo t q tu, 1⟩ := norm_unique (by omega) (by simp) (by simp) (by rw [e2]; dsimp only; omega)
    rw [this]
  · intro hd
    have hcr := norm_cross (cP t q tu) (d := (cD t q tu).natAbs) (by omega)
    rw [hd, e2] at hcr
    have hdv : (norm (cP t q tu) (cD t q tu).natAbs).n / (norm (cP t q tu) (cD t q tu).natAbs).d = cP t q tu / (cD t q tu).natAbs := norm_div _ (by omega)
    rw [hd, e2, Int.ediv_one] at hdv
    unfold flo
    rw [← hdv]; omega
/-! sums -/
theorem addE_zero {a b : Q} (h : addE a b = 0) : addV a b = addN a b ∧ 1 ≤ a.d ∧ 1 ≤ b.d := by
  unfold addE at h
  cases hr : (rightB a && rightB b) with
  | false => rw [hr] at h; simp at h
  | true =>
    rw [hr] at h
    unfold addV
    rw [hr]
    simp only [Bool.and_eq_true] at hr
    exact ⟨lim_of h, ((right_iff a).1 hr.1).pos, ((right_iff b).1 hr.2).pos⟩
theorem sum_step {t : List Un} {q : Qu} {l : List Qu} {one : Q} (h1 : 1 ≤ one.d) : ∀ (k i : Nat) (a b : Q), l.length - i = k → a = addN one b → (sumF t (q :: l) (i + 1) a).2 = 0 → (sumF t l i b).2 = 0 → 1 ≤ b.d → (sumF t (q :: l) (i + 1) a).1 = addN one (sumF t l i b).1 := by
  intro k
  induction k with
  | zero =>
    intro i a b hk ha _ _ hb
    rw [sumF, if_neg (by simp; omega), sumF, if_neg (by omega)]
    exact ha
  | succ k ih =>
    intro i a b hk ha h2 h3 hb
    have hi : i < l.length := by omega
    have hg : (q :: l).getD (i + 1) default = l.getD i default := by simp
    have E1 : sumF t (q :: l) (i + 1) a = if addE a (valV t (l.getD i default)) = 0 then sumF t (q :: l) (i + 1 + 1) (addV a (valV t (l.getD i default))) else (⟨0, 0⟩, addE a (valV t (l.getD i default))) := by rw [sumF, if_pos (by simp; omega), hg]
    have E2 : sumF t l i b = if addE b (valV t (l.getD i default)) = 0 then sumF t l (i + 1) (addV b (valV t (l.getD i default))) else (⟨0, 0⟩, addE b (valV t (l.getD i default))) := by rw [sumF, if_pos hi]
    rw [E1] at h2 ⊢
    rw [E2] at h3 ⊢
    generalize hv : valV t (l.getD i default) = v at *
    split at h2
    · rename_i e1
      split at h3
      · rename_i e2
        rw [if_pos e1, if_pos e2]
        obtain ⟨a1, a2, a3⟩ := addE_zero e1
        obtain ⟨b1, b2, b3⟩ := addE_zero e2
        refine ih (i + 1) _ _ (by omega) ?_ h2 h3 ?_
        · rw [a1, b1, ha]; exact add_assoc' h1 hb a3
        · rw [b1]; exact norm_pos _ (by have := Int.mul_pos (show 0 < b.d by omega) (show 0 < v.d by omega); omega)
      · rename_i e2; exact absurd h3 e2
    · rename_i e1; exact absurd h2 e1
theorem sumR_zero {t : List Un} {l : List Qu} (h : (sumR t l).2 = 0) : (sumR t l) = sumF t l 0 ⟨0, 1⟩ := by
  unfold sumR at h ⊢
  split at h
  · rename_i c1
    rw [if_pos c1]
    split at h
    · simp at h
    · rename_i c2
      rw [if_neg c2]
      split at h
      · rename_i c3
        rw [if_pos c3]
        split at h
        · rename_i c4; rw [if_pos c4]
        · simp at h
      · rename_i c3; exact absurd h c3
  · rename_i c1; exact absurd h c1
theorem sum_cons {t : List Un} {q : Qu} {l : List Qu} (h2 : (sumR t (q :: l)).2 = 0) (h3 : (sumR t l).2 = 0) (hk : addE (valV t q) (sumR t l).1 = 0) : addV (valV t q) (sumR t l).1 = (sumR t (q :: l)).1 := by
  have e2 := sumR_zero h2
  have e3 := sumR_zero h3
  rw [(addE_zero hk).1]
  rw [e2] at h2 ⊢
  rw [e3] at h3 ⊢
  have E1 : sumF t (q :: l) 0 ⟨0, 1⟩ = if addE ⟨0, 1⟩ (valV t q) = 0 then sumF t (q :: l) (0 + 1) (addV ⟨0, 1⟩ (valV t q)) else (⟨0, 0⟩, addE ⟨0, 1⟩ (valV t q)) := by
    rw [sumF, if_pos (by exact Nat.succ_pos _)]; rfl
  rw [E1] at h2 ⊢
  split at h2
  · rename_i e1
    rw [if_pos e1]
    obtain ⟨a1, a2, a3⟩ := addE_zero e1
    exact (sum_step a3 _ 0 _ _ rfl (by rw [a1, addN_comm]) h2 h3 (by simp)).symm
  · rename_i e1; exact absurd h2 e1
theorem div_64 (a b : Q) : Q64 (divV a b) := by
  unfold divV; split
  · unfold mulV; split
    · exact lim_64 _
    · exact zero_64
  · exact zero_64
theorem conv_64 (t : List Un) (q : Qu) (u : Int) : Q64 (convR t q u).1 := by
  unfold convR
  split
  · split
    · exact div_64 _ _
    · exact zero_64
  · exact zero_64
theorem sumF_64 {t : List Un} {l : List Qu} : ∀ (k i : Nat) (a : Q), l.length - i = k → Q64 a → Q64 (sumF t l i a).1 := by
  intro k
  induction k with
  | zero => intro i a h ha; rw [sumF, if_neg (by omega)]; exact ha
  | succ k ih =>
    intro i a h ha
    rw [sumF, if_pos (by omega)]
    split
    · exact ih (i + 1) _ (by omega) (add_64 _ _)
    · exact zero_64
theorem sum_64 (t : List Un) (l : List Qu) : Q64 (sumR t l).1 := by
  unfold sumR
  split
  · split
    · exact zero_64
    · split
      · split
        · exact sumF_64 _ 0 _ rfl ⟨by simp, by simp, by simp, by simp⟩
        · exact zero_64
      · exact zero_64
  · exact zero_64
theorem value_64 (t : List Un) (q : Qu) : Q64 (valueR t q).1 := by
  unfold valueR
  split
  · exact make_64 _ _
  · exact zero_64
theorem law_pre3 {t : List Un} {q : Qu} {n : Int} (h : (((fewF t 0 = true ∧ chk t = 0) ∧ quOk t q = true) ∧ n ≤ 20)) : fewF t 0 = true ∧ chk t = 0 ∧ QuOk t q := ⟨h.1.1.1, h.1.1.2, quOk_ok h.1.1.2 h.1.2⟩
theorem rfloor_ok (a : Q) (ha : Q64 a) : GC Try.prog 16 [qG a] (iG (floorV a)) :=
  gc_of_old Try.func16 rfl rfl rfl rfl fun w => rfloor_any a w ha
theorem radd_ok (a b : Q) (ha : Q64 a) (hb : Q64 b) : GC Try.prog 18 [qG a, qG b] (.tup [qG (addV a b), iG (addE a b)]) :=
  gc_of_old Try.func18 rfl rfl rfl rfl fun w => radd_any a b w ha hb

theorem converts_law (t : List Un) (ht : t.length ≤ 9223372036854775807) (hs : ∀ u, u ∈ t → u.name.size ≤ 9223372036854775807) (q : Qu) (tu : Int) (l : List Qu) (hl : l.length ≤ 9223372036854775807) : GC Try.prog 6 [rowU t, quG q, iG tu, rowQ l] (bG true) := by
  refine gc_of_gk Try.func6 ?_
  refine gk_region env false [] [0, 2, 3, 5, 8] ?_ -- 0
  refine gk_region env false [.call small_ok] [0, 2, 3, 5, 8, 9] ?_ -- 1
  refine gk_region env false [.call (few_ok t ht hs), .call (check_ok t ht hs), .call (rightq_ok t q)] [0, 2, 3, 5, 8, 9, 46] ?_ -- 2
  refine gk_if (fun c1 => ?_) (fun c1 => ?_)
  · try simp only [bb, toN] at c1
    refine gk_region env false [] [0, 2, 3, 5, 8, 9] ?_ -- 3
    refine gk_ret env ?_
    rfl
  · try simp only [bb, toN] at c1
    obtain ⟨fw, hc, qa⟩ := law_pre3 c1
    have h20 := c1.2
    have y1 : [q].length = 1 := rfl
    have y2 : (q :: l).length = l.length + 1 := rfl
    have hl2 : (q :: l).length ≤ 9223372036854775807 := by simp; omega
    refine gk_region env false [.call (convert_ok t ht hs q q.u)] [0, 2, 3, 5, 8, 9, 10, 11] ?_ -- 4
    refine gk_region env false [] [0, 2, 3, 5, 8, 9, 69] ?_ -- 5
    refine gk_if (fun c2 => ?_) (fun c2 => ?_)
    · try simp only [bb, toN] at c2
      refine gk_region env false [] [0, 2, 3, 5, 8, 9] ?_ -- 6
      refine gk_ret env ?_
      exfalso
      rw [conv_own hc qa] at c2
      simp at c2
    · try simp only [bb, toN] at c2
      refine gk_region env false [.call (convert_ok t ht hs q tu)] [0, 2, 3, 5, 8, 9, 12, 13] ?_ -- 7
      refine gk_region env false [] [0, 2, 3, 5, 8, 9, 12, 78] ?_ -- 8
      refine gk_join (α := Unit) (fun _ => True) (fun _ => ⟨[(0, rowU t), (3, rowQ l), (5, .ptr 0 0 0 0), (8, bG false), (9, bG true)], [(0, some (.box [iG q.n, iG q.u]))], 1⟩) ?_ ?_
      · rintro ⟨⟩ -
        refine gk_region env false [.el default quC [q], .el default quC (q :: l), .call (sum_ok t ht hs (q :: l) hl2)] [0, 3, 5, 8, 9, 19, 20] ?_ -- 15
        refine gk_region env false [.call (sum_ok t ht hs l hl)] [0, 5, 8, 9, 19, 20, 21, 22] ?_ -- 16
        refine gk_region env false [.call (Value_ok t ht hs q)] [8, 9, 19, 20, 21, 22, 23, 24] ?_ -- 17
        refine gk_region env false [] [8, 9, 19, 21, 23, 155] ?_ -- 18
        refine gk_if (fun c3 => ?_) (fun c3 => ?_)
        · try simp only [bb, toN] at c3
          refine gk_region env false [] [8, 9, 19, 21, 23] ?_ -- 19
          refine gk_ret env ?_
          rfl
        · try simp only [bb, toN] at c3
          refine gk_region env false [.call (radd_ok (valueR t q).1 (sumR t l).1 (value_64 t q) (sum_64 t l))] [8, 9, 19, 25, 26] ?_ -- 20
          refine gk_region env false [.eq (eq_ratio (addV (valueR t q).1 (sumR t l).1).n (addV (valueR t q).1 (sumR t l).1).d (sumR t (q :: l)).1.n (sumR t (q :: l)).1.d)] [8] ?_ -- 21
          refine gk_ret env ?_
          show G.d (.sc (.bool _)) = _
          have hv := valueR_yes hc qa
          rw [hv]
          dsimp only
          obtain ⟨⟨e1, e2⟩, e3⟩ := c3
          by_cases hk : addE (valV t q) (sumR t l).1 = 0
          · have hs := sum_cons e1 e2 hk
            simp [hk, hs]
          · simp [hk]
      refine gk_ifd (fun c4 => ?_) (fun c4 => ?_)
      · try simp only [toN] at c4
        refine gk_region env false [.call (rfloor_ok (convR t q tu).1 (conv_64 t q tu))] [0, 2, 3, 5, 8, 9, 12, 14] ?_ -- 9
        have hfl := flo_eq hc qa c4
        obtain ⟨hu, hb, he, hr⟩ := conv_yes hc qa c4
        have hun : UnOk (uAt t tu) := hu.un
        have f0 := flo_top hc qa c4
        obtain ⟨f1, f2, f3⟩ := flo_low (tu := tu) qa hun
        rw [hfl]
        refine gk_region env false [] [0, 2, 3, 5, 8, 9, 12, 14, 83] ?_ -- 10
        refine gk_ifd (fun c5 => ?_) (fun c5 => ?_)
        · try simp only [toN] at c5
          refine gk_region env false [.call (compare_ok t ht hs ⟨flo t q tu, tu⟩ q)] [0, 2, 3, 5, 8, 9, 12, 14, 15, 16] ?_ -- 11
          refine gk_region env false [.call (compare_ok t ht hs ⟨flo t q tu + 1, tu⟩ q)] [0, 3, 5, 8, 9, 12, 15, 16, 17, 18] ?_ -- 12
          refine gk_region env false [] [0, 3, 5, 8, 9, 124] ?_ -- 13
          refine gk_if (fun c6 => ?_) (fun c6 => ?_)
          · try simp only [bb, toN] at c6
            refine gk_region env false [] [0, 3, 5, 8, 9] ?_ -- 14
            refine gk_ret env ?_
            exfalso
            have qL : QuOk t ⟨flo t q tu, tu⟩ := ⟨hu.u0, hu.u1, f1, by dsimp only; omega, hu.un⟩
            have qH : QuOk t ⟨flo t q tu + 1, tu⟩ := ⟨hu.u0, hu.u1, by dsimp only; omega, by dsimp only; omega, hu.un⟩
            have h1 := flo_one hc qa c4
            have g1 := sg_gt (x := xX t ⟨flo t q tu, tu⟩ q)
            have g2 := sg_gt (x := xX t ⟨flo t q tu + 1, tu⟩ q)
            have g3 := sg_zero (x := xX t ⟨flo t q tu, tu⟩ q)
            rw [cmpR_yes hc qL qa hb, cmpR_yes hc qH qa hb] at c6
            dsimp only at c6
            rcases c6 with (((h | h) | h) | h) | h
            · exact h rfl
            · exact h rfl
            · omega
            · omega
            · simp only [g3, h1] at h; simp at h
          · try simp only [bb, toN] at c6
            refine gk_goal (()) ?_
            trivial
        · try simp only [toN] at c5
          refine gk_goal (()) ?_
          trivial
      · try simp only [toN] at c4
        refine gk_goal (()) ?_
        trivial
end Go.Gh
