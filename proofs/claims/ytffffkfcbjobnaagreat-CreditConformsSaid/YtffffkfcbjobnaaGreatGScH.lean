/- Walks by the logic of calls, and plain laws. -/
import Derived.Test.YtffffkfcbjobnaaGreatGScG
namespace Go.Gh
open Go Go.Proofs
set_option maxRecDepth 1000000
set_option maxHeartbeats 2000000
set_option linter.unusedSimpArgs false
set_option linter.unusedVariables false
open Go.RowKit

structure Pn where
  kind : ByteArray
  names : List ByteArray
  texts : List ByteArray
deriving DecidableEq
instance : Inhabited Pn := ⟨⟨⟨#[]⟩, [], []⟩⟩
def pnC (p : Pn) : List D := [.sc (.string p.kind), rowSD p.names, rowSD p.texts]
abbrev pnG (p : Pn) : G := .agg [sG p.kind, rowS p.names, rowS p.texts]
theorem ent_pn0 : Ent (.agg [sG ⟨#[]⟩, .d (.sc (.slice none 0 0)), .d (.sc (.slice none 0 0))]) (pnG ⟨⟨#[]⟩, [], []⟩) := Ent.agg ⟨Ent.refl _, Ent.nil, Ent.nil, trivial⟩
/-- what the loop of Read has done -/
structure Rs where
  at_ : Nat
  names : List ByteArray
  texts : List ByteArray
def rstep (fs : List Fl) (s : Rs) (k : Fin fs.length) : Rs := ⟨s.at_ / sz (fs.getD k.1 default).words, s.names.set k.1 (fs.getD k.1 default).name, s.texts.set k.1 (textF (fs.getD k.1 default) (s.at_ % sz (fs.getD k.1 default).words))⟩
def rinit (n i : Nat) : Rs := ⟨i, List.replicate n default, List.replicate n default⟩
def rfold (fs : List Fl) (i : Nat) (pre : List (Fin fs.length)) : Rs := pre.foldl (rstep fs) (rinit fs.length i)
theorem rfold_step (fs : List Fl) (i : Nat) (pre : List (Fin fs.length)) (k : Fin fs.length) : rfold fs i (pre ++ [k]) = rstep fs (rfold fs i pre) k := by simp [rfold]
theorem rfold_ok (fs : List Fl) (i : Nat) (pre : List (Fin fs.length)) : (rfold fs i pre).at_ ≤ i ∧ (rfold fs i pre).names.length = fs.length ∧ (rfold fs i pre).texts.length = fs.length := by
  have key : ∀ (pre : List (Fin fs.length)) (s : Rs), s.at_ ≤ i ∧ s.names.length = fs.length ∧ s.texts.length = fs.length → (pre.foldl (rstep fs) s).at_ ≤ i ∧ (pre.foldl (rstep fs) s).names.length = fs.length ∧ (pre.foldl (rstep fs) s).texts.length = fs.length := by
    intro pre
    induction pre with
    | nil => intro s h; exact h
    | cons k l ih =>
      intro s h
      refine ih _ ⟨Nat.le_trans (Nat.div_le_self _ _) h.1, by simp [rstep, h.2.1], by simp [rstep, h.2.2]⟩
  exact key pre _ ⟨Nat.le_refl _, by simp [rinit], by simp [rinit]⟩
def readP (d : Dc) (i : Nat) : Pn := ⟨d.kind, (rfold d.fields i (downL d.fields.length)).names, (rfold d.fields i (downL d.fields.length)).texts⟩
def readE (d : Dc) (i : Int) : Pn × Int := if (countE d).2 = 0 then if 0 ≤ i ∧ i < (countE d).1 then (readP d i.toNat, 0) else (⟨⟨#[]⟩, [], []⟩, 4) else (⟨⟨#[]⟩, [], []⟩, (countE d).2)
theorem countF_range {fs : List Fl} : ∀ (k i n : Nat), fs.length - i = k → n ≤ 4096 → (countF fs i n).2 = 0 ∨ (countF fs i n).2 = 6 ∧ (countF fs i n).1 = 0 := by
  intro k
  induction k with
  | zero => intro i n h hn; left; rw [countF, if_neg (by omega)]
  | succ k ih =>
    intro i n h hn
    rw [countF, if_pos (by omega)]
    split
    · exact .inr ⟨rfl, rfl⟩
    · exact ih (i + 1) _ (by omega) (by omega)
theorem countE_0 {d : Dc} (h : (countE d).2 = 0) : checkE d = 0 := by
  unfold countE at h
  split at h
  · assumption
  · exact h
theorem countF_le {fs : List Fl} : ∀ (k i n : Nat), fs.length - i = k → n ≤ 4096 → 0 ≤ (countF fs i n).1 ∧ (countF fs i n).1 ≤ 4096 := by
  intro k
  induction k with
  | zero => intro i n h hn; rw [countF, if_neg (by omega)]; exact ⟨by simp, by simp only; omega⟩
  | succ k ih =>
    intro i n h hn
    rw [countF, if_pos (by omega)]
    split
    · exact ⟨by simp, by simp⟩
    · exact ih (i + 1) _ (by omega) (by omega)
theorem countE_le (d : Dc) : 0 ≤ (countE d).1 ∧ (countE d).1 ≤ 4096 := by
  unfold countE
  split
  · exact countF_le _ 0 1 rfl (by omega)
  · exact ⟨by simp, by simp⟩

theorem read_ok (d : Dc) (hd : Fit d) (i : Int) : GC Tryz.prog 80 [dcG d, iG i] (.tup [pnG (readE d i).1, iG (readE d i).2]) := by
  have hd2 := hd.fields
  have hcl := countE_le d
  refine gc_of_gk Tryz.func80 ?_
  refine gk_region env false [] [2, 3, 4, 5] ?_ -- 0
  refine gk_region env false [.call (count_ok d hd)] [2, 3, 4, 5, 6, 7] ?_ -- 1
  refine gk_region env false [] [2, 3, 4, 5, 7, 26] ?_ -- 2
  refine gk_if (fun c1 => ?_) (fun c1 => ?_)
  · try simp only [bb, toN] at c1
    refine gk_region env false [] [2, 3, 4, 5, 7] ?_ -- 3
    refine gk_region env false [] [2, 3, 4, 5, 7, 28] ?_ -- 4
    refine gk_ifn (fun c2 => ?_) (fun c2 => ?_)
    · try simp only [toN] at c2
      refine gk_region env false [] [2, 3, 4, 5] ?_ -- 5
      refine gk_retE env ?_
      rw [readE, if_pos c1.1, if_neg (by omega)]; exact Ent.tup ⟨ent_pn0, Ent.refl _, trivial⟩
    · try simp only [toN] at c2
      exact absurd c2 (by decide)
  · try simp only [bb, toN] at c1
    refine gk_region env false [] [2, 3, 4, 5, 7, 28] ?_ -- 4
    refine gk_ifn (fun c3 => ?_) (fun c3 => ?_)
    · try simp only [toN] at c3
      refine gk_region env false [] [2, 3, 4, 5] ?_ -- 5
      refine gk_retE env ?_
      rw [readE, if_neg c3]; exact Ent.tup ⟨ent_pn0, Ent.refl _, trivial⟩
    · try simp only [toN] at c3
      have hr := right_of (countE_0 c3)
      have hin : 0 ≤ i ∧ i < (countE d).1 := by omega
      obtain ⟨m, rfl⟩ : ∃ m : Nat, i = m := ⟨i.toNat, by omega⟩
      have hmM : m ≤ 4096 := by omega
      refine gk_region env false [.el default strC (List.replicate d.fields.length default), .el default strC (List.replicate d.fields.length default)] [2, 3, 4, 5, 8] ?_ (hp := (by simp only [AllP, bb, toN]; repeat' first | exact trivial | exact EntL.refl _ | exact rfl | omega | apply And.intro | intro _ | (rw [rowL, List.map_replicate]; rfl))) -- 6
      refine gk_region env false [.call (back_ok d.fields)] [3, 4, 5, 8, 44] ?_ -- 7
      refine gk_range 6 6 (fun k : Fin d.fields.length => [iG ((k.1 : Nat) : Int), flG (d.fields.getD k.1 default)]) (downL d.fields.length) (fun pre => [(0, some (.box [sG d.kind, .d (.row default flC d.fields)])), (1, some (.box [iG ((rfold d.fields m pre).at_ : Nat)])), (2, some (.box [sG ⟨#[]⟩, .d (.sc (.slice none 0 0)), .d (.sc (.slice none 0 0))])), (3, some (.row 9 1 default strC (rfold d.fields m pre).names 0)), (4, some (.row 9 1 default strC (rfold d.fields m pre).texts 0)), (5, some (.box [sG d.kind, .sl 3 1 0 d.fields.length, .sl 4 1 0 d.fields.length]))]) (backF_ok d.fields hd2) ?_ ?_ (hps := by simp only [AllP]; repeat' first | exact trivial | exact rfl | apply And.intro | (simp [rfold, rinit]; done)) -- range 8
      · rintro pre k hpre
        obtain ⟨s, hs⟩ : ∃ s, s = rfold d.fields m pre := ⟨_, rfl⟩
        have hs3 := rfold_ok d.fields m pre
        have hst := rfold_step d.fields m pre k
        rw [← hs] at hs3 hst
        rw [← hs]
        have hg := hr.good _ (getD_mem k.2)
        have hgs := hg.sz
        have hml := Nat.mod_le s.at_ (sz (d.fields.getD k.1 default).words)
        have hk := k.2
        have hem : ((s.at_ % sz (d.fields.getD k.1 default).words : Nat) : Int) = (s.at_ : Int) % (sz (d.fields.getD k.1 default).words : Int) := Int.natCast_emod _ _
        have hed : (s.at_ : Int) / (sz (d.fields.getD k.1 default).words : Int) = ((s.at_ / sz (d.fields.getD k.1 default).words : Nat) : Int) := (Int.natCast_ediv _ _).symm
        have hdl := Nat.div_le_self s.at_ (sz (d.fields.getD k.1 default).words)
        refine gk_region env false [] [3, 8, 9, 46] ?_ -- 8
        refine gk_region env false [] [3, 8, 9, 10] ?_ -- 9
        refine gk_asn ?_
        refine gk_region env false [.call (size_ok (d.fields.getD k.1 default) hg), .call (text_ok (d.fields.getD k.1 default) hg (s.at_ % sz (d.fields.getD k.1 default).words) (by omega)), .el default strC (s.names.set k.1 (d.fields.getD k.1 default).name), .el default strC (s.texts.set k.1 (textF (d.fields.getD k.1 default) (s.at_ % sz (d.fields.getD k.1 default).words)))] [3, 10] ?_ (hp := (by simp only [AllP, bb, toN, Nat.zero_add]; repeat' first | exact trivial | exact EntL.refl _ | exact rfl | omega | apply And.intro | intro _ | (simp; done) | exact (putD_str (by omega) _).symm | (simp [EntL, hem]; done))) -- 10
        refine gk_region env false [.call (size_ok (d.fields.getD k.1 default) hg)] [] ?_ (hp := (by simp only [AllP, bb, toN, hed]; generalize s.at_ / sz (d.fields.getD k.1 default).words = z at hdl ⊢; repeat' first | exact trivial | exact EntL.refl _ | exact rfl | omega | apply And.intro | intro _)) -- 11
        rw [hst]
        exact gk_back (hps := by simp [AllP, rstep])
      · refine gk_region env false [] [4, 5] ?_ -- 12
        refine gk_ret env ?_ (hp := by have := rfold_ok d.fields m (downL d.fields.length); simp only [AllP]; omega)
        rw [readE, if_pos c3, if_pos hin]; rfl
end Go.Gh
