/- Walks by the logic of calls, and plain laws. -/
import Derived.Test.YtffffkfcbjobnaaGreatGCrW
namespace Go.Gh
open Go Go.Proofs
set_option maxRecDepth 1000000
set_option maxHeartbeats 2000000
set_option linter.unusedSimpArgs false
set_option linter.unusedVariables false
set_option linter.unnecessarySimpa false
set_option linter.unusedSectionVars false
variable [PowTab] [ItoaU]
open Go.RowKit

abbrev rowU (l : List Int) : G := .d (.row default uC l)
/-- the different ones, as they come -/
def dedL (xs : List Int) : List Int := xs.foldl (fun acc x => if acc.contains x then acc else acc ++ [x]) []
theorem dedL_step (xs : List Int) (x : Int) : dedL (xs ++ [x]) = if (dedL xs).contains x then dedL xs else dedL xs ++ [x] := by simp [dedL]
theorem dedL_len (xs : List Int) : (dedL xs).length ≤ xs.length := by
  have key : ∀ (xs acc : List Int), (xs.foldl (fun acc x => if acc.contains x then acc else acc ++ [x]) acc).length ≤ acc.length + xs.length := by
    intro xs
    induction xs with
    | nil => intro acc; simp
    | cons x l ih =>
      intro acc
      refine Nat.le_trans (ih _) ?_
      show (if acc.contains x = true then acc else acc ++ [x]).length + l.length ≤ acc.length + (l.length + 1)
      by_cases h : acc.contains x = true
      · rw [if_pos h]; simp
      · rw [if_neg h]; simp; omega
  simpa [dedL] using key xs []
def mpL (d : List Int) : List (Value × Value) := d.map fun s => (Value.int .u64 s, Value.bool true)
theorem mget_ded (x : Int) : ∀ d : List Int, mget (.int .u64 x) (mpL d) = if d.contains x then some (some (.bool true)) else some none := by
  intro d
  induction d with
  | nil => rfl
  | cons y d ih =>
    show (match keySame (.int .u64 x) (.int .u64 y) with
      | some true => some (some (Value.bool true))
      | some false => mget (.int .u64 x) (mpL d)
      | none => none) = _
    show (match (some (decide (x = y)) : Option Bool) with
      | some true => some (some (Value.bool true))
      | some false => mget (.int .u64 x) (mpL d)
      | none => none) = _
    by_cases h : x = y
    · simp [h]
    · simp only [decide_eq_false h, ih]
      simp [h]
theorem mput_ded (x : Int) : ∀ d : List Int, d.contains x = false → mput (.int .u64 x) (.bool true) (mpL d) = some (mpL (d ++ [x])) := by
  intro d
  induction d with
  | nil => intro _; rfl
  | cons y d ih =>
    intro h
    simp only [List.contains_cons, Bool.or_eq_false_iff, beq_eq_false_iff_ne, ne_eq] at h
    show (match (some (decide (x = y)) : Option Bool) with
      | some true => some ((Value.int .u64 x, Value.bool true) :: mpL d)
      | some false => (match mput (.int .u64 x) (.bool true) (mpL d) with
        | some l' => some ((Value.int .u64 y, Value.bool true) :: l')
        | none => none)
      | none => none) = _
    simp only [decide_eq_false h.1, ih h.2]
    rfl
theorem look_ded (x : Int) (d : List Int) : lookP (.int .u64 x) (mpL d) (.bool false) (.bool (d.contains x)) (d.contains x) := by
  cases h : d.contains x with
  | true => exact .inl ⟨rfl, by rw [mget_ded, h]; rfl⟩
  | false => exact .inr ⟨rfl, rfl, by rw [mget_ded, h]; rfl⟩
/-- what is found out about a presentation -/
def nv0 (n : Nat) : Int := IntKind.u64.wrap (shlI .u64 1 (n : Int) - 1)
def setsL (l : List Dm) (docs : List Dc) : List Int := (List.range (countsE docs).2.1.toNat).map (setAt l docs (countsE docs).1)
def andL (xs : List Int) (a : Int) : Int := xs.foldl (andI .u64) a
def orL (xs : List Int) : Int := xs.foldl (orI .u64) 0
theorem andL_step (xs : List Int) (x a : Int) : andL (xs ++ [x]) a = andI .u64 (andL xs a) x := by simp [andL]
theorem orL_step (xs : List Int) (x : Int) : orL (xs ++ [x]) = orI .u64 (orL xs) x := by simp [orL]
def neverE (l : List Dm) (docs : List Dc) : Int := andL (setsL l docs) (nv0 l.length)
def doubtE (l : List Dm) (docs : List Dc) : Int := andNotI .u64 (orL (setsL l docs)) (neverE l docs)
def lookErr (l : List Dm) (docs : List Dc) : Int := if printOk l = false then 2 else if (countsE docs).2.2 = 0 then if 10 < onesE (doubtE l docs) then 6 else 0 else (countsE docs).2.2
def lookS (l : List Dm) (docs : List Dc) : List Int := if lookErr l docs = 0 then dedL (setsL l docs) else []
def lookN (l : List Dm) (docs : List Dc) : Int := if lookErr l docs = 0 then neverE l docs else 0
def lookD (l : List Dm) (docs : List Dc) : Int := if lookErr l docs = 0 then doubtE l docs else 0
theorem look_bad {l : List Dm} {docs : List Dc} (h : lookErr l docs ≠ 0) : lookS l docs = [] ∧ lookN l docs = 0 ∧ lookD l docs = 0 := ⟨if_neg h, if_neg h, if_neg h⟩
abbrev lookG (l : List Dm) (docs : List Dc) : G := .agg [rowU (lookS l docs), uG (lookN l docs), uG (lookD l docs)]

theorem look_ok (l : List Dm) (hl : l.length ≤ 30) (hf : ∀ d, d ∈ l → FewD d) (docs : List Dc) (hd : FitL docs) : GC Tryz.prog 156 [rowD l, rowDc docs] (.tup [lookG l docs, iG (lookErr l docs)]) := by
  have hdl := hd.len
  refine gc_of_gk Tryz.func156 ?_
  refine gk_region env false [] [0, 1, 4, 5] ?_ -- 0
  refine gk_region env false [.call (print_ok l (by omega) hf)] [0, 1, 4, 5, 7] ?_ -- 1
  refine gk_region env false [] [0, 1, 4, 5, 21] ?_ -- 2
  refine gk_if (fun c1 => ?_) (fun c1 => ?_)
  · try simp only [bb, toN] at c1
    refine gk_region env false [] [0, 1, 4, 5] ?_ -- 3
    refine gk_retE env ?_
    have e : lookErr l docs = 2 := if_pos c1
    obtain ⟨e1, e2, e3⟩ := look_bad (l := l) (docs := docs) (by omega)
    rw [lookG, e, e1, e2, e3]; exact Ent.tup ⟨Ent.agg ⟨Ent.nil, Ent.refl _, Ent.refl _, trivial⟩, Ent.refl _, trivial⟩
  · try simp only [bb, toN] at c1
    refine gk_region env false [.call (GC.lift (counts_ok docs hd))] [0, 1, 4, 5, 8, 9, 10] ?_ -- 4
    refine gk_region env false [] [0, 1, 4, 5, 8, 9, 10, 30] ?_ -- 5
    refine gk_ifn (fun c2 => ?_) (fun c2 => ?_)
    · try simp only [toN] at c2
      refine gk_region env false [] [0, 1, 4, 5, 8, 9] ?_ -- 6
      refine gk_retE env ?_
      have e : lookErr l docs = (countsE docs).2.2 := by unfold lookErr; rw [if_neg (by simp [c1]), if_neg c2]
      obtain ⟨e1, e2, e3⟩ := look_bad (l := l) (docs := docs) (by omega)
      rw [lookG, e, e1, e2, e3]; exact Ent.tup ⟨Ent.agg ⟨Ent.nil, Ent.refl _, Ent.refl _, trivial⟩, Ent.refl _, trivial⟩
    · try simp only [toN] at c2
      refine gk_region env true [] [0, 1, 4, 5, 8, 9, 11] ?_ -- 7
      refine gk_region env false [] [0, 1, 4, 5, 8, 9, 11, 12] ?_ -- 8
      refine gk_region env false [] [0, 1, 4, 5, 8, 9, 11, 12, 13] ?_ -- 9
      refine gk_nilB 1 0 223 1 (default : Int) uC ?_
      have hc := countsE_ok c2
      have hn : (((countsE docs).2.1.toNat : Nat) : Int) = (countsE docs).2.1 := by have := hc.n0; omega
      have hn1 := hc.n1
      refine gk_region env false [.call (failings_ok l docs (countsE docs).1 (countsE docs).2.1)] [4, 5, 11, 12, 13, 43] ?_ -- 10
      refine gk_range 5 6 (fun i : Nat => [uG (setAt l docs (countsE docs).1 i)]) (List.range (countsE docs).2.1.toNat) (fun pre => [(0, some (.box [.d (.sc (.slice none 0 0)), uG 0, uG 0])), (1, some (.box [.sl 5 1 0 (dedL (pre.map (setAt l docs (countsE docs).1))).length, uG (andL (pre.map (setAt l docs (countsE docs).1)) (nv0 l.length)), uG 0])), (2, some (.mp (mpL (dedL (pre.map (setAt l docs (countsE docs).1)))))), (3, some (.box [.mp 2])), (4, some (.box [uG (orL (pre.map (setAt l docs (countsE docs).1)))])), (5, some (.row 223 1 default uC (dedL (pre.map (setAt l docs (countsE docs).1))) 0))]) (hn ▸ failings_iter l (by omega) docs hd (countsE docs).1 (countsE docs).2.1 hc (countsE docs).2.1.toNat (by omega)) ?_ ?_ (hps := by simp only [AllP]; repeat' first | exact trivial | exact rfl | apply And.intro) -- range 11
      · rintro pre x hpre
        rw [List.length_range] at hpre
        have hdl2 : (dedL (pre.map (setAt l docs (countsE docs).1))).length ≤ 4096 := by have := dedL_len (pre.map (setAt l docs (countsE docs).1)); rw [List.length_map] at this; omega
        refine gk_region env false [] [11, 12, 13, 14] ?_ -- 11
        refine gk_asn ?_
        refine gk_region env false [.look (.bool ((dedL (pre.map (setAt l docs (countsE docs).1))).contains (setAt l docs (countsE docs).1 x))) ((dedL (pre.map (setAt l docs (countsE docs).1))).contains (setAt l docs (countsE docs).1 x))] [11, 12, 13, 14, 48] ?_ (hp := (by simp only [AllP]; exact look_ded _ _)) -- 12
        refine gk_if (fun c3 => ?_) (fun c3 => ?_)
        · try simp only [bb, toN] at c3
          refine gk_region env false [.mp (mpL (dedL (pre.map (setAt l docs (countsE docs).1)) ++ [setAt l docs (countsE docs).1 x]))] [11, 13, 14] ?_ (hp := (by simp only [AllP]; exact mput_ded _ _ c3)) -- 13
          refine gk_region env false [.el default uC [setAt l docs (countsE docs).1 x], .el default uC (dedL (pre.map (setAt l docs (countsE docs).1)) ++ [setAt l docs (countsE docs).1 x])] [11, 13, 14] ?_ (hp := (by simp only [AllP, Int.toNat_natCast]; repeat' first | exact trivial | exact EntL.refl _ | exact BEntL.refl _ | exact rfl | omega | apply And.intro | intro _ | (simp [rowL]; done) | (simp only [List.length_append, List.length_cons, List.length_nil]; omega) | (simp [*]; done))) -- 14
          have hd2 : dedL ((pre.map (setAt l docs (countsE docs).1)) ++ [setAt l docs (countsE docs).1 x]) = dedL (pre.map (setAt l docs (countsE docs).1)) ++ [setAt l docs (countsE docs).1 x] := by rw [dedL_step, c3]; rfl
          refine gk_region env false [] [13, 14] ?_ -- 15
          refine gk_region env false [] [] ?_ -- 16
          exact gk_back (hps := by simp only [AllP, List.map_append, List.map_cons, List.map_nil, andL_step, orL_step, hd2]; repeat' first | exact trivial | exact EntL.refl _ | exact BEntL.refl _ | exact rfl | omega | apply And.intro | intro _ | (simp; done))
        · try simp only [bb, toN] at c3
          have hd2 : dedL ((pre.map (setAt l docs (countsE docs).1)) ++ [setAt l docs (countsE docs).1 x]) = dedL (pre.map (setAt l docs (countsE docs).1)) := by rw [dedL_step, c3]; rfl
          refine gk_region env false [] [13, 14] ?_ -- 15
          refine gk_region env false [] [] ?_ -- 16
          exact gk_back (hps := by simp only [AllP, List.map_append, List.map_cons, List.map_nil, andL_step, orL_step, hd2]; repeat' first | exact trivial | exact EntL.refl _ | exact BEntL.refl _ | exact rfl | omega | apply And.intro | intro _ | (simp; done))
      · refine gk_region env false [] [4, 5, 11] ?_ -- 17
        refine gk_region env false [.call (ones_ok (doubtE l docs))] [4, 5, 11, 73] ?_ -- 18
        refine gk_ifd (fun c4 => ?_) (fun c4 => ?_)
        · try simp only [toN] at c4
          refine gk_region env false [] [4, 5, 11] ?_ -- 19
          refine gk_retE env ?_
          have e : lookErr l docs = 6 := by unfold lookErr; rw [if_neg (by simp [c1]), if_pos c2, if_pos c4]
          obtain ⟨e1, e2, e3⟩ := look_bad (l := l) (docs := docs) (by omega)
          rw [lookG, e, e1, e2, e3]; exact Ent.tup ⟨Ent.agg ⟨Ent.nil, Ent.refl _, Ent.refl _, trivial⟩, Ent.refl _, trivial⟩
        · try simp only [toN] at c4
          refine gk_region env false [] [4, 5] ?_ -- 20
          refine gk_retE env ?_
          have e : lookErr l docs = 0 := by unfold lookErr; rw [if_neg (by simp [c1]), if_pos c2, if_neg c4]
          have e1 : lookS l docs = dedL (setsL l docs) := if_pos e
          have e2 : lookN l docs = neverE l docs := if_pos e
          have e3 : lookD l docs = doubtE l docs := if_pos e
          rw [lookG, e, e1, e2, e3]; exact Ent.refl _

def stateE (l : List Dm) (docs : List Dc) : Int := if lookErr l docs = 0 then if ((lookS l docs).any fun y => decide (y = 0)) = true then if (lookS l docs).length = 1 then 1 else 2 else 0 else 0
theorem lookS_len (l : List Dm) (docs : List Dc) : (lookS l docs).length ≤ 4096 := by
  unfold lookS
  split
  · rename_i h
    have h2 : (countsE docs).2.2 = 0 := by
      unfold lookErr at h
      split at h
      · omega
      · split at h
        · assumption
        · contradiction
    have h3 := (countsE_ok h2).n1
    have := dedL_len (setsL l docs)
    unfold setsL at this ⊢
    rw [List.length_map, List.length_range] at this
    omega
  · simp

theorem indexU_ok (l : List Int) (hl : l.length ≤ 9223372036854775807) (x : Int) : GC Tryz.prog 165 [rowU l, uG x] (iG (findI (fun y => decide (y = x)) l 0)) := by
  refine gc_of_gk Tryz.func165 ?_
  refine gk_region env false [] [0, 1, 4] ?_ -- 0
  refine gk_region env false [] [0, 1, 4, 7, 8] ?_ -- 1
  refine gk_loop (α := Nat) (fun i => i ≤ l.length ∧ findI (fun y => decide (y = x)) l 0 = findI (fun y => decide (y = x)) l i) (fun i => [(8, iG i)]) (fun _ => []) (fun i => l.length - i) 0 ⟨by omega, rfl⟩ ?_ -- loop 2
  rintro i ⟨hi, he⟩
  refine gk_region env false [] [0, 1, 4, 7, 8, 9] ?_ -- 2
  refine gk_ifd (fun c1 => ?_) (fun c1 => ?_)
  · try simp only [toN] at c1
    refine gk_region env false [] [0, 1, 4, 5, 7, 8] ?_ -- 3
    refine gk_region env false [] [0, 1, 4, 5, 7, 8, 16] ?_ -- 4
    refine gk_ifd (fun c2 => ?_) (fun c2 => ?_)
    · try simp only [toN] at c2
      refine gk_region env false [] [0, 1, 4, 7, 8] ?_ -- 5
      refine gk_ret env ?_
      rw [he, findI, if_pos (by omega), if_pos (by simpa using c2.symm)]; rfl
    · try simp only [toN] at c2
      refine gk_region env false [] [0, 1, 4, 7, 8] ?_ -- 6
      refine gk_round (i + 1) ?_
      refine ⟨by omega, he.trans ?_⟩
      rw [findI, if_pos (by omega), if_neg (by simpa using fun e => c2 e.symm)]
  · try simp only [toN] at c1
    refine gk_region env false [] [4] ?_ -- 7
    refine gk_ret env ?_
    rw [he, findI, if_neg (by omega)]; rfl

theorem hasU_ok (l : List Int) (hl : l.length ≤ 9223372036854775807) (x : Int) : GC Tryz.prog 157 [rowU l, uG x] (bG (l.any fun y => decide (y = x))) := by
  refine gc_of_gk Tryz.func157 ?_
  refine gk_region env false [] [0, 1, 4] ?_ -- 0
  refine gk_region env false [.call (indexU_ok l hl x)] [4] ?_ -- 1
  refine gk_ret env ?_
  rw [← findI_any]; rfl

theorem estate_ok (l : List Dm) (hl : l.length ≤ 30) (hf : ∀ d, d ∈ l → FewD d) (docs : List Dc) (hd : FitL docs) : GC Tryz.prog 147 [rowD l, rowDc docs] (.tup [iG (stateE l docs), iG (lookErr l docs)]) := by
  have hls := lookS_len l docs
  refine gc_of_gk Tryz.func147 ?_
  refine gk_region env false [] [0, 1, 4, 5] ?_ -- 0
  refine gk_region env false [.call (look_ok l hl hf docs hd)] [4, 5, 6, 7] ?_ -- 1
  refine gk_region env false [] [4, 5, 6, 7, 15] ?_ -- 2
  refine gk_ifn (fun c1 => ?_) (fun c1 => ?_)
  · try simp only [toN] at c1
    refine gk_region env false [] [4, 5, 6] ?_ -- 3
    refine gk_ret env ?_
    rw [stateE, if_neg c1]; rfl
  · try simp only [toN] at c1
    refine gk_region env false [.call (hasU_ok (lookS l docs) (by omega) 0)] [4, 5, 6, 17] ?_ -- 4
    refine gk_if (fun c2 => ?_) (fun c2 => ?_)
    · try simp only [bb, toN] at c2
      refine gk_region env false [] [4, 5] ?_ -- 5
      refine gk_ret env ?_
      rw [stateE, if_pos c1, if_neg (by rw [c2]; simp), c1]; rfl
    · try simp only [bb, toN] at c2
      refine gk_region env false [] [4, 5, 22] ?_ -- 6
      refine gk_ifd (fun c3 => ?_) (fun c3 => ?_)
      · try simp only [toN] at c3
        refine gk_region env false [] [4, 5] ?_ -- 7
        refine gk_ret env ?_
        rw [stateE, if_pos c1, if_pos c2, if_pos (by omega), c1]; rfl
      · try simp only [toN] at c3
        refine gk_region env false [] [4, 5] ?_ -- 8
        refine gk_ret env ?_
        rw [stateE, if_pos c1, if_pos c2, if_neg (by omega), c1]; rfl

def confV (l : List Dm) (docs : List Dc) : Bool := bif decide (lookErr l docs = 0) then decide (stateE l docs = 1) else false

theorem conform_ok (l : List Dm) (hl : l.length ≤ 30) (hf : ∀ d, d ∈ l → FewD d) (docs : List Dc) (hd : FitL docs) : GC Tryz.prog 122 [rowD l, rowDc docs] (bG (confV l docs)) := by
  refine gc_of_gk Tryz.func122 ?_
  refine gk_region env false [] [0, 1, 4] ?_ -- 0
  refine gk_region env false [.call (estate_ok l hl hf docs hd)] [4, 5, 6] ?_ -- 1
  refine gk_region env false [] [4] ?_ -- 2
  refine gk_ret env ?_
  rfl
end Go.Gh
