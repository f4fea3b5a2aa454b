/- Walks by the logic of calls, and plain laws. -/
import Derived.Test.YthdmcpbmmgmlcaaDoorGScM
namespace Go.Gh
open Go Go.Proofs
set_option maxRecDepth 1000000
set_option maxHeartbeats 2000000
set_option linter.unusedSimpArgs false
set_option linter.unusedVariables false
open Go.RowKit

theorem setL_put {d : Dc} {n : Int} {t : ByteArray} (h0 : 0 ≤ n) (h1 : n < d.fields.length) : d.fields.set n.toNat ⟨(d.fields.getD n.toNat default).name, (wordsF t).map fun s => [s]⟩ = setL d n t d.fields.length := by
  refine List.ext_getElem (by simp [setL]) fun j h2 h3 => ?_
  have hj : j < d.fields.length := by simpa using h2
  rw [List.getElem_set]
  simp only [setL, List.getElem_map, List.getElem_range, setF]
  have hg : d.fields.getD j default = d.fields[j] := by rw [List.getD_eq_getElem?_getD, List.getElem?_eq_getElem hj]; rfl
  by_cases e : n.toNat = j
  · rw [if_pos e, if_pos (by omega), e]
  · rw [if_neg e, if_neg (by omega), hg]
theorem putD_words {xs : List Fl} {k : Nat} (hk : k < xs.length) (ws : List (List ByteArray)) : putD (rowL flC xs) k 1 [.row default wdC ws] = rowL flC (xs.set k ⟨(xs.getD k default).name, ws⟩) := by
  have e : (rowL flC xs).getD k [] = flC (xs.getD k default) := by
    simp [rowL, List.getD_eq_getElem?_getD, List.getElem?_eq_getElem hk]
  rw [putD, e]
  simp only [rowL, List.map_set]
  rfl

theorem rset_ok (d : Dc) (hd : Fit d) (n : Int) (t : ByteArray) (ht : t.size ≤ 1000000) : GC Tryd.prog 17 [dcG d, iG n, sG t] (.tup [dcG (setE d n t).1, iG (setE d n t).2]) := by
  have hd2 := hd.fields
  have hwl := wordsF_len t
  refine gc_of_gk Tryd.func17 ?_
  refine gk_region env false [] [1, 2, 3, 6, 7] ?_ -- 0
  refine gk_region env false [.call (rcheck_ok d hd)] [1, 2, 3, 6, 7, 8] ?_ -- 1
  refine gk_region env false [] [1, 2, 3, 6, 7, 8, 16] ?_ -- 2
  refine gk_ifn (fun c1 => ?_) (fun c1 => ?_)
  · try simp only [toN] at c1
    refine gk_region env false [] [1, 2, 3, 6, 7] ?_ -- 3
    refine gk_retE env ?_
    rw [setE, if_neg c1]; exact Ent.tup ⟨ent_dc0, Ent.refl _, trivial⟩
  · try simp only [toN] at c1
    refine gk_region env false [] [1, 2, 3, 6, 7, 27] ?_ -- 4
    refine gk_if (fun c2 => ?_) (fun c2 => ?_)
    · try simp only [bb, toN] at c2
      refine gk_region env false [] [1, 2, 3, 6, 7] ?_ -- 5
      refine gk_retE env ?_
      have hb : hasB d n = false := by
        cases hb : hasB d n with
        | false => rfl
        | true => obtain ⟨a1, a2, a3⟩ := hasB_at hb; omega
      rw [setE, if_pos c1, if_neg (by simp [hb])]; exact Ent.tup ⟨ent_dc0, Ent.refl _, trivial⟩
    · try simp only [bb, toN] at c2
      have hb : hasB d n = true := by rw [hasB_eq]; simp; omega
      obtain ⟨h1, h2, h3⟩ := hasB_at hb
      refine gk_region env false [.call (rinForm_ok t ht)] [1, 2, 3, 6, 7, 31] ?_ -- 6
      refine gk_if (fun c3 => ?_) (fun c3 => ?_)
      · try simp only [bb, toN] at c3
        refine gk_region env false [] [1, 2, 3, 6, 7] ?_ -- 7
        refine gk_retE env ?_
        rw [setE, if_pos c1, if_pos hb, if_neg (by simp [c3])]; exact Ent.tup ⟨ent_dc0, Ent.refl _, trivial⟩
      · try simp only [bb, toN] at c3
        refine gk_region env false [.el (default : Fl) flC [], .el default flC d.fields] [1, 2, 6, 7, 9] ?_ (hp := (by simp only [AllP, obP, Int.toNat_natCast]; repeat' first | exact trivial | exact EntL.refl _ | exact BEntL.refl _ | exact rfl | omega | (simp only [List.length_append, List.length_cons, List.length_nil, List.length_map]; omega) | apply And.intro | intro _ | (simp [rowL, strC]; done))) -- 8
        refine gk_region env false [] [1, 2, 6, 7, 9, 10] ?_ -- 9
        refine gk_nil 10 54 1 (default : List ByteArray) wdC (by rfl) (by rfl) ?_
        refine gk_region env false [.call (rwords_ok t ht)] [1, 6, 7, 9, 10, 11] ?_ -- 10
        refine gk_region env false [] [1, 6, 7, 9, 10, 11, 12] ?_ -- 11
        refine gk_loop (α := Nat) (fun k => k ≤ (wordsF t).length) (fun k => [(12, iG k), (10, .sl 5 1 0 k)]) (fun k => [(5, some (.row 54 1 default wdC (((wordsF t).take k).map fun s => [s]) 0))]) (fun k => (wordsF t).length - k) 0 (Nat.zero_le _) ?_ -- loop 12
        rintro k hk
        refine gk_region env false [] [1, 6, 7, 9, 10, 11, 12, 45] ?_ -- 12
        refine gk_ifd (fun c4 => ?_) (fun c4 => ?_)
        · try simp only [toN] at c4
          have htk := take_getD (show k < (wordsF t).length by omega)
          refine gk_region env false [.el default strC [(wordsF t).getD k default], .fz, .el default wdC [[(wordsF t).getD k default]], .el default wdC (((wordsF t).take k).map (fun s => [s]) ++ [[(wordsF t).getD k default]])] [1, 6, 7, 9, 10, 11, 12] ?_ (hp := (by simp only [AllP, obP, Int.toNat_natCast, List.length_map, List.length_take]; repeat' first | exact trivial | exact EntL.refl _ | exact BEntL.refl _ | exact rfl | omega | (simp only [List.length_append, List.length_cons, List.length_nil, List.length_map]; omega) | apply And.intro | intro _ | (simp [rowL, strC]; done) | (simp [rowL]; done) | (simp only [List.length_append, List.length_cons, List.length_nil, List.length_map, List.length_take]; omega) | (simp; omega))) -- 14
          refine gk_region env false [] [1, 6, 7, 9, 10, 11, 12] ?_ -- 13
          refine gk_round (k + 1) ?_ (hp := by simp [AllP, htk] <;> omega)
          omega
        · try simp only [toN] at c4
          obtain rfl : k = (wordsF t).length := by omega
          rw [List.take_length]
          refine gk_row 5 ?_
          refine gk_region env false [.el default flC (d.fields.set n.toNat ⟨(d.fields.getD n.toNat default).name, (wordsF t).map fun s => [s]⟩)] [6, 7, 9] ?_ (hp := (by simp only [AllP, obP, Nat.zero_add]; repeat' first | exact trivial | exact EntL.refl _ | exact rfl | omega | apply And.intro | intro _ | (simp; done) | exact (putD_words (by omega) _).symm)) -- 15
          rw [setL_put h2 h3]
          refine gk_region env false [] [6, 7] ?_ -- 16
          refine gk_ret env ?_ (hp := by simp only [AllP, List.length_nil, Nat.zero_add]; exact (setL_length _ _ _ _).symm)
          rw [setE, if_pos c1, if_pos hb, if_pos c3]; rfl

/-! readings, told at once -/
def tot : List Fl → Nat
  | [] => 1
  | f :: fs => sz f.words * tot fs
def readT : List Fl → Nat → List ByteArray
  | [], _ => []
  | f :: fs, i => textF f (i / tot fs % sz f.words) :: readT fs i
theorem readT_length (fs : List Fl) (i : Nat) : (readT fs i).length = fs.length := by
  induction fs with
  | nil => rfl
  | cons f fs ih => simp [readT, ih]
theorem tot_at {fs : List Fl} {k : Nat} (h : k < fs.length) : tot (fs.drop k) = sz (fs.getD k default).words * tot (fs.drop (k + 1)) := by rw [drop_at h]; rfl
theorem tot_pos {fs : List Fl} (h : ∀ f, f ∈ fs → Good f) : 1 ≤ tot fs := by
  induction fs with
  | nil => exact Nat.le_refl _
  | cons f fs ih => exact Nat.mul_pos (h f List.mem_cons_self).sz.1 (ih fun x hx => h x (List.mem_cons_of_mem _ hx))
theorem rfold_end (fs : List Fl) (i : Nat) : ∀ m, m ≤ fs.length → rfold fs i ((downL fs.length).take m) =
    ⟨i / tot (fs.drop (fs.length - m)), List.replicate (fs.length - m) default ++ (fs.drop (fs.length - m)).map (·.name), List.replicate (fs.length - m) default ++ readT (fs.drop (fs.length - m)) i⟩ := by
  intro m
  induction m with
  | zero => intro _; simp [rfold, rinit, tot, readT]
  | succ m ih =>
    intro hm
    have hx := downL_at (n := fs.length) (k := m) (by omega)
    rw [take_at hx, rfold_step, ih (by omega)]
    have hk : fs.length - 1 - m < fs.length := by omega
    have e1 : fs.length - (m + 1) = fs.length - 1 - m := by omega
    have e2 : fs.length - m = fs.length - 1 - m + 1 := by omega
    rw [e1, e2]
    simp only [rstep]
    generalize fs.length - 1 - m = k at hk
    have hs : ∀ (A : List ByteArray) (s : ByteArray), (List.replicate (k + 1) default ++ A).set k s = List.replicate k default ++ s :: A := fun A s => by
      rw [List.replicate_succ', List.append_assoc, List.set_append_right _ _ (by simp)]
      simp
    have hd : readT (fs.drop k) i = textF (fs.getD k default) (i / tot (fs.drop (k + 1)) % sz (fs.getD k default).words) :: readT (fs.drop (k + 1)) i := by rw [drop_at hk]; rfl
    have hn : (fs.drop k).map (·.name) = (fs.getD k default).name :: (fs.drop (k + 1)).map (·.name) := by rw [drop_at hk]; rfl
    simp only [hs]
    rw [hd, hn, tot_at hk, Nat.div_div_eq_div_mul, Nat.mul_comm]
theorem readP_eq (d : Dc) (i : Nat) : readP d i = ⟨d.kind, d.fields.map (·.name), readT d.fields i⟩ := by
  have h := rfold_end d.fields i d.fields.length (Nat.le_refl _)
  rw [List.take_of_length_le (by rw [downL_length]; exact Nat.le_refl _), Nat.sub_self] at h
  rw [readP, h]
  simp
theorem countF_tot {fs : List Fl} (hg : ∀ f, f ∈ fs → Good f) : ∀ (k i n : Nat), fs.length - i = k → i ≤ fs.length → n ≤ 4096 → 1 ≤ n → countF fs i n = if n * tot (fs.drop i) ≤ 4096 then (((n * tot (fs.drop i) : Nat) : Int), 0) else (0, 6) := by
  intro k
  induction k with
  | zero =>
    intro i n h hi hn _
    obtain rfl : i = fs.length := by omega
    rw [countF, if_neg (by omega), List.drop_length, tot, Nat.mul_one, if_pos hn]
  | succ k ih =>
    intro i n h hi hn h1
    have hlt : i < fs.length := by omega
    have hp : 1 ≤ tot (fs.drop (i + 1)) := tot_pos fun f hf => hg f (List.mem_of_mem_drop hf)
    have hs := (hg _ (getD_mem hlt)).sz
    rw [countF, if_pos hlt, tot_at hlt, ← Nat.mul_assoc]
    generalize hX : n * sz (fs.getD i default).words = X
    by_cases hc : 4096 < X
    · rw [if_pos hc, if_neg]
      have : X * 1 ≤ X * tot (fs.drop (i + 1)) := Nat.mul_le_mul_left _ hp
      omega
    · rw [if_neg hc]
      exact ih (i + 1) X (by omega) (by omega) (by omega) (by rw [← hX]; exact Nat.mul_pos h1 hs.1)
theorem countE_tot {d : Dc} (h : checkE d = 0) : countE d = if tot d.fields ≤ 4096 then ((tot d.fields : Int), 0) else (0, 6) := by
  rw [countE, if_pos h, countF_tot (right_of h).good _ 0 1 rfl (Nat.zero_le _) (by omega) (Nat.le_refl _), List.drop_zero, Nat.one_mul]
theorem countE_yes {d : Dc} (h : (countE d).2 = 0) : Right d ∧ (countE d).1 = tot d.fields ∧ tot d.fields ≤ 4096 := by
  have h0 := countE_0 h
  rw [countE_tot h0] at h ⊢
  split at h
  · rename_i h1; rw [if_pos h1]; exact ⟨right_of h0, rfl, h1⟩
  · cases h
end Go.Gh
