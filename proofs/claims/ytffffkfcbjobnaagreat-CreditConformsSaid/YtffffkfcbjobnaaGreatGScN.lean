/- Walks by the logic of calls, and plain laws. -/
import Derived.Test.YtffffkfcbjobnaaGreatGScM
namespace Go.Gh
open Go Go.Proofs
set_option maxRecDepth 1000000
set_option maxHeartbeats 2000000
set_option linter.unusedSimpArgs false
set_option linter.unusedVariables false
open Go.RowKit

theorem setL_put {d : Dc} {n : Int} {t : ByteArray} (h0 : 0 ≤ n) (h1 : n < d.fields.length) : d.fields.set n.toNat ⟨(d.fields.getD n.toNat default).name, (wordsF t).map fun s => [s]⟩ = setL d n t d.fields.length := by
  refine List.ext_getElem (by simp [setL]) fun j h2 h3 => ?_
  have hj : j < d.fields.length := by simpa using h2
  rw [List.getElem_set]
  simp only [setL, List.getElem_map, List.getElem_range, setF]
  have hg : d.fields.getD j default = d.fields[j] := by rw [List.getD_eq_getElem?_getD, List.getElem?_eq_getElem hj]; rfl
  by_cases e : n.toNat = j
  · rw [if_pos e, if_pos (by omega), e]
  · rw [if_neg e, if_neg (by omega), hg]
theorem putD_words {xs : List Fl} {k : Nat} (hk : k < xs.length) (ws : List (List ByteArray)) : putD (rowL flC xs) k 1 [.row default wdC ws] = rowL flC (xs.set k ⟨(xs.getD k default).name, ws⟩) := by
  have e : (rowL flC xs).getD k [] = flC (xs.getD k default) := by
    simp [rowL, List.getD_eq_getElem?_getD, List.getElem?_eq_getElem hk]
  rw [putD, e]
  simp only [rowL, List.map_set]
  rfl


/-! readings, told at once -/
def tot : List Fl → Nat
  | [] => 1
  | f :: fs => sz f.words * tot fs
def readT : List Fl → Nat → List ByteArray
  | [], _ => []
  | f :: fs, i => textF f (i / tot fs % sz f.words) :: readT fs i
theorem readT_length (fs : List Fl) (i : Nat) : (readT fs i).length = fs.length := by
  induction fs with
  | nil => rfl
  | cons f fs ih => simp [readT, ih]
theorem tot_at {fs : List Fl} {k : Nat} (h : k < fs.length) : tot (fs.drop k) = sz (fs.getD k default).words * tot (fs.drop (k + 1)) := by rw [drop_at h]; rfl
theorem tot_pos {fs : List Fl} (h : ∀ f, f ∈ fs → Good f) : 1 ≤ tot fs := by
  induction fs with
  | nil => exact Nat.le_refl _
  | cons f fs ih => exact Nat.mul_pos (h f List.mem_cons_self).sz.1 (ih fun x hx => h x (List.mem_cons_of_mem _ hx))
theorem rfold_end (fs : List Fl) (i : Nat) : ∀ m, m ≤ fs.length → rfold fs i ((downL fs.length).take m) =
    ⟨i / tot (fs.drop (fs.length - m)), List.replicate (fs.length - m) default ++ (fs.drop (fs.length - m)).map (·.name), List.replicate (fs.length - m) default ++ readT (fs.drop (fs.length - m)) i⟩ := by
  intro m
  induction m with
  | zero => intro _; simp [rfold, rinit, tot, readT]
  | succ m ih =>
    intro hm
    have hx := downL_at (n := fs.length) (k := m) (by omega)
    rw [take_at hx, rfold_step, ih (by omega)]
    have hk : fs.length - 1 - m < fs.length := by omega
    have e1 : fs.length - (m + 1) = fs.length - 1 - m := by omega
    have e2 : fs.length - m = fs.length - 1 - m + 1 := by omega
    rw [e1, e2]
    simp only [rstep]
    generalize fs.length - 1 - m = k at hk
    have hs : ∀ (A : List ByteArray) (s : ByteArray), (List.replicate (k + 1) default ++ A).set k s = List.replicate k default ++ s :: A := fun A s => by
      rw [List.replicate_succ', List.append_assoc, List.set_append_right _ _ (by simp)]
      simp
    have hd : readT (fs.drop k) i = textF (fs.getD k default) (i / tot (fs.drop (k + 1)) % sz (fs.getD k default).words) :: readT (fs.drop (k + 1)) i := by rw [drop_at hk]; rfl
    have hn : (fs.drop k).map (·.name) = (fs.getD k default).name :: (fs.drop (k + 1)).map (·.name) := by rw [drop_at hk]; rfl
    simp only [hs]
    rw [hd, hn, tot_at hk, Nat.div_div_eq_div_mul, Nat.mul_comm]
theorem readP_eq (d : Dc) (i : Nat) : readP d i = ⟨d.kind, d.fields.map (·.name), readT d.fields i⟩ := by
  have h := rfold_end d.fields i d.fields.length (Nat.le_refl _)
  rw [List.take_of_length_le (by rw [downL_length]; exact Nat.le_refl _), Nat.sub_self] at h
  rw [readP, h]
  simp
theorem countF_tot {fs : List Fl} (hg : ∀ f, f ∈ fs → Good f) : ∀ (k i n : Nat), fs.length - i = k → i ≤ fs.length → n ≤ 4096 → 1 ≤ n → countF fs i n = if n * tot (fs.drop i) ≤ 4096 then (((n * tot (fs.drop i) : Nat) : Int), 0) else (0, 6) := by
  intro k
  induction k with
  | zero =>
    intro i n h hi hn _
    obtain rfl : i = fs.length := by omega
    rw [countF, if_neg (by omega), List.drop_length, tot, Nat.mul_one, if_pos hn]
  | succ k ih =>
    intro i n h hi hn h1
    have hlt : i < fs.length := by omega
    have hp : 1 ≤ tot (fs.drop (i + 1)) := tot_pos fun f hf => hg f (List.mem_of_mem_drop hf)
    have hs := (hg _ (getD_mem hlt)).sz
    rw [countF, if_pos hlt, tot_at hlt, ← Nat.mul_assoc]
    generalize hX : n * sz (fs.getD i default).words = X
    by_cases hc : 4096 < X
    · rw [if_pos hc, if_neg]
      have : X * 1 ≤ X * tot (fs.drop (i + 1)) := Nat.mul_le_mul_left _ hp
      omega
    · rw [if_neg hc]
      exact ih (i + 1) X (by omega) (by omega) (by omega) (by rw [← hX]; exact Nat.mul_pos h1 hs.1)
theorem countE_tot {d : Dc} (h : checkE d = 0) : countE d = if tot d.fields ≤ 4096 then ((tot d.fields : Int), 0) else (0, 6) := by
  rw [countE, if_pos h, countF_tot (right_of h).good _ 0 1 rfl (Nat.zero_le _) (by omega) (Nat.le_refl _), List.drop_zero, Nat.one_mul]
theorem countE_yes {d : Dc} (h : (countE d).2 = 0) : Right d ∧ (countE d).1 = tot d.fields ∧ tot d.fields ≤ 4096 := by
  have h0 := countE_0 h
  rw [countE_tot h0] at h ⊢
  split at h
  · rename_i h1; rw [if_pos h1]; exact ⟨right_of h0, rfl, h1⟩
  · cases h
end Go.Gh
