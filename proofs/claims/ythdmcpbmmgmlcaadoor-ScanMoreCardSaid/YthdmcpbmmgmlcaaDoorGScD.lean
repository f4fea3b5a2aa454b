/- Walks by the logic of calls, and plain laws. -/
import Derived.Test.YthdmcpbmmgmlcaaDoorGScC
namespace Go.Gh
open Go Go.Proofs
set_option maxRecDepth 1000000
set_option maxHeartbeats 2000000
set_option linter.unusedSimpArgs false
set_option linter.unusedVariables false
open Go.RowKit

def ofL (l : List UInt8) : ByteArray := ⟨l.toArray⟩
theorem bs_ofL (l : List UInt8) : bs (ofL l) = l := rfl
theorem ofL_bs (s : ByteArray) : ofL (bs s) = s := by cases s; rfl
theorem bs_size (s : ByteArray) : (bs s).length = s.size := by show s.data.toList.length = s.data.size; simp
theorem extract_of (l : List UInt8) (i j : Nat) : (ofL l).extract i j = ofL ((l.take j).drop i) := by
  apply ByteArray.ext
  rw [ByteArray.data_extract]
  apply Array.ext'
  simp [ofL, List.extract_eq_take_drop, List.drop_take]
theorem bs_extract (s : ByteArray) (i j : Nat) : bs (s.extract i j) = ((bs s).take j).drop i := by
  conv => lhs; rw [← ofL_bs s, extract_of]
  rfl
theorem sp_size : ((sp.size : Nat) : Int) = 1 := rfl
def splitL : List UInt8 → List (List UInt8)
  | [] => [[]]
  | c :: l => if c = 32 then [] :: splitL l else match splitL l with
    | x :: r => (c :: x) :: r
    | [] => [[c]]
theorem splitL_pos (l : List UInt8) : 1 ≤ (splitL l).length := by
  cases l with
  | nil => simp [splitL]
  | cons c l =>
    unfold splitL
    split
    · simp
    · split <;> simp
theorem splitL_count (l : List UInt8) : (splitL l).length = Lib.countByte l 32 + 1 := by
  induction l with
  | nil => rfl
  | cons c l ih =>
    unfold splitL
    by_cases h : c = 32
    · rw [if_pos h, h]; simp only [List.length_cons, ih, Lib.countByte, List.count_cons_self]
    · rw [if_neg h]
      have hp := splitL_pos l
      have hc : Lib.countByte (c :: l) 32 = Lib.countByte l 32 := List.count_cons_of_ne h
      rw [hc, ← ih]
      cases hs : splitL l with
      | nil => rw [hs] at hp; simp at hp
      | cons x r => rfl
theorem splitL_step (l : List UInt8) : (Lib.indexByte l 32 = -1 ∧ splitL l = [l]) ∨ ∃ m : Nat, Lib.indexByte l 32 = m ∧ m < l.length ∧ splitL l = l.take m :: splitL (l.drop (m + 1)) := by
  induction l with
  | nil => exact .inl ⟨rfl, rfl⟩
  | cons c l ih =>
    by_cases h : c = 32
    · subst h
      exact .inr ⟨0, rfl, by simp, by simp [splitL]⟩
    · have hb : (c == 32) = false := by simpa using h
      rcases ih with ⟨h1, h2⟩ | ⟨m, h1, h2, h3⟩
      · exact .inl ⟨by simp [Lib.indexByte, hb, h1], by simp [splitL, h, h2]⟩
      · refine .inr ⟨m + 1, ?_, by simp; omega, ?_⟩
        · have : ¬ ((m : Int) = -1) := by omega
          simp [Lib.indexByte, hb, h1, this]
        · simp [splitL, h, h3]
theorem splitL_len (l : List UInt8) : (splitL l).length ≤ l.length + 1 := by
  induction l with
  | nil => simp [splitL]
  | cons c l ih =>
    unfold splitL
    split
    · simp; omega
    · split
      · rename_i x r e; rw [e] at ih; simp at ih ⊢; omega
      · simp
/-- the words of a text -/
def parts (s : ByteArray) : List ByteArray := (splitL (bs s)).map ofL
theorem parts_length (s : ByteArray) : (parts s).length = Lib.countByte s.data.toList 32 + 1 := by rw [parts, List.length_map, splitL_count]; rfl
theorem parts_len (s : ByteArray) : (parts s).length ≤ s.size + 1 := by rw [parts, List.length_map, ← bs_size]; exact splitL_len _
theorem parts_step {s : ByteArray} (h : 2 ≤ (parts s).length) : ∃ m : Nat, Lib.indexByte s.data.toList 32 = m ∧ m < s.size ∧ parts s = s.extract 0 m :: parts (s.extract (m + 1) s.size) := by
  rw [parts, List.length_map] at h
  rcases splitL_step (bs s) with ⟨h1, h2⟩ | ⟨m, h1, h2, h3⟩
  · rw [h2] at h; simp at h
  · refine ⟨m, h1, by rw [← bs_size]; exact h2, ?_⟩
    have e1 : s.extract 0 m = ofL ((bs s).take m) := by rw [← ofL_bs (s.extract 0 m), bs_extract]; rfl
    have e2 : bs (s.extract (m + 1) s.size) = (bs s).drop (m + 1) := by rw [bs_extract, List.take_of_length_le (by rw [bs_size]; exact Nat.le_refl _)]
    rw [parts, h3, List.map_cons, e1, parts, e2]
theorem parts_one {s : ByteArray} (h : (parts s).length = 1) : parts s = [s] := by
  rw [parts, List.length_map] at h
  rcases splitL_step (bs s) with ⟨h1, h2⟩ | ⟨m, h1, h2, h3⟩
  · rw [parts, h2, List.map_cons, ofL_bs]; rfl
  · rw [h3] at h
    have := splitL_pos ((bs s).drop (m + 1))
    simp at h; rw [h] at this; simp at this
theorem count_ok1 (s : ByteArray) : GC Tryd.prog 78 [sG s, sG sp] (iG (Lib.countByte s.data.toList 32)) :=
  gc_of_old Tryd.func78 rfl rfl rfl rfl fun w => (Tryd.strings_Count_one s 32 w).mono fun e w' ⟨h1, h2⟩ => ⟨h1, h2 ▸ Below.refl _ _⟩
theorem index_ok1 (s : ByteArray) : GC Tryd.prog 79 [sG s, sG sp] (iG (Lib.indexByte s.data.toList 32)) :=
  gc_of_old Tryd.func79 rfl rfl rfl rfl fun w => (Tryd.strings_Index_one s 32 w).mono fun e w' ⟨h1, h2⟩ => ⟨h1, h2 ▸ Below.refl _ _⟩
def filled (s : ByteArray) (i : Nat) (r : ByteArray) : List ByteArray := (parts s).take i ++ List.replicate ((parts s).length - i) default
theorem filled_length {s : ByteArray} {i : Nat} (r : ByteArray) (h : i ≤ (parts s).length) : (filled s i r).length = (parts s).length := by
  simp only [filled, List.length_append, List.length_take, List.length_replicate]; omega
theorem filled_set {s : ByteArray} {i : Nat} (r r' : ByteArray) {x : ByteArray} {l : List ByteArray} (h : (parts s).drop i = x :: l) : (filled s i r).set i x = filled s (i + 1) r' ∧ i < (parts s).length ∧ (parts s).drop (i + 1) = l := by
  have hi : i < (parts s).length := by
    have := congrArg List.length h
    simp at this; omega
  have hx : (parts s)[i]'hi = x := by
    have := congrArg (·[0]?) h
    simpa [List.getElem?_eq_getElem hi] using this
  refine ⟨?_, hi, ?_⟩
  · rw [filled, filled, show (parts s).length - i = (parts s).length - (i + 1) + 1 by omega, List.replicate_succ, List.set_append_right _ _ (by simp; omega)]
    have : i - ((parts s).take i).length = 0 := by simp; omega
    rw [this, List.set_cons_zero, List.take_succ_eq_append_getElem hi, hx]
    simp
  · have := congrArg List.tail h
    simpa [List.tail_drop] using this

theorem genSplit_ok (s : ByteArray) (hs : s.size ≤ 1000000) : GC Tryd.prog 73 [sG s, sG sp, iG 0, iG (-1)] (rowS (parts s)) := by
  have hpl := parts_len s
  have hpc := parts_length s
  obtain ⟨N, hN⟩ : ∃ N, N = (parts s).length := ⟨_, rfl⟩
  have hp1 : 1 ≤ N := by rw [hN, hpc]; omega
  refine gc_of_gk Tryd.func73 ?_
  refine gk_region env false [] [0, 1, 2, 3, 8] ?_ -- 0
  refine gk_region env false [] [0, 1, 2, 3, 8, 13] ?_ -- 1
  refine gk_ifd (fun c1 => ?_) (fun c1 => ?_)
  · try simp only [toN] at c1
    exact absurd c1 (by decide)
  · try simp only [toN] at c1
    refine gk_region env false [] [0, 1, 2, 3, 8, 15] ?_ -- 3
    refine gk_ifd (fun c2 => ?_) (fun c2 => ?_)
    · try simp only [toN] at c2
      exact absurd c2 (by decide)
    · try simp only [toN] at c2
      refine gk_region env false [] [0, 1, 2, 3, 8, 20] ?_ -- 5
      refine gk_ifd (fun c3 => ?_) (fun c3 => ?_)
      · try simp only [toN] at c3
        refine gk_region env false [.call (count_ok1 s)] [0, 1, 2, 3, 8] ?_ -- 6
        refine gk_region env false [] [0, 1, 2, 3, 8] ?_ -- 7
        have hmin : (if (s.size : Int) + 1 < (Lib.countByte s.data.toList 32 : Int) + 1 then (s.size : Int) + 1 else (Lib.countByte s.data.toList 32 : Int) + 1) = (N : Int) := by rw [if_neg (by omega)]; omega
        simp only [hmin]
        refine gk_region env false [.el default strC (List.replicate N default)] [0, 1, 2, 3, 8, 9] ?_ (hp := (by simp only [AllP, bb, toN]; repeat' first | exact trivial | exact EntL.refl _ | exact rfl | omega | apply And.intro | intro _ | (rw [rowL, List.map_replicate]; rfl))) -- 8
        simp only [Int.toNat_natCast]
        refine gk_region env false [] [0, 1, 2, 3, 8, 9] ?_ -- 9
        refine gk_region env false [] [0, 1, 2, 3, 8, 9, 10] ?_ -- 10
        refine gk_loop (α := Nat × ByteArray) (fun x => x.1 < N ∧ (parts s).drop x.1 = parts x.2 ∧ x.2.size ≤ 1000000) (fun x => [(10, iG x.1), (0, sG x.2)]) (fun x => [(0, some (.row 9 1 default strC (filled s x.1 x.2) 0))]) (fun x => N - x.1) (0, s) ⟨by simp only; omega, by simp, by simp only; omega⟩ ?_ (hp := by simp [AllP, filled, hN]) -- loop 11
        rintro ⟨i, r⟩ ⟨hi, he, hr⟩
        dsimp only at *
        refine gk_region env false [] [0, 1, 2, 3, 8, 9, 10, 36] ?_ -- 11
        refine gk_ifd (fun c4 => ?_) (fun c4 => ?_)
        · try simp only [toN] at c4
          have hlen : (parts r).length = N - i := by have := congrArg List.length he; simp only [List.length_drop] at this; omega
          obtain ⟨m, hm1, hm2, hm3⟩ := parts_step (show 2 ≤ (parts r).length by omega)
          obtain ⟨fs1, fs2, fs3⟩ := filled_set r (r.extract (m + 1) r.size) (he.trans hm3)
          have hfl := filled_length r (show i ≤ (parts s).length by omega)
          have hm4 : ((m : Int) + 1).toNat = m + 1 := by omega
          have hm5 : bs (r.extract (m + 1) r.size) = (bs r).drop (m + 1) := by rw [bs_extract, List.take_of_length_le (by rw [bs_size]; exact Nat.le_refl _)]
          have hm6 : (r.extract (m + 1) r.size).size ≤ r.size := by rw [← bs_size, hm5, List.length_drop, bs_size]; omega
          refine gk_region env false [.call (index_ok1 r)] [0, 1, 2, 3, 8, 9, 10, 11] ?_ -- 12
          simp only [hm1]
          refine gk_region env false [] [0, 1, 2, 3, 8, 9, 10, 11, 41] ?_ -- 13
          refine gk_ifd (fun c5 => ?_) (fun c5 => ?_)
          · try simp only [toN] at c5
            exact absurd c5 (by omega)
          · try simp only [toN] at c5
            refine gk_region env false [.el default strC (filled s (i + 1) (r.extract (m + 1) r.size))] [0, 1, 2, 3, 8, 9, 10, 11] ?_ (hp := (by simp only [AllP, bb, toN, loI, hiI, Int.add_zero, Nat.zero_add, hfl]; rw [← fs1]; repeat' first | exact trivial | exact EntL.refl _ | exact rfl | omega | apply And.intro | intro _ | (simp; done) | exact (putD_str (by rw [hfl]; omega) _).symm)) -- 14
            refine gk_region env false [] [0, 1, 2, 3, 8, 9, 10] ?_ (hp := (by simp only [AllP, bb, toN, loI, hiI, sp_size]; repeat' first | exact trivial | exact EntL.refl _ | exact rfl | omega | apply And.intro | intro _ | (simp; done))) -- 15
            refine gk_region env false [] [0, 1, 2, 3, 8, 9, 10] ?_ -- 16
            refine gk_round ((i + 1, r.extract (m + 1) r.size)) ?_ (hp := by simp only [AllP, toN, sp_size, hm4, loI, hiI]; simp)
            exact ⟨by simp only; omega, fs3, by simp only; omega⟩
        · try simp only [toN] at c4
          have hlen : (parts r).length = 1 := by have := congrArg List.length he; simp only [List.length_drop] at this; omega
          obtain ⟨fs1, fs2, fs3⟩ := filled_set r r (he.trans (parts_one hlen))
          have hfl := filled_length r (show i ≤ (parts s).length by omega)
          have hfl2 := filled_length r (show i + 1 ≤ (parts s).length by omega)
          refine gk_region env false [.el default strC (filled s (i + 1) r)] [8, 9, 10] ?_ (hp := (by simp only [AllP, bb, toN, loI, hiI, Int.add_zero, Nat.zero_add, hfl]; rw [← fs1]; repeat' first | exact trivial | exact EntL.refl _ | exact rfl | omega | apply And.intro | intro _ | (simp; done) | exact (putD_str (by rw [hfl]; omega) _).symm)) -- 17
          refine gk_region env false [] [8] ?_ (hp := (by simp only [AllP, bb, toN, loI, hiI]; repeat' first | exact trivial | exact EntL.refl _ | exact rfl | omega | apply And.intro | intro _ | (simp; done))) -- 18
          have hh : (hiI N (some ((i : Int) + 1))).toNat - (loI none).toNat = N := by simp only [hiI, loI]; omega
          simp only [hh]
          have e : filled s (i + 1) r = parts s := by rw [filled, List.take_of_length_le (by omega), show (parts s).length - (i + 1) = 0 by omega]; simp
          refine gk_ret env ?_ (hp := by simp only [AllP]; omega)
          rw [← e]; rfl
      · try simp only [toN] at c3
        exact absurd (by decide) c3
end Go.Gh
