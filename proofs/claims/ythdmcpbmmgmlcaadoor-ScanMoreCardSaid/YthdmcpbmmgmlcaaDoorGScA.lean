/- Walks by the logic of calls, and plain laws. -/
import Derived.Test.YthdmcpbmmgmlcaaDoorGLex
import Derived.Test.YthdmcpbmmgmlcaaDoorGh3
import Derived.Test.YthdmcpbmmgmlcaaDoorShelf
namespace Go.Gh
open Go Go.Proofs
set_option maxRecDepth 1000000
set_option maxHeartbeats 2000000
set_option linter.unusedSimpArgs false
set_option linter.unusedVariables false
open Go.RowKit

def bs (s : ByteArray) : List UInt8 := s.data.toList
instance : Inhabited ByteArray := ⟨⟨#[]⟩⟩
def strC (s : ByteArray) : List D := [.sc (.string s)]
abbrev rowS (l : List ByteArray) : G := .d (.row default strC l)
abbrev rowSD (l : List ByteArray) : D := .row default strC l
/-- a word: its spellings -/
def wdC (w : List ByteArray) : List D := [rowSD w]
abbrev wdG (w : List ByteArray) : G := .agg [rowS w]
structure Fl where
  name : ByteArray
  words : List (List ByteArray)
deriving DecidableEq
instance : Inhabited Fl := ⟨⟨⟨#[]⟩, []⟩⟩
def flC (f : Fl) : List D := [.sc (.string f.name), .row default wdC f.words]
abbrev flG (f : Fl) : G := .agg [sG f.name, .d (.row default wdC f.words)]
structure Dc where
  kind : ByteArray
  fields : List Fl
deriving DecidableEq
instance : Inhabited Dc := ⟨⟨⟨#[]⟩, []⟩⟩
abbrev dcG (d : Dc) : G := .agg [sG d.kind, .d (.row default flC d.fields)]
/-- what is surely no longer than a machine's lists are -/
structure FitF (f : Fl) : Prop where
  name : f.name.size ≤ 1000
  words : f.words.length ≤ 1000
  sp : ∀ w, w ∈ f.words → w.length ≤ 1000
  str : ∀ w, w ∈ f.words → ∀ s, s ∈ w → s.size ≤ 1000
structure Fit (d : Dc) : Prop where
  kind : d.kind.size ≤ 1000
  fields : d.fields.length ≤ 1000
  each : ∀ f, f ∈ d.fields → FitF f
theorem getD_mem {α : Type} [Inhabited α] {l : List α} {i : Nat} (h : i < l.length) : l.getD i default ∈ l := by
  rw [List.getD_eq_getElem?_getD, List.getElem?_eq_getElem h]; exact List.getElem_mem h
theorem Fit.at_ {d : Dc} (h : Fit d) {i : Nat} (hi : i < d.fields.length) : FitF (d.fields.getD i default) := h.each _ (getD_mem hi)
theorem FitF.at_ {f : Fl} (h : FitF f) {i : Nat} (hi : i < f.words.length) : (f.words.getD i default).length ≤ 1000 ∧ ∀ s, s ∈ f.words.getD i default → s.size ≤ 1000 := ⟨h.sp _ (getD_mem hi), h.str _ (getD_mem hi)⟩
/-- the index of the first that is so; -1: none -/
def findI {α : Type} [Inhabited α] (p : α → Bool) (l : List α) (i : Nat) : Int := if i < l.length then if p (l.getD i default) then i else findI p l (i + 1) else -1
termination_by l.length - i
theorem findI_range {α : Type} [Inhabited α] (p : α → Bool) (l : List α) : ∀ (k i : Nat), l.length - i = k → (findI p l i = -1 ∧ ∀ j, i ≤ j → j < l.length → p (l.getD j default) = false) ∨ ∃ j, i ≤ j ∧ j < l.length ∧ findI p l i = j ∧ p (l.getD j default) = true ∧ ∀ m, i ≤ m → m < j → p (l.getD m default) = false := by
  intro k
  induction k with
  | zero => intro i h; left; rw [findI, if_neg (by omega)]; exact ⟨rfl, fun j h1 h2 => by omega⟩
  | succ k ih =>
    intro i h
    rw [findI, if_pos (by omega)]
    cases hp : p (l.getD i default) with
    | true => right; rw [if_pos rfl]; exact ⟨i, Nat.le_refl _, by omega, rfl, hp, fun m h1 h2 => by omega⟩
    | false =>
      rw [if_neg (by simp)]
      rcases ih (i + 1) (by omega) with ⟨h1, h2⟩ | ⟨j, h1, h2, h3, h4, h5⟩
      · exact .inl ⟨h1, fun j h3 h4 => by
          by_cases e : j = i
          · subst e; exact hp
          · exact h2 j (by omega) h4⟩
      · exact .inr ⟨j, by omega, h2, h3, h4, fun m h6 h7 => by
          by_cases e : m = i
          · subst e; exact hp
          · exact h5 m (by omega) h7⟩
theorem findI_any {α : Type} [Inhabited α] (p : α → Bool) (l : List α) : decide (0 ≤ findI p l 0) = l.any p := by
  rcases findI_range p l _ 0 rfl with ⟨h1, h2⟩ | ⟨j, h1, h2, h3, h4, h5⟩
  · rw [h1]
    symm
    rw [show decide ((0 : Int) ≤ -1) = false from rfl, List.any_eq_false]
    intro x hx
    obtain ⟨j, hj⟩ := List.getElem?_of_mem hx
    have hlt := (List.getElem?_eq_some_iff.1 hj).1
    have := h2 j (by omega) hlt
    rw [List.getD_eq_getElem?_getD, hj] at this
    simpa using this
  · rw [h3]
    symm
    rw [show decide ((0 : Int) ≤ (j : Int)) = true from decide_eq_true (by omega), List.any_eq_true]
    exact ⟨l.getD j default, getD_mem h2, h4⟩
theorem empty_iff (s : ByteArray) : s = ⟨#[]⟩ ↔ s.size = 0 := by
  constructor
  · intro h; rw [h]; rfl
  · intro h
    refine Classical.byContradiction fun hn => ?_
    have := size_pos hn
    omega
theorem inner_not {c : Int} (h1 : letter c = false) (h2 : digit c = false) (h3 : ¬ c = 95) : inner c = false := by simp [inner, h1, h2, h3]
theorem inner_on {c : Int} (h : (letter c = true ∨ digit c = true) ∨ c = 95) : inner c = true := by
  rcases h with (h | h) | h <;> simp [inner, h]
theorem span_stop {p : Int → Bool} {s : ByteArray} {i : Nat} (hi : i < s.size) (he : span p s 0 = span p s i) (hp : p (byteAt s i) = false) : ¬ span p s 0 = s.size := by
  rw [he, span, if_pos hi, if_neg (by simp [hp])]; omega
/-! spellings -/
def okB (c : UInt8) : Bool := decide (33 ≤ c.toNat) && decide (c.toNat ≤ 126)
def badR (c : Nat) : Bool := decide (c < 33) || decide (126 < c)
def validS (s : ByteArray) : Bool := !decide (s = ⟨#[]⟩) && decide ((s.size : Int) ≤ 20) && (bs s).all okB
theorem idx_all (s : ByteArray) : decide (Lib.idxFunc badR true s < 0) = (bs s).all okB := by
  have key : ∀ (f pos : Nat), s.size ≤ pos + f → decide (Lib.idxFuncFrom badR true s f pos < 0) = ((bs s).drop pos).all okB := by
    intro f
    induction f with
    | zero =>
      intro pos h
      rw [List.drop_eq_nil_of_le (by show s.data.toList.length ≤ pos; rw [Array.length_toList]; exact h)]
      rfl
    | succ f ih =>
      intro pos h
      by_cases hp : pos < s.size
      · have hl : pos < (bs s).length := by show pos < s.data.toList.length; rw [Array.length_toList]; exact hp
        have hd : (bs s).drop pos = s[pos]'hp :: (bs s).drop (pos + 1) := by rw [List.drop_eq_getElem_cons hl]; rfl
        rw [hd, List.all_cons]
        unfold Lib.idxFuncFrom
        rw [if_pos hp]
        by_cases ha : (s[pos]'hp).toNat < 128
        · rw [decode_ascii s pos hp ha]
          by_cases hb : badR (s[pos]'hp).toNat = true
          · rw [if_pos hb]
            have : okB (s[pos]'hp) = false := by simp [badR] at hb; simp [okB]; omega
            rw [this, Bool.false_and]
            exact decide_eq_false (by omega)
          · rw [if_neg hb, ih (pos + 1) (by omega)]
            have : okB (s[pos]'hp) = true := by simp [badR] at hb; simp [okB]; omega
            rw [this, Bool.true_and]
        · have h2 := decode_high s pos hp (by omega)
          have hb : badR (Utf8.decode s pos).1 = true := by simp [badR]; omega
          rw [if_pos hb]
          have : okB (s[pos]'hp) = false := by simp [okB]; omega
          rw [this, Bool.false_and]
          exact decide_eq_false (by omega)
      · rw [Lib.idxFuncFrom_end _ _ _ _ _ hp, List.drop_eq_nil_of_le (by show s.data.toList.length ≤ pos; rw [Array.length_toList]; show s.size ≤ pos; omega)]
        rfl
  exact key s.size 0 (by omega)

theorem valid1_ok (c : Int) : GC Tryd.prog 63 [.d (.sc (.int .i32 c))] (bG (decide (c < 33) || decide (126 < c))) := by
  refine gc_of_gk Tryd.func63 ?_
  refine gk_region env false [] [0, 2] ?_ -- 0
  refine gk_region env false [] [2] ?_ -- 1
  refine gk_ret env ?_
  simp [tupG]

theorem indexR_ok (s : ByteArray) : GC Tryd.prog 62 [sG s, fG 63] (iG (Lib.idxFunc badR true s)) :=
  gc_of_old Tryd.func62 rfl rfl rfl rfl fun w => Tryd.strings_IndexFunc_grows 63 #[] (fun args w => by
      have h := Tryd.func63
      simp [callFunc, h, go_sem, Tryd.f63]) badR s w fun W x hx _ => by
    have h := GC.ends (valid1_ok (x : Int)) (W := W) (vs := #[.int .i32 (x : Int)]) (hv := VRs.cons (.d (.sc _ rfl)) VRs.nil)
    have e : (decide ((x : Int) < 33) || decide (126 < (x : Int))) = badR x := by
      unfold badR; congr 1 <;> exact decide_eq_decide.2 (by omega)
    rw [e] at h
    exact h

theorem valid_ok (s : ByteArray) (hs : s.size ≤ 9223372036854775807) : GC Tryd.prog 43 [sG s] (bG (validS s)) := by
  refine gc_of_gk Tryd.func43 ?_
  refine gk_region env false [] [0, 2] ?_ -- 0
  refine gk_region env false [.call (indexR_ok s)] [2] ?_ -- 1
  refine gk_ret env ?_
  simp [validS, ← idx_all, tupG, Bool.and_assoc]

theorem word1_ok (s : ByteArray) (hs : s.size ≤ 9223372036854775807) : GC Tryd.prog 65 [sG s] (bG (!validS s)) := by
  refine gc_of_gk Tryd.func65 ?_
  refine gk_region env false [] [0, 2] ?_ -- 0
  refine gk_region env false [.call (valid_ok s hs)] [2] ?_ -- 1
  refine gk_ret env ?_
  simp [tupG]

theorem set1_ok (s : ByteArray) (hs : s.size ≤ 9223372036854775807) : GC Tryd.prog 42 [sG s] (bG (!validS s)) := by
  refine gc_of_gk Tryd.func42 ?_
  refine gk_region env false [] [0, 2] ?_ -- 0
  refine gk_region env false [.call (valid_ok s hs)] [2] ?_ -- 1
  refine gk_ret env ?_
  simp [tupG]

theorem indexS_ok (l : List ByteArray) (hl : l.length ≤ 9223372036854775807) (s : ByteArray) : GC Tryd.prog 68 [rowS l, sG s] (iG (findI (fun x => decide (x = s)) l 0)) := by
  refine gc_of_gk Tryd.func68 ?_
  refine gk_region env false [] [0, 1, 4] ?_ -- 0
  refine gk_region env false [] [0, 1, 4, 7, 8] ?_ -- 1
  refine gk_loop (α := Nat) (fun i => i ≤ l.length ∧ findI (fun x => decide (x = s)) l 0 = findI (fun x => decide (x = s)) l i) (fun i => [(8, iG i)]) (fun _ => []) (fun i => l.length - i) 0 ⟨by omega, rfl⟩ ?_ -- loop 2
  rintro i ⟨hi, he⟩
  refine gk_region env false [] [0, 1, 4, 7, 8, 9] ?_ -- 2
  refine gk_ifd (fun c1 => ?_) (fun c1 => ?_)
  · try simp only [toN] at c1
    refine gk_region env false [] [0, 1, 4, 5, 7, 8] ?_ -- 3
    refine gk_region env false [] [0, 1, 4, 5, 7, 8, 16] ?_ -- 4
    refine gk_ifd (fun c2 => ?_) (fun c2 => ?_)
    · try simp only [toN] at c2
      refine gk_region env false [] [0, 1, 4, 7, 8] ?_ -- 5
      refine gk_ret env ?_
      rw [he, findI, if_pos (by omega), if_pos (by simpa using c2.symm)]; rfl
    · try simp only [toN] at c2
      refine gk_region env false [] [0, 1, 4, 7, 8] ?_ -- 6
      refine gk_round (i + 1) ?_
      refine ⟨by omega, he.trans ?_⟩
      rw [findI, if_pos (by omega), if_neg (by simpa using fun e => c2 e.symm)]
  · try simp only [toN] at c1
    refine gk_region env false [] [4] ?_ -- 7
    refine gk_ret env ?_
    rw [he, findI, if_neg (by omega)]; rfl

theorem contains_ok (l : List ByteArray) (hl : l.length ≤ 9223372036854775807) (s : ByteArray) : GC Tryd.prog 51 [rowS l, sG s] (bG (l.any fun x => decide (x = s))) := by
  refine gc_of_gk Tryd.func51 ?_
  refine gk_region env false [] [0, 1, 4] ?_ -- 0
  refine gk_region env false [.call (indexS_ok l hl s)] [4] ?_ -- 1
  refine gk_ret env ?_
  rw [← findI_any]; rfl

theorem indexW_ok (l : List ByteArray) (hl : l.length ≤ 9223372036854775807) (hs : ∀ s, s ∈ l → s.size ≤ 9223372036854775807) : GC Tryd.prog 61 [rowS l, fG 65] (iG (findI (fun x => !validS x) l 0)) := by
  refine gc_of_gk Tryd.func61 ?_
  refine gk_region env false [] [0, 1, 4] ?_ -- 0
  refine gk_region env false [] [0, 1, 4, 7, 8] ?_ -- 1
  refine gk_loop (α := Nat) (fun i => i ≤ l.length ∧ findI (fun x => !validS x) l 0 = findI (fun x => !validS x) l i) (fun i => [(8, iG i)]) (fun _ => []) (fun i => l.length - i) 0 ⟨by omega, rfl⟩ ?_ (hp := by simp [AllP] <;> rfl) -- loop 2
  rintro i ⟨hi, he⟩
  refine gk_region env false [] [0, 1, 4, 7, 8, 9] ?_ -- 2
  refine gk_ifd (fun c1 => ?_) (fun c1 => ?_)
  · try simp only [toN] at c1
    refine gk_region env false [] [0, 1, 4, 5, 7, 8] ?_ -- 3
    refine gk_region env false [.call (word1_ok (l.getD i default) (hs _ (getD_mem (by omega))))] [0, 1, 4, 5, 7, 8, 16] ?_ -- 4
    refine gk_if (fun c2 => ?_) (fun c2 => ?_)
    · try simp only [bb, toN] at c2
      refine gk_region env false [] [0, 1, 4, 7, 8] ?_ -- 5
      refine gk_ret env ?_
      rw [he, findI, if_pos (by omega), if_pos (by simpa using c2)]; rfl
    · try simp only [bb, toN] at c2
      refine gk_region env false [] [0, 1, 4, 7, 8] ?_ -- 6
      refine gk_round (i + 1) ?_ (hp := by simp [AllP] <;> rfl)
      refine ⟨by omega, he.trans ?_⟩
      rw [findI, if_pos (by omega), if_neg (by simpa using c2)]
  · try simp only [toN] at c1
    refine gk_region env false [] [4] ?_ -- 7
    refine gk_ret env ?_
    rw [he, findI, if_neg (by omega)]; rfl

theorem hasW_ok (l : List ByteArray) (hl : l.length ≤ 9223372036854775807) (hs : ∀ s, s ∈ l → s.size ≤ 9223372036854775807) : GC Tryd.prog 41 [rowS l, fG 65] (bG (l.any fun x => !validS x)) := by
  refine gc_of_gk Tryd.func41 ?_
  refine gk_region env false [] [0, 1, 4] ?_ -- 0
  refine gk_region env false [.call (indexW_ok l hl hs)] [4] ?_ -- 1
  refine gk_ret env ?_
  rw [← findI_any]; rfl

theorem indexT_ok (l : List ByteArray) (hl : l.length ≤ 9223372036854775807) (hs : ∀ s, s ∈ l → s.size ≤ 9223372036854775807) : GC Tryd.prog 61 [rowS l, fG 42] (iG (findI (fun x => !validS x) l 0)) := by
  refine gc_of_gk Tryd.func61 ?_
  refine gk_region env false [] [0, 1, 4] ?_ -- 0
  refine gk_region env false [] [0, 1, 4, 7, 8] ?_ -- 1
  refine gk_loop (α := Nat) (fun i => i ≤ l.length ∧ findI (fun x => !validS x) l 0 = findI (fun x => !validS x) l i) (fun i => [(8, iG i)]) (fun _ => []) (fun i => l.length - i) 0 ⟨by omega, rfl⟩ ?_ (hp := by simp [AllP] <;> rfl) -- loop 2
  rintro i ⟨hi, he⟩
  refine gk_region env false [] [0, 1, 4, 7, 8, 9] ?_ -- 2
  refine gk_ifd (fun c1 => ?_) (fun c1 => ?_)
  · try simp only [toN] at c1
    refine gk_region env false [] [0, 1, 4, 5, 7, 8] ?_ -- 3
    refine gk_region env false [.call (set1_ok (l.getD i default) (hs _ (getD_mem (by omega))))] [0, 1, 4, 5, 7, 8, 16] ?_ -- 4
    refine gk_if (fun c2 => ?_) (fun c2 => ?_)
    · try simp only [bb, toN] at c2
      refine gk_region env false [] [0, 1, 4, 7, 8] ?_ -- 5
      refine gk_ret env ?_
      rw [he, findI, if_pos (by omega), if_pos (by simpa using c2)]; rfl
    · try simp only [bb, toN] at c2
      refine gk_region env false [] [0, 1, 4, 7, 8] ?_ -- 6
      refine gk_round (i + 1) ?_ (hp := by simp [AllP] <;> rfl)
      refine ⟨by omega, he.trans ?_⟩
      rw [findI, if_pos (by omega), if_neg (by simpa using c2)]
  · try simp only [toN] at c1
    refine gk_region env false [] [4] ?_ -- 7
    refine gk_ret env ?_
    rw [he, findI, if_neg (by omega)]; rfl

theorem hasT_ok (l : List ByteArray) (hl : l.length ≤ 9223372036854775807) (hs : ∀ s, s ∈ l → s.size ≤ 9223372036854775807) : GC Tryd.prog 41 [rowS l, fG 42] (bG (l.any fun x => !validS x)) := by
  refine gc_of_gk Tryd.func41 ?_
  refine gk_region env false [] [0, 1, 4] ?_ -- 0
  refine gk_region env false [.call (indexT_ok l hl hs)] [4] ?_ -- 1
  refine gk_ret env ?_
  rw [← findI_any]; rfl

/-- is there one that came before -/
def dupW (l : List ByteArray) (i : Nat) : Bool := if i < l.length then if (l.take i).any fun x => decide (x = l.getD i default) then true else dupW l (i + 1) else false
termination_by l.length - i
def wordE (l : List ByteArray) : Int := if 4 < l.length then 6 else if l.length = 0 then 4 else if l.any fun x => !validS x then 2 else if dupW l 0 then 5 else 0
def wordsE (ws : List (List ByteArray)) (k : Nat) : Int := if k < ws.length then if wordE (ws.getD k default) = 0 then wordsE ws (k + 1) else wordE (ws.getD k default) else 0
termination_by ws.length - k
def fieldE (fs : List Fl) (i : Nat) : Int := if nameOk (fs.getD i default).name = false then 2 else if (fs.take i).any fun g => decide (g.name = (fs.getD i default).name) then 5 else if 8 < (fs.getD i default).words.length then 6 else wordsE (fs.getD i default).words 0
def fieldsE (fs : List Fl) (i : Nat) : Int := if i < fs.length then if fieldE fs i = 0 then fieldsE fs (i + 1) else fieldE fs i else 0
termination_by fs.length - i
def checkE (d : Dc) : Int := if nameOk d.kind = false then 2 else if 12 < d.fields.length then 6 else fieldsE d.fields 0

theorem word_ok (l : List ByteArray) (hl : l.length ≤ 1000) (hs : ∀ s, s ∈ l → s.size ≤ 1000) : GC Tryd.prog 48 [wdG l] (iG (wordE l)) := by
  refine gc_of_gk Tryd.func48 ?_
  refine gk_region env false [] [1, 2] ?_ -- 0
  refine gk_region env false [] [2, 3] ?_ -- 1
  refine gk_region env false [] [2, 3, 7] ?_ -- 2
  refine gk_ifd (fun c1 => ?_) (fun c1 => ?_)
  · try simp only [toN] at c1
    refine gk_region env false [] [2, 3] ?_ -- 3
    refine gk_ret env ?_
    rw [wordE, if_pos (by omega)]; rfl
  · try simp only [toN] at c1
    refine gk_region env false [] [2, 3, 11] ?_ -- 4
    refine gk_ifd (fun c2 => ?_) (fun c2 => ?_)
    · try simp only [toN] at c2
      refine gk_region env false [] [2, 3] ?_ -- 5
      refine gk_ret env ?_
      rw [wordE, if_neg (by omega), if_pos (by omega)]; rfl
    · try simp only [toN] at c2
      refine gk_region env false [.call (hasW_ok l (by omega) (fun s h => by have := hs s h; omega))] [2, 3, 15] ?_ -- 6
      refine gk_if (fun c3 => ?_) (fun c3 => ?_)
      · try simp only [bb, toN] at c3
        refine gk_region env false [] [2, 3] ?_ -- 7
        refine gk_ret env ?_
        rw [wordE, if_neg (by omega), if_neg (by omega), if_pos (by simpa using c3)]; rfl
      · try simp only [bb, toN] at c3
        refine gk_region env false [] [2, 3, 19, 20] ?_ -- 8
        refine gk_loop (α := Nat) (fun i => i ≤ l.length ∧ dupW l 0 = dupW l i) (fun i => [(20, iG i)]) (fun _ => []) (fun i => l.length - i) 0 ⟨by omega, rfl⟩ ?_ -- loop 9
        rintro i ⟨hi, he⟩
        refine gk_region env false [] [2, 3, 19, 20, 21] ?_ -- 9
        refine gk_ifd (fun c4 => ?_) (fun c4 => ?_)
        · try simp only [toN] at c4
          refine gk_region env false [] [2, 3, 4, 19, 20] ?_ -- 10
          refine gk_region env false [.call (contains_ok (l.take i) (by simp; omega) (l.getD i default))] [2, 3, 19, 20, 30] ?_ (hp := (by simp only [AllP, bb, toN, loI, hiI]; repeat' first | exact trivial | exact EntL.refl _ | exact BEntL.refl _ | exact rfl | omega | apply And.intro | intro _)) -- 11
          refine gk_if (fun c5 => ?_) (fun c5 => ?_)
          · try simp only [bb, toN] at c5
            refine gk_region env false [] [2, 3, 19, 20] ?_ -- 12
            refine gk_ret env ?_
            have e : dupW l 0 = true := by rw [he, dupW, if_pos (by omega), if_pos (by simpa using c5)]
            rw [wordE, if_neg (by omega), if_neg (by omega), if_neg (by simpa using c3), if_pos e]; rfl
          · try simp only [bb, toN] at c5
            refine gk_region env false [] [2, 3, 19, 20] ?_ -- 13
            refine gk_round (i + 1) ?_
            refine ⟨by omega, he.trans ?_⟩
            rw [dupW, if_pos (by omega), if_neg (by rw [c5]; simp)]
        · try simp only [toN] at c4
          refine gk_region env false [] [2] ?_ -- 14
          refine gk_ret env ?_
          have e : dupW l 0 = false := by rw [he, dupW, if_neg (by omega)]
          rw [wordE, if_neg (by omega), if_neg (by omega), if_neg (by simpa using c3), if_neg (by simp [e])]; rfl

theorem check1_ok (g : Fl) (f : Fl) : GC Tryd.prog 47 [flG g, .ep (flC f)] (bG (decide (g.name = f.name))) := by
  refine gc_of_gk Tryd.func47 ?_
  refine gk_region env false [] [1, 2, 3] ?_ -- 0
  refine gk_region env false [] [3] ?_ -- 1
  refine gk_ret env ?_
  rfl

theorem indexF_ok (l : List Fl) (hl : l.length ≤ 9223372036854775807) (f : Fl) : GC Tryd.prog 52 [.d (.row default flC l), .fn (.func 47) [] [.ep (flC f)]] (iG (findI (fun g => decide (g.name = f.name)) l 0)) := by
  refine gc_of_gk Tryd.func52 ?_
  refine gk_region env false [] [0, 1, 4] ?_ -- 0
  refine gk_region env false [] [0, 1, 4, 7, 8] ?_ -- 1
  refine gk_loop (α := Nat) (fun i => i ≤ l.length ∧ findI (fun g => decide (g.name = f.name)) l 0 = findI (fun g => decide (g.name = f.name)) l i) (fun i => [(8, iG i)]) (fun _ => []) (fun i => l.length - i) 0 ⟨by omega, rfl⟩ ?_ (hp := by simp [AllP] <;> rfl) -- loop 2
  rintro i ⟨hi, he⟩
  refine gk_region env false [] [0, 1, 4, 7, 8, 9] ?_ -- 2
  refine gk_ifd (fun c1 => ?_) (fun c1 => ?_)
  · try simp only [toN] at c1
    refine gk_region env false [] [0, 1, 4, 5, 7, 8] ?_ -- 3
    refine gk_region env false [.call (check1_ok (l.getD i default) f)] [0, 1, 4, 5, 7, 8, 16] ?_ -- 4
    refine gk_if (fun c2 => ?_) (fun c2 => ?_)
    · try simp only [bb, toN] at c2
      refine gk_region env false [] [0, 1, 4, 7, 8] ?_ -- 5
      refine gk_ret env ?_
      rw [he, findI, if_pos (by omega), if_pos (by simpa using c2)]; rfl
    · try simp only [bb, toN] at c2
      refine gk_region env false [] [0, 1, 4, 7, 8] ?_ -- 6
      refine gk_round (i + 1) ?_ (hp := by simp [AllP] <;> rfl)
      refine ⟨by omega, he.trans ?_⟩
      rw [findI, if_pos (by omega), if_neg (by simpa using c2)]
  · try simp only [toN] at c1
    refine gk_region env false [] [4] ?_ -- 7
    refine gk_ret env ?_
    rw [he, findI, if_neg (by omega)]; rfl

theorem hasF_ok (l : List Fl) (hl : l.length ≤ 9223372036854775807) (f : Fl) : GC Tryd.prog 46 [.d (.row default flC l), .fn (.func 47) [] [.ep (flC f)]] (bG (l.any fun g => decide (g.name = f.name))) := by
  refine gc_of_gk Tryd.func46 ?_
  refine gk_region env false [] [0, 1, 4] ?_ -- 0
  refine gk_region env false [.call (indexF_ok l hl f)] [4] ?_ -- 1
  refine gk_ret env ?_
  rw [← findI_any]; rfl
end Go.Gh
