/- Walks by the logic of calls, and plain laws (several texts in one). -/
import Derived.Test.YtffffkfcbjobnaaGreatGLex
import Derived.Test.YtffffkfcbjobnaaGreatGh3
import Derived.Test.YtffffkfcbjobnaaGreatShelf
namespace Go.Gh
open Go Go.Proofs
set_option maxRecDepth 1000000
set_option maxHeartbeats 2000000
set_option linter.unusedSimpArgs false
set_option linter.unusedVariables false
open Go.RowKit

def bs (s : ByteArray) : List UInt8 := s.data.toList
instance : Inhabited ByteArray := ⟨⟨#[]⟩⟩
def strC (s : ByteArray) : List D := [.sc (.string s)]
abbrev rowS (l : List ByteArray) : G := .d (.row default strC l)
abbrev rowSD (l : List ByteArray) : D := .row default strC l
/-- a word: its spellings -/
def wdC (w : List ByteArray) : List D := [rowSD w]
abbrev wdG (w : List ByteArray) : G := .agg [rowS w]
structure Fl where
  name : ByteArray
  words : List (List ByteArray)
deriving DecidableEq
instance : Inhabited Fl := ⟨⟨⟨#[]⟩, []⟩⟩
def flC (f : Fl) : List D := [.sc (.string f.name), .row default wdC f.words]
abbrev flG (f : Fl) : G := .agg [sG f.name, .d (.row default wdC f.words)]
structure Dc where
  kind : ByteArray
  fields : List Fl
deriving DecidableEq
instance : Inhabited Dc := ⟨⟨⟨#[]⟩, []⟩⟩
abbrev dcG (d : Dc) : G := .agg [sG d.kind, .d (.row default flC d.fields)]
/-- what is surely no longer than a machine's lists are -/
structure FitF (f : Fl) : Prop where
  name : f.name.size ≤ 1000
  words : f.words.length ≤ 1000
  sp : ∀ w, w ∈ f.words → w.length ≤ 1000
  str : ∀ w, w ∈ f.words → ∀ s, s ∈ w → s.size ≤ 1000
structure Fit (d : Dc) : Prop where
  kind : d.kind.size ≤ 1000
  fields : d.fields.length ≤ 1000
  each : ∀ f, f ∈ d.fields → FitF f
theorem getD_mem {α : Type} [Inhabited α] {l : List α} {i : Nat} (h : i < l.length) : l.getD i default ∈ l := by
  rw [List.getD_eq_getElem?_getD, List.getElem?_eq_getElem h]; exact List.getElem_mem h
theorem Fit.at_ {d : Dc} (h : Fit d) {i : Nat} (hi : i < d.fields.length) : FitF (d.fields.getD i default) := h.each _ (getD_mem hi)
theorem FitF.at_ {f : Fl} (h : FitF f) {i : Nat} (hi : i < f.words.length) : (f.words.getD i default).length ≤ 1000 ∧ ∀ s, s ∈ f.words.getD i default → s.size ≤ 1000 := ⟨h.sp _ (getD_mem hi), h.str _ (getD_mem hi)⟩
/-- the index of the first that is so; -1: none -/
def findI {α : Type} [Inhabited α] (p : α → Bool) (l : List α) (i : Nat) : Int := if i < l.length then if p (l.getD i default) then i else findI p l (i + 1) else -1
termination_by l.length - i
theorem findI_range {α : Type} [Inhabited α] (p : α → Bool) (l : List α) : ∀ (k i : Nat), l.length - i = k → (findI p l i = -1 ∧ ∀ j, i ≤ j → j < l.length → p (l.getD j default) = false) ∨ ∃ j, i ≤ j ∧ j < l.length ∧ findI p l i = j ∧ p (l.getD j default) = true ∧ ∀ m, i ≤ m → m < j → p (l.getD m default) = false := by
  intro k
  induction k with
  | zero => intro i h; left; rw [findI, if_neg (by omega)]; exact ⟨rfl, fun j h1 h2 => by omega⟩
  | succ k ih =>
    intro i h
    rw [findI, if_pos (by omega)]
    cases hp : p (l.getD i default) with
    | true => right; rw [if_pos rfl]; exact ⟨i, Nat.le_refl _, by omega, rfl, hp, fun m h1 h2 => by omega⟩
    | false =>
      rw [if_neg (by simp)]
      rcases ih (i + 1) (by omega) with ⟨h1, h2⟩ | ⟨j, h1, h2, h3, h4, h5⟩
      · exact .inl ⟨h1, fun j h3 h4 => by
          by_cases e : j = i
          · subst e; exact hp
          · exact h2 j (by omega) h4⟩
      · exact .inr ⟨j, by omega, h2, h3, h4, fun m h6 h7 => by
          by_cases e : m = i
          · subst e; exact hp
          · exact h5 m (by omega) h7⟩
theorem findI_any {α : Type} [Inhabited α] (p : α → Bool) (l : List α) : decide (0 ≤ findI p l 0) = l.any p := by
  rcases findI_range p l _ 0 rfl with ⟨h1, h2⟩ | ⟨j, h1, h2, h3, h4, h5⟩
  · rw [h1]
    symm
    rw [show decide ((0 : Int) ≤ -1) = false from rfl, List.any_eq_false]
    intro x hx
    obtain ⟨j, hj⟩ := List.getElem?_of_mem hx
    have hlt := (List.getElem?_eq_some_iff.1 hj).1
    have := h2 j (by omega) hlt
    rw [List.getD_eq_getElem?_getD, hj] at this
    simpa using this
  · rw [h3]
    symm
    rw [show decide ((0 : Int) ≤ (j : Int)) = true from decide_eq_true (by omega), List.any_eq_true]
    exact ⟨l.getD j default, getD_mem h2, h4⟩
theorem empty_iff (s : ByteArray) : s = ⟨#[]⟩ ↔ s.size = 0 := by
  constructor
  · intro h; rw [h]; rfl
  · intro h
    refine Classical.byContradiction fun hn => ?_
    have := size_pos hn
    omega
theorem inner_not {c : Int} (h1 : letter c = false) (h2 : digit c = false) (h3 : ¬ c = 95) : inner c = false := by simp [inner, h1, h2, h3]
theorem inner_on {c : Int} (h : (letter c = true ∨ digit c = true) ∨ c = 95) : inner c = true := by
  rcases h with (h | h) | h <;> simp [inner, h]
theorem span_stop {p : Int → Bool} {s : ByteArray} {i : Nat} (hi : i < s.size) (he : span p s 0 = span p s i) (hp : p (byteAt s i) = false) : ¬ span p s 0 = s.size := by
  rw [he, span, if_pos hi, if_neg (by simp [hp])]; omega
/-! spellings -/
def okB (c : UInt8) : Bool := decide (33 ≤ c.toNat) && decide (c.toNat ≤ 126)
def badR (c : Nat) : Bool := decide (c < 33) || decide (126 < c)
def validS (s : ByteArray) : Bool := !decide (s = ⟨#[]⟩) && decide ((s.size : Int) ≤ 20) && (bs s).all okB
theorem idx_all (s : ByteArray) : decide (Lib.idxFunc badR true s < 0) = (bs s).all okB := by
  have key : ∀ (f pos : Nat), s.size ≤ pos + f → decide (Lib.idxFuncFrom badR true s f pos < 0) = ((bs s).drop pos).all okB := by
    intro f
    induction f with
    | zero =>
      intro pos h
      rw [List.drop_eq_nil_of_le (by show s.data.toList.length ≤ pos; rw [Array.length_toList]; exact h)]
      rfl
    | succ f ih =>
      intro pos h
      by_cases hp : pos < s.size
      · have hl : pos < (bs s).length := by show pos < s.data.toList.length; rw [Array.length_toList]; exact hp
        have hd : (bs s).drop pos = s[pos]'hp :: (bs s).drop (pos + 1) := by rw [List.drop_eq_getElem_cons hl]; rfl
        rw [hd, List.all_cons]
        unfold Lib.idxFuncFrom
        rw [if_pos hp]
        by_cases ha : (s[pos]'hp).toNat < 128
        · rw [decode_ascii s pos hp ha]
          by_cases hb : badR (s[pos]'hp).toNat = true
          · rw [if_pos hb]
            have : okB (s[pos]'hp) = false := by simp [badR] at hb; simp [okB]; omega
            rw [this, Bool.false_and]
            exact decide_eq_false (by omega)
          · rw [if_neg hb, ih (pos + 1) (by omega)]
            have : okB (s[pos]'hp) = true := by simp [badR] at hb; simp [okB]; omega
            rw [this, Bool.true_and]
        · have h2 := decode_high s pos hp (by omega)
          have hb : badR (Utf8.decode s pos).1 = true := by simp [badR]; omega
          rw [if_pos hb]
          have : okB (s[pos]'hp) = false := by simp [okB]; omega
          rw [this, Bool.false_and]
          exact decide_eq_false (by omega)
      · rw [Lib.idxFuncFrom_end _ _ _ _ _ hp, List.drop_eq_nil_of_le (by show s.data.toList.length ≤ pos; rw [Array.length_toList]; show s.size ≤ pos; omega)]
        rfl
  exact key s.size 0 (by omega)

theorem valid1_ok (c : Int) : GC Tryz.prog 155 [.d (.sc (.int .i32 c))] (bG (decide (c < 33) || decide (126 < c))) := by
  refine gc_of_gk Tryz.func155 ?_
  refine gk_region env false [] [0, 2] ?_ -- 0
  refine gk_region env false [] [2] ?_ -- 1
  refine gk_ret env ?_
  simp [tupG]

theorem indexR_ok (s : ByteArray) : GC Tryz.prog 154 [sG s, fG 155] (iG (Lib.idxFunc badR true s)) :=
  gc_of_old Tryz.func154 rfl rfl rfl rfl fun w => Tryz.strings_IndexFunc_grows 155 #[] (fun args w => by
      have h := Tryz.func155
      simp [callFunc, h, go_sem, Tryz.f155]) badR s w fun W x hx _ => by
    have h := GC.ends (valid1_ok (x : Int)) (W := W) (vs := #[.int .i32 (x : Int)]) (hv := VRs.cons (.d (.sc _ rfl)) VRs.nil)
    have e : (decide ((x : Int) < 33) || decide (126 < (x : Int))) = badR x := by
      unfold badR; congr 1 <;> exact decide_eq_decide.2 (by omega)
    rw [e] at h
    exact h

theorem valid_ok (s : ByteArray) (hs : s.size ≤ 9223372036854775807) : GC Tryz.prog 143 [sG s] (bG (validS s)) := by
  refine gc_of_gk Tryz.func143 ?_
  refine gk_region env false [] [0, 2] ?_ -- 0
  refine gk_region env false [.call (indexR_ok s)] [2] ?_ -- 1
  refine gk_ret env ?_
  simp [validS, ← idx_all, tupG, Bool.and_assoc]

theorem word1_ok (s : ByteArray) (hs : s.size ≤ 9223372036854775807) : GC Tryz.prog 142 [sG s] (bG (!validS s)) := by
  refine gc_of_gk Tryz.func142 ?_
  refine gk_region env false [] [0, 2] ?_ -- 0
  refine gk_region env false [.call (valid_ok s hs)] [2] ?_ -- 1
  refine gk_ret env ?_
  simp [tupG]


theorem indexS_ok (l : List ByteArray) (hl : l.length ≤ 9223372036854775807) (s : ByteArray) : GC Tryz.prog 149 [rowS l, sG s] (iG (findI (fun x => decide (x = s)) l 0)) := by
  refine gc_of_gk Tryz.func149 ?_
  refine gk_region env false [] [0, 1, 4] ?_ -- 0
  refine gk_region env false [] [0, 1, 4, 7, 8] ?_ -- 1
  refine gk_loop (α := Nat) (fun i => i ≤ l.length ∧ findI (fun x => decide (x = s)) l 0 = findI (fun x => decide (x = s)) l i) (fun i => [(8, iG i)]) (fun _ => []) (fun i => l.length - i) 0 ⟨by omega, rfl⟩ ?_ -- loop 2
  rintro i ⟨hi, he⟩
  refine gk_region env false [] [0, 1, 4, 7, 8, 9] ?_ -- 2
  refine gk_ifd (fun c1 => ?_) (fun c1 => ?_)
  · try simp only [toN] at c1
    refine gk_region env false [] [0, 1, 4, 5, 7, 8] ?_ -- 3
    refine gk_region env false [] [0, 1, 4, 5, 7, 8, 16] ?_ -- 4
    refine gk_ifd (fun c2 => ?_) (fun c2 => ?_)
    · try simp only [toN] at c2
      refine gk_region env false [] [0, 1, 4, 7, 8] ?_ -- 5
      refine gk_ret env ?_
      rw [he, findI, if_pos (by omega), if_pos (by simpa using c2.symm)]; rfl
    · try simp only [toN] at c2
      refine gk_region env false [] [0, 1, 4, 7, 8] ?_ -- 6
      refine gk_round (i + 1) ?_
      refine ⟨by omega, he.trans ?_⟩
      rw [findI, if_pos (by omega), if_neg (by simpa using fun e => c2 e.symm)]
  · try simp only [toN] at c1
    refine gk_region env false [] [4] ?_ -- 7
    refine gk_ret env ?_
    rw [he, findI, if_neg (by omega)]; rfl

theorem contains_ok (l : List ByteArray) (hl : l.length ≤ 9223372036854775807) (s : ByteArray) : GC Tryz.prog 131 [rowS l, sG s] (bG (l.any fun x => decide (x = s))) := by
  refine gc_of_gk Tryz.func131 ?_
  refine gk_region env false [] [0, 1, 4] ?_ -- 0
  refine gk_region env false [.call (indexS_ok l hl s)] [4] ?_ -- 1
  refine gk_ret env ?_
  rw [← findI_any]; rfl

theorem indexW_ok (l : List ByteArray) (hl : l.length ≤ 9223372036854775807) (hs : ∀ s, s ∈ l → s.size ≤ 9223372036854775807) : GC Tryz.prog 153 [rowS l, fG 142] (iG (findI (fun x => !validS x) l 0)) := by
  refine gc_of_gk Tryz.func153 ?_
  refine gk_region env false [] [0, 1, 4] ?_ -- 0
  refine gk_region env false [] [0, 1, 4, 7, 8] ?_ -- 1
  refine gk_loop (α := Nat) (fun i => i ≤ l.length ∧ findI (fun x => !validS x) l 0 = findI (fun x => !validS x) l i) (fun i => [(8, iG i)]) (fun _ => []) (fun i => l.length - i) 0 ⟨by omega, rfl⟩ ?_ (hp := by simp [AllP] <;> rfl) -- loop 2
  rintro i ⟨hi, he⟩
  refine gk_region env false [] [0, 1, 4, 7, 8, 9] ?_ -- 2
  refine gk_ifd (fun c1 => ?_) (fun c1 => ?_)
  · try simp only [toN] at c1
    refine gk_region env false [] [0, 1, 4, 5, 7, 8] ?_ -- 3
    refine gk_region env false [.call (word1_ok (l.getD i default) (hs _ (getD_mem (by omega))))] [0, 1, 4, 5, 7, 8, 16] ?_ -- 4
    refine gk_if (fun c2 => ?_) (fun c2 => ?_)
    · try simp only [bb, toN] at c2
      refine gk_region env false [] [0, 1, 4, 7, 8] ?_ -- 5
      refine gk_ret env ?_
      rw [he, findI, if_pos (by omega), if_pos (by simpa using c2)]; rfl
    · try simp only [bb, toN] at c2
      refine gk_region env false [] [0, 1, 4, 7, 8] ?_ -- 6
      refine gk_round (i + 1) ?_ (hp := by simp [AllP] <;> rfl)
      refine ⟨by omega, he.trans ?_⟩
      rw [findI, if_pos (by omega), if_neg (by simpa using c2)]
  · try simp only [toN] at c1
    refine gk_region env false [] [4] ?_ -- 7
    refine gk_ret env ?_
    rw [he, findI, if_neg (by omega)]; rfl

theorem hasW_ok (l : List ByteArray) (hl : l.length ≤ 9223372036854775807) (hs : ∀ s, s ∈ l → s.size ≤ 9223372036854775807) : GC Tryz.prog 141 [rowS l, fG 142] (bG (l.any fun x => !validS x)) := by
  refine gc_of_gk Tryz.func141 ?_
  refine gk_region env false [] [0, 1, 4] ?_ -- 0
  refine gk_region env false [.call (indexW_ok l hl hs)] [4] ?_ -- 1
  refine gk_ret env ?_
  rw [← findI_any]; rfl



/-- is there one that came before -/
def dupW (l : List ByteArray) (i : Nat) : Bool := if i < l.length then if (l.take i).any fun x => decide (x = l.getD i default) then true else dupW l (i + 1) else false
termination_by l.length - i
def wordE (l : List ByteArray) : Int := if 4 < l.length then 6 else if l.length = 0 then 4 else if l.any fun x => !validS x then 2 else if dupW l 0 then 5 else 0
def wordsE (ws : List (List ByteArray)) (k : Nat) : Int := if k < ws.length then if wordE (ws.getD k default) = 0 then wordsE ws (k + 1) else wordE (ws.getD k default) else 0
termination_by ws.length - k
def fieldE (fs : List Fl) (i : Nat) : Int := if nameOk (fs.getD i default).name = false then 2 else if (fs.take i).any fun g => decide (g.name = (fs.getD i default).name) then 5 else if 8 < (fs.getD i default).words.length then 6 else wordsE (fs.getD i default).words 0
def fieldsE (fs : List Fl) (i : Nat) : Int := if i < fs.length then if fieldE fs i = 0 then fieldsE fs (i + 1) else fieldE fs i else 0
termination_by fs.length - i
def checkE (d : Dc) : Int := if nameOk d.kind = false then 2 else if 12 < d.fields.length then 6 else fieldsE d.fields 0

theorem word_ok (l : List ByteArray) (hl : l.length ≤ 1000) (hs : ∀ s, s ∈ l → s.size ≤ 1000) : GC Tryz.prog 109 [wdG l] (iG (wordE l)) := by
  refine gc_of_gk Tryz.func109 ?_
  refine gk_region env false [] [1, 2] ?_ -- 0
  refine gk_region env false [] [2, 3] ?_ -- 1
  refine gk_region env false [] [2, 3, 7] ?_ -- 2
  refine gk_ifd (fun c1 => ?_) (fun c1 => ?_)
  · try simp only [toN] at c1
    refine gk_region env false [] [2, 3] ?_ -- 3
    refine gk_ret env ?_
    rw [wordE, if_pos (by omega)]; rfl
  · try simp only [toN] at c1
    refine gk_region env false [] [2, 3, 11] ?_ -- 4
    refine gk_ifd (fun c2 => ?_) (fun c2 => ?_)
    · try simp only [toN] at c2
      refine gk_region env false [] [2, 3] ?_ -- 5
      refine gk_ret env ?_
      rw [wordE, if_neg (by omega), if_pos (by omega)]; rfl
    · try simp only [toN] at c2
      refine gk_region env false [.call (hasW_ok l (by omega) (fun s h => by have := hs s h; omega))] [2, 3, 15] ?_ -- 6
      refine gk_if (fun c3 => ?_) (fun c3 => ?_)
      · try simp only [bb, toN] at c3
        refine gk_region env false [] [2, 3] ?_ -- 7
        refine gk_ret env ?_
        rw [wordE, if_neg (by omega), if_neg (by omega), if_pos (by simpa using c3)]; rfl
      · try simp only [bb, toN] at c3
        refine gk_region env false [] [2, 3, 19, 20] ?_ -- 8
        refine gk_loop (α := Nat) (fun i => i ≤ l.length ∧ dupW l 0 = dupW l i) (fun i => [(20, iG i)]) (fun _ => []) (fun i => l.length - i) 0 ⟨by omega, rfl⟩ ?_ -- loop 9
        rintro i ⟨hi, he⟩
        refine gk_region env false [] [2, 3, 19, 20, 21] ?_ -- 9
        refine gk_ifd (fun c4 => ?_) (fun c4 => ?_)
        · try simp only [toN] at c4
          refine gk_region env false [] [2, 3, 4, 19, 20] ?_ -- 10
          refine gk_region env false [.call (contains_ok (l.take i) (by simp; omega) (l.getD i default))] [2, 3, 19, 20, 30] ?_ (hp := (by simp only [AllP, bb, toN, loI, hiI]; repeat' first | exact trivial | exact EntL.refl _ | exact BEntL.refl _ | exact rfl | omega | apply And.intro | intro _)) -- 11
          refine gk_if (fun c5 => ?_) (fun c5 => ?_)
          · try simp only [bb, toN] at c5
            refine gk_region env false [] [2, 3, 19, 20] ?_ -- 12
            refine gk_ret env ?_
            have e : dupW l 0 = true := by rw [he, dupW, if_pos (by omega), if_pos (by simpa using c5)]
            rw [wordE, if_neg (by omega), if_neg (by omega), if_neg (by simpa using c3), if_pos e]; rfl
          · try simp only [bb, toN] at c5
            refine gk_region env false [] [2, 3, 19, 20] ?_ -- 13
            refine gk_round (i + 1) ?_
            refine ⟨by omega, he.trans ?_⟩
            rw [dupW, if_pos (by omega), if_neg (by rw [c5]; simp)]
        · try simp only [toN] at c4
          refine gk_region env false [] [2] ?_ -- 14
          refine gk_ret env ?_
          have e : dupW l 0 = false := by rw [he, dupW, if_neg (by omega)]
          rw [wordE, if_neg (by omega), if_neg (by omega), if_neg (by simpa using c3), if_neg (by simp [e])]; rfl

theorem check1_ok (g : Fl) (f : Fl) : GC Tryz.prog 108 [flG g, .ep (flC f)] (bG (decide (g.name = f.name))) := by
  refine gc_of_gk Tryz.func108 ?_
  refine gk_region env false [] [1, 2, 3] ?_ -- 0
  refine gk_region env false [] [3] ?_ -- 1
  refine gk_ret env ?_
  rfl

theorem indexF_ok (l : List Fl) (hl : l.length ≤ 9223372036854775807) (f : Fl) : GC Tryz.prog 140 [.d (.row default flC l), .fn (.func 108) [] [.ep (flC f)]] (iG (findI (fun g => decide (g.name = f.name)) l 0)) := by
  refine gc_of_gk Tryz.func140 ?_
  refine gk_region env false [] [0, 1, 4] ?_ -- 0
  refine gk_region env false [] [0, 1, 4, 7, 8] ?_ -- 1
  refine gk_loop (α := Nat) (fun i => i ≤ l.length ∧ findI (fun g => decide (g.name = f.name)) l 0 = findI (fun g => decide (g.name = f.name)) l i) (fun i => [(8, iG i)]) (fun _ => []) (fun i => l.length - i) 0 ⟨by omega, rfl⟩ ?_ (hp := by simp [AllP] <;> rfl) -- loop 2
  rintro i ⟨hi, he⟩
  refine gk_region env false [] [0, 1, 4, 7, 8, 9] ?_ -- 2
  refine gk_ifd (fun c1 => ?_) (fun c1 => ?_)
  · try simp only [toN] at c1
    refine gk_region env false [] [0, 1, 4, 5, 7, 8] ?_ -- 3
    refine gk_region env false [.call (check1_ok (l.getD i default) f)] [0, 1, 4, 5, 7, 8, 16] ?_ -- 4
    refine gk_if (fun c2 => ?_) (fun c2 => ?_)
    · try simp only [bb, toN] at c2
      refine gk_region env false [] [0, 1, 4, 7, 8] ?_ -- 5
      refine gk_ret env ?_
      rw [he, findI, if_pos (by omega), if_pos (by simpa using c2)]; rfl
    · try simp only [bb, toN] at c2
      refine gk_region env false [] [0, 1, 4, 7, 8] ?_ -- 6
      refine gk_round (i + 1) ?_ (hp := by simp [AllP] <;> rfl)
      refine ⟨by omega, he.trans ?_⟩
      rw [findI, if_pos (by omega), if_neg (by simpa using c2)]
  · try simp only [toN] at c1
    refine gk_region env false [] [4] ?_ -- 7
    refine gk_ret env ?_
    rw [he, findI, if_neg (by omega)]; rfl

theorem hasF_ok (l : List Fl) (hl : l.length ≤ 9223372036854775807) (f : Fl) : GC Tryz.prog 107 [.d (.row default flC l), .fn (.func 108) [] [.ep (flC f)]] (bG (l.any fun g => decide (g.name = f.name))) := by
  refine gc_of_gk Tryz.func107 ?_
  refine gk_region env false [] [0, 1, 4] ?_ -- 0
  refine gk_region env false [.call (indexF_ok l hl f)] [4] ?_ -- 1
  refine gk_ret env ?_
  rw [← findI_any]; rfl
end Go.Gh

namespace Go.Gh
open Go Go.Proofs
set_option maxRecDepth 1000000
set_option maxHeartbeats 2000000
set_option linter.unusedSimpArgs false
set_option linter.unusedVariables false
open Go.RowKit

theorem fieldsE_bad {fs : List Fl} {i : Nat} {e : Int} (hi : i < fs.length) (he : fieldsE fs 0 = fieldsE fs i) (h : fieldE fs i = e) (h0 : e ≠ 0) : fieldsE fs 0 = e := by
  rw [he, fieldsE, if_pos hi, if_neg (by rw [h]; exact h0), h]
theorem fieldsE_on {fs : List Fl} {i : Nat} (hi : i < fs.length) (he : fieldsE fs 0 = fieldsE fs i) (h : fieldE fs i = 0) : fieldsE fs 0 = fieldsE fs (i + 1) := by
  rw [he, fieldsE, if_pos hi, if_pos h]
theorem fieldE_2 {fs : List Fl} {i : Nat} (h : nameOk (fs.getD i default).name = false) : fieldE fs i = 2 := by rw [fieldE, if_pos h]
theorem fieldE_5 {fs : List Fl} {i : Nat} (h : nameOk (fs.getD i default).name = true) (h2 : ((fs.take i).any fun g => decide (g.name = (fs.getD i default).name)) = true) : fieldE fs i = 5 := by rw [fieldE, if_neg (by rw [h]; simp), if_pos h2]
theorem fieldE_6 {fs : List Fl} {i : Nat} (h : nameOk (fs.getD i default).name = true) (h2 : ((fs.take i).any fun g => decide (g.name = (fs.getD i default).name)) = false) (h3 : (8 : Int) < (fs.getD i default).words.length) : fieldE fs i = 6 := by
  rw [fieldE, if_neg (by rw [h]; simp), if_neg (by rw [h2]; simp), if_pos (by omega)]
theorem fieldE_w {fs : List Fl} {i : Nat} (h : nameOk (fs.getD i default).name = true) (h2 : ((fs.take i).any fun g => decide (g.name = (fs.getD i default).name)) = false) (h3 : ¬ (8 : Int) < (fs.getD i default).words.length) : fieldE fs i = wordsE (fs.getD i default).words 0 := by
  rw [fieldE, if_neg (by rw [h]; simp), if_neg (by rw [h2]; simp), if_neg (by omega)]

theorem check_ok (d : Dc) (hd : Fit d) : GC Tryz.prog 78 [dcG d] (iG (checkE d)) := by
  have hd1 := hd.kind
  have hd2 := hd.fields
  refine gc_of_gk Tryz.func78 ?_
  refine gk_region env false [] [1, 2] ?_ -- 0
  refine gk_region env false [.call (name_ok d.kind (by omega))] [1, 2, 11] ?_ -- 1
  refine gk_if (fun c1 => ?_) (fun c1 => ?_)
  · try simp only [bb, toN] at c1
    refine gk_region env false [] [1, 2] ?_ -- 2
    refine gk_ret env ?_
    rw [checkE, if_pos (by simpa using c1)]; rfl
  · try simp only [bb, toN] at c1
    refine gk_region env false [] [1, 2, 15] ?_ -- 3
    refine gk_ifd (fun c2 => ?_) (fun c2 => ?_)
    · try simp only [toN] at c2
      refine gk_region env false [] [1, 2] ?_ -- 4
      refine gk_ret env ?_
      rw [checkE, if_neg (by simp [c1]), if_pos (by omega)]; rfl
    · try simp only [toN] at c2
      refine gk_region env false [] [1, 2, 17, 18, 19] ?_ -- 5
      refine gk_loop (α := Nat) (fun i => i ≤ d.fields.length ∧ fieldsE d.fields 0 = fieldsE d.fields i) (fun i => [(19, iG i)]) (fun _ => []) (fun i => d.fields.length - i) 0 ⟨by omega, rfl⟩ ?_ -- loop 6
      rintro i ⟨hi, he⟩
      have hf := fun h : i < d.fields.length => hd.at_ h
      refine gk_region env false [] [1, 2, 17, 18, 19, 20] ?_ -- 6
      refine gk_ifd (fun c3 => ?_) (fun c3 => ?_)
      · try simp only [toN] at c3
        refine gk_region env false [] [1, 2, 3, 4, 17, 18, 19] ?_ -- 7
        refine gk_region env false [.call (name_ok (d.fields.getD i default).name (by have := (hf (by omega)).name; omega))] [1, 2, 3, 4, 17, 18, 19, 24] ?_ -- 8
        refine gk_if (fun c4 => ?_) (fun c4 => ?_)
        · try simp only [bb, toN] at c4
          refine gk_region env false [] [1, 2, 4, 17, 18, 19] ?_ -- 9
          refine gk_ret env ?_
          rw [checkE, if_neg (by simp [c1]), if_neg (by omega), fieldsE_bad (by omega) he (fieldE_2 c4) (by omega)]; rfl
        · try simp only [bb, toN] at c4
          refine gk_box 1 ?_
          refine gk_region env false [.call (hasF_ok (d.fields.take i) (by simp; omega) (d.fields.getD i default))] [1, 2, 4, 17, 18, 19, 29] ?_ (hp := (by simp only [AllP, bb, toN, loI, hiI]; repeat' first | exact trivial | exact EntL.refl _ | exact BEntL.refl _ | exact rfl | omega | apply And.intro | intro _)) -- 10
          refine gk_if (fun c5 => ?_) (fun c5 => ?_)
          · try simp only [bb, toN] at c5
            refine gk_region env false [] [1, 2, 4, 17, 18, 19] ?_ -- 11
            refine gk_ret env ?_
            rw [checkE, if_neg (by simp [c1]), if_neg (by omega), fieldsE_bad (by omega) he (fieldE_5 c4 c5) (by omega)]; rfl
          · try simp only [bb, toN] at c5
            refine gk_region env false [] [1, 2, 4, 17, 18, 19, 36] ?_ -- 12
            refine gk_ifd (fun c6 => ?_) (fun c6 => ?_)
            · try simp only [toN] at c6
              refine gk_region env false [] [1, 2, 4, 17, 18, 19] ?_ -- 13
              refine gk_ret env ?_
              rw [checkE, if_neg (by simp [c1]), if_neg (by omega), fieldsE_bad (by omega) he (fieldE_6 c4 c5 c6) (by omega)]; rfl
            · try simp only [toN] at c6
              refine gk_region env false [] [1, 2, 17, 18, 19, 42, 43, 44] ?_ -- 14
              refine gk_loop (α := Nat) (fun k => k ≤ (d.fields.getD i default).words.length ∧ wordsE (d.fields.getD i default).words 0 = wordsE (d.fields.getD i default).words k) (fun k => [(44, iG k)]) (fun _ => []) (fun k => (d.fields.getD i default).words.length - k) 0 ⟨by omega, rfl⟩ ?_ -- loop 15
              rintro k ⟨hk, hk2⟩
              have hf2 := fun h : k < (d.fields.getD i default).words.length => (hf (by omega)).at_ h
              refine gk_region env false [] [1, 2, 17, 18, 19, 42, 43, 44, 45] ?_ -- 15
              refine gk_ifd (fun c7 => ?_) (fun c7 => ?_)
              · try simp only [toN] at c7
                refine gk_region env false [] [1, 2, 6, 17, 18, 19, 42, 43, 44] ?_ -- 16
                refine gk_region env false [.call (word_ok ((d.fields.getD i default).words.getD k default) (hf2 (by omega)).1 (hf2 (by omega)).2)] [1, 2, 7, 17, 18, 19, 42, 43, 44] ?_ -- 17
                refine gk_region env false [] [1, 2, 7, 17, 18, 19, 42, 43, 44, 51] ?_ -- 18
                refine gk_ifn (fun c8 => ?_) (fun c8 => ?_)
                · try simp only [toN] at c8
                  refine gk_region env false [] [1, 2, 17, 18, 19, 42, 43, 44] ?_ -- 19
                  refine gk_ret env ?_
                  have e : fieldE d.fields i = wordE ((d.fields.getD i default).words.getD k default) := (fieldE_w c4 c5 c6).trans (by rw [hk2, wordsE, if_pos (by omega), if_neg c8])
                  rw [checkE, if_neg (by simp [c1]), if_neg (by omega), fieldsE_bad (by omega) he e c8]; rfl
                · try simp only [toN] at c8
                  refine gk_region env false [] [1, 2, 17, 18, 19, 42, 43, 44] ?_ -- 20
                  refine gk_round (k + 1) ?_
                  exact ⟨by omega, hk2.trans (by rw [wordsE, if_pos (by omega), if_pos (by omega)])⟩
              · try simp only [toN] at c7
                refine gk_region env false [] [1, 2, 17, 18, 19] ?_ -- 21
                refine gk_round (i + 1) ?_
                exact ⟨by omega, fieldsE_on (by omega) he ((fieldE_w c4 c5 c6).trans (by rw [hk2, wordsE, if_neg (by omega)]))⟩
      · try simp only [toN] at c3
        refine gk_region env false [] [2] ?_ -- 22
        refine gk_ret env ?_
        rw [checkE, if_neg (by simp [c1]), if_neg (by omega), he, fieldsE, if_neg (by omega)]; rfl
end Go.Gh

namespace Go.Gh
open Go Go.Proofs
set_option maxRecDepth 1000000
set_option maxHeartbeats 2000000
set_option linter.unusedSimpArgs false
set_option linter.unusedVariables false
open Go.RowKit

/-! what a right document is -/
structure Good (f : Fl) : Prop where
  words : f.words.length ≤ 8
  each : ∀ w, w ∈ f.words → wordE w = 0
theorem wordE_0 {l : List ByteArray} (h : wordE l = 0) : 1 ≤ l.length ∧ l.length ≤ 4 ∧ (∀ s, s ∈ l → validS s = true) ∧ dupW l 0 = false := by
  unfold wordE at h
  split at h
  · omega
  · split at h
    · omega
    · split at h
      · omega
      · split at h
        · omega
        · rename_i h1 h2 h3 h4
          refine ⟨by omega, by omega, fun s hs => ?_, by simpa using h4⟩
          simp only [List.any_eq_true, not_exists, not_and, Bool.not_eq_true, Bool.not_eq_false'] at h3
          simpa using h3 s hs
theorem wordE_range (l : List ByteArray) : wordE l = 0 ∨ 2 ≤ wordE l := by
  unfold wordE
  split
  · omega
  · split
    · omega
    · split
      · omega
      · split <;> omega
theorem wordsE_0 {ws : List (List ByteArray)} : ∀ (n k : Nat), ws.length - k = n → wordsE ws k = 0 → ∀ j, k ≤ j → j < ws.length → wordE (ws.getD j default) = 0 := by
  intro n
  induction n with
  | zero => intro k h _ j h1 h2; omega
  | succ n ih =>
    intro k h he j h1 h2
    rw [wordsE, if_pos (by omega)] at he
    split at he
    · rename_i h3
      by_cases e : j = k
      · subst e; exact h3
      · exact ih (k + 1) (by omega) he j (by omega) h2
    · contradiction
theorem fieldsE_0 {fs : List Fl} : ∀ (n k : Nat), fs.length - k = n → fieldsE fs k = 0 → ∀ j, k ≤ j → j < fs.length → fieldE fs j = 0 := by
  intro n
  induction n with
  | zero => intro k h _ j h1 h2; omega
  | succ n ih =>
    intro k h he j h1 h2
    rw [fieldsE, if_pos (by omega)] at he
    split at he
    · rename_i h3
      by_cases e : j = k
      · subst e; exact h3
      · exact ih (k + 1) (by omega) he j (by omega) h2
    · contradiction
theorem mem_getD {α : Type} [Inhabited α] {l : List α} {x : α} (h : x ∈ l) : ∃ j, j < l.length ∧ l.getD j default = x := by
  obtain ⟨j, hj⟩ := List.getElem?_of_mem h
  exact ⟨j, (List.getElem?_eq_some_iff.1 hj).1, by rw [List.getD_eq_getElem?_getD, hj]; rfl⟩
structure Right (d : Dc) : Prop where
  kind : nameOk d.kind = true
  len : d.fields.length ≤ 12
  name : ∀ f, f ∈ d.fields → nameOk f.name = true
  good : ∀ f, f ∈ d.fields → Good f
  one : ∀ j, j < d.fields.length → ((d.fields.take j).any fun g => decide (g.name = (d.fields.getD j default).name)) = false
theorem right_of {d : Dc} (h : checkE d = 0) : Right d := by
  unfold checkE at h
  split at h
  · omega
  · rename_i h1
    split at h
    · omega
    · rename_i h2
      have key : ∀ j, j < d.fields.length → nameOk (d.fields.getD j default).name = true ∧ ((d.fields.take j).any fun g => decide (g.name = (d.fields.getD j default).name)) = false ∧ Good (d.fields.getD j default) := fun j hj => by
        have := fieldsE_0 _ 0 rfl h j (Nat.zero_le _) hj
        unfold fieldE at this
        split at this
        · omega
        · rename_i h3
          split at this
          · omega
          · rename_i h4
            split at this
            · omega
            · rename_i h5
              refine ⟨by simpa using h3, Bool.eq_false_iff.2 h4, by omega, fun w hw => ?_⟩
              obtain ⟨k, hk, rfl⟩ := mem_getD hw
              exact wordsE_0 _ 0 rfl this k (Nat.zero_le _) hk
      refine ⟨by simpa using h1, by omega, fun f hf => ?_, fun f hf => ?_, fun j hj => (key j hj).2.1⟩
      · obtain ⟨j, hj, rfl⟩ := mem_getD hf; exact (key j hj).1
      · obtain ⟨j, hj, rfl⟩ := mem_getD hf; exact (key j hj).2.2
/-! how many readings -/
def sz : List (List ByteArray) → Nat
  | [] => 1
  | w :: ws => w.length * sz ws
theorem drop_at {α : Type} [Inhabited α] {l : List α} {k : Nat} (h : k < l.length) : l.drop k = l.getD k default :: l.drop (k + 1) := by
  rw [List.drop_eq_getElem_cons h, List.getD_eq_getElem?_getD, List.getElem?_eq_getElem h]; rfl
theorem sz_at {ws : List (List ByteArray)} {k : Nat} (h : k < ws.length) : sz (ws.drop k) = (ws.getD k default).length * sz (ws.drop (k + 1)) := by rw [drop_at h]; rfl
theorem sz_range {ws : List (List ByteArray)} (h : ∀ w, w ∈ ws → wordE w = 0) : 1 ≤ sz ws ∧ sz ws ≤ 4 ^ ws.length := by
  induction ws with
  | nil => simp [sz]
  | cons w ws ih =>
    obtain ⟨a, b⟩ := ih fun x hx => h x (List.mem_cons_of_mem _ hx)
    obtain ⟨c1, c2, _⟩ := wordE_0 (h w List.mem_cons_self)
    refine ⟨Nat.mul_pos c1 a, ?_⟩
    show w.length * sz ws ≤ 4 ^ (ws.length + 1)
    rw [Nat.pow_succ, Nat.mul_comm (4 ^ _)]
    exact Nat.mul_le_mul c2 b
theorem Good.at_ {f : Fl} (h : Good f) {k : Nat} (hk : k < f.words.length) : wordE (f.words.getD k default) = 0 := h.each _ (getD_mem hk)
theorem Good.drop {f : Fl} (h : Good f) (k : Nat) : 1 ≤ sz (f.words.drop k) := (sz_range fun w hw => h.each w (List.mem_of_mem_drop hw)).1
theorem Good.sz {f : Fl} (h : Good f) : 1 ≤ sz f.words ∧ sz f.words ≤ 65536 := by
  have h1 := sz_range h.each
  have h2 : 4 ^ f.words.length ≤ 4 ^ 8 := Nat.pow_le_pow_right (by omega) h.words
  exact ⟨h1.1, Nat.le_trans h1.2 h2⟩
theorem size_step {f : Fl} (hf : Good f) {k n : Nat} (hk : k < f.words.length) (he : n * sz (f.words.drop k) = sz f.words) : n * (f.words.getD k default).length * sz (f.words.drop (k + 1)) = sz f.words ∧ n * (f.words.getD k default).length ≤ 65536 := by
  rw [sz_at hk, ← Nat.mul_assoc] at he
  refine ⟨he, ?_⟩
  have h1 := hf.drop (k + 1)
  have h2 : n * (f.words.getD k default).length * 1 ≤ n * (f.words.getD k default).length * sz (f.words.drop (k + 1)) := Nat.mul_le_mul_left _ h1
  have := hf.sz.2
  omega

theorem size_ok (f : Fl) (hf : Good f) : GC Tryz.prog 110 [flG f] (iG (sz f.words)) := by
  have hw := hf.words
  refine gc_of_gk Tryz.func110 ?_
  refine gk_region env false [] [1, 2] ?_ -- 0
  refine gk_region env false [] [1, 2, 3] ?_ -- 1
  refine gk_region env false [] [2, 3, 7, 8, 9] ?_ -- 2
  refine gk_loop (α := Nat × Nat) (fun x => x.1 ≤ f.words.length ∧ x.2 * sz (f.words.drop x.1) = sz f.words) (fun x => [(9, iG x.1), (3, iG x.2)]) (fun _ => []) (fun x => f.words.length - x.1) (0, 1) ⟨by simp, by simp⟩ ?_ -- loop 3
  rintro ⟨k, n⟩ ⟨hk, he⟩
  dsimp only at *
  refine gk_region env false [] [2, 3, 7, 8, 9, 10] ?_ -- 3
  refine gk_ifd (fun c1 => ?_) (fun c1 => ?_)
  · try simp only [toN] at c1
    refine gk_region env false [] [2, 3, 5, 7, 8, 9] ?_ -- 4
    have hk2 := size_step hf (show k < f.words.length by omega) he
    have hk3 : (n : Int) * ((f.words.getD k default).length : Int) = ((n * (f.words.getD k default).length : Nat) : Int) := (Int.natCast_mul _ _).symm
    refine gk_region env false [] [2, 3, 7, 8, 9] ?_ -- 5
    refine gk_region env false [] [2, 3, 7, 8, 9] ?_ -- 6
    refine gk_round ((k + 1, n * (f.words.getD k default).length)) ?_
    exact ⟨by simp only; omega, hk2.1⟩
  · try simp only [toN] at c1
    refine gk_region env false [] [2] ?_ -- 7
    refine gk_ret env ?_
    have e : k = f.words.length := by omega
    subst e
    rw [List.drop_length] at he
    have e2 : n = sz f.words := by rw [← he]; simp [sz]
    rw [e2]; rfl


def countF (fs : List Fl) (i n : Nat) : Int × Int := if i < fs.length then if 4096 < n * sz (fs.getD i default).words then (0, 6) else countF fs (i + 1) (n * sz (fs.getD i default).words) else (n, 0)
termination_by fs.length - i
def countE (d : Dc) : Int × Int := if checkE d = 0 then countF d.fields 0 1 else (0, checkE d)
theorem count_step {a b : Nat} (ha : a ≤ 4096) (hb : b ≤ 65536) : (a : Int) * (b : Int) = ((a * b : Nat) : Int) ∧ a * b ≤ 268435456 := by
  refine ⟨(Int.natCast_mul _ _).symm, ?_⟩
  have := Nat.mul_le_mul ha hb
  omega

theorem count_ok (d : Dc) (hd : Fit d) : GC Tryz.prog 79 [dcG d] (.tup [iG (countE d).1, iG (countE d).2]) := by
  have hd2 := hd.fields
  refine gc_of_gk Tryz.func79 ?_
  refine gk_region env false [] [1, 2, 3] ?_ -- 0
  refine gk_region env false [.call (check_ok d hd)] [1, 2, 3, 4] ?_ -- 1
  refine gk_region env false [] [1, 2, 3, 4, 11] ?_ -- 2
  refine gk_ifn (fun c1 => ?_) (fun c1 => ?_)
  · try simp only [toN] at c1
    refine gk_region env false [] [1, 2, 3] ?_ -- 3
    refine gk_ret env ?_
    rw [countE, if_neg c1]; rfl
  · try simp only [toN] at c1
    have hr := right_of c1
    refine gk_region env false [] [1, 2, 3, 5] ?_ -- 4
    refine gk_region env false [] [2, 3, 5, 14, 15, 16] ?_ -- 5
    refine gk_loop (α := Nat × Nat) (fun x => x.1 ≤ d.fields.length ∧ x.2 ≤ 4096 ∧ countF d.fields 0 1 = countF d.fields x.1 x.2) (fun x => [(16, iG x.1), (5, iG x.2)]) (fun _ => []) (fun x => d.fields.length - x.1) (0, 1) ⟨by simp, by simp, rfl⟩ ?_ -- loop 6
    rintro ⟨i, n⟩ ⟨hi, hn, he⟩
    dsimp only at *
    refine gk_region env false [] [2, 3, 5, 14, 15, 16, 17] ?_ -- 6
    refine gk_ifd (fun c2 => ?_) (fun c2 => ?_)
    · try simp only [toN] at c2
      refine gk_region env false [] [2, 3, 5, 7, 14, 15, 16] ?_ -- 7
      have hs := (hr.good _ (getD_mem (show i < d.fields.length by omega))).sz
      have hk := count_step hn hs.2
      refine gk_region env false [.call (size_ok (d.fields.getD i default) (hr.good _ (getD_mem (by omega))))] [2, 3, 5, 14, 15, 16] ?_ -- 8
      refine gk_region env false [] [2, 3, 5, 14, 15, 16, 25] ?_ -- 9
      refine gk_ifd (fun c3 => ?_) (fun c3 => ?_)
      · try simp only [toN] at c3
        refine gk_region env false [] [2, 3, 5, 14, 15, 16] ?_ -- 10
        refine gk_ret env ?_
        rw [countE, if_pos c1, he, countF, if_pos (by omega), if_pos (by omega)]; rfl
      · try simp only [toN] at c3
        refine gk_region env false [] [2, 3, 5, 14, 15, 16] ?_ -- 11
        refine gk_round ((i + 1, n * sz (d.fields.getD i default).words)) ?_
        refine ⟨by simp only; omega, by simp only; omega, he.trans ?_⟩
        rw [countF, if_pos (by omega), if_neg (by omega)]
    · try simp only [toN] at c2
      refine gk_region env false [] [2, 3] ?_ -- 12
      refine gk_ret env ?_
      rw [countE, if_pos c1, he, countF, if_neg (by omega)]; rfl

/-! the text of a reading -/
def wordsAt : List (List ByteArray) → Nat → List ByteArray
  | [], _ => []
  | w :: ws, i => w.getD (i / sz ws % w.length) default :: wordsAt ws i
theorem wordsAt_length (ws : List (List ByteArray)) (i : Nat) : (wordsAt ws i).length = ws.length := by
  induction ws with
  | nil => rfl
  | cons w ws ih => simp [wordsAt, ih]
theorem wordsAt_mem {ws : List (List ByteArray)} (h : ∀ w, w ∈ ws → wordE w = 0) {i : Nat} {s : ByteArray} (hs : s ∈ wordsAt ws i) : validS s = true := by
  induction ws with
  | nil => cases hs
  | cons w ws ih =>
    obtain ⟨c1, c2, c3, _⟩ := wordE_0 (h w List.mem_cons_self)
    rcases List.mem_cons.1 hs with e | hs
    · subst e; exact c3 _ (getD_mem (Nat.mod_lt _ c1))
    · exact ih (fun x hx => h x (List.mem_cons_of_mem _ hx)) hs
theorem validS_size {s : ByteArray} (h : validS s = true) : s.size ≤ 20 := by
  simp only [validS, Bool.and_eq_true, decide_eq_true_eq] at h; omega
def chosen (ws : List (List ByteArray)) (i k : Nat) : List ByteArray := List.replicate k default ++ (wordsAt (ws.drop k) i ++ List.replicate (8 - ws.length) default)
theorem chosen_top {ws : List (List ByteArray)} (h : ws.length ≤ 8) (i : Nat) : chosen ws i ws.length = List.replicate 8 default := by
  rw [chosen, List.drop_length, wordsAt, List.nil_append, List.replicate_append_replicate]; congr 1; omega
theorem chosen_length {ws : List (List ByteArray)} (h : ws.length ≤ 8) (i : Nat) {k : Nat} (hk : k ≤ ws.length) : (chosen ws i k).length = 8 := by
  simp only [chosen, List.length_append, List.length_replicate, wordsAt_length, List.length_drop]; omega
theorem putD_str {xs : List ByteArray} {k : Nat} (hk : k < xs.length) (s : ByteArray) : putD (rowL strC xs) k 0 [.sc (.string s)] = rowL strC (xs.set k s) := by
  have e : (rowL strC xs).getD k [] = [.sc (.string (xs.getD k default))] := by
    simp [rowL, List.getD_eq_getElem?_getD, List.getElem?_eq_getElem hk, strC]
  rw [putD, e]
  simp only [rowL, List.map_set]
  rfl
theorem chosen_set {ws : List (List ByteArray)} {i k : Nat} (hk : k < ws.length) : (chosen ws i (k + 1)).set k ((ws.getD k default).getD (i / sz (ws.drop (k + 1)) % (ws.getD k default).length) default) = chosen ws i k := by
  have e : wordsAt (ws.drop k) i = (ws.getD k default).getD (i / sz (ws.drop (k + 1)) % (ws.getD k default).length) default :: wordsAt (ws.drop (k + 1)) i := by rw [drop_at hk]; rfl
  rw [chosen, chosen, e, List.replicate_succ', List.append_assoc, List.set_append_right _ _ (by simp)]
  simp
theorem chosen_take {ws : List (List ByteArray)} (i : Nat) : (chosen ws i 0).take ws.length = wordsAt ws i := by
  rw [chosen, List.replicate_zero, List.nil_append, List.drop_zero, List.take_append_of_le_length (by rw [wordsAt_length]; exact Nat.le_refl _), List.take_of_length_le (by rw [wordsAt_length]; exact Nat.le_refl _)]
def joinS (xs : List ByteArray) (sep : ByteArray) : ByteArray := ⟨(Lib.join (xs.map bs) (bs sep)).toArray⟩
theorem join_length (sep : List UInt8) (hs : sep.length ≤ 1000) : ∀ (xs : List (List UInt8)), (∀ x, x ∈ xs → x.length ≤ 1000) → (Lib.join xs sep).length ≤ 2000 * xs.length := by
  intro xs
  match xs with
  | [] => intro _; simp [Lib.join]
  | [x] => intro h; have := h x List.mem_cons_self; simp [Lib.join, List.intercalate, List.intersperse]; omega
  | x :: y :: l =>
    intro h
    have ih := join_length sep hs (y :: l) fun z hz => h z (List.mem_cons_of_mem _ hz)
    have := h x List.mem_cons_self
    have e : Lib.join (x :: y :: l) sep = x ++ sep ++ Lib.join (y :: l) sep := by simp [Lib.join, List.intercalate, List.intersperse]
    rw [e]
    simp only [List.length_append, List.length_cons] at ih ⊢
    omega
theorem arr2 {us : Array Value} (h : us.size = 2) : ∃ u v, us = #[u, v] := by
  obtain ⟨l⟩ := us
  match l, h with
  | [u, v], _ => exact ⟨u, v, rfl⟩
theorem join_ok (xs : List ByteArray) (sep : ByteArray) (hN : xs.length ≤ 140737488355328) (hlen : (Lib.join (xs.map bs) (bs sep)).length ≤ 140737488355328) : GC Tryz.prog 101 [.d (.row default strC xs), sG sep] (sG (joinS xs sep)) := by
  refine gc_of_vrs Tryz.func101 rfl rfl rfl fun F w us hg hF hv => ?_
  have h2 : us.size = 2 := hv.1
  obtain ⟨u, v, rfl⟩ := arr2 h2
  have e1 := (hv.2 1 (sG sep) v rfl rfl).sc_eq.1
  subst e1
  obtain ⟨A, c, b, off, es, val, rfl, hA, hc, hl, hw, hFc, hd⟩ := (hv.2 0 _ u rfl rfl).row_inv
  by_cases hx : xs = []
  · subst hx
    refine (Tryz.strings_Join_none A c sep w).mono fun e w' ⟨h1, h2⟩ => ⟨_, fun _ _ => False, h1, h2 ▸ Below.refl _ _, fun _ _ h => h.elim, .d (.sc _ rfl)⟩
  · have hA' := hA hx
    subst hA'
    obtain ⟨x0, xl, hxx⟩ := List.exists_cons_of_ne_nil hx
    have hes : es = 1 := by have := hl x0 (by rw [hxx]; exact List.mem_cons_self); simpa [strC] using this.symm
    subst hes
    have hcell : ∀ (j : Nat) x, xs[j]? = some x → w.cell? ⟨b, off + j, none⟩ = some (.string x) := fun j x hj => by
      have h3 := hw j x 0 (.sc (.string x)) hj rfl
      have h4 := hd j x 0 (.sc (.string x)) hj rfl
      generalize val j 0 = z at h3 h4
      cases h4
      rw [Nat.mul_one, Nat.add_zero] at h3
      exact h3
    have hbk : b < w.heap.size := by
      have h3 : F b (off + 0 * 1 + 0) := hFc 0 x0 0 (.sc (.string x0)) (by rw [hxx]; rfl) rfl
      exact hF _ _ h3
    refine (Tryz.strings_Join b off c xs sep w hcell hbk hN hc hlen).mono fun e w' ⟨h1, h2⟩ => ⟨_, fun _ _ => False, h1, h2, fun _ _ h => h.elim, .d (.sc _ rfl)⟩
abbrev sp : ByteArray := ⟨#[32]⟩
def textF (f : Fl) (i : Nat) : ByteArray := joinS (wordsAt f.words i) sp
theorem text_join {f : Fl} (hf : Good f) (i : Nat) : (Lib.join ((wordsAt f.words i).map bs) (bs sp)).length ≤ 140737488355328 := by
  have := join_length (bs sp) (by simp [bs]) ((wordsAt f.words i).map bs) fun x hx => by
    obtain ⟨s, hs, rfl⟩ := List.mem_map.1 hx
    have := validS_size (wordsAt_mem hf.each hs)
    show s.data.toList.length ≤ 1000
    rw [Array.length_toList]; show s.size ≤ 1000; omega
  rw [List.length_map, wordsAt_length] at this
  have := hf.words
  omega

theorem text_ok (f : Fl) (hf : Good f) (i : Nat) (hi : i ≤ 9223372036854775807) : GC Tryz.prog 112 [flG f, iG i] (sG (textF f i)) := by
  have hw := hf.words
  refine gc_of_gk Tryz.func112 ?_
  refine gk_region env false [] [1, 2, 4] ?_ -- 0
  refine gk_region env false [.arr default strC (List.replicate 8 default)] [1, 2, 4, 5] ?_ -- 1
  refine gk_region env false [] [1, 2, 4, 5, 6] ?_ -- 2
  refine gk_loop (α := Nat) (fun j => j ≤ f.words.length) (fun j => [(6, iG ((j : Int) - 1)), (1, iG ((i / sz (f.words.drop j) : Nat)))]) (fun j => [(1, some (.row 214 1 default strC (chosen f.words i j) 0))]) (fun j => j) f.words.length (Nat.le_refl _) ?_ (hp := by simp only [AllP, chosen_top hf.words]; simp [sz]) -- loop 3
  rintro j hj
  refine gk_region env false [] [1, 2, 4, 5, 6, 13] ?_ -- 3
  refine gk_ifd (fun c1 => ?_) (fun c1 => ?_)
  · try simp only [toN] at c1
    obtain ⟨m, rfl⟩ : ∃ m, j = m + 1 := ⟨j - 1, by omega⟩
    have em : ((m + 1 : Nat) : Int) - 1 = (m : Int) := by omega
    simp only [em]
    have hm : m < f.words.length := by omega
    obtain ⟨w1, w2, _⟩ := wordE_0 (hf.at_ hm)
    have hq : i / sz (f.words.drop (m + 1)) ≤ i := Nat.div_le_self _ _
    have hcs := chosen_set (i := i) hm
    have hdv : i / sz (f.words.drop m) = i / sz (f.words.drop (m + 1)) / (f.words.getD m default).length := by rw [sz_at hm, Nat.mul_comm, Nat.div_div_eq_div_mul]
    generalize i / sz (f.words.drop (m + 1)) = x at hq hcs hdv ⊢
    have hmod : (x : Int) % ((f.words.getD m default).length : Int) = ((x % (f.words.getD m default).length : Nat) : Int) := (Int.natCast_emod _ _).symm
    have hlt : x % (f.words.getD m default).length < (f.words.getD m default).length := Nat.mod_lt _ w1
    have hdiv : (x : Int) / ((f.words.getD m default).length : Int) = ((x / (f.words.getD m default).length : Nat) : Int) := (Int.natCast_ediv _ _).symm
    have hdl : x / (f.words.getD m default).length ≤ x := Nat.div_le_self _ _
    have hcl := chosen_length hf.words i (show m + 1 ≤ f.words.length by omega)
    refine gk_region env false [] [1, 2, 4, 5, 6, 7] ?_ -- 5
    refine gk_region env false [.el default strC (chosen f.words i m)] [1, 2, 4, 5, 6, 7] ?_ (hp := (by simp only [AllP, bb, toN, hmod, hcl]; generalize x % (f.words.getD m default).length = y at hlt hcs ⊢; rw [← hcs]; repeat' first | exact trivial | exact EntL.refl _ | exact rfl | omega | apply And.intro | intro _ | (simp; done) | exact (putD_str (by rw [hcl]; omega) _).symm)) -- 6
    refine gk_region env false [] [1, 2, 4, 5, 6] ?_ (hp := (by simp only [AllP, bb, toN, hdiv]; generalize x / (f.words.getD m default).length = z at hdl ⊢; repeat' first | exact trivial | exact EntL.refl _ | exact rfl | omega | apply And.intro | intro _)) -- 7
    refine gk_region env false [] [1, 2, 4, 5, 6] ?_ -- 4
    refine gk_round (m) ?_ (hp := by simp only [AllP, hdv]; simp)
    omega
  · try simp only [toN] at c1
    obtain rfl : j = 0 := by omega
    refine gk_region env false [.call (join_ok (wordsAt f.words i) sp (by rw [wordsAt_length]; omega) (text_join hf i))] [4] ?_ (hp := (by simp only [AllP, bb, toN, loI, hiI, chosen_length hf.words i (Nat.zero_le _), chosen_take]; repeat' first | exact trivial | exact EntL.refl _ | exact rfl | omega | apply And.intro | intro _)) -- 8
    refine gk_ret env ?_
    simp [tupG, textF]
end Go.Gh

namespace Go.Gh
open Go Go.Proofs
set_option maxRecDepth 1000000
set_option maxHeartbeats 2000000
set_option linter.unusedSimpArgs false
set_option linter.unusedVariables false
open Go.RowKit

def ofL (l : List UInt8) : ByteArray := ⟨l.toArray⟩
theorem bs_ofL (l : List UInt8) : bs (ofL l) = l := rfl
theorem ofL_bs (s : ByteArray) : ofL (bs s) = s := by cases s; rfl
theorem bs_size (s : ByteArray) : (bs s).length = s.size := by show s.data.toList.length = s.data.size; simp
theorem extract_of (l : List UInt8) (i j : Nat) : (ofL l).extract i j = ofL ((l.take j).drop i) := by
  apply ByteArray.ext
  rw [ByteArray.data_extract]
  apply Array.ext'
  simp [ofL, List.extract_eq_take_drop, List.drop_take]
theorem bs_extract (s : ByteArray) (i j : Nat) : bs (s.extract i j) = ((bs s).take j).drop i := by
  conv => lhs; rw [← ofL_bs s, extract_of]
  rfl
theorem sp_size : ((sp.size : Nat) : Int) = 1 := rfl
def splitL : List UInt8 → List (List UInt8)
  | [] => [[]]
  | c :: l => if c = 32 then [] :: splitL l else match splitL l with
    | x :: r => (c :: x) :: r
    | [] => [[c]]
theorem splitL_pos (l : List UInt8) : 1 ≤ (splitL l).length := by
  cases l with
  | nil => simp [splitL]
  | cons c l =>
    unfold splitL
    split
    · simp
    · split <;> simp
theorem splitL_count (l : List UInt8) : (splitL l).length = Lib.countByte l 32 + 1 := by
  induction l with
  | nil => rfl
  | cons c l ih =>
    unfold splitL
    by_cases h : c = 32
    · rw [if_pos h, h]; simp only [List.length_cons, ih, Lib.countByte, List.count_cons_self]
    · rw [if_neg h]
      have hp := splitL_pos l
      have hc : Lib.countByte (c :: l) 32 = Lib.countByte l 32 := List.count_cons_of_ne h
      rw [hc, ← ih]
      cases hs : splitL l with
      | nil => rw [hs] at hp; simp at hp
      | cons x r => rfl
theorem splitL_step (l : List UInt8) : (Lib.indexByte l 32 = -1 ∧ splitL l = [l]) ∨ ∃ m : Nat, Lib.indexByte l 32 = m ∧ m < l.length ∧ splitL l = l.take m :: splitL (l.drop (m + 1)) := by
  induction l with
  | nil => exact .inl ⟨rfl, rfl⟩
  | cons c l ih =>
    by_cases h : c = 32
    · subst h
      exact .inr ⟨0, rfl, by simp, by simp [splitL]⟩
    · have hb : (c == 32) = false := by simpa using h
      rcases ih with ⟨h1, h2⟩ | ⟨m, h1, h2, h3⟩
      · exact .inl ⟨by simp [Lib.indexByte, hb, h1], by simp [splitL, h, h2]⟩
      · refine .inr ⟨m + 1, ?_, by simp; omega, ?_⟩
        · have : ¬ ((m : Int) = -1) := by omega
          simp [Lib.indexByte, hb, h1, this]
        · simp [splitL, h, h3]
theorem splitL_len (l : List UInt8) : (splitL l).length ≤ l.length + 1 := by
  induction l with
  | nil => simp [splitL]
  | cons c l ih =>
    unfold splitL
    split
    · simp; omega
    · split
      · rename_i x r e; rw [e] at ih; simp at ih ⊢; omega
      · simp
/-- the words of a text -/
def parts (s : ByteArray) : List ByteArray := (splitL (bs s)).map ofL
theorem parts_length (s : ByteArray) : (parts s).length = Lib.countByte s.data.toList 32 + 1 := by rw [parts, List.length_map, splitL_count]; rfl
theorem parts_len (s : ByteArray) : (parts s).length ≤ s.size + 1 := by rw [parts, List.length_map, ← bs_size]; exact splitL_len _
theorem parts_step {s : ByteArray} (h : 2 ≤ (parts s).length) : ∃ m : Nat, Lib.indexByte s.data.toList 32 = m ∧ m < s.size ∧ parts s = s.extract 0 m :: parts (s.extract (m + 1) s.size) := by
  rw [parts, List.length_map] at h
  rcases splitL_step (bs s) with ⟨h1, h2⟩ | ⟨m, h1, h2, h3⟩
  · rw [h2] at h; simp at h
  · refine ⟨m, h1, by rw [← bs_size]; exact h2, ?_⟩
    have e1 : s.extract 0 m = ofL ((bs s).take m) := by rw [← ofL_bs (s.extract 0 m), bs_extract]; rfl
    have e2 : bs (s.extract (m + 1) s.size) = (bs s).drop (m + 1) := by rw [bs_extract, List.take_of_length_le (by rw [bs_size]; exact Nat.le_refl _)]
    rw [parts, h3, List.map_cons, e1, parts, e2]
theorem parts_one {s : ByteArray} (h : (parts s).length = 1) : parts s = [s] := by
  rw [parts, List.length_map] at h
  rcases splitL_step (bs s) with ⟨h1, h2⟩ | ⟨m, h1, h2, h3⟩
  · rw [parts, h2, List.map_cons, ofL_bs]; rfl
  · rw [h3] at h
    have := splitL_pos ((bs s).drop (m + 1))
    simp at h; rw [h] at this; simp at this
def filled (s : ByteArray) (i : Nat) (r : ByteArray) : List ByteArray := (parts s).take i ++ List.replicate ((parts s).length - i) default
theorem filled_length {s : ByteArray} {i : Nat} (r : ByteArray) (h : i ≤ (parts s).length) : (filled s i r).length = (parts s).length := by
  simp only [filled, List.length_append, List.length_take, List.length_replicate]; omega
theorem filled_set {s : ByteArray} {i : Nat} (r r' : ByteArray) {x : ByteArray} {l : List ByteArray} (h : (parts s).drop i = x :: l) : (filled s i r).set i x = filled s (i + 1) r' ∧ i < (parts s).length ∧ (parts s).drop (i + 1) = l := by
  have hi : i < (parts s).length := by
    have := congrArg List.length h
    simp at this; omega
  have hx : (parts s)[i]'hi = x := by
    have := congrArg (·[0]?) h
    simpa [List.getElem?_eq_getElem hi] using this
  refine ⟨?_, hi, ?_⟩
  · rw [filled, filled, show (parts s).length - i = (parts s).length - (i + 1) + 1 by omega, List.replicate_succ, List.set_append_right _ _ (by simp; omega)]
    have : i - ((parts s).take i).length = 0 := by simp; omega
    rw [this, List.set_cons_zero, List.take_succ_eq_append_getElem hi, hx]
    simp
  · have := congrArg List.tail h
    simpa [List.tail_drop] using this

end Go.Gh
