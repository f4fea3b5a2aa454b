/- Walks by the logic of calls, and plain laws (several texts in one). -/
import Derived.Test.YtffffkfcbjobnaaGreatGScS
import Derived.Test.YtffffkfcbjobnaaGreatGh3
import Derived.Test.YtffffkfcbjobnaaGreatKEsc
namespace Go.Gh
open Go Go.Proofs
set_option maxRecDepth 1000000
set_option maxHeartbeats 2000000
set_option linter.unusedSimpArgs false
set_option linter.unusedVariables false
open Go.RowKit

def In64 (n : Int) : Prop := -9223372036854775808 ≤ n ∧ n ≤ 9223372036854775807
def plainB (c : Int) : Bool := decide (32 ≤ c) && decide (c ≤ 126)
def valueOk (s : ByteArray) : Bool := decide ((s.size : Int) ≤ 400) && decide (span plainB s 0 = s.size)
def escS (s : ByteArray) : ByteArray := ofL (Go.Proofs.YtffffkfcbjobnaaGreat.Lx.quote (bs s))
def quoteV (s : ByteArray) : ByteArray := if valueOk s then escS s else ⟨#[]⟩
theorem escaped_ok (s : ByteArray) (hs : s.size ≤ 1000000) : GC Tryz.prog 211 [sG s] (sG (escS s)) :=
  gc_of_old Tryz.func211 rfl rfl rfl rfl fun w => Go.Proofs.YtffffkfcbjobnaaGreat.escaped_any s w hs
theorem escS_size (s : ByteArray) : (escS s).size ≤ 2 * s.size + 2 := by
  have h := Go.Proofs.YtffffkfcbjobnaaGreat.esc_len (bs s)
  rw [bs_size] at h
  show ((Go.Proofs.YtffffkfcbjobnaaGreat.Lx.quote (bs s)).toArray).size ≤ _
  simp only [Go.Proofs.YtffffkfcbjobnaaGreat.Lx.quote, List.size_toArray, List.length_cons, List.length_append, List.length_nil]
  omega
theorem numVal_nonneg {s : ByteArray} (h : numBad s = false) : ∀ (k i : Nat) (n : Int), s.size - i = k → 0 ≤ n → 0 ≤ numVal s i n := by
  intro k
  induction k with
  | zero => intro i n hi hn; rw [numVal, if_neg (by omega)]; exact hn
  | succ k ih =>
    intro i n hi hn
    rw [numVal, if_pos (by omega)]
    have := digit_of h (i := i) (by omega)
    exact ih (i + 1) _ (by omega) (by omega)
theorem numV_range (s : ByteArray) : 0 ≤ numV s ∧ numV s ≤ 1099511627776 := by
  unfold numV
  cases h : numBad s with
  | true => simp
  | false =>
    have := numVal_nonneg h _ 0 0 rfl (by omega)
    simp only [Bool.false_eq_true, if_false]
    split <;> omega

theorem plain_ok (c : Int) : GC Tryz.prog 210 [cG c] (bG (plainB c)) := by
  refine gc_of_gk Tryz.func210 ?_
  refine gk_region env false [] [0, 2] ?_ -- 0
  refine gk_region env false [] [2] ?_ -- 1
  refine gk_ret env ?_
  simp [plainB, tupG]

theorem spanP_ok (s : ByteArray) (hs : s.size ≤ 9223372036854775807) : GC Tryz.prog 57 [sG s, fG 210] (iG (span plainB s 0)) := by
  refine gc_of_gk Tryz.func57 ?_
  refine gk_region env false [] [0, 1, 4] ?_ -- 0
  refine gk_region env false [] [0, 1, 4, 5] ?_ -- 1
  refine gk_loop (α := Nat) (fun i => i ≤ s.size ∧ span plainB s 0 = span plainB s i) (fun i => [(5, iG i)]) (fun _ => []) (fun i => s.size - i) 0 ⟨by omega, rfl⟩ ?_ -- loop 2
  rintro i ⟨hi, he⟩
  refine gk_region env false [.call (plain_ok (byteAt s i))] [0, 1, 4, 5, 16] ?_ -- 2
  refine gk_if (fun c1 => ?_) (fun c1 => ?_)
  · try simp only [bb, toN] at c1
    refine gk_region env false [] [0, 1, 4, 5] ?_ -- 3
    refine gk_round (i + 1) ?_
    refine ⟨by omega, he.trans ?_⟩
    rw [span, if_pos (by omega), if_pos c1.2]
  · try simp only [bb, toN] at c1
    refine gk_region env false [] [4] ?_ -- 4
    refine gk_ret env ?_
    rw [he, span]
    rcases c1 with h | h
    · rw [if_neg (by omega)]; rfl
    · rw [h]; simp [tupG]

theorem quote_ok (s : ByteArray) (hs : s.size ≤ 9223372036854775807) : GC Tryz.prog 209 [sG s] (.tup [sG (quoteV s), bG (valueOk s)]) := by
  refine gc_of_gk Tryz.func209 ?_
  refine gk_region env false [] [0, 2, 3] ?_ -- 0
  refine gk_region env false [.call (spanP_ok s hs)] [0, 2, 3, 13] ?_ -- 1
  refine gk_if (fun c1 => ?_) (fun c1 => ?_)
  · try simp only [bb, toN] at c1
    refine gk_region env false [] [0, 2, 3] ?_ -- 2
    refine gk_ret env ?_
    have e : valueOk s = false := by
      rw [valueOk, Bool.and_eq_false_iff]
      rcases c1 with h | h
      · exact .inl (decide_eq_false (by omega))
      · exact .inr (decide_eq_false h)
    simp [quoteV, e, tupG]
  · try simp only [bb, toN] at c1
    refine gk_region env false [.call (escaped_ok s (by omega))] [2, 3] ?_ -- 3
    refine gk_ret env ?_
    have e : valueOk s = true := by
      rw [valueOk, decide_eq_true (by omega), decide_eq_true c1.2]; rfl
    simp [quoteV, e, tupG]
end Go.Gh

namespace Go.Gh
open Go Go.Proofs
set_option maxRecDepth 1000000
set_option maxHeartbeats 2000000
set_option linter.unusedSimpArgs false
set_option linter.unusedVariables false
open Go.RowKit

structure Dm where
  op : Int
  doc : ByteArray
  field : ByteArray
  other : ByteArray
  second : ByteArray
  text : ByteArray
  lo : Int
  hi : Int
deriving DecidableEq
instance : Inhabited Dm := ⟨⟨0, ⟨#[]⟩, ⟨#[]⟩, ⟨#[]⟩, ⟨#[]⟩, ⟨#[]⟩, 0, 0⟩⟩
def dmC (d : Dm) : List D := [.sc (.int .i64 d.op), .sc (.string d.doc), .sc (.string d.field), .sc (.string d.other), .sc (.string d.second), .sc (.string d.text), .sc (.int .i64 d.lo), .sc (.int .i64 d.hi)]
abbrev dmG (d : Dm) : G := .agg [iG d.op, sG d.doc, sG d.field, sG d.other, sG d.second, sG d.text, iG d.lo, iG d.hi]
abbrev rowP (l : List Pn) : G := .d (.row default pnC l)
abbrev rowD (l : List Dm) : G := .d (.row default dmC l)
abbrev spG (a b : ByteArray) : G := .agg [sG a, sG b]

theorem kind1_ok (p : Pn) (s : ByteArray) : GC Tryz.prog 201 [pnG p, .ep [.sc (.string s)]] (bG (decide (p.kind = s))) := by
  refine gc_of_gk Tryz.func201 ?_
  refine gk_region env false [] [1, 2, 3] ?_ -- 0
  refine gk_region env false [] [3] ?_ -- 1
  refine gk_ret env ?_
  rfl

theorem reads1_ok (s a b t : ByteArray) : GC Tryz.prog 208 [sG s, .ep [.sc (.string a), .sc (.string b), .sc (.string t)]] (bG (!decide (s = t))) := by
  refine gc_of_gk Tryz.func208 ?_
  refine gk_region env false [] [0, 1, 3] ?_ -- 0
  refine gk_region env false [] [3] ?_ -- 1
  refine gk_ret env ?_
  rfl

theorem agrees1_ok (s : ByteArray) (l : List ByteArray) (hl : 0 < l.length) : GM Tryz.prog 217 [sG s, .ptr 0 0 0 0] [.box [rowS l]] (bG (!decide (s = l.getD 0 default))) [some (.box [rowS l])] := by
  refine gm_of_gk Tryz.func217 ?_
  refine gk_region env false [] [0, 1, 3] ?_ -- 0
  refine gk_region env false [] [3] ?_ -- 1
  refine gk_retM env [bG (!decide (s = l.getD 0 default))] (hp := ?_)
  simp [AllP]

theorem indexK_ok (l : List Pn) (hl : l.length ≤ 9223372036854775807) (s : ByteArray) : GC Tryz.prog 202 [rowP l, .fn (.func 201) [] [.ep [.sc (.string s)]]] (iG (findI (fun p => decide (p.kind = s)) l 0)) := by
  refine gc_of_gk Tryz.func202 ?_
  refine gk_region env false [] [0, 1, 4] ?_ -- 0
  refine gk_region env false [] [0, 1, 4, 7, 8] ?_ -- 1
  refine gk_loop (α := Nat) (fun i => i ≤ l.length ∧ findI (fun p => decide (p.kind = s)) l 0 = findI (fun p => decide (p.kind = s)) l i) (fun i => [(8, iG i)]) (fun _ => []) (fun i => l.length - i) 0 ⟨by omega, rfl⟩ ?_ (hp := by simp [AllP]; rfl) -- loop 2
  rintro i ⟨hi, he⟩
  refine gk_region env false [] [0, 1, 4, 7, 8, 9] ?_ -- 2
  refine gk_ifd (fun c1 => ?_) (fun c1 => ?_)
  · try simp only [toN] at c1
    refine gk_region env false [] [0, 1, 4, 5, 7, 8] ?_ -- 3
    refine gk_region env false [.call (kind1_ok (l.getD i default) s)] [0, 1, 4, 5, 7, 8, 16] ?_ -- 4
    refine gk_if (fun c2 => ?_) (fun c2 => ?_)
    · try simp only [bb, toN] at c2
      refine gk_region env false [] [0, 1, 4, 7, 8] ?_ -- 5
      refine gk_ret env ?_
      rw [he, findI, if_pos (by omega), if_pos (by simpa using c2)]; rfl
    · try simp only [bb, toN] at c2
      refine gk_region env false [] [0, 1, 4, 7, 8] ?_ -- 6
      refine gk_round (i + 1) ?_ (hp := by simp [AllP]; rfl)
      refine ⟨by omega, he.trans ?_⟩
      rw [findI, if_pos (by omega), if_neg (by simpa using c2)]
  · try simp only [toN] at c1
    refine gk_region env false [] [4] ?_ -- 7
    refine gk_ret env ?_
    rw [he, findI, if_neg (by omega)]; rfl

theorem indexQ_ok (l : List ByteArray) (hl : l.length ≤ 9223372036854775807) (a b t : ByteArray) : GC Tryz.prog 153 [rowS l, .fn (.func 208) [] [.ep [.sc (.string a), .sc (.string b), .sc (.string t)]]] (iG (findI (fun x => !decide (x = t)) l 0)) := by
  refine gc_of_gk Tryz.func153 ?_
  refine gk_region env false [] [0, 1, 4] ?_ -- 0
  refine gk_region env false [] [0, 1, 4, 7, 8] ?_ -- 1
  refine gk_loop (α := Nat) (fun i => i ≤ l.length ∧ findI (fun x => !decide (x = t)) l 0 = findI (fun x => !decide (x = t)) l i) (fun i => [(8, iG i)]) (fun _ => []) (fun i => l.length - i) 0 ⟨by omega, rfl⟩ ?_ (hp := by simp [AllP]; rfl) -- loop 2
  rintro i ⟨hi, he⟩
  refine gk_region env false [] [0, 1, 4, 7, 8, 9] ?_ -- 2
  refine gk_ifd (fun c1 => ?_) (fun c1 => ?_)
  · try simp only [toN] at c1
    refine gk_region env false [] [0, 1, 4, 5, 7, 8] ?_ -- 3
    refine gk_region env false [.call (reads1_ok (l.getD i default) a b t)] [0, 1, 4, 5, 7, 8, 16] ?_ -- 4
    refine gk_if (fun c2 => ?_) (fun c2 => ?_)
    · try simp only [bb, toN] at c2
      refine gk_region env false [] [0, 1, 4, 7, 8] ?_ -- 5
      refine gk_ret env ?_
      rw [he, findI, if_pos (by omega), if_pos (by simpa using c2)]; rfl
    · try simp only [bb, toN] at c2
      refine gk_region env false [] [0, 1, 4, 7, 8] ?_ -- 6
      refine gk_round (i + 1) ?_ (hp := by simp [AllP]; rfl)
      refine ⟨by omega, he.trans ?_⟩
      rw [findI, if_pos (by omega), if_neg (by simpa using c2)]
  · try simp only [toN] at c1
    refine gk_region env false [] [4] ?_ -- 7
    refine gk_ret env ?_
    rw [he, findI, if_neg (by omega)]; rfl

theorem indexA_ok (l : List ByteArray) (hl : l.length ≤ 9223372036854775807) (m : List ByteArray) (hm : l.length ≠ 0 → 0 < m.length) : GM Tryz.prog 153 [rowS l, .fn (.func 217) [] [.ptr 0 0 0 0]] [.box [rowS m]] (iG (findI (fun x => !decide (x = m.getD 0 default)) l 0)) [some (.box [rowS m])] := by
  refine gm_of_gk Tryz.func153 ?_
  refine gk_region env false [] [0, 1, 4] ?_ -- 0
  refine gk_region env false [] [0, 1, 4, 7, 8] ?_ -- 1
  refine gk_loop (α := Nat) (fun i => i ≤ l.length ∧ findI (fun x => !decide (x = m.getD 0 default)) l 0 = findI (fun x => !decide (x = m.getD 0 default)) l i) (fun i => [(8, iG i)]) (fun _ => []) (fun i => l.length - i) 0 ⟨by omega, rfl⟩ ?_ (hp := by simp [AllP]; rfl) -- loop 2
  rintro i ⟨hi, he⟩
  refine gk_region env false [] [0, 1, 4, 7, 8, 9] ?_ -- 2
  refine gk_ifd (fun c1 => ?_) (fun c1 => ?_)
  · try simp only [toN] at c1
    refine gk_region env false [] [0, 1, 4, 5, 7, 8] ?_ -- 3
    refine gk_region env false [.callm [0] (agrees1_ok (l.getD i default) m (hm (by omega)))] [0, 1, 4, 5, 7, 8, 16] ?_ -- 4
    refine gk_if (fun c2 => ?_) (fun c2 => ?_)
    · try simp only [bb, toN] at c2
      refine gk_region env false [] [0, 1, 4, 7, 8] ?_ -- 5
      refine gk_retM env [iG (findI (fun x => !decide (x = m.getD 0 default)) l 0)] (hp := ?_)
      simp only [AllP]
      rw [he, findI, if_pos (by omega), if_pos (by simpa using c2)]
      simp
    · try simp only [bb, toN] at c2
      refine gk_region env false [] [0, 1, 4, 7, 8] ?_ -- 6
      refine gk_round (i + 1) ?_ (hp := by simp [AllP]; rfl)
      refine ⟨by omega, he.trans ?_⟩
      rw [findI, if_pos (by omega), if_neg (by simpa using c2)]
  · try simp only [toN] at c1
    refine gk_region env false [] [4] ?_ -- 7
    refine gk_retM env [iG (findI (fun x => !decide (x = m.getD 0 default)) l 0)] (hp := ?_)
    simp only [AllP]
    rw [he, findI, if_neg (by omega)]
    simp

theorem hasK_ok (l : List Pn) (hl : l.length ≤ 9223372036854775807) (s : ByteArray) : GC Tryz.prog 200 [rowP l, .fn (.func 201) [] [.ep [.sc (.string s)]]] (bG (l.any (fun p => decide (p.kind = s)))) := by
  refine gc_of_gk Tryz.func200 ?_
  refine gk_region env false [] [0, 1, 4] ?_ -- 0
  refine gk_region env false [.call (indexK_ok l hl s)] [4] ?_ -- 1
  refine gk_ret env ?_
  rw [← findI_any]; rfl

theorem hasR_ok (l : List ByteArray) (hl : l.length ≤ 9223372036854775807) (a b t : ByteArray) : GC Tryz.prog 141 [rowS l, .fn (.func 208) [] [.ep [.sc (.string a), .sc (.string b), .sc (.string t)]]] (bG (l.any (fun x => !decide (x = t)))) := by
  refine gc_of_gk Tryz.func141 ?_
  refine gk_region env false [] [0, 1, 4] ?_ -- 0
  refine gk_region env false [.call (indexQ_ok l hl a b t)] [4] ?_ -- 1
  refine gk_ret env ?_
  rw [← findI_any]; rfl

theorem hasA_ok (l : List ByteArray) (hl : l.length ≤ 9223372036854775807) (m : List ByteArray) (hm : l.length ≠ 0 → 0 < m.length) : GM Tryz.prog 141 [rowS l, .fn (.func 217) [] [.ptr 0 0 0 0]] [.box [rowS m]] (bG (l.any fun x => !decide (x = m.getD 0 default))) [some (.box [rowS m])] := by
  refine gm_of_gk Tryz.func141 ?_
  refine gk_region env false [] [0, 1, 4] ?_ -- 0
  refine gk_region env false [.callm [0] (indexA_ok l hl m hm)] [4] ?_ -- 1
  refine gk_retM env [bG (l.any fun x => !decide (x = m.getD 0 default))] (hp := ?_)
  simp only [AllP]
  rw [← findI_any]
  simp

def kindV (l : List Pn) (s : ByteArray) : Bool := l.any fun p => decide (p.kind = s)

theorem kind_ok (l : List Pn) (hl : l.length ≤ 9223372036854775807) (s : ByteArray) : GC Tryz.prog 199 [rowP l, sG s] (bG (kindV l s)) := by
  refine gc_of_gk Tryz.func199 ?_
  refine gk_region env false [] [0, 3, 4] ?_ -- 0
  refine gk_box 0 ?_
  refine gk_region env false [.call (hasK_ok l hl s)] [4] ?_ -- 1
  refine gk_ret env ?_
  rfl

/-- what a field of the documents of a kind reads, from document i on; none: one lacks it -/
def atF (p : Pn) (f : ByteArray) : Int := findI (fun x => decide (x = f)) p.names 0
def lacks (p : Pn) (f : ByteArray) : Bool := decide (atF p f < 0) || decide ((p.texts.length : Int) ≤ atF p f)
def fldF (l : List Pn) (k f : ByteArray) (i : Nat) (acc : List ByteArray) : Option (List ByteArray) :=
  if i < l.length then
    if (l.getD i default).kind = k then if lacks (l.getD i default) f then none else fldF l k f (i + 1) (acc ++ [(l.getD i default).texts.getD (atF (l.getD i default) f).toNat default])
    else fldF l k f (i + 1) acc
  else some acc
termination_by l.length - i
def fldV (l : List Pn) (k f : ByteArray) : List ByteArray := (fldF l k f 0 []).getD []
def fldOk (l : List Pn) (k f : ByteArray) : Bool := (fldF l k f 0 []).isSome
def Small (l : List Pn) : Prop := l.length ≤ 1000 ∧ ∀ p, p ∈ l → p.names.length ≤ 1000 ∧ p.texts.length ≤ 1000
theorem Small.at_ {l : List Pn} (h : Small l) {i : Nat} (hi : i < l.length) : (l.getD i default).names.length ≤ 1000 ∧ (l.getD i default).texts.length ≤ 1000 := by
  rw [List.getD_eq_getElem?_getD, List.getElem?_eq_getElem hi]
  exact h.2 _ (List.getElem_mem hi)
theorem atF_range (p : Pn) (f : ByteArray) : -1 ≤ atF p f ∧ atF p f < p.names.length := by
  rcases findI_range (fun x => decide (x = f)) p.names _ 0 rfl with ⟨h1, _⟩ | ⟨j, h1, h2, h3, _⟩
  · unfold atF; rw [h1]; omega
  · unfold atF; rw [h3]; omega

theorem fields_ok (l : List Pn) (hs : Small l) (k f : ByteArray) : GC Tryz.prog 207 [rowP l, spG k f] (.tup [rowS (fldV l k f), bG (fldOk l k f)]) := by
  have hl1 := hs.1
  refine gc_of_gk Tryz.func207 ?_
  refine gk_region env false [] [0, 3, 4, 5] ?_ -- 0
  refine gk_region env false [] [0, 3, 4, 5, 6] ?_ -- 1
  refine gk_nil 6 9 1 (default : ByteArray) strC (by rfl) (by rfl) ?_
  refine gk_region env false [] [3, 4, 5, 6, 10, 11, 12] ?_ -- 2
  refine gk_loop (α := Nat × List ByteArray) (fun x => x.1 ≤ l.length ∧ x.2.length ≤ x.1 ∧ fldF l k f 0 [] = fldF l k f x.1 x.2) (fun x => [(12, iG x.1), (6, .sl 1 1 0 x.2.length)]) (fun x => [(1, some (.row 9 1 default strC x.2 0))]) (fun x => l.length - x.1) (0, []) ⟨by simp, by simp, rfl⟩ ?_ -- loop 3
  rintro ⟨i, acc⟩ ⟨hi, hj, he⟩
  dsimp only at *
  have lk : lacks (l.getD i default) f = (decide (atF (l.getD i default) f < 0) || decide (((l.getD i default).texts.length : Int) ≤ atF (l.getD i default) f)) := rfl
  have h1 := fun h : i < l.length => hs.at_ h
  have h2 := atF_range (l.getD i default) f
  refine gk_region env false [] [3, 4, 5, 6, 10, 11, 12, 13] ?_ -- 3
  refine gk_ifd (fun c1 => ?_) (fun c1 => ?_)
  · try simp only [toN] at c1
    refine gk_region env false [] [3, 4, 5, 6, 8, 10, 11, 12] ?_ -- 4
    refine gk_region env false [] [3, 4, 5, 6, 8, 10, 11, 12, 20] ?_ -- 5
    refine gk_ifn (fun c2 => ?_) (fun c2 => ?_)
    · try simp only [toN] at c2
      refine gk_region env false [] [3, 4, 5, 6, 10, 11, 12] ?_ -- 10
      refine gk_round ((i + 1, acc)) ?_
      refine ⟨by simp only; omega, by simp only; omega, he.trans ?_⟩
      rw [fldF, if_pos (by omega), if_neg c2]
    · try simp only [toN] at c2
      refine gk_region env false [.call (indexS_ok (l.getD i default).names (by have := h1 (by omega); omega) f)] [3, 4, 5, 6, 8, 9, 10, 11, 12] ?_ -- 6
      refine gk_region env false [] [3, 4, 5, 6, 8, 9, 10, 11, 12, 34] ?_ -- 7
      refine gk_if (fun c3 => ?_) (fun c3 => ?_)
      · try simp only [bb, toN] at c3
        refine gk_region env false [] [3, 4, 5, 6, 8, 9, 10, 11, 12] ?_ -- 8
        refine gk_retE env ?_
        have e : fldF l k f 0 [] = none := he.trans (by rw [fldF, if_pos (by omega), if_pos c2, if_pos (by rw [lk]; simp only [Bool.or_eq_true, decide_eq_true_eq]; simp only [atF]; exact c3)])
        have e1 : fldV l k f = [] := by simp [fldV, e]
        have e2 : fldOk l k f = false := by simp [fldOk, e]
        rw [e1, e2]
        exact Ent.tup ⟨Ent.nil, Ent.refl _, trivial⟩
      · try simp only [bb, toN] at c3
        refine gk_region env false [.el default strC [(l.getD i default).texts.getD (atF (l.getD i default) f).toNat default], .el default strC (acc ++ [(l.getD i default).texts.getD (atF (l.getD i default) f).toNat default])] [3, 4, 5, 6, 10, 11, 12] ?_ (hp := (by simp only [AllP, Int.toNat_natCast]; repeat' first | exact trivial | exact EntL.refl _ | exact BEntL.refl _ | exact rfl | omega | apply And.intro | intro _ | (simp [rowL]; done) | (simp only [List.length_append, List.length_cons, List.length_nil]; omega) | (simp [*]; done))) -- 9
        refine gk_region env false [] [3, 4, 5, 6, 10, 11, 12] ?_ -- 10
        refine gk_round ((i + 1, acc ++ [(l.getD i default).texts.getD (atF (l.getD i default) f).toNat default])) ?_
        refine ⟨by simp only; omega, by simp only [List.length_append, List.length_cons, List.length_nil]; omega, he.trans ?_⟩
        rw [fldF, if_pos (by omega), if_pos c2, if_neg (by rw [lk]; simp only [Bool.or_eq_true, decide_eq_true_eq]; simp only [atF]; omega)]
  · try simp only [toN] at c1
    refine gk_region env false [] [4, 5] ?_ -- 11
    refine gk_ret env ?_
    have e : fldF l k f 0 [] = some acc := he.trans (by rw [fldF, if_neg (by omega)])
    simp [fldV, fldOk, e, tupG]

theorem fields_own (l : List Pn) (hs : Small l) (k f : ByteArray) : GM Tryz.prog 207 [rowP l, spG k f] [] (.tup [.sl 0 1 0 (fldV l k f).length, bG (fldOk l k f)]) [some (.row 9 1 default strC (fldV l k f) 0)] := by
  have hl1 := hs.1
  refine gm_of_gk Tryz.func207 ?_
  refine gk_region env false [] [0, 3, 4, 5] ?_ -- 0
  refine gk_region env false [] [0, 3, 4, 5, 6] ?_ -- 1
  refine gk_nil 6 9 1 (default : ByteArray) strC (by rfl) (by rfl) ?_
  refine gk_region env false [] [3, 4, 5, 6, 10, 11, 12] ?_ -- 2
  refine gk_loop (α := Nat × List ByteArray) (fun x => x.1 ≤ l.length ∧ x.2.length ≤ x.1 ∧ fldF l k f 0 [] = fldF l k f x.1 x.2) (fun x => [(12, iG x.1), (6, .sl 1 1 0 x.2.length)]) (fun x => [(1, some (.row 9 1 default strC x.2 0))]) (fun x => l.length - x.1) (0, []) ⟨by simp, by simp, rfl⟩ ?_ -- loop 3
  rintro ⟨i, acc⟩ ⟨hi, hj, he⟩
  dsimp only at *
  have lk : lacks (l.getD i default) f = (decide (atF (l.getD i default) f < 0) || decide (((l.getD i default).texts.length : Int) ≤ atF (l.getD i default) f)) := rfl
  have h1 := fun h : i < l.length => hs.at_ h
  have h2 := atF_range (l.getD i default) f
  refine gk_region env false [] [3, 4, 5, 6, 10, 11, 12, 13] ?_ -- 3
  refine gk_ifd (fun c1 => ?_) (fun c1 => ?_)
  · try simp only [toN] at c1
    refine gk_region env false [] [3, 4, 5, 6, 8, 10, 11, 12] ?_ -- 4
    refine gk_region env false [] [3, 4, 5, 6, 8, 10, 11, 12, 20] ?_ -- 5
    refine gk_ifn (fun c2 => ?_) (fun c2 => ?_)
    · try simp only [toN] at c2
      refine gk_region env false [] [3, 4, 5, 6, 10, 11, 12] ?_ -- 10
      refine gk_round ((i + 1, acc)) ?_
      refine ⟨by simp only; omega, by simp only; omega, he.trans ?_⟩
      rw [fldF, if_pos (by omega), if_neg c2]
    · try simp only [toN] at c2
      refine gk_region env false [.call (indexS_ok (l.getD i default).names (by have := h1 (by omega); omega) f)] [3, 4, 5, 6, 8, 9, 10, 11, 12] ?_ -- 6
      refine gk_region env false [] [3, 4, 5, 6, 8, 9, 10, 11, 12, 34] ?_ -- 7
      refine gk_if (fun c3 => ?_) (fun c3 => ?_)
      · try simp only [bb, toN] at c3
        refine gk_region env false [] [3, 4, 5, 6, 8, 9, 10, 11, 12] ?_ -- 8
        refine gk_retMn env 4 9 1 (default : ByteArray) strC [.sl 0 1 0 (fldV l k f).length, bG (fldOk l k f)] (hp := ?_)
        have e : fldF l k f 0 [] = none := he.trans (by rw [fldF, if_pos (by omega), if_pos c2, if_pos (by rw [lk]; simp only [Bool.or_eq_true, decide_eq_true_eq]; simp only [atF]; exact c3)])
        simp [AllP, fldV, fldOk, e]
      · try simp only [bb, toN] at c3
        refine gk_region env false [.el default strC [(l.getD i default).texts.getD (atF (l.getD i default) f).toNat default], .el default strC (acc ++ [(l.getD i default).texts.getD (atF (l.getD i default) f).toNat default])] [3, 4, 5, 6, 10, 11, 12] ?_ (hp := (by simp only [AllP, Int.toNat_natCast]; repeat' first | exact trivial | exact EntL.refl _ | exact BEntL.refl _ | exact rfl | omega | apply And.intro | intro _ | (simp [rowL]; done) | (simp only [List.length_append, List.length_cons, List.length_nil]; omega) | (simp [*]; done))) -- 9
        refine gk_region env false [] [3, 4, 5, 6, 10, 11, 12] ?_ -- 10
        refine gk_round ((i + 1, acc ++ [(l.getD i default).texts.getD (atF (l.getD i default) f).toNat default])) ?_
        refine ⟨by simp only; omega, by simp only [List.length_append, List.length_cons, List.length_nil]; omega, he.trans ?_⟩
        rw [fldF, if_pos (by omega), if_pos c2, if_neg (by rw [lk]; simp only [Bool.or_eq_true, decide_eq_true_eq]; simp only [atF]; omega)]
  · try simp only [toN] at c1
    refine gk_region env false [] [4, 5] ?_ -- 11
    refine gk_retM env [.sl 0 1 0 (fldV l k f).length, bG (fldOk l k f)] (hp := ?_)
    have e : fldF l k f 0 [] = some acc := he.trans (by rw [fldF, if_neg (by omega)])
    simp [AllP, fldV, fldOk, e]
end Go.Gh

namespace Go.Gh
open Go Go.Proofs
set_option maxRecDepth 1000000
set_option maxHeartbeats 2000000
set_option linter.unusedSimpArgs false
set_option linter.unusedVariables false
open Go.RowKit

theorem clause_need (d : Dm) (h : d.op = 0) : GC Tryz.prog 46 [dmG d] (.tup [.iface 136 (.agg [sG d.doc]), bG true]) := by
  refine gc_of_gk Tryz.func46 ?_
  refine gk_region env false [] [1, 2, 3] ?_ -- 0
  refine gk_region env false [] [1, 2, 3, 4] ?_ -- 1
  refine gk_region env false [] [1, 2, 3, 4, 11] ?_ -- 2
  refine gk_region env false [] [1, 2, 3, 4, 11, 12] ?_ -- 3
  refine gk_ifd (fun c1 => ?_) (fun c1 => ?_)
  · try simp only [toN] at c1
    refine gk_region env false [] [2, 3] ?_ -- 4
    refine gk_ret env ?_
    simp [tupG, h]
  · try simp only [toN] at c1
    exfalso; omega

theorem clause_is (d : Dm) (h : d.op = 1) : GC Tryz.prog 46 [dmG d] (.tup [.iface 138 (.agg [sG d.doc, sG d.field, sG d.text]), bG true]) := by
  refine gc_of_gk Tryz.func46 ?_
  refine gk_region env false [] [1, 2, 3] ?_ -- 0
  refine gk_region env false [] [1, 2, 3, 4] ?_ -- 1
  refine gk_region env false [] [1, 2, 3, 4, 11] ?_ -- 2
  refine gk_region env false [] [1, 2, 3, 4, 11, 12] ?_ -- 3
  refine gk_ifd (fun c1 => ?_) (fun c1 => ?_)
  · try simp only [toN] at c1
    exfalso; omega
  · try simp only [toN] at c1
    refine gk_region env false [] [1, 2, 3, 4, 11, 18] ?_ -- 5
    refine gk_ifd (fun c2 => ?_) (fun c2 => ?_)
    · try simp only [toN] at c2
      refine gk_region env false [] [2, 3] ?_ -- 6
      refine gk_ret env ?_
      simp [tupG, h]
    · try simp only [toN] at c2
      exfalso; omega

theorem clause_same (d : Dm) (h : d.op = 3) : GC Tryz.prog 46 [dmG d] (.tup [.iface 140 (.agg [sG d.doc, sG d.field, sG d.other, sG d.second]), bG true]) := by
  refine gc_of_gk Tryz.func46 ?_
  refine gk_region env false [] [1, 2, 3] ?_ -- 0
  refine gk_region env false [] [1, 2, 3, 4] ?_ -- 1
  refine gk_region env false [] [1, 2, 3, 4, 11] ?_ -- 2
  refine gk_region env false [] [1, 2, 3, 4, 11, 12] ?_ -- 3
  refine gk_ifd (fun c1 => ?_) (fun c1 => ?_)
  · try simp only [toN] at c1
    exfalso; omega
  · try simp only [toN] at c1
    refine gk_region env false [] [1, 2, 3, 4, 11, 18] ?_ -- 5
    refine gk_ifd (fun c2 => ?_) (fun c2 => ?_)
    · try simp only [toN] at c2
      exfalso; omega
    · try simp only [toN] at c2
      refine gk_region env false [] [1, 2, 3, 4, 11, 25] ?_ -- 7
      refine gk_ifd (fun c3 => ?_) (fun c3 => ?_)
      · try simp only [toN] at c3
        refine gk_region env false [] [2, 3] ?_ -- 8
        refine gk_ret env ?_
        simp [tupG, h]
      · try simp only [toN] at c3
        exfalso; omega

theorem clause_within (d : Dm) (h : d.op = 2) : GC Tryz.prog 46 [dmG d] (.tup [.iface 142 (.agg [sG d.doc, sG d.field, iG d.lo, iG d.hi, bG false]), bG true]) := by
  refine gc_of_gk Tryz.func46 ?_
  refine gk_region env false [] [1, 2, 3] ?_ -- 0
  refine gk_region env false [] [1, 2, 3, 4] ?_ -- 1
  refine gk_region env false [] [1, 2, 3, 4, 11] ?_ -- 2
  refine gk_region env false [] [1, 2, 3, 4, 11, 12] ?_ -- 3
  refine gk_ifd (fun c1 => ?_) (fun c1 => ?_)
  · try simp only [toN] at c1
    exfalso; omega
  · try simp only [toN] at c1
    refine gk_region env false [] [1, 2, 3, 4, 11, 18] ?_ -- 5
    refine gk_ifd (fun c2 => ?_) (fun c2 => ?_)
    · try simp only [toN] at c2
      exfalso; omega
    · try simp only [toN] at c2
      refine gk_region env false [] [1, 2, 3, 4, 11, 25] ?_ -- 7
      refine gk_ifd (fun c3 => ?_) (fun c3 => ?_)
      · try simp only [toN] at c3
        exfalso; omega
      · try simp only [toN] at c3
        refine gk_region env false [] [1, 2, 3, 4, 11, 35] ?_ -- 9
        refine gk_ifd (fun c4 => ?_) (fun c4 => ?_)
        · try simp only [toN] at c4
          refine gk_ifd (fun c5 => ?_) (fun c5 => ?_)
          · try simp only [toN] at c5
            refine gk_region env false [] [2, 3] ?_ -- 11
            refine gk_ret env ?_
            simp [tupG, h]
          · try simp only [toN] at c5
            exfalso; omega
        · try simp only [toN] at c4
          exfalso; omega

theorem clause_sum (d : Dm) (h : d.op = 4) : GC Tryz.prog 46 [dmG d] (.tup [.iface 142 (.agg [sG d.doc, sG d.field, iG d.lo, iG d.hi, bG true]), bG true]) := by
  refine gc_of_gk Tryz.func46 ?_
  refine gk_region env false [] [1, 2, 3] ?_ -- 0
  refine gk_region env false [] [1, 2, 3, 4] ?_ -- 1
  refine gk_region env false [] [1, 2, 3, 4, 11] ?_ -- 2
  refine gk_region env false [] [1, 2, 3, 4, 11, 12] ?_ -- 3
  refine gk_ifd (fun c1 => ?_) (fun c1 => ?_)
  · try simp only [toN] at c1
    exfalso; omega
  · try simp only [toN] at c1
    refine gk_region env false [] [1, 2, 3, 4, 11, 18] ?_ -- 5
    refine gk_ifd (fun c2 => ?_) (fun c2 => ?_)
    · try simp only [toN] at c2
      exfalso; omega
    · try simp only [toN] at c2
      refine gk_region env false [] [1, 2, 3, 4, 11, 25] ?_ -- 7
      refine gk_ifd (fun c3 => ?_) (fun c3 => ?_)
      · try simp only [toN] at c3
        exfalso; omega
      · try simp only [toN] at c3
        refine gk_region env false [] [1, 2, 3, 4, 11, 35] ?_ -- 9
        refine gk_ifd (fun c4 => ?_) (fun c4 => ?_)
        · try simp only [toN] at c4
          refine gk_ifd (fun c5 => ?_) (fun c5 => ?_)
          · try simp only [toN] at c5
            refine gk_region env false [] [2, 3] ?_ -- 11
            refine gk_ret env ?_
            simp [tupG, h]
          · try simp only [toN] at c5
            exfalso; omega
        · try simp only [toN] at c4
          refine gk_region env false [] [1, 2, 3, 4, 35] ?_ -- 10
          refine gk_ifd (fun c6 => ?_) (fun c6 => ?_)
          · try simp only [toN] at c6
            refine gk_region env false [] [2, 3] ?_ -- 11
            refine gk_ret env ?_
            simp [tupG, h]
          · try simp only [toN] at c6
            exfalso; omega

theorem clause_none (d : Dm) (h : d.op ≠ 0 ∧ d.op ≠ 1 ∧ d.op ≠ 2 ∧ d.op ≠ 3 ∧ d.op ≠ 4) : GC Tryz.prog 46 [dmG d] (.tup [.d (.sc .nilIface), bG false]) := by
  refine gc_of_gk Tryz.func46 ?_
  refine gk_region env false [] [1, 2, 3] ?_ -- 0
  refine gk_region env false [] [1, 2, 3, 4] ?_ -- 1
  refine gk_region env false [] [1, 2, 3, 4, 11] ?_ -- 2
  refine gk_region env false [] [1, 2, 3, 4, 11, 12] ?_ -- 3
  refine gk_ifd (fun c1 => ?_) (fun c1 => ?_)
  · try simp only [toN] at c1
    exfalso; omega
  · try simp only [toN] at c1
    refine gk_region env false [] [1, 2, 3, 4, 11, 18] ?_ -- 5
    refine gk_ifd (fun c2 => ?_) (fun c2 => ?_)
    · try simp only [toN] at c2
      exfalso; omega
    · try simp only [toN] at c2
      refine gk_region env false [] [1, 2, 3, 4, 11, 25] ?_ -- 7
      refine gk_ifd (fun c3 => ?_) (fun c3 => ?_)
      · try simp only [toN] at c3
        exfalso; omega
      · try simp only [toN] at c3
        refine gk_region env false [] [1, 2, 3, 4, 11, 35] ?_ -- 9
        refine gk_ifd (fun c4 => ?_) (fun c4 => ?_)
        · try simp only [toN] at c4
          refine gk_ifd (fun c5 => ?_) (fun c5 => ?_)
          · try simp only [toN] at c5
            exfalso; omega
          · try simp only [toN] at c5
            refine gk_region env false [] [2, 3] ?_ -- 12
            refine gk_ret env ?_
            simp [tupG, h]
        · try simp only [toN] at c4
          refine gk_region env false [] [1, 2, 3, 4, 35] ?_ -- 10
          refine gk_ifd (fun c6 => ?_) (fun c6 => ?_)
          · try simp only [toN] at c6
            exfalso; omega
          · try simp only [toN] at c6
            refine gk_region env false [] [2, 3] ?_ -- 12
            refine gk_ret env ?_
            simp [tupG, h]

theorem ops (n : Int) : n = 0 ∨ n = 1 ∨ n = 2 ∨ n = 3 ∨ n = 4 ∨ (n ≠ 0 ∧ n ≠ 1 ∧ n ≠ 2 ∧ n ≠ 3 ∧ n ≠ 4) := by omega
/-- texts are short -/
def Short (l : List Pn) : Prop := Small l ∧ ∀ p, p ∈ l → ∀ t, t ∈ p.texts → t.size ≤ 1000
theorem fldF_mem {l : List Pn} (hs : Short l) (k f : ByteArray) : ∀ (n i : Nat) (acc r : List ByteArray), l.length - i = n → fldF l k f i acc = some r → (∀ x, x ∈ acc → x.size ≤ 1000) → (∀ x, x ∈ r → x.size ≤ 1000) ∧ acc.length ≤ r.length ∧ r.length ≤ acc.length + n ∧ ((∃ j, i ≤ j ∧ j < l.length ∧ (l.getD j default).kind = k) → acc.length < r.length) := by
  intro n
  induction n with
  | zero =>
    intro i acc r h1 h2 h3
    rw [fldF, if_neg (by omega)] at h2
    cases h2
    exact ⟨h3, Nat.le_refl _, by omega, fun ⟨j, a, b, _⟩ => by omega⟩
  | succ n ih =>
    intro i acc r h1 h2 h3
    rw [fldF, if_pos (by omega)] at h2
    split at h2
    · split at h2
      · cases h2
      · rename_i hk hl
        obtain ⟨a1, a2, a3, a4⟩ := ih (i + 1) _ r (by omega) h2 (fun x hx => by
          rcases List.mem_append.1 hx with hx | hx
          · exact h3 x hx
          · rw [List.mem_singleton.1 hx, List.getD_eq_getElem?_getD]
            cases hg : (l.getD i default).texts[(atF (l.getD i default) f).toNat]? with
            | none => show (default : ByteArray).size ≤ _; decide
            | some t =>
              have hm : l.getD i default ∈ l := by rw [List.getD_eq_getElem?_getD, List.getElem?_eq_getElem (by omega)]; exact List.getElem_mem _
              exact hs.2 _ hm t (List.mem_of_getElem? hg))
        rw [List.length_append, List.length_singleton] at a2 a3 a4
        exact ⟨a1, by omega, by omega, fun _ => by omega⟩
    · rename_i hk
      obtain ⟨a1, a2, a3, a4⟩ := ih (i + 1) acc r (by omega) h2 h3
      refine ⟨a1, a2, by omega, fun ⟨j, b1, b2, b3⟩ => a4 ⟨j, ?_, b2, b3⟩⟩
      by_cases e : j = i
      · subst e; exact absurd b3 hk
      · omega
theorem fldV_mem {l : List Pn} (hs : Short l) (k f : ByteArray) : (∀ x, x ∈ fldV l k f → x.size ≤ 1000) ∧ (fldV l k f).length ≤ 1000 ∧ (fldOk l k f = true → kindV l k = true → 0 < (fldV l k f).length) := by
  unfold fldV fldOk
  cases h : fldF l k f 0 [] with
  | none => exact ⟨fun x hx => by simp at hx, by simp, fun h => by simp at h⟩
  | some r =>
    obtain ⟨a1, a2, a3, a4⟩ := fldF_mem hs k f _ 0 [] r rfl h (fun x hx => by simp at hx)
    have := hs.1.1
    refine ⟨a1, by simp at a3 ⊢; omega, fun _ hk => ?_⟩
    obtain ⟨p, hp, hpk⟩ := List.any_eq_true.1 hk
    obtain ⟨j, hj⟩ := List.getElem?_of_mem hp
    have h4 := a4 ⟨j, Nat.zero_le _, (List.getElem?_eq_some_iff.1 hj).1, by rw [List.getD_eq_getElem?_getD, hj]; simpa using hpk⟩
    simpa using h4
theorem Short.sz {l : List Pn} (hs : Short l) (k f : ByteArray) (i : Nat) : ((fldV l k f).getD i default).size ≤ 1000 := by
  rw [List.getD_eq_getElem?_getD]
  cases hg : (fldV l k f)[i]? with
  | none => show (default : ByteArray).size ≤ _; decide
  | some t => exact (fldV_mem hs k f).1 t (List.mem_of_getElem? hg)
def isV (l : List Pn) (k f t : ByteArray) : Bool := fldOk l k f && !(fldV l k f).any fun x => !decide (x = t)
def sameV (l : List Pn) (k f k2 f2 : ByteArray) : Bool :=
  if (!kindV l k || !kindV l k2) = true then true else fldOk l k f && (fldOk l k2 f2 && !(fldV l k f ++ fldV l k2 f2).any fun x => !decide (x = (fldV l k f).getD 0 default))
/-- the sum of the numbers; none: one is no number, or out of bounds -/
def offLim (t : ByteArray) (lo hi : Int) (sm : Bool) : Bool := !numOk t || (!sm && (decide (numV t < lo) || decide (hi < numV t)))
def limF (l : List ByteArray) (lo hi : Int) (sm : Bool) (i : Nat) (acc : Int) : Option Int :=
  if i < l.length then if offLim (l.getD i default) lo hi sm then none else limF l lo hi sm (i + 1) (acc + numV (l.getD i default)) else some acc
termination_by l.length - i
def limV (l : List Pn) (k f : ByteArray) (lo hi : Int) (sm : Bool) : Bool :=
  match limF (fldV l k f) lo hi sm 0 0 with
  | none => false
  | some a => fldOk l k f && (!sm || (decide (lo ≤ a) && decide (a ≤ hi)))

theorem needs_met (k : ByteArray) (l : List Pn) (hs : Short l) : GC Tryz.prog 196 [.agg [sG k], rowP l] (bG (kindV l k)) := by
  have hl := hs.1.1
  refine gc_of_gk Tryz.func196 ?_
  refine gk_region env false [] [1, 2, 4] ?_ -- 0
  refine gk_region env false [.call (kind_ok l (by omega) k)] [4] ?_ -- 1
  refine gk_ret env ?_
  rfl

theorem reads_met (k f t : ByteArray) (l : List Pn) (hs : Short l) : GC Tryz.prog 204 [.agg [sG k, sG f, sG t], rowP l] (bG (isV l k f t)) := by
  have hl := (fldV_mem hs k f).2.1
  refine gc_of_gk Tryz.func204 ?_
  refine gk_region env false [] [1, 2, 4] ?_ -- 0
  refine gk_region env false [.call (fields_ok l hs.1 k f)] [2, 4, 5, 6] ?_ -- 1
  refine gk_box 0 ?_
  refine gk_region env false [.call (hasR_ok (fldV l k f) (by omega) k f t)] [4] ?_ -- 2
  refine gk_ret env ?_
  rw [isV]
  cases fldOk l k f <;> rfl

theorem agrees_met (k f k2 f2 : ByteArray) (l : List Pn) (hs : Short l) : GC Tryz.prog 214 [.agg [sG k, sG f, sG k2, sG f2], rowP l] (bG (sameV l k f k2 f2)) := by
  have hl := hs.1.1
  obtain ⟨_, b1, d1⟩ := fldV_mem hs k f
  obtain ⟨_, b2, d2⟩ := fldV_mem hs k2 f2
  have hf1 := fields_own l hs.1 k f
  have hf2 := fields_ok l hs.1 k2 f2
  obtain ⟨R, hR⟩ : ∃ R, R = sameV l k f k2 f2 := ⟨_, rfl⟩
  rw [← hR]
  unfold sameV at hR
  obtain ⟨O1, hO1⟩ : ∃ R, R = fldOk l k f := ⟨_, rfl⟩
  obtain ⟨O2, hO2⟩ : ∃ R, R = fldOk l k2 f2 := ⟨_, rfl⟩
  rw [← hO1] at hf1 hR d1
  rw [← hO2] at hf2 hR d2
  refine gc_of_gk Tryz.func214 ?_
  refine gk_region env false [] [1, 2, 4] ?_ -- 0
  refine gk_region env false [.call (kind_ok l (by omega) k), .call (kind_ok l (by omega) k2)] [1, 2, 4, 22] ?_ -- 1
  refine gk_if (fun c1 => ?_) (fun c1 => ?_)
  · try simp only [bb, toN] at c1
    refine gk_region env false [] [1, 2, 4] ?_ -- 2
    refine gk_ret env ?_
    rw [hR, if_pos (by simpa using c1)]; rfl
  · try simp only [bb, toN] at c1
    refine gk_region env false [.callm [] hf1] [1, 2, 4, 5, 6] ?_ -- 3
    refine gk_region env false [.call hf2] [4, 5, 6, 7, 8] ?_ -- 4
    rcases O1 with _ | _ <;> rcases O2 with _ | _
    · refine gk_region env false [.no, .no, .nu] [4] ?_ (hp := (by simp [AllP])) -- 5
      refine gk_ret env ?_
      rw [hR, if_neg (by simpa using c1)]; rfl
    · refine gk_region env false [.no, .no, .nu] [4] ?_ (hp := (by simp [AllP])) -- 5
      refine gk_ret env ?_
      rw [hR, if_neg (by simpa using c1)]; rfl
    · refine gk_region env false [.no, .no, .nu] [4] ?_ (hp := (by simp [AllP])) -- 5
      refine gk_ret env ?_
      rw [hR, if_neg (by simpa using c1)]; rfl
    · refine gk_region env false [.sh 1 2, .el default strC (fldV l k f ++ fldV l k2 f2), .callm [2] (hasA_ok (fldV l k f ++ fldV l k2 f2) (by rw [List.length_append]; omega) (fldV l k f) (fun _ => d1 rfl c1.1))] [4] ?_ (hp := (by simp only [AllP, Int.toNat_natCast]; repeat' first | exact trivial | exact EntL.refl _ | exact BEntL.refl _ | exact rfl | omega | apply And.intro | intro _ | (simp [rowL]; done) | (simp only [List.length_append, List.length_cons, List.length_nil]; omega) | (simp [*]; done))) -- 5
      refine gk_ret env ?_
      rw [hR, if_neg (by simpa using c1)]; rfl

theorem limits_met (k f : ByteArray) (lo hi : Int) (sm : Bool) (l : List Pn) (hs : Short l) : GC Tryz.prog 219 [.agg [sG k, sG f, iG lo, iG hi, bG sm], rowP l] (bG (limV l k f lo hi sm)) := by
  have hl := (fldV_mem hs k f).2.1
  obtain ⟨R, hR⟩ : ∃ R, R = limV l k f lo hi sm := ⟨_, rfl⟩
  rw [← hR]
  unfold limV at hR
  refine gc_of_gk Tryz.func219 ?_
  refine gk_region env false [] [1, 2, 4] ?_ -- 0
  refine gk_region env false [.call (fields_ok l hs.1 k f)] [2, 4, 5, 6] ?_ -- 1
  refine gk_region env false [] [2, 4, 5, 6, 7] ?_ -- 2
  refine gk_region env false [] [2, 4, 6, 7, 19, 20, 21] ?_ -- 3
  refine gk_loop (α := Nat × Int) (fun x => x.1 ≤ (fldV l k f).length ∧ 0 ≤ x.2 ∧ x.2 ≤ 1099511627776 * x.1 ∧ limF (fldV l k f) lo hi sm 0 0 = limF (fldV l k f) lo hi sm x.1 x.2) (fun x => [(21, iG x.1), (7, iG x.2)]) (fun _ => []) (fun x => (fldV l k f).length - x.1) (0, 0) ⟨by simp, by simp, by simp, rfl⟩ ?_ -- loop 4
  rintro ⟨i, a⟩ ⟨hj, h0, h1, he⟩
  dsimp only at *
  have hz := hs.sz k f i
  have hr := numV_range ((fldV l k f).getD i default)
  have ho : offLim ((fldV l k f).getD i default) lo hi sm = (!numOk ((fldV l k f).getD i default) || (!sm && (decide (numV ((fldV l k f).getD i default) < lo) || decide (hi < numV ((fldV l k f).getD i default))))) := rfl
  refine gk_region env false [] [2, 4, 6, 7, 19, 20, 21, 22] ?_ -- 4
  refine gk_ifd (fun c1 => ?_) (fun c1 => ?_)
  · try simp only [toN] at c1
    refine gk_region env false [] [2, 4, 6, 7, 9, 19, 20, 21] ?_ -- 5
    refine gk_region env false [.call (number_ok ((fldV l k f).getD i default) (by omega))] [2, 4, 6, 7, 10, 11, 19, 20, 21] ?_ -- 6
    refine gk_region env false [] [2, 4, 6, 7, 10, 19, 20, 21, 48] ?_ -- 7
    refine gk_if (fun c2 => ?_) (fun c2 => ?_)
    · try simp only [bb, toN] at c2
      refine gk_region env false [] [2, 4, 6, 7, 10, 19, 20, 21] ?_ -- 8
      refine gk_ret env ?_
      rw [he, limF, if_pos (by omega), if_pos (by rw [ho]; simpa using c2)] at hR
      rw [hR]; rfl
    · try simp only [bb, toN] at c2
      refine gk_region env false [] [2, 4, 6, 7, 19, 20, 21] ?_ -- 9
      refine gk_region env false [] [2, 4, 6, 7, 19, 20, 21] ?_ -- 10
      refine gk_round ((i + 1, a + numV ((fldV l k f).getD i default))) ?_
      refine ⟨by simp only; omega, by simp only; omega, by simp only; omega, he.trans ?_⟩
      rw [limF, if_pos (by omega), if_neg (by rw [ho]; cases sm <;> simpa using c2)]
  · try simp only [toN] at c1
    refine gk_region env false [] [4] ?_ -- 11
    refine gk_ret env ?_
    rw [he, limF, if_neg (by omega)] at hR
    rw [hR]; simp [tupG]

def metV (d : Dm) (l : List Pn) : Bool :=
  if d.op = 0 then kindV l d.doc else if d.op = 1 then isV l d.doc d.field d.text else if d.op = 2 then limV l d.doc d.field d.lo d.hi false else if d.op = 3 then sameV l d.doc d.field d.other d.second
  else if d.op = 4 then limV l d.doc d.field d.lo d.hi true else false
theorem inv_met0 : Inv Tryz.prog 136 "allonge/require.met" 196 := fun x args w => by kernel_rfl
theorem inv_met1 : Inv Tryz.prog 138 "allonge/require.met" 204 := fun x args w => by kernel_rfl
theorem inv_met3 : Inv Tryz.prog 140 "allonge/require.met" 214 := fun x args w => by kernel_rfl
theorem inv_met2 : Inv Tryz.prog 142 "allonge/require.met" 219 := fun x args w => by kernel_rfl

theorem met_ok (d : Dm) (l : List Pn) (hs : Short l) : GC Tryz.prog 25 [dmG d, rowP l] (bG (metV d l)) := by
  refine gc_of_gk Tryz.func25 ?_
  refine gk_region env false [] [1, 2, 4] ?_ -- 0
  rcases ops d.op with h | h | h | h | h | h
  · refine gk_region env false [.call (clause_need d h)] [1, 4, 5, 6] ?_ -- 1
    refine gk_region env false [.inv inv_met0 (needs_met d.doc l hs)] [4] ?_ -- 2
    refine gk_ret env ?_
    simp [metV, h, tupG]
  · refine gk_region env false [.call (clause_is d h)] [1, 4, 5, 6] ?_ -- 1
    refine gk_region env false [.inv inv_met1 (reads_met d.doc d.field d.text l hs)] [4] ?_ -- 2
    refine gk_ret env ?_
    simp [metV, h, tupG]
  · refine gk_region env false [.call (clause_within d h)] [1, 4, 5, 6] ?_ -- 1
    refine gk_region env false [.inv inv_met2 (limits_met d.doc d.field d.lo d.hi false l hs)] [4] ?_ -- 2
    refine gk_ret env ?_
    simp [metV, h, tupG]
  · refine gk_region env false [.call (clause_same d h)] [1, 4, 5, 6] ?_ -- 1
    refine gk_region env false [.inv inv_met3 (agrees_met d.doc d.field d.other d.second l hs)] [4] ?_ -- 2
    refine gk_ret env ?_
    simp [metV, h, tupG]
  · refine gk_region env false [.call (clause_sum d h)] [1, 4, 5, 6] ?_ -- 1
    refine gk_region env false [.inv inv_met2 (limits_met d.doc d.field d.lo d.hi true l hs)] [4] ?_ -- 2
    refine gk_ret env ?_
    simp [metV, h, tupG]
  · refine gk_region env false [.call (clause_none d h)] [1, 4, 5, 6] ?_ -- 1
    refine gk_region env false [.no] [4] ?_ -- 2
    refine gk_ret env ?_
    simp [metV, h, tupG]
end Go.Gh

namespace Go.Gh
open Go Go.Proofs
set_option maxRecDepth 1000000
set_option maxHeartbeats 2000000
set_option linter.unusedSimpArgs false
set_option linter.unusedVariables false
open Go.RowKit

def inC (n : Int) : List D := [.sc (.int .i64 n)]
abbrev rowI (l : List Int) : G := .d (.row default inC l)
structure Pl where
  doc : Int
  field : Int
deriving DecidableEq
instance : Inhabited Pl := ⟨⟨0, 0⟩⟩
def plC (p : Pl) : List D := [.sc (.int .i64 p.doc), .sc (.int .i64 p.field)]
abbrev rowL' (l : List Pl) : G := .d (.row default plC l)
theorem ext_getD {α : Type} [Inhabited α] {a b : List α} (h : a.length = b.length) (k : ∀ j, j < a.length → a.getD j default = b.getD j default) : a = b := by
  refine List.ext_getElem h fun j h1 h2 => ?_
  have := k j h1
  simpa [List.getD_eq_getElem?_getD, h1, h2] using this
/-- which demands are not met -/
def failF (l : List Dm) (docs : List Pn) (i : Nat) (acc : List Int) : List Int :=
  if i < l.length then failF l docs (i + 1) (if metV (l.getD i default) docs then acc else acc ++ [(i : Int)]) else acc
termination_by l.length - i
def failV (l : List Dm) (docs : List Pn) : List Int := failF l docs 0 []
/-- the places at which a demand looks -/
def hitB (d : Dm) (p : Pn) (k : Nat) : Bool :=
  (decide (atF p (p.names.getD k default) = (k : Int)) && decide ((k : Int) < p.texts.length)) && ((decide (p.kind = d.doc) && decide (p.names.getD k default = d.field)) || ((decide (d.op = 3) && decide (p.kind = d.other)) && decide (p.names.getD k default = d.second)))
def lookI (d : Dm) (p : Pn) (i k : Nat) (acc : List Pl) : List Pl := if k < p.names.length then lookI d p i (k + 1) (if hitB d p k then acc ++ [⟨i, k⟩] else acc) else acc
termination_by p.names.length - k
def lookF (d : Dm) (l : List Pn) (i : Nat) (acc : List Pl) : List Pl := if i < l.length then lookF d l (i + 1) (lookI d (l.getD i default) i 0 acc) else acc
termination_by l.length - i
def lookV (d : Dm) (l : List Pn) : List Pl := if d.op ≤ 0 ∨ 5 ≤ d.op then [] else lookF d l 0 []
theorem lookI_len (d : Dm) (p : Pn) (i : Nat) : ∀ (n k : Nat) (acc : List Pl), p.names.length - k = n → acc.length ≤ (lookI d p i k acc).length ∧ (lookI d p i k acc).length ≤ acc.length + n := by
  intro n
  induction n with
  | zero => intro k acc h; rw [lookI, if_neg (by omega)]; omega
  | succ n ih =>
    intro k acc h
    rw [lookI, if_pos (by omega)]
    have := ih (k + 1) (if hitB d p k then acc ++ [⟨i, k⟩] else acc) (by omega)
    split at this <;> rename_i hh <;> simp only [hh, if_true, if_false, Bool.false_eq_true] <;> (try simp only [List.length_append, List.length_singleton] at this) <;> omega

theorem failing_ok (l : List Dm) (hl : l.length ≤ 1000) (docs : List Pn) (hs : Short docs) : GC Tryz.prog 26 [rowD l, rowP docs] (rowI (failV l docs)) := by
  refine gc_of_gk Tryz.func26 ?_
  refine gk_region env false [] [0, 1, 4] ?_ -- 0
  refine gk_region env false [] [0, 1, 4, 5] ?_ -- 1
  refine gk_nil 5 3 1 (default : Int) inC (by rfl) (by rfl) ?_
  refine gk_region env false [] [1, 4, 5, 8, 9, 10] ?_ -- 2
  refine gk_loop (α := Nat × List Int) (fun x => x.1 ≤ l.length ∧ x.2.length ≤ x.1 ∧ failF l docs 0 [] = failF l docs x.1 x.2) (fun x => [(10, iG x.1), (5, .sl 0 1 0 x.2.length)]) (fun x => [(0, some (.row 3 1 default inC x.2 0))]) (fun x => l.length - x.1) (0, []) ⟨by simp, by simp, rfl⟩ ?_ -- loop 3
  rintro ⟨i, acc⟩ ⟨hi, hj, he⟩
  dsimp only at *
  refine gk_region env false [] [1, 4, 5, 8, 9, 10, 11] ?_ -- 3
  refine gk_ifd (fun c1 => ?_) (fun c1 => ?_)
  · try simp only [toN] at c1
    refine gk_region env false [] [1, 4, 5, 6, 7, 8, 9, 10] ?_ -- 4
    refine gk_region env false [.call (met_ok (l.getD i default) docs hs)] [1, 4, 5, 6, 8, 9, 10, 18] ?_ -- 5
    refine gk_if (fun c2 => ?_) (fun c2 => ?_)
    · try simp only [bb, toN] at c2
      refine gk_region env false [.el default inC [(i : Int)], .el default inC (acc ++ [(i : Int)])] [1, 4, 5, 8, 9, 10] ?_ (hp := (by simp only [AllP, Int.toNat_natCast]; repeat' first | exact trivial | exact EntL.refl _ | exact BEntL.refl _ | exact rfl | omega | apply And.intro | intro _ | (simp [rowL]; done) | (simp only [List.length_append, List.length_cons, List.length_nil]; omega) | (simp [*]; done))) -- 6
      refine gk_region env false [] [1, 4, 5, 8, 9, 10] ?_ -- 7
      refine gk_round ((i + 1, acc ++ [(i : Int)])) ?_
      refine ⟨by simp only; omega, by simp only [List.length_append, List.length_cons, List.length_nil]; omega, he.trans ?_⟩
      rw [failF, if_pos (by omega), if_neg (by simpa using c2)]
    · try simp only [bb, toN] at c2
      refine gk_region env false [] [1, 4, 5, 8, 9, 10] ?_ -- 7
      refine gk_round ((i + 1, acc)) ?_
      refine ⟨by simp only; omega, by simp only; omega, he.trans ?_⟩
      rw [failF, if_pos (by omega), if_pos (by simpa using c2)]
  · try simp only [toN] at c1
    refine gk_region env false [] [4] ?_ -- 8
    refine gk_ret env ?_
    rw [failV, he, failF, if_neg (by omega)]; rfl



theorem pl_eq {a b : Pl} (h : a.doc = b.doc ∧ a.field = b.field) : a = b := by
  cases a; cases b
  simp only at h
  rw [h.1, h.2]
def dmVs (d : Dm) : List Value := [.int .i64 d.op, .string d.doc, .string d.field, .string d.other, .string d.second, .string d.text, .int .i64 d.lo, .int .i64 d.hi]
def dmEq (a b : Dm) : Bool := decide (a.op = b.op) && (decide (a.doc = b.doc) && (decide (a.field = b.field) && (decide (a.other = b.other) && (decide (a.second = b.second) && (decide (a.text = b.text) && (decide (a.lo = b.lo) && (decide (a.hi = b.hi) && true)))))))
theorem dmEq_eq (a b : Dm) : dmEq a b = decide (a = b) := by
  cases a; cases b
  simp [dmEq, Dm.mk.injEq]
theorem eq_demand (a b : Dm) : EqC Tryz.prog 37 (dmVs a) (dmVs b) (dmEq a b) :=
  EqC.of tab_ok rfl rfl (by kernel_rfl) (by kernel_rfl) (.int tab_ok rfl rfl rfl rfl (.str tab_ok rfl rfl rfl rfl (.str tab_ok rfl rfl rfl rfl (.str tab_ok rfl rfl rfl rfl (.str tab_ok rfl rfl rfl rfl (.str tab_ok rfl rfl rfl rfl (.int tab_ok rfl rfl rfl rfl (.int tab_ok rfl rfl rfl rfl .nil))))))))


theorem sameDemands_ok (a b : List Dm) (ha : a.length ≤ 9223372036854775807) (hb : b.length ≤ 9223372036854775807) : GC Tryz.prog 16 [rowD a, rowD b] (bG (decide (a = b))) := by
  refine gc_of_gk Tryz.func16 ?_
  refine gk_region env false [] [0, 1, 4] ?_ -- 0
  refine gk_region env false [] [0, 1, 4, 10] ?_ -- 1
  refine gk_ifn (fun c1 => ?_) (fun c1 => ?_)
  · try simp only [toN] at c1
    refine gk_region env false [] [0, 1, 4] ?_ -- 2
    refine gk_ret env ?_
    have e : ¬ a = b := fun h => c1 (by rw [h])
    simp [e, tupG]
  · try simp only [toN] at c1
    refine gk_region env false [] [0, 1, 4, 5] ?_ -- 3
    refine gk_loop (α := Nat) (fun i => i ≤ a.length ∧ ∀ j, j < i → a.getD j default = b.getD j default) (fun i => [(5, iG i)]) (fun _ => []) (fun i => a.length - i) 0 ⟨by omega, fun j h => by omega⟩ ?_ -- loop 4
    rintro i ⟨hi, he⟩
    refine gk_region env false [] [0, 1, 4, 5, 14] ?_ -- 4
    refine gk_ifd (fun c2 => ?_) (fun c2 => ?_)
    · try simp only [toN] at c2
      refine gk_region env false [.eq (eq_demand (a.getD i default) (b.getD i default))] [0, 1, 4, 5, 25] ?_ -- 6
      refine gk_if (fun c3 => ?_) (fun c3 => ?_)
      · try simp only [bb, toN] at c3
        refine gk_region env false [] [0, 1, 4, 5] ?_ -- 7
        refine gk_ret env ?_
        have e : ¬ a = b := fun h => by subst h; simp [dmEq_eq] at c3
        simp [e, tupG]
      · try simp only [bb, toN] at c3
        refine gk_region env false [] [0, 1, 4, 5] ?_ -- 5
        refine gk_round (i + 1) ?_
        refine ⟨by omega, fun j hj => ?_⟩
        by_cases e : j = i
        · subst e; rw [dmEq_eq] at c3; exact of_decide_eq_true (by simpa using c3)
        · exact he j (by omega)
    · try simp only [toN] at c2
      refine gk_region env false [] [4] ?_ -- 8
      refine gk_ret env ?_
      have e : a = b := ext_getD (by omega) fun j h => he j (by omega)
      simp [e, tupG]

/-- what Few says -/
def few33Bad (d : Dm) : Bool := ((((decide ((500 : Int) < d.text.size) || decide ((60 : Int) < d.doc.size)) || decide ((60 : Int) < d.field.size)) || decide ((60 : Int) < d.other.size)) || decide ((60 : Int) < d.second.size))
def few33F (l : List Dm) (i : Nat) : Bool := if i < l.length ∧ i < 40 then if few33Bad (l.getD i default) then false else few33F l (i + 1) else decide ((l.length : Int) ≤ 30)
termination_by l.length - i
def few33V (l : List Dm) : Bool := few33F l 0
theorem few33F_spec (l : List Dm) : ∀ (n i : Nat), l.length - i = n → few33F l i = true → l.length ≤ 30 ∧ ∀ j, i ≤ j → j < l.length → few33Bad (l.getD j default) = false := by
  intro n
  induction n with
  | zero => intro i h k; rw [few33F, if_neg (by omega)] at k; exact ⟨by have := of_decide_eq_true k; omega, fun j h1 h2 => by omega⟩
  | succ n ih =>
    intro i h k
    rw [few33F] at k
    split at k
    · split at k
      · cases k
      · rename_i hb
        obtain ⟨h1, h2⟩ := ih (i + 1) (by omega) k
        refine ⟨h1, fun j h3 h4 => ?_⟩
        by_cases e : j = i
        · subst e; simpa using hb
        · exact h2 j (by omega) h4
    · have := of_decide_eq_true k; omega
structure FewD (d : Dm) : Prop where
  text : d.text.size ≤ 500
  doc : d.doc.size ≤ 60
  field : d.field.size ≤ 60
  other : d.other.size ≤ 60
  second : d.second.size ≤ 60
theorem few33V_spec {l : List Dm} (h : few33V l = true) : l.length ≤ 30 ∧ ∀ d, d ∈ l → FewD d := by
  obtain ⟨h1, h2⟩ := few33F_spec l _ 0 rfl h
  refine ⟨h1, fun d hd => ?_⟩
  obtain ⟨j, hj⟩ := List.getElem?_of_mem hd
  have := h2 j (Nat.zero_le _) (List.getElem?_eq_some_iff.1 hj).1
  rw [List.getD_eq_getElem?_getD, hj] at this
  simp [few33Bad] at this
  obtain ⟨⟨⟨⟨a, b⟩, c⟩, e⟩, f⟩ := this
  exact ⟨by omega, by omega, by omega, by omega, by omega⟩
/-- what Small says -/
def smallT (p : Pn) (k : Nat) : Bool := if k < p.texts.length then if (100 : Int) < (p.texts.getD k default).size then false else smallT p (k + 1) else true
termination_by p.texts.length - k
def smallBad (p : Pn) : Bool := decide ((20 : Int) < p.names.length) || decide ((20 : Int) < p.texts.length)
def smallF (l : List Pn) (i : Nat) : Bool := if i < l.length ∧ i < 20 then if smallBad (l.getD i default) then false else if smallT (l.getD i default) 0 then smallF l (i + 1) else false else decide ((l.length : Int) ≤ 12)
termination_by l.length - i
def smallV (l : List Pn) : Bool := smallF l 0
theorem smallT_spec (p : Pn) : ∀ (n k : Nat), p.texts.length - k = n → smallT p k = true → ∀ j, k ≤ j → j < p.texts.length → (p.texts.getD j default).size ≤ 100 := by
  intro n
  induction n with
  | zero => intro k h _ j h1 h2; omega
  | succ n ih =>
    intro k h hk j h1 h2
    rw [smallT, if_pos (by omega)] at hk
    split at hk
    · cases hk
    · by_cases e : j = k
      · subst e; omega
      · exact ih (k + 1) (by omega) hk j (by omega) h2
theorem smallF_spec (l : List Pn) : ∀ (n i : Nat), l.length - i = n → smallF l i = true → l.length ≤ 12 ∧ ∀ j, i ≤ j → j < l.length → smallBad (l.getD j default) = false ∧ smallT (l.getD j default) 0 = true := by
  intro n
  induction n with
  | zero => intro i h k; rw [smallF, if_neg (by omega)] at k; exact ⟨by have := of_decide_eq_true k; omega, fun j h1 h2 => by omega⟩
  | succ n ih =>
    intro i h k
    rw [smallF] at k
    split at k
    · split at k
      · cases k
      · rename_i hb
        split at k
        · rename_i ht
          obtain ⟨h1, h2⟩ := ih (i + 1) (by omega) k
          refine ⟨h1, fun j h3 h4 => ?_⟩
          by_cases e : j = i
          · subst e; exact ⟨by simpa using hb, ht⟩
          · exact h2 j (by omega) h4
        · cases k
    · have := of_decide_eq_true k; omega
/-- few documents, few and short texts -/
def Tiny (l : List Pn) : Prop := l.length ≤ 12 ∧ ∀ p, p ∈ l → p.names.length ≤ 20 ∧ p.texts.length ≤ 20 ∧ ∀ t, t ∈ p.texts → t.size ≤ 100
theorem smallV_spec {l : List Pn} (h : smallV l = true) : Tiny l := by
  obtain ⟨h1, h2⟩ := smallF_spec l _ 0 rfl h
  refine ⟨h1, fun p hp => ?_⟩
  obtain ⟨j, hj⟩ := List.getElem?_of_mem hp
  obtain ⟨h3, h4⟩ := h2 j (Nat.zero_le _) (List.getElem?_eq_some_iff.1 hj).1
  rw [List.getD_eq_getElem?_getD, hj] at h3 h4
  simp only [Option.getD_some] at h3 h4
  have h5 := smallT_spec p _ 0 rfl h4
  simp [smallBad] at h3
  refine ⟨by omega, by omega, fun t ht => ?_⟩
  obtain ⟨m, hm⟩ := List.getElem?_of_mem ht
  have := h5 m (Nat.zero_le _) (List.getElem?_eq_some_iff.1 hm).1
  rw [List.getD_eq_getElem?_getD, hm] at this
  exact this
theorem Tiny.short {l : List Pn} (h : Tiny l) : Short l := ⟨⟨by have := h.1; omega, fun p hp => by obtain ⟨h1, h2, _⟩ := h.2 p hp; omega⟩, fun p hp t ht => by have := (h.2 p hp).2.2 t ht; omega⟩

theorem few33_ok (l : List Dm) (hl : l.length ≤ 9223372036854775807) : GC Tryz.prog 23 [rowD l] (bG (few33V l)) := by
  refine gc_of_gk Tryz.func23 ?_
  refine gk_region env false [] [0, 2] ?_ -- 0
  refine gk_region env false [] [0, 2, 3] ?_ -- 1
  refine gk_loop (α := Nat) (fun i => i ≤ l.length ∧ i ≤ 40 ∧ few33F l 0 = few33F l i) (fun i => [(3, iG i)]) (fun _ => []) (fun i => l.length - i) 0 ⟨by omega, by omega, rfl⟩ ?_ -- loop 2
  rintro i ⟨hi, hj, he⟩
  refine gk_region env false [] [0, 2, 3, 11] ?_ -- 2
  refine gk_if (fun c1 => ?_) (fun c1 => ?_)
  · try simp only [bb, toN] at c1
    refine gk_region env false [] [0, 2, 3, 56] ?_ -- 4
    refine gk_if (fun c2 => ?_) (fun c2 => ?_)
    · try simp only [bb, toN] at c2
      refine gk_region env false [] [0, 2, 3] ?_ -- 5
      refine gk_ret env ?_
      rw [few33V, he, few33F, if_pos (by omega), if_pos (by simpa [few33Bad, or_assoc] using c2)]; rfl
    · try simp only [bb, toN] at c2
      refine gk_region env false [] [0, 2, 3] ?_ -- 3
      refine gk_round (i + 1) ?_
      refine ⟨by omega, by omega, he.trans ?_⟩
      rw [few33F, if_pos (by omega), if_neg (by simpa [few33Bad, and_assoc] using c2)]
  · try simp only [bb, toN] at c1
    refine gk_region env false [] [2] ?_ -- 6
    refine gk_ret env ?_
    rw [few33V, he, few33F, if_neg (by omega)]; rfl

theorem small_ok (l : List Pn) (hl : l.length ≤ 9223372036854775807) (ht : ∀ p, p ∈ l → p.names.length ≤ 9223372036854775807 ∧ p.texts.length ≤ 9223372036854775807) : GC Tryz.prog 24 [rowP l] (bG (smallV l)) := by
  have hat : ∀ i, i < l.length → (l.getD i default).texts.length ≤ 9223372036854775807 := fun i hi => by
    rw [List.getD_eq_getElem?_getD, List.getElem?_eq_getElem hi]
    exact (ht _ (List.getElem_mem hi)).2
  refine gc_of_gk Tryz.func24 ?_
  refine gk_region env false [] [0, 2] ?_ -- 0
  refine gk_region env false [] [0, 2, 3] ?_ -- 1
  refine gk_loop (α := Nat) (fun i => i ≤ l.length ∧ i ≤ 20 ∧ smallF l 0 = smallF l i) (fun i => [(3, iG i)]) (fun _ => []) (fun i => l.length - i) 0 ⟨by omega, by omega, rfl⟩ ?_ -- loop 2
  rintro i ⟨hi, hj, he⟩
  refine gk_region env false [] [0, 2, 3, 12] ?_ -- 2
  refine gk_if (fun c1 => ?_) (fun c1 => ?_)
  · try simp only [bb, toN] at c1
    refine gk_region env false [] [0, 2, 3, 30] ?_ -- 4
    refine gk_if (fun c2 => ?_) (fun c2 => ?_)
    · try simp only [bb, toN] at c2
      refine gk_region env false [] [0, 2, 3] ?_ -- 5
      refine gk_ret env ?_
      rw [smallV, he, smallF, if_pos (by omega), if_pos (by simpa [smallBad, or_assoc] using c2)]; rfl
    · try simp only [bb, toN] at c2
      refine gk_region env false [] [0, 2, 3, 4] ?_ -- 6
      refine gk_loop (α := Nat) (fun k => k ≤ (l.getD i default).texts.length ∧ smallT (l.getD i default) 0 = smallT (l.getD i default) k) (fun k => [(4, iG k)]) (fun _ => []) (fun k => (l.getD i default).texts.length - k) 0 ⟨by omega, rfl⟩ ?_ -- loop 7
      rintro k ⟨hk1, hk⟩
      have hat1 := hat i (by omega)
      refine gk_region env false [] [0, 2, 3, 4, 38] ?_ -- 7
      refine gk_ifd (fun c3 => ?_) (fun c3 => ?_)
      · try simp only [toN] at c3
        refine gk_region env false [] [0, 2, 3, 4, 50] ?_ -- 9
        refine gk_ifd (fun c4 => ?_) (fun c4 => ?_)
        · try simp only [toN] at c4
          refine gk_region env false [] [0, 2, 3, 4] ?_ -- 10
          refine gk_ret env ?_
          rw [smallV, he, smallF, if_pos (by omega), if_neg (by simpa [smallBad, and_assoc] using c2), if_neg (by rw [hk, smallT, if_pos (by omega), if_pos c4]; simp)]; rfl
        · try simp only [toN] at c4
          refine gk_region env false [] [0, 2, 3, 4] ?_ -- 8
          refine gk_round (k + 1) ?_
          refine ⟨by omega, hk.trans ?_⟩
          rw [smallT, if_pos (by omega), if_neg c4]
      · try simp only [toN] at c3
        refine gk_region env false [] [0, 2, 3] ?_ -- 3
        refine gk_round (i + 1) ?_
        refine ⟨by omega, by omega, he.trans ?_⟩
        rw [smallF, if_pos (by omega), if_neg (by simpa [smallBad, and_assoc] using c2), if_pos (hk.trans (by rw [smallT, if_neg (by omega)]))]
  · try simp only [bb, toN] at c1
    refine gk_region env false [] [2] ?_ -- 11
    refine gk_ret env ?_
    rw [smallV, he, smallF, if_neg (by omega)]; rfl
end Go.Gh
