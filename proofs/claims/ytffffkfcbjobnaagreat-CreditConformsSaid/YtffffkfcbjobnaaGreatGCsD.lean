/- Walks by the logic of calls, and plain laws. -/
import Derived.Test.YtffffkfcbjobnaaGreatGCsC
import Derived.Test.YtffffkfcbjobnaaGreatGScJ
import Derived.Test.YtffffkfcbjobnaaGreatGScO
namespace Go.Gh
open Go Go.Proofs
set_option maxRecDepth 1000000
set_option maxHeartbeats 2000000
set_option linter.unusedSimpArgs false
set_option linter.unusedVariables false
set_option linter.unnecessarySimpa false
set_option linter.unusedSectionVars false
variable [PowTab] [ItoaU]
open Go.RowKit

theorem rvalue_ok (s : ByteArray) (hs : s.size ≤ 9223372036854775807) : GC Tryz.prog 116 [sG s] (bG (valueOk s)) := by
  refine gc_of_gk Tryz.func116 ?_
  refine gk_region env false [] [0, 2] ?_ -- 0
  refine gk_region env false [] [0, 2, 3] ?_ -- 1
  refine gk_loop (α := Nat) (fun i => i ≤ s.size ∧ span plainB s 0 = span plainB s i) (fun i => [(3, iG i)]) (fun _ => []) (fun i => s.size - i) 0 ⟨by omega, rfl⟩ ?_ -- loop 2
  rintro i ⟨hi, he⟩
  refine gk_region env false [] [0, 2, 3, 7] ?_ -- 2
  refine gk_ifd (fun c1 => ?_) (fun c1 => ?_)
  · try simp only [toN] at c1
    refine gk_region env false [] [0, 2, 3, 19] ?_ -- 4
    refine gk_if (fun c2 => ?_) (fun c2 => ?_)
    · try simp only [bb, toN] at c2
      refine gk_region env false [] [0, 2, 3] ?_ -- 5
      refine gk_ret env ?_
      have hp : plainB (byteAt s i) = false := by
        simp only [plainB, Bool.and_eq_false_iff, decide_eq_false_iff_not]; omega
      have := span_stop (by omega) he hp
      simp [valueOk, this, tupG]
    · try simp only [bb, toN] at c2
      refine gk_region env false [] [0, 2, 3] ?_ -- 3
      refine gk_round (i + 1) ?_
      exact ⟨by omega, he.trans (by rw [span, if_pos (by omega), if_pos (by simp only [plainB, Bool.and_eq_true, decide_eq_true_eq]; omega)])⟩
  · try simp only [toN] at c1
    refine gk_region env false [] [2] ?_ -- 6
    refine gk_ret env ?_
    have hz : span plainB s 0 = s.size := by rw [he, span, if_neg (by omega)]; omega
    simp [valueOk, hz, tupG]

theorem ba_size (a b : ByteArray) : (a ++ b).size = a.size + b.size := ByteArray.size_append
def escF (s : ByteArray) (i : Nat) (acc : ByteArray) : ByteArray := if i < s.size then escF s (i + 1) ((if byteAt s i = 34 ∨ byteAt s i = 92 then acc ++ ⟨#[92]⟩ else acc) ++ s.extract i (i + 1)) else acc
termination_by s.size - i
def escR (s : ByteArray) : ByteArray := escF s 0 ⟨#[34]⟩ ++ ⟨#[34]⟩
theorem escF_size (s : ByteArray) : ∀ (k i : Nat) (acc : ByteArray), s.size - i = k → (escF s i acc).size ≤ acc.size + 2 * k := by
  intro k
  induction k with
  | zero => intro i acc h; rw [escF, if_neg (by omega)]; omega
  | succ k ih =>
    intro i acc h
    rw [escF, if_pos (by omega)]
    refine Nat.le_trans (ih (i + 1) _ (by omega)) ?_
    rw [ba_size]
    have : (s.extract i (i + 1)).size ≤ 1 := by rw [ByteArray.size_extract]; omega
    split
    · rw [ba_size]; have : (⟨#[92]⟩ : ByteArray).size = 1 := rfl; omega
    · omega
theorem escR_size (s : ByteArray) : (escR s).size ≤ 2 * s.size + 2 := by
  have := escF_size s s.size 0 ⟨#[34]⟩ (by omega)
  unfold escR
  rw [ba_size]
  have h1 : (⟨#[34]⟩ : ByteArray).size = 1 := rfl
  omega
theorem ext_one (s : ByteArray) (i : Nat) : s.extract (loI (some (i : Int))).toNat (hiI s.size (some ((i : Int) + 1))).toNat = s.extract i (i + 1) := by
  show s.extract ((i : Int).toNat) (((i : Int) + 1).toNat) = _
  rw [show ((i : Int) + 1).toNat = i + 1 by omega, Int.toNat_natCast]
theorem ext1 (s : ByteArray) (i : Nat) : (s.extract i (i + 1)).size ≤ 1 := by rw [ByteArray.size_extract]; omega
theorem one34 : (⟨#[34]⟩ : ByteArray).size = 1 := rfl
theorem one92 : (⟨#[92]⟩ : ByteArray).size = 1 := rfl
structure EscI (s : ByteArray) (i : Nat) (acc : ByteArray) : Prop where
  le : i ≤ s.size
  sz : acc.size ≤ 2 * i + 1
  eq : escF s 0 ⟨#[34]⟩ = escF s i acc

theorem resc_ok (s : ByteArray) (hs : s.size ≤ 1000) : GC Tryz.prog 120 [sG s] (sG (escR s)) := by
  refine gc_of_gk Tryz.func120 ?_
  refine gk_region env false [] [0, 2] ?_ -- 0
  refine gk_region env false [] [0, 2, 3] ?_ -- 1
  refine gk_region env false [] [0, 2, 3, 4] ?_ -- 2
  refine gk_loop (α := Nat × ByteArray) (fun x => EscI s x.1 x.2) (fun x => [(4, iG x.1), (3, sG x.2)]) (fun _ => []) (fun x => s.size - x.1) (0, ⟨#[34]⟩) ⟨Nat.zero_le _, by decide, rfl⟩ ?_ -- loop 3
  rintro ⟨i, acc⟩ hI
  dsimp only at *
  have h1 := hI.le
  have h2 := hI.sz
  have h3 := ext1 s i
  refine gk_region env false [] [0, 2, 3, 4, 8] ?_ -- 3
  refine gk_ifd (fun c1 => ?_) (fun c1 => ?_)
  · try simp only [toN] at c1
    refine gk_region env false [] [0, 2, 3, 4, 20] ?_ -- 5
    refine gk_if (fun c2 => ?_) (fun c2 => ?_)
    · try simp only [bb, toN] at c2
      refine gk_region env false [] [0, 2, 3, 4] ?_ (hp := (by simp only [AllP, bb, toN, ext_one, ba_size, one34, one92]; repeat' first | exact trivial | omega | exact EntL.refl _ | exact rfl | apply And.intro | (simp only [loI, hiI]; omega))) -- 6
      refine gk_region env false [] [0, 2, 3, 4] ?_ (hp := (by simp only [AllP, bb, toN, ext_one, ba_size, one34, one92]; repeat' first | exact trivial | omega | exact EntL.refl _ | exact rfl | apply And.intro | (simp only [loI, hiI]; omega))) -- 7
      refine gk_region env false [] [0, 2, 3, 4] ?_ -- 4
      refine gk_round ((i + 1, (acc ++ ⟨#[92]⟩) ++ s.extract i (i + 1))) ?_ (hp := by simp only [AllP, ext_one]; repeat' first | exact trivial | exact EntL.refl _ | exact BEntL.refl _ | exact rfl | omega | apply And.intro | intro _)
      refine ⟨by simp only; omega, by simp only [ba_size, one92]; omega, hI.eq.trans ?_⟩
      rw [escF, if_pos (by omega), if_pos (by simpa using c2)]
    · try simp only [bb, toN] at c2
      refine gk_region env false [] [0, 2, 3, 4] ?_ (hp := (by simp only [AllP, bb, toN, ext_one, ba_size, one34, one92]; repeat' first | exact trivial | omega | exact EntL.refl _ | exact rfl | apply And.intro | (simp only [loI, hiI]; omega))) -- 7
      refine gk_region env false [] [0, 2, 3, 4] ?_ -- 4
      refine gk_round ((i + 1, acc ++ s.extract i (i + 1))) ?_ (hp := by simp only [AllP, ext_one]; repeat' first | exact trivial | exact EntL.refl _ | exact BEntL.refl _ | exact rfl | omega | apply And.intro | intro _)
      refine ⟨by simp only; omega, by simp only [ba_size, one92]; omega, hI.eq.trans ?_⟩
      rw [escF, if_pos (by omega), if_neg (by simpa using c2)]
  · try simp only [toN] at c1
    refine gk_region env false [] [2] ?_ (hp := (by simp only [AllP, bb, toN, ext_one, ba_size, one34, one92]; repeat' first | exact trivial | omega | exact EntL.refl _ | exact rfl | apply And.intro | (simp only [loI, hiI]; omega))) -- 8
    refine gk_ret env ?_
    rw [escR, hI.eq, escF, if_neg (by omega)]; rfl

structure Tk where
  kind : Int
  text : ByteArray
  n : Int
  pos : Int
instance : Inhabited Tk := ⟨⟨0, ⟨#[]⟩, 0, 0⟩⟩
def tkC (t : Tk) : List D := [.sc (.int .i64 t.kind), .sc (.string t.text), .sc (.int .i64 t.n), .sc (.int .i64 t.pos)]
abbrev tkG (t : Tk) : G := .agg [iG t.kind, sG t.text, iG t.n, iG t.pos]
abbrev rowTk (l : List Tk) : G := .d (.row default tkC l)
def tkW (s : ByteArray) : Tk := ⟨0, s, 0, 0⟩
def tkS (s : ByteArray) : Tk := ⟨3, s, 0, 0⟩
def dig1 (n : Int) : ByteArray := ⟨#[UInt8.ofNat (48 + n % 10).toNat]⟩
def digN : Nat → Int → ByteArray
  | 0, n => dig1 n
  | k + 1, n => if n < 10 then dig1 n else digN k (n / 10) ++ dig1 n
def digs (n : Int) : ByteArray := digN n.toNat n
theorem digN_more : ∀ (k : Nat) (n : Int), 0 ≤ n → n.toNat ≤ k → ∀ m, k ≤ m → digN m n = digN k n := by
  intro k
  induction k with
  | zero =>
    intro n h0 h1 m _
    cases m with
    | zero => rfl
    | succ m => show (if n < 10 then dig1 n else _) = dig1 n; rw [if_pos (by omega)]
  | succ k ih =>
    intro n h0 h1 m hm
    obtain ⟨m, rfl⟩ : ∃ j, m = j + 1 := ⟨m - 1, by omega⟩
    simp only [digN]
    split
    · rfl
    · rw [ih (n / 10) (by omega) (by omega) m (by omega)]
theorem digs_eq {n : Int} (h : 0 ≤ n) : digs n = if n < 10 then dig1 n else digs (n / 10) ++ dig1 n := by
  unfold digs
  by_cases hn : n < 10
  · rw [if_pos hn]
    cases e : n.toNat with
    | zero => rfl
    | succ k => rw [digN, if_pos hn]
  · rw [if_neg hn]
    obtain ⟨k, hk⟩ : ∃ k, n.toNat = k + 1 := ⟨n.toNat - 1, by omega⟩
    rw [hk, digN, if_neg hn, digN_more (n / 10).toNat (n / 10) (by omega) (Nat.le_refl _) k (by omega)]
theorem digN_size : ∀ (j : Nat) (k : Nat) (n : Int), 0 ≤ n → n < 10 ^ (j + 1) → (digN k n).size ≤ j + 1 := by
  intro j
  induction j with
  | zero =>
    intro k n h0 h1
    cases k with
    | zero => exact Nat.le_refl 1
    | succ k => rw [digN, if_pos (by simpa using h1)]; exact Nat.le_refl 1
  | succ j ih =>
    intro k n h0 h1
    cases k with
    | zero => show 1 ≤ _; omega
    | succ k =>
      rw [digN]
      split
      · show 1 ≤ _; omega
      · rw [ba_size]
        have h2 : n / 10 < 10 ^ (j + 1) := by
          rw [Int.pow_succ] at h1
          exact Int.ediv_lt_of_lt_mul (by omega) h1
        have := ih k (n / 10) (by omega) h2
        have h3 : (dig1 n).size = 1 := rfl
        omega
theorem digs_size {n : Int} (h0 : 0 ≤ n) (h1 : n ≤ 9223372036854775807) : (digs n).size ≤ 19 := digN_size 18 _ n h0 (by have : (10 : Int) ^ (18 + 1) = 10000000000000000000 := by decide
                                                                                                                        omega)
theorem dig1_byte {n : Int} : rowL (fun c => [D.sc (.int .u8 c)]) [48 + n % 10] = byteL (dig1 n) := by
  have e : ((UInt8.ofNat (48 + n % 10).toNat).toNat : Int) = 48 + n % 10 := by
    rw [UInt8.toNat_ofNat']; omega
  simp only [byteL, dig1, rowL, List.map_cons, List.map_nil]
  rw [e]

theorem rwordT_ok (s : ByteArray) : GC Tryz.prog 117 [sG s] (tkG (tkW s)) := by
  refine gc_of_gk Tryz.func117 ?_
  refine gk_region env false [] [0, 2] ?_ -- 0
  refine gk_region env false [] [2] ?_ -- 1
  refine gk_ret env ?_
  rfl

theorem rsignT_ok (s : ByteArray) : GC Tryz.prog 118 [sG s] (tkG (tkS s)) := by
  refine gc_of_gk Tryz.func118 ?_
  refine gk_region env false [] [0, 2] ?_ -- 0
  refine gk_region env false [] [2] ?_ -- 1
  refine gk_ret env ?_
  rfl

theorem digits_ok (n : Int) (h0 : 0 ≤ n) (h1 : n ≤ 9223372036854775807) : GC Tryz.prog 119 [iG n] (sG (digs n)) := by
  refine gc_of_gk Tryz.func119 ?_
  refine gk_region env false [] [0, 2] ?_ -- 0
  refine gk_region env false [.el (0 : Int) (fun c => [.sc (.int .u8 c)]) [48 + n % 10], .str (dig1 n)] [0, 2, 3] ?_ (hp := (by simp only [AllP, bb, toN, inR]; repeat' first | exact trivial | exact dig1_byte | omega | exact rfl | apply And.intro)) -- 1
  refine gk_region env false [] [0, 2, 3, 11] ?_ -- 2
  refine gk_ifd (fun c1 => ?_) (fun c1 => ?_)
  · try simp only [toN] at c1
    refine gk_region env false [] [0, 2, 3] ?_ -- 3
    refine gk_ret env ?_
    rw [digs_eq h0, if_pos c1]; rfl
  · try simp only [toN] at c1
    refine gk_region env false [.call (digits_ok (n / 10) (by omega) (by omega))] [2] ?_ (hp := (by simp only [AllP, bb, toN, inR]; have hz := digs_size (n := n / 10) (by omega) (by omega); have hz1 : (dig1 n).size = 1 := rfl; repeat' first | exact trivial | exact EntL.refl _ | omega | exact rfl | apply And.intro)) -- 4
    refine gk_ret env ?_
    rw [digs_eq h0, if_neg c1]; rfl

termination_by n.toNat
decreasing_by omega

abbrev kNeed : ByteArray := ⟨#[110, 101, 101, 100]⟩
abbrev kSemi : ByteArray := ⟨#[59]⟩
abbrev kDot : ByteArray := ⟨#[46]⟩
abbrev kSum : ByteArray := ⟨#[115, 117, 109]⟩
abbrev kField : ByteArray := ⟨#[102, 105, 101, 108, 100]⟩
abbrev kIs : ByteArray := ⟨#[105, 115]⟩
abbrev kSame : ByteArray := ⟨#[115, 97, 109, 101]⟩
abbrev kFrom : ByteArray := ⟨#[102, 114, 111, 109]⟩
abbrev kTo : ByteArray := ⟨#[116, 111]⟩

def headT (d : Dm) : List Tk := [tkW (if d.op = 4 then kSum else kField), tkW d.doc, tkS kDot, tkW d.field]
def tailT (d : Dm) : List Tk := if d.op = 1 then [tkW kIs, ⟨2, d.text, 0, 0⟩, tkS kSemi] else if d.op = 3 then [tkW kSame, tkW d.other, tkS kDot, tkW d.second, tkS kSemi] else [tkW kFrom, ⟨1, digs d.lo, 0, 0⟩, tkW kTo, ⟨1, digs d.hi, 0, 0⟩, tkS kSemi]
def toksD (d : Dm) : List Tk := if d.op = 0 then [tkW kNeed, tkW d.doc, tkS kSemi] else headT d ++ tailT d
def Fine (d : Dm) : Prop := ((0 ≤ d.op ∧ d.op < 5) ∧ nameOk d.doc = true) ∧ ((d.op = 0 ∨ nameOk d.field = true) ∧ (¬ d.op = 0 ∨ d.field = ⟨#[]⟩)) ∧ ((¬ d.op = 3 ∨ nameOk d.other = true ∧ nameOk d.second = true) ∧ (d.op = 3 ∨ d.other = ⟨#[]⟩ ∧ d.second = ⟨#[]⟩)) ∧ ((¬ d.op = 1 ∨ valueOk d.text = true) ∧ (d.op = 1 ∨ d.text = ⟨#[]⟩)) ∧ (if d.op = 2 ∨ d.op = 4 then 0 ≤ d.lo ∧ d.lo ≤ d.hi ∧ d.hi ≤ 1099511627776 else d.lo = 0 ∧ d.hi = 0)
instance (d : Dm) : Decidable (Fine d) := by unfold Fine; infer_instance

theorem fine_ok (d : Dm) (hf : FewD d) : GC Tryz.prog 83 [dmG d] (bG (decide (Fine d))) := by
  obtain ⟨f1, f2, f3, f4, f5⟩ := hf
  refine gc_of_gk Tryz.func83 ?_
  refine gk_region env false [] [1, 2] ?_ -- 0
  refine gk_box 0 ?_
  refine gk_region env false [] [1, 2, 3] ?_ -- 1
  refine gk_region env false [] [1, 2, 3, 4] ?_ -- 2
  refine gk_region env false [.call (GC.lift (rname_ok d.doc (by omega)))] [1, 2, 3, 4, 29] ?_ -- 3
  refine gk_if (fun c1 => ?_) (fun c1 => ?_)
  · try simp only [bb, toN] at c1
    refine gk_region env false [] [1, 2, 3, 4] ?_ -- 4
    refine gk_ret env ?_
    have h : ¬ Fine d := by unfold Fine; grind
    rw [decide_eq_false h]; rfl
  · try simp only [bb, toN] at c1
    refine gk_region env false [.call (GC.lift (rname_ok d.field (by omega)))] [1, 2, 4, 45] ?_ -- 5
    refine gk_if (fun c2 => ?_) (fun c2 => ?_)
    · try simp only [bb, toN] at c2
      refine gk_region env false [] [1, 2, 4] ?_ -- 6
      refine gk_ret env ?_
      have h : ¬ Fine d := by unfold Fine; grind
      rw [decide_eq_false h]; rfl
    · try simp only [bb, toN] at c2
      refine gk_region env false [.call (GC.lift (rname_ok d.other (by omega))), .call (GC.lift (rname_ok d.second (by omega)))] [1, 2, 4, 75] ?_ -- 7
      refine gk_if (fun c3 => ?_) (fun c3 => ?_)
      · try simp only [bb, toN] at c3
        refine gk_region env false [] [1, 2, 4] ?_ -- 8
        refine gk_ret env ?_
        have h : ¬ Fine d := by unfold Fine; grind
        rw [decide_eq_false h]; rfl
      · try simp only [bb, toN] at c3
        refine gk_region env false [.call (rvalue_ok d.text (by omega))] [1, 2, 4, 94] ?_ -- 9
        refine gk_if (fun c4 => ?_) (fun c4 => ?_)
        · try simp only [bb, toN] at c4
          refine gk_region env false [] [1, 2, 4] ?_ -- 10
          refine gk_ret env ?_
          have h : ¬ Fine d := by unfold Fine; grind
          rw [decide_eq_false h]; rfl
        · try simp only [bb, toN] at c4
          refine gk_region env false [] [1, 2, 96] ?_ -- 11
          refine gk_if (fun c5 => ?_) (fun c5 => ?_)
          · try simp only [bb, toN] at c5
            refine gk_region env false [] [1, 2] ?_ -- 12
            refine gk_ret env ?_
            have e : Fine d ↔ d.lo = 0 ∧ d.hi = 0 := ⟨fun h => by have := h.2.2.2.2; rwa [if_neg (by omega)] at this, fun h => ⟨c1, c2, c3, c4, by rwa [if_neg (by omega)]⟩⟩
            rw [show decide (Fine d) = decide (d.lo = 0 ∧ d.hi = 0) from decide_eq_decide.2 e]; simp only [Bool.cond_false_right, Bool.decide_and]; rfl
          · try simp only [bb, toN] at c5
            refine gk_region env false [] [2] ?_ -- 13
            refine gk_ret env ?_
            have e : Fine d ↔ 0 ≤ d.lo ∧ d.lo ≤ d.hi ∧ d.hi ≤ 1099511627776 := ⟨fun h => by have := h.2.2.2.2; rwa [if_pos c5] at this, fun h => ⟨c1, c2, c3, c4, by rwa [if_pos c5]⟩⟩
            rw [show decide (Fine d) = decide (0 ≤ d.lo ∧ d.lo ≤ d.hi ∧ d.hi ≤ 1099511627776) from decide_eq_decide.2 e]; simp only [Bool.cond_false_right, Bool.decide_and, Bool.and_assoc]; rfl

theorem toks_ok (d : Dm) (hlo : 0 ≤ d.lo ∧ d.lo ≤ 1099511627776) (hhi : 0 ≤ d.hi ∧ d.hi ≤ 1099511627776) : GC Tryz.prog 84 [dmG d] (rowTk (toksD d)) := by
  refine gc_of_gk Tryz.func84 ?_
  refine gk_region env false [] [1, 2] ?_ -- 0
  refine gk_box 0 ?_
  refine gk_region env false [] [1, 2, 7] ?_ -- 1
  refine gk_ifd (fun c1 => ?_) (fun c1 => ?_)
  · try simp only [toN] at c1
    refine gk_region env false [.call (rwordT_ok kNeed), .call (rwordT_ok d.doc), .call (rsignT_ok kSemi), .el default tkC [tkW kNeed, tkW d.doc, tkS kSemi]] [1, 2] ?_ -- 2
    refine gk_ret env ?_
    rw [toksD, if_pos c1]; rfl
  · try simp only [toN] at c1
    refine gk_region env false [] [1, 2, 3] ?_ -- 3
    refine gk_region env false [] [1, 2, 3, 16] ?_ -- 4
    refine gk_ifd (fun c2 => ?_) (fun c2 => ?_)
    · try simp only [toN] at c2
      refine gk_region env false [] [1, 2, 3] ?_ -- 5
      refine gk_region env false [.call (rwordT_ok kSum), .call (rwordT_ok d.doc), .call (rsignT_ok kDot), .call (rwordT_ok d.field), .el default tkC [tkW kSum, tkW d.doc, tkS kDot, tkW d.field]] [1, 2, 4] ?_ -- 6
      refine gk_region env false [] [1, 2, 4, 29] ?_ -- 7
      refine gk_ifd (fun c3 => ?_) (fun c3 => ?_)
      · try simp only [toN] at c3
        omega
      · try simp only [toN] at c3
        refine gk_region env false [] [1, 2, 4, 40] ?_ -- 9
        refine gk_ifd (fun c4 => ?_) (fun c4 => ?_)
        · try simp only [toN] at c4
          omega
        · try simp only [toN] at c4
          refine gk_region env false [.call (rwordT_ok kFrom), .call (digits_ok d.lo hlo.1 (by omega)), .call (rwordT_ok kTo), .call (digits_ok d.hi hhi.1 (by omega)), .call (rsignT_ok kSemi), .el default tkC [tkW kFrom, ⟨1, digs d.lo, 0, 0⟩, tkW kTo, ⟨1, digs d.hi, 0, 0⟩, tkS kSemi], .el default tkC ([tkW kSum, tkW d.doc, tkS kDot, tkW d.field] ++ [tkW kFrom, ⟨1, digs d.lo, 0, 0⟩, tkW kTo, ⟨1, digs d.hi, 0, 0⟩, tkS kSemi])] [2] ?_ (hp := (by simp only [AllP, Int.toNat_natCast]; repeat' first | exact trivial | exact EntL.refl _ | exact BEntL.refl _ | exact rfl | omega | apply And.intro | intro _ | (simp [rowL]; done) | (simp only [List.length_append, List.length_cons, List.length_nil]; omega) | (simp [*]; done))) -- 11
          refine gk_ret env ?_
          rw [toksD, if_neg c1, headT, if_pos c2, tailT, if_neg (by omega), if_neg (by omega)]; rfl
    · try simp only [toN] at c2
      refine gk_region env false [.call (rwordT_ok kField), .call (rwordT_ok d.doc), .call (rsignT_ok kDot), .call (rwordT_ok d.field), .el default tkC [tkW kField, tkW d.doc, tkS kDot, tkW d.field]] [1, 2, 4] ?_ -- 6
      refine gk_region env false [] [1, 2, 4, 29] ?_ -- 7
      refine gk_ifd (fun c5 => ?_) (fun c5 => ?_)
      · try simp only [toN] at c5
        refine gk_region env false [.call (rwordT_ok kIs), .call (rsignT_ok kSemi), .el default tkC [tkW kIs, ⟨2, d.text, 0, 0⟩, tkS kSemi], .el default tkC ([tkW kField, tkW d.doc, tkS kDot, tkW d.field] ++ [tkW kIs, ⟨2, d.text, 0, 0⟩, tkS kSemi])] [1, 2, 4] ?_ (hp := (by simp only [AllP, Int.toNat_natCast]; repeat' first | exact trivial | exact EntL.refl _ | exact BEntL.refl _ | exact rfl | omega | apply And.intro | intro _ | (simp [rowL]; done) | (simp only [List.length_append, List.length_cons, List.length_nil]; omega) | (simp [*]; done))) -- 8
        refine gk_ret env ?_
        rw [toksD, if_neg c1, headT, if_neg c2, tailT, if_pos (by assumption)]; rfl
      · try simp only [toN] at c5
        refine gk_region env false [] [1, 2, 4, 40] ?_ -- 9
        refine gk_ifd (fun c6 => ?_) (fun c6 => ?_)
        · try simp only [toN] at c6
          refine gk_region env false [.call (rwordT_ok kSame), .call (rwordT_ok d.other), .call (rsignT_ok kDot), .call (rwordT_ok d.second), .call (rsignT_ok kSemi), .el default tkC [tkW kSame, tkW d.other, tkS kDot, tkW d.second, tkS kSemi], .el default tkC ([tkW kField, tkW d.doc, tkS kDot, tkW d.field] ++ [tkW kSame, tkW d.other, tkS kDot, tkW d.second, tkS kSemi])] [1, 2, 4] ?_ (hp := (by simp only [AllP, Int.toNat_natCast]; repeat' first | exact trivial | exact EntL.refl _ | exact BEntL.refl _ | exact rfl | omega | apply And.intro | intro _ | (simp [rowL]; done) | (simp only [List.length_append, List.length_cons, List.length_nil]; omega) | (simp [*]; done))) -- 10
          refine gk_ret env ?_
          rw [toksD, if_neg c1, headT, if_neg c2, tailT, if_neg (by assumption), if_pos (by assumption)]; rfl
        · try simp only [toN] at c6
          refine gk_region env false [.call (rwordT_ok kFrom), .call (digits_ok d.lo hlo.1 (by omega)), .call (rwordT_ok kTo), .call (digits_ok d.hi hhi.1 (by omega)), .call (rsignT_ok kSemi), .el default tkC [tkW kFrom, ⟨1, digs d.lo, 0, 0⟩, tkW kTo, ⟨1, digs d.hi, 0, 0⟩, tkS kSemi], .el default tkC ([tkW kField, tkW d.doc, tkS kDot, tkW d.field] ++ [tkW kFrom, ⟨1, digs d.lo, 0, 0⟩, tkW kTo, ⟨1, digs d.hi, 0, 0⟩, tkS kSemi])] [2] ?_ (hp := (by simp only [AllP, Int.toNat_natCast]; repeat' first | exact trivial | exact EntL.refl _ | exact BEntL.refl _ | exact rfl | omega | apply And.intro | intro _ | (simp [rowL]; done) | (simp only [List.length_append, List.length_cons, List.length_nil]; omega) | (simp [*]; done))) -- 11
          refine gk_ret env ?_
          rw [toksD, if_neg c1, headT, if_neg c2, tailT, if_neg (by assumption), if_neg (by assumption)]; rfl

def tkTx (t : Tk) : ByteArray := if t.kind = 2 then escR t.text else t.text
def prF (l : List Tk) (i : Nat) (acc : ByteArray) : ByteArray := if i < l.length then prF l (i + 1) ((if 0 < i then acc ++ ⟨#[32]⟩ else acc) ++ tkTx (l.getD i default)) else acc
termination_by l.length - i
def prT (l : List Tk) : ByteArray := prF l 0 ⟨#[]⟩
def tkZ (t : Tk) : Nat := (tkTx t).size + 1
def sumZ (l : List Tk) : Nat := (l.map tkZ).sum
theorem sumZ_step {l : List Tk} {i : Nat} (h : i < l.length) : sumZ (l.take (i + 1)) = sumZ (l.take i) + ((tkTx (l.getD i default)).size + 1) := by
  have e : l.getD i default = l[i] := by rw [List.getD_eq_getElem?_getD, List.getElem?_eq_getElem h]; rfl
  rw [sumZ, List.take_succ_eq_append_getElem h, List.map_append, List.sum_append, e]
  simp [sumZ, tkZ]
theorem sumZ_take (l : List Tk) (i : Nat) : sumZ (l.take i) ≤ sumZ l := by
  have : sumZ l = sumZ (l.take i) + sumZ (l.drop i) := by
    unfold sumZ
    rw [← List.sum_append, ← List.map_append, List.take_append_drop]
  omega
theorem prF_size {l : List Tk} : ∀ (k i : Nat) (acc : ByteArray), l.length - i = k → (prF l i acc).size + sumZ (l.take i) ≤ acc.size + sumZ (l.take (i + k)) := by
  intro k
  induction k with
  | zero => intro i acc h; rw [prF, if_neg (by omega)]; exact Nat.le_refl _
  | succ k ih =>
    intro i acc h
    rw [prF, if_pos (by omega)]
    have h1 := ih (i + 1) ((if 0 < i then acc ++ ⟨#[32]⟩ else acc) ++ tkTx (l.getD i default)) (by omega)
    rw [sumZ_step (by omega), ba_size, show i + 1 + k = i + (k + 1) by omega] at h1
    have h2 : (if 0 < i then acc ++ ⟨#[32]⟩ else acc).size ≤ acc.size + 1 := by
      split
      · rw [ba_size]; exact Nat.le_refl _
      · omega
    omega
theorem prT_size (l : List Tk) : (prT l).size ≤ sumZ l := by
  have := prF_size (l := l) l.length 0 ⟨#[]⟩ (by omega)
  have e1 : sumZ (l.take 0) = 0 := rfl
  have e2 : (⟨#[]⟩ : ByteArray).size = 0 := rfl
  have e3 := sumZ_take l (0 + l.length)
  unfold prT
  omega
structure PrI (l : List Tk) (i : Nat) (acc : ByteArray) : Prop where
  le : i ≤ l.length
  sz : acc.size ≤ sumZ (l.take i)
  eq : prT l = prF l i acc
theorem one32 : (⟨#[32]⟩ : ByteArray).size = 1 := rfl

theorem rprT_ok (l : List Tk) (hl : l.length ≤ 1000) (hz : sumZ l ≤ 1000000000) (hx : ∀ t, t ∈ l → t.text.size ≤ 1000) : GC Tryz.prog 85 [rowTk l] (sG (prT l)) := by
  refine gc_of_gk Tryz.func85 ?_
  refine gk_region env false [] [0, 2] ?_ -- 0
  refine gk_region env false [] [0, 2, 3] ?_ -- 1
  refine gk_region env false [] [0, 2, 3, 4] ?_ -- 2
  refine gk_loop (α := Nat × ByteArray) (fun x => PrI l x.1 x.2) (fun x => [(4, iG x.1), (3, sG x.2)]) (fun _ => []) (fun x => l.length - x.1) (0, ⟨#[]⟩) ⟨Nat.zero_le _, Nat.zero_le _, rfl⟩ ?_ -- loop 3
  rintro ⟨i, acc⟩ hI
  dsimp only at *
  have h1 := hI.le
  have h2 := hI.sz
  have h3 := sumZ_take l i
  have h4 := sumZ_take l (i + 1)
  have hst := fun h : i < l.length => sumZ_step h
  refine gk_region env false [] [0, 2, 3, 4, 8] ?_ -- 3
  refine gk_ifd (fun c1 => ?_) (fun c1 => ?_)
  · try simp only [toN] at c1
    have hst2 := hst (by omega)
    refine gk_region env false [] [0, 2, 3, 4, 12] ?_ -- 5
    refine gk_ifd (fun c2 => ?_) (fun c2 => ?_)
    · try simp only [toN] at c2
      refine gk_region env false [] [0, 2, 3, 4] ?_ (hp := (by simp only [AllP, bb, toN, ba_size, one32]; repeat' first | exact trivial | omega | exact EntL.refl _ | exact rfl | apply And.intro)) -- 6
      refine gk_region env false [] [0, 2, 3, 4, 20] ?_ -- 7
      refine gk_ifd (fun c3 => ?_) (fun c3 => ?_)
      · try simp only [toN] at c3
        have hes := escR_size (l.getD i default).text
        have hx2 := hx (l.getD i default) (getD_mem (by omega))
        refine gk_region env false [.call (resc_ok (l.getD i default).text hx2)] [0, 2, 3, 4] ?_ (hp := (by simp only [AllP, bb, toN, ba_size, one32]; repeat' first | exact trivial | omega | exact EntL.refl _ | exact rfl | apply And.intro)) -- 8
        refine gk_region env false [] [0, 2, 3, 4] ?_ -- 4
        refine gk_round ((i + 1, acc ++ ⟨#[32]⟩ ++ escR (l.getD i default).text)) ?_
        have hk : tkTx (l.getD i default) = escR (l.getD i default).text := if_pos c3
        rw [hk] at hst2
        refine ⟨by simp only; omega, by simp only [ba_size, one32, sumZ_step (show i < l.length by omega), hk]; omega, hI.eq.trans ?_⟩
        rw [prF, if_pos (by omega), if_pos (by omega), hk]
      · try simp only [toN] at c3
        have hx2 := hx (l.getD i default) (getD_mem (by omega))
        refine gk_region env false [] [0, 2, 3, 4] ?_ (hp := (by simp only [AllP, bb, toN, ba_size, one32]; repeat' first | exact trivial | omega | exact EntL.refl _ | exact rfl | apply And.intro)) -- 9
        refine gk_region env false [] [0, 2, 3, 4] ?_ -- 4
        refine gk_round ((i + 1, acc ++ ⟨#[32]⟩ ++ (l.getD i default).text)) ?_
        have hk : tkTx (l.getD i default) = (l.getD i default).text := if_neg c3
        rw [hk] at hst2
        refine ⟨by simp only; omega, by simp only [ba_size, one32, sumZ_step (show i < l.length by omega), hk]; omega, hI.eq.trans ?_⟩
        rw [prF, if_pos (by omega), if_pos (by omega), hk]
    · try simp only [toN] at c2
      refine gk_region env false [] [0, 2, 3, 4, 20] ?_ -- 7
      refine gk_ifd (fun c4 => ?_) (fun c4 => ?_)
      · try simp only [toN] at c4
        have hes := escR_size (l.getD i default).text
        have hx2 := hx (l.getD i default) (getD_mem (by omega))
        refine gk_region env false [.call (resc_ok (l.getD i default).text hx2)] [0, 2, 3, 4] ?_ (hp := (by simp only [AllP, bb, toN, ba_size, one32]; repeat' first | exact trivial | omega | exact EntL.refl _ | exact rfl | apply And.intro)) -- 8
        refine gk_region env false [] [0, 2, 3, 4] ?_ -- 4
        refine gk_round ((i + 1, acc ++ escR (l.getD i default).text)) ?_
        have hk : tkTx (l.getD i default) = escR (l.getD i default).text := if_pos c4
        rw [hk] at hst2
        refine ⟨by simp only; omega, by simp only [ba_size, one32, sumZ_step (show i < l.length by omega), hk]; omega, hI.eq.trans ?_⟩
        rw [prF, if_pos (by omega), if_neg (by omega), hk]
      · try simp only [toN] at c4
        have hx2 := hx (l.getD i default) (getD_mem (by omega))
        refine gk_region env false [] [0, 2, 3, 4] ?_ (hp := (by simp only [AllP, bb, toN, ba_size, one32]; repeat' first | exact trivial | omega | exact EntL.refl _ | exact rfl | apply And.intro)) -- 9
        refine gk_region env false [] [0, 2, 3, 4] ?_ -- 4
        refine gk_round ((i + 1, acc ++ (l.getD i default).text)) ?_
        have hk : tkTx (l.getD i default) = (l.getD i default).text := if_neg c4
        rw [hk] at hst2
        refine ⟨by simp only; omega, by simp only [ba_size, one32, sumZ_step (show i < l.length by omega), hk]; omega, hI.eq.trans ?_⟩
        rw [prF, if_pos (by omega), if_neg (by omega), hk]
  · try simp only [toN] at c1
    refine gk_region env false [] [2] ?_ -- 10
    refine gk_ret env ?_
    have e : prT l = acc := by rw [hI.eq, prF, if_neg (by omega)]
    rw [e]; rfl
end Go.Gh
