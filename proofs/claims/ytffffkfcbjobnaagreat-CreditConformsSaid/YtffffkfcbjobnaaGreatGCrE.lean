/- Walks by the logic of calls, and plain laws. -/
import Derived.Test.YtffffkfcbjobnaaGreatGCd
namespace Go.Gh
open Go Go.Proofs
set_option maxRecDepth 1000000
set_option maxHeartbeats 2000000
set_option linter.unusedSimpArgs false
set_option linter.unusedVariables false
set_option linter.unnecessarySimpa false
open Go.RowKit

def nameV (a b : ByteArray) : Bool := nameOk a && nameOk b
abbrev wDot : ByteArray := ⟨#[32, 46, 32]⟩
abbrev wNeed : ByteArray := ⟨#[110, 101, 101, 100, 32]⟩
abbrev wField : ByteArray := ⟨#[102, 105, 101, 108, 100, 32]⟩
abbrev wSum : ByteArray := ⟨#[115, 117, 109, 32]⟩
abbrev wEnd : ByteArray := ⟨#[32, 59]⟩
abbrev wIs : ByteArray := ⟨#[32, 105, 115, 32]⟩
abbrev wSame : ByteArray := ⟨#[32, 115, 97, 109, 101, 32]⟩
abbrev wFrom : ByteArray := ⟨#[32, 102, 114, 111, 109, 32]⟩
abbrev wTo : ByteArray := ⟨#[32, 116, 111, 32]⟩
theorem quoteV_size (s : ByteArray) : (quoteV s).size ≤ 802 := by
  unfold quoteV
  split
  · rename_i h
    have h1 : s.size ≤ 400 := by simp [valueOk] at h; omega
    have := escS_size s
    omega
  · exact Nat.zero_le _
def spotW (a b : ByteArray) : ByteArray := a ++ wDot ++ b
def needW (a : ByteArray) : ByteArray := wNeed ++ a ++ wEnd
def isW (a b t : ByteArray) : ByteArray := wField ++ spotW a b ++ wIs ++ quoteV t ++ wEnd
def sameW (a b c d : ByteArray) : ByteArray := wField ++ spotW a b ++ wSame ++ spotW c d ++ wEnd
abbrev e0 : ByteArray := ⟨#[]⟩
def dNeed (a : ByteArray) : Dm := ⟨0, a, e0, e0, e0, e0, 0, 0⟩
def dIs (a b t : ByteArray) : Dm := ⟨1, a, b, e0, e0, t, 0, 0⟩
def dSame (a b c d : ByteArray) : Dm := ⟨3, a, b, c, d, e0, 0, 0⟩
def dLim (a b : ByteArray) (lo hi : Int) (sm : Bool) : Dm := ⟨if sm then 4 else 2, a, b, e0, e0, e0, lo, hi⟩
theorem size_add (a b : ByteArray) : (a ++ b).size = a.size + b.size := ByteArray.size_append
theorem lit_size (a : Array UInt8) : (ByteArray.mk a).size = a.size := rfl
theorem sz_ofL (l : List UInt8) : (ofL l).size = l.length := by show l.toArray.size = _; simp

theorem spot_named (a b : ByteArray) (ha : a.size ≤ 1000) (hb : b.size ≤ 1000) : GC Tryz.prog 193 [spG a b] (bG (nameV a b)) := by
  refine gc_of_gk Tryz.func193 ?_
  refine gk_region env false [] [1, 2] ?_ -- 0
  refine gk_region env false [.call (name_ok a (by omega)), .call (name_ok b (by omega))] [2] ?_ -- 1
  refine gk_ret env ?_
  rw [nameV]
  cases nameOk a <;> rfl

theorem spot_words (a b : ByteArray) (ha : a.size ≤ 1000) (hb : b.size ≤ 1000) : GC Tryz.prog 194 [spG a b] (sG (spotW a b)) := by
  refine gc_of_gk Tryz.func194 ?_
  refine gk_region env false [] [1, 2] ?_ -- 0
  refine gk_region env false [] [2] ?_ (hp := (by simp only [AllP, toN]; repeat' first | exact trivial | exact EntL.refl _ | exact rfl | apply And.intro | (simp only [size_add, lit_size, List.size_toArray, List.length_cons, List.length_nil, spotW, sz_ofL]; omega))) -- 1
  refine gk_ret env ?_
  rfl

theorem needs_demand (a : ByteArray) : GC Tryz.prog 195 [.agg [sG a]] (dmG (dNeed a)) := by
  refine gc_of_gk Tryz.func195 ?_
  refine gk_region env false [] [1, 2] ?_ -- 0
  refine gk_region env false [] [2] ?_ -- 1
  refine gk_ret env ?_
  rfl

theorem needs_named (a : ByteArray) (ha : a.size ≤ 1000) : GC Tryz.prog 197 [.agg [sG a]] (bG (nameOk a)) := by
  refine gc_of_gk Tryz.func197 ?_
  refine gk_region env false [] [1, 2] ?_ -- 0
  refine gk_region env false [.call (name_ok a (by omega))] [2] ?_ -- 1
  refine gk_ret env ?_
  rfl

theorem needs_words (a : ByteArray) (ha : a.size ≤ 1000) : GC Tryz.prog 198 [.agg [sG a]] (sG (needW a)) := by
  refine gc_of_gk Tryz.func198 ?_
  refine gk_region env false [] [1, 2] ?_ -- 0
  refine gk_region env false [] [2] ?_ (hp := (by simp only [AllP, toN]; repeat' first | exact trivial | exact EntL.refl _ | exact rfl | apply And.intro | (simp only [size_add, lit_size, List.size_toArray, List.length_cons, List.length_nil, spotW, sz_ofL]; omega))) -- 1
  refine gk_ret env ?_
  rfl

theorem reads_demand (a b t : ByteArray) : GC Tryz.prog 203 [.agg [sG a, sG b, sG t]] (dmG (dIs a b t)) := by
  refine gc_of_gk Tryz.func203 ?_
  refine gk_region env false [] [1, 2] ?_ -- 0
  refine gk_region env false [] [2] ?_ -- 1
  refine gk_ret env ?_
  rfl

theorem reads_named (a b : ByteArray) (ha : a.size ≤ 1000) (hb : b.size ≤ 1000) (t : ByteArray) (ht : t.size ≤ 1000) : GC Tryz.prog 205 [.agg [sG a, sG b, sG t]] (bG (valueOk t && nameV a b)) := by
  refine gc_of_gk Tryz.func205 ?_
  refine gk_region env false [] [1, 2] ?_ -- 0
  refine gk_region env false [.call (quote_ok t (by omega))] [1, 2, 4] ?_ -- 1
  refine gk_region env false [.call (spot_named a b ha hb)] [2] ?_ -- 2
  refine gk_ret env ?_
  cases valueOk t <;> rfl

theorem reads_words (a b : ByteArray) (ha : a.size ≤ 1000) (hb : b.size ≤ 1000) (t : ByteArray) (ht : t.size ≤ 1000) : GC Tryz.prog 206 [.agg [sG a, sG b, sG t]] (sG (isW a b t)) := by
  have hq := quoteV_size t
  refine gc_of_gk Tryz.func206 ?_
  refine gk_region env false [] [1, 2] ?_ -- 0
  refine gk_region env false [.call (quote_ok t (by omega))] [1, 2, 3] ?_ -- 1
  refine gk_region env false [.call (spot_words a b ha hb)] [2] ?_ (hp := (by simp only [AllP, toN]; repeat' first | exact trivial | exact EntL.refl _ | exact rfl | apply And.intro | (simp only [size_add, lit_size, List.size_toArray, List.length_cons, List.length_nil, spotW, sz_ofL]; omega))) -- 2
  refine gk_ret env ?_
  rfl

theorem agrees_demand (a b c d : ByteArray) : GC Tryz.prog 213 [.agg [sG a, sG b, sG c, sG d]] (dmG (dSame a b c d)) := by
  refine gc_of_gk Tryz.func213 ?_
  refine gk_region env false [] [1, 2] ?_ -- 0
  refine gk_region env false [] [2] ?_ -- 1
  refine gk_ret env ?_
  rfl

theorem agrees_named (a b c d : ByteArray) (ha : a.size ≤ 1000) (hb : b.size ≤ 1000) (hc : c.size ≤ 1000) (hd : d.size ≤ 1000) : GC Tryz.prog 215 [.agg [sG a, sG b, sG c, sG d]] (bG (nameV a b && nameV c d)) := by
  refine gc_of_gk Tryz.func215 ?_
  refine gk_region env false [] [1, 2] ?_ -- 0
  refine gk_region env false [.call (spot_named a b ha hb), .call (spot_named c d hc hd)] [2] ?_ -- 1
  refine gk_ret env ?_
  cases nameV a b <;> rfl

theorem agrees_words (a b c d : ByteArray) (ha : a.size ≤ 1000) (hb : b.size ≤ 1000) (hc : c.size ≤ 1000) (hd : d.size ≤ 1000) : GC Tryz.prog 216 [.agg [sG a, sG b, sG c, sG d]] (sG (sameW a b c d)) := by
  refine gc_of_gk Tryz.func216 ?_
  refine gk_region env false [] [1, 2] ?_ -- 0
  refine gk_region env false [.call (spot_words a b ha hb), .call (spot_words c d hc hd)] [2] ?_ (hp := (by simp only [AllP, toN]; repeat' first | exact trivial | exact EntL.refl _ | exact rfl | apply And.intro | (simp only [size_add, lit_size, List.size_toArray, List.length_cons, List.length_nil, spotW, sz_ofL]; omega))) -- 1
  refine gk_ret env ?_
  rfl

theorem limits_demand_false (a b : ByteArray) (lo hi : Int) : GC Tryz.prog 218 [.agg [sG a, sG b, iG lo, iG hi, bG false]] (dmG (dLim a b lo hi false)) := by
  refine gc_of_gk Tryz.func218 ?_
  refine gk_region env false [] [1, 2] ?_ -- 0
  refine gk_region env false [] [1, 2, 3] ?_ -- 1
  refine gk_region env false [] [2, 3, 16] ?_ -- 2
  refine gk_if (fun c1 => ?_) (fun c1 => ?_)
  · try simp only [bb, toN] at c1
    refine gk_region env false [] [2, 3] ?_ -- 3
    refine gk_region env false [] [2] ?_ -- 4
    refine gk_ret env ?_
    cases c1
  · try simp only [bb, toN] at c1
    refine gk_region env false [] [2] ?_ -- 4
    refine gk_ret env ?_
    rfl

theorem limits_demand_true (a b : ByteArray) (lo hi : Int) : GC Tryz.prog 218 [.agg [sG a, sG b, iG lo, iG hi, bG true]] (dmG (dLim a b lo hi true)) := by
  refine gc_of_gk Tryz.func218 ?_
  refine gk_region env false [] [1, 2] ?_ -- 0
  refine gk_region env false [] [1, 2, 3] ?_ -- 1
  refine gk_region env false [] [2, 3, 16] ?_ -- 2
  refine gk_if (fun c1 => ?_) (fun c1 => ?_)
  · try simp only [bb, toN] at c1
    refine gk_region env false [] [2, 3] ?_ -- 3
    refine gk_region env false [] [2] ?_ -- 4
    refine gk_ret env ?_
    rfl
  · try simp only [bb, toN] at c1
    refine gk_region env false [] [2] ?_ -- 4
    refine gk_ret env ?_
    cases c1

theorem limits_named (a b : ByteArray) (ha : a.size ≤ 1000) (hb : b.size ≤ 1000) (lo hi : Int) (sm : Bool) : GC Tryz.prog 220 [.agg [sG a, sG b, iG lo, iG hi, bG sm]] (bG (nameV a b && decide (0 ≤ lo) && decide (lo ≤ hi) && decide (hi ≤ 1099511627776))) := by
  refine gc_of_gk Tryz.func220 ?_
  refine gk_region env false [] [1, 2] ?_ -- 0
  refine gk_region env false [.call (spot_named a b ha hb)] [2] ?_ -- 1
  refine gk_ret env ?_
  cases nameV a b <;> simp [tupG]
end Go.Gh
