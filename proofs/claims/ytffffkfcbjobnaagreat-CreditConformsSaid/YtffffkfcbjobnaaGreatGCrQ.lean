/- Walks by the logic of calls, and plain laws. -/
import Derived.Test.YtffffkfcbjobnaaGreatGCrP
namespace Go.Gh
open Go Go.Proofs
set_option maxRecDepth 1000000
set_option maxHeartbeats 2000000
set_option linter.unusedSimpArgs false
set_option linter.unusedVariables false
set_option linter.unnecessarySimpa false
set_option linter.unusedSectionVars false
variable [PowTab] [ItoaU]
open Go.RowKit

theorem join_le (xs : List (List UInt8)) (m : Nat) : (∀ x, x ∈ xs → x.length ≤ m) → (Lib.join xs [32]).length ≤ xs.length * (m + 1) := by
  match xs with
  | [] => intro _; simp [Lib.join]
  | [x] => intro h; have := h x List.mem_cons_self; simp [Lib.join, List.intercalate, List.intersperse]; omega
  | x :: y :: l =>
    intro h
    have ih := join_le (y :: l) m fun z hz => h z (List.mem_cons_of_mem _ hz)
    have := h x List.mem_cons_self
    have e : Lib.join (x :: y :: l) [32] = x ++ [32] ++ Lib.join (y :: l) [32] := by simp [Lib.join, List.intercalate, List.intersperse]
    rw [e]
    simp only [List.length_append, List.length_cons, List.length_nil, Nat.add_mul] at ih ⊢
    omega
def limW (a b : ByteArray) (lo hi : Int) (sm : Bool) : ByteArray := (if sm then wSum else wField) ++ spotW a b ++ wFrom ++ ItoaU.f lo ++ wTo ++ ItoaU.f hi ++ wEnd

theorem limits_words (a b : ByteArray) (ha : a.size ≤ 1000) (hb : b.size ≤ 1000) (lo hi : Int) (h0 : 0 ≤ lo) (h1 : lo ≤ hi) (h2 : hi ≤ 1099511627776) (sm : Bool) : GC Tryz.prog 221 [.agg [sG a, sG b, iG lo, iG hi, bG sm]] (sG (limW a b lo hi sm)) := by
  have hq1 := ItoaU.size lo
  have hq2 := ItoaU.size hi
  have hq3 : (if sm = true then wSum else wField).size ≤ 6 := by cases sm <;> decide
  refine gc_of_gk Tryz.func221 ?_
  refine gk_region env false [] [1, 2] ?_ -- 0
  refine gk_region env false [] [1, 2, 3] ?_ -- 1
  refine gk_region env false [] [1, 2, 3, 5] ?_ -- 2
  refine gk_join (α := Unit) (fun _ => True) (fun _ => ⟨[(1, .ptr 0 0 0 0), (2, sG e0), (3, sG (if sm then wSum else wField))], [(0, some (.box [sG a, sG b, iG lo, iG hi, bG sm]))], 1⟩) ?_ ?_
  · rintro ⟨⟩ -
    refine gk_region env false [.call (GC.lift (spot_words a b ha hb)), .call (ItoaU.ok lo (by omega) (by omega)), .call (ItoaU.ok hi (by omega) (by omega))] [2] ?_ (hp := (by simp only [AllP, toN]; repeat' first | exact trivial | exact EntL.refl _ | exact rfl | apply And.intro | (simp only [size_add, lit_size, List.size_toArray, List.length_cons, List.length_nil, spotW, sz_ofL]; omega))) -- 4
    refine gk_ret env ?_
    rfl
  refine gk_if (fun c1 => ?_) (fun c1 => ?_)
  · try simp only [bb, toN] at c1
    refine gk_region env false [] [1, 2, 3] ?_ -- 3
    refine gk_goal (()) ?_ (hp := by simp [AllP, *])
    trivial
  · try simp only [bb, toN] at c1
    refine gk_goal (()) ?_ (hp := by simp [AllP, *])
    trivial
end Go.Gh
