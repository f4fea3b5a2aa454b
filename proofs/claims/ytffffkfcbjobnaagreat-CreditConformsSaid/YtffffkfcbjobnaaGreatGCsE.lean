/- Walks by the logic of calls, and plain laws. -/
import Derived.Test.YtffffkfcbjobnaaGreatGCsD
namespace Go.Gh
open Go Go.Proofs
set_option maxRecDepth 1000000
set_option maxHeartbeats 2000000
set_option linter.unusedSimpArgs false
set_option linter.unusedVariables false
set_option linter.unnecessarySimpa false
set_option linter.unusedSectionVars false
variable [PowTab] [ItoaU]
open Go.RowKit

theorem sumZ_app (a b : List Tk) : sumZ (a ++ b) = sumZ a + sumZ b := by simp [sumZ]
theorem sumZ_cons (t : Tk) (b : List Tk) : sumZ (t :: b) = tkZ t + sumZ b := by simp [sumZ]
theorem sumZ_nil : sumZ [] = 0 := rfl
theorem tkZ_w (s : ByteArray) : tkZ (tkW s) = s.size + 1 := rfl
theorem tkZ_s (s : ByteArray) : tkZ (tkS s) = s.size + 1 := rfl
theorem tkZ_1 (s : ByteArray) : tkZ ⟨1, s, 0, 0⟩ = s.size + 1 := rfl
theorem tkZ_2 (s : ByteArray) : tkZ ⟨2, s, 0, 0⟩ = (escR s).size + 1 := rfl
theorem kz : kNeed.size = 4 ∧ kSemi.size = 1 ∧ kDot.size = 1 ∧ kSum.size = 3 ∧ kField.size = 5 ∧ kIs.size = 2 ∧ kSame.size = 4 ∧ kFrom.size = 4 ∧ kTo.size = 2 := ⟨rfl, rfl, rfl, rfl, rfl, rfl, rfl, rfl, rfl⟩
structure TokB (l : List Tk) (n : Nat) : Prop where
  len : l.length ≤ 9 * n
  z : sumZ l ≤ 940 * n
  tx : ∀ t, t ∈ l → t.text.size ≤ 1000
theorem TokB.app {a b : List Tk} {n : Nat} (h : TokB a n) (k : TokB b 1) : TokB (a ++ b) (n + 1) :=
  ⟨by have := h.len; have := k.len; rw [List.length_append]; omega, by have := h.z; have := k.z; rw [sumZ_app]; omega, fun t ht => by
    rcases List.mem_append.1 ht with ht | ht
    · exact h.tx t ht
    · exact k.tx t ht⟩
theorem toksD_b {d : Dm} (hf : FewD d) (hd : Fine d) : TokB (toksD d) 1 := by
  obtain ⟨f1, f2, f3, f4, f5⟩ := hf
  obtain ⟨c1, c2, c3, c4, c5⟩ := hd
  obtain ⟨k1, k2, k3, k4, k5, k6, k7, k8, k9⟩ := kz
  have he := escR_size d.text
  unfold toksD
  split
  · refine ⟨by simp, by simp only [sumZ_cons, sumZ_nil, tkZ_w, tkZ_s, k1, k2]; omega, fun t ht => ?_⟩
    simp only [List.mem_cons, List.not_mem_nil, or_false] at ht
    rcases ht with rfl | rfl | rfl
    · show kNeed.size ≤ _; omega
    · show d.doc.size ≤ _; omega
    · show kSemi.size ≤ _; omega
  · have hh : (headT d).length = 4 ∧ sumZ (headT d) ≤ 140 ∧ ∀ t, t ∈ headT d → t.text.size ≤ 1000 := by
      unfold headT
      refine ⟨rfl, ?_, fun t ht => ?_⟩
      · have : (if d.op = 4 then kSum else kField).size ≤ 5 := by split <;> omega
        simp only [sumZ_cons, sumZ_nil, tkZ_w, tkZ_s, k3]; omega
      · simp only [List.mem_cons, List.not_mem_nil, or_false] at ht
        rcases ht with rfl | rfl | rfl | rfl
        · show (if d.op = 4 then kSum else kField).size ≤ _; split <;> omega
        · show d.doc.size ≤ _; omega
        · show kDot.size ≤ _; omega
        · show d.field.size ≤ _; omega
    have ht : (tailT d).length ≤ 5 ∧ sumZ (tailT d) ≤ 810 ∧ sumZ (headT d) + sumZ (tailT d) ≤ 940 ∧ ∀ t, t ∈ tailT d → t.text.size ≤ 1000 := by
      have hh2 : sumZ (headT d) ≤ 130 := by
        have : (if d.op = 4 then kSum else kField).size ≤ 5 := by split <;> omega
        unfold headT
        simp only [sumZ_cons, sumZ_nil, tkZ_w, tkZ_s, k3]; omega
      unfold tailT
      split
      · rename_i h1
        have hv : d.text.size ≤ 400 := by
          have := c4.1.resolve_left (fun h => h h1)
          simp [valueOk] at this; omega
        have hz : sumZ [tkW kIs, ⟨2, d.text, 0, 0⟩, tkS kSemi] ≤ 810 := by simp only [sumZ_cons, sumZ_nil, tkZ_w, tkZ_s, tkZ_2, k6, k2]; omega
        refine ⟨by simp, hz, by omega, fun t ht => ?_⟩
        simp only [List.mem_cons, List.not_mem_nil, or_false] at ht
        rcases ht with rfl | rfl | rfl
        · show kIs.size ≤ _; omega
        · show d.text.size ≤ _; omega
        · show kSemi.size ≤ _; omega
      · split
        · have hz : sumZ [tkW kSame, tkW d.other, tkS kDot, tkW d.second, tkS kSemi] ≤ 800 := by simp only [sumZ_cons, sumZ_nil, tkZ_w, tkZ_s, k7, k2, k3]; omega
          refine ⟨by simp, by omega, by omega, fun t ht => ?_⟩
          simp only [List.mem_cons, List.not_mem_nil, or_false] at ht
          rcases ht with rfl | rfl | rfl | rfl | rfl
          · show kSame.size ≤ _; omega
          · show d.other.size ≤ _; omega
          · show kDot.size ≤ _; omega
          · show d.second.size ≤ _; omega
          · show kSemi.size ≤ _; omega
        · have hl : (0 ≤ d.lo ∧ d.lo ≤ 1099511627776) ∧ (0 ≤ d.hi ∧ d.hi ≤ 1099511627776) := by split at c5 <;> omega
          have z1 := digs_size hl.1.1 (by omega)
          have z2 := digs_size hl.2.1 (by omega)
          have hz : sumZ [tkW kFrom, ⟨1, digs d.lo, 0, 0⟩, tkW kTo, ⟨1, digs d.hi, 0, 0⟩, tkS kSemi] ≤ 800 := by simp only [sumZ_cons, sumZ_nil, tkZ_w, tkZ_s, tkZ_1, k8, k9, k2]; omega
          refine ⟨by simp, by omega, by omega, fun t ht => ?_⟩
          simp only [List.mem_cons, List.not_mem_nil, or_false] at ht
          rcases ht with rfl | rfl | rfl | rfl | rfl
          · show kFrom.size ≤ _; omega
          · show (digs d.lo).size ≤ _; omega
          · show kTo.size ≤ _; omega
          · show (digs d.hi).size ≤ _; omega
          · show kSemi.size ≤ _; omega
    refine ⟨by rw [List.length_append]; omega, by rw [sumZ_app]; omega, fun t h => ?_⟩
    rcases List.mem_append.1 h with h | h
    · exact hh.2.2 t h
    · exact ht.2.2.2 t h
theorem Fine.lo {d : Dm} (h : Fine d) : (0 ≤ d.lo ∧ d.lo ≤ 1099511627776) ∧ (0 ≤ d.hi ∧ d.hi ≤ 1099511627776) := by
  have h5 := h.2.2.2.2
  split at h5 <;> omega
def rpF (l : List Dm) (i : Nat) (acc : List Tk) : Option (List Tk) := if i < l.length then if Fine (l.getD i default) then rpF l (i + 1) (acc ++ toksD (l.getD i default)) else none else some acc
termination_by l.length - i
def rprintS (l : List Dm) : ByteArray := if (20 : Int) < l.length then ⟨#[]⟩ else match rpF l 0 [] with
  | none => ⟨#[]⟩
  | some r => prT r
def rprintOk (l : List Dm) : Bool := if (20 : Int) < l.length then false else (rpF l 0 []).isSome
structure RpI (l : List Dm) (i : Nat) (acc : List Tk) : Prop where
  le : i ≤ l.length
  b : TokB acc i
  eq : rpF l 0 [] = rpF l i acc

theorem rprint_ok (l : List Dm) (hl : l.length ≤ 1000) (hf : ∀ d, d ∈ l → FewD d) : GC Tryz.prog 52 [rowD l] (.tup [sG (rprintS l), bG (rprintOk l)]) := by
  refine gc_of_gk Tryz.func52 ?_
  refine gk_region env false [] [0, 2, 3] ?_ -- 0
  refine gk_region env false [] [0, 2, 3, 9] ?_ -- 1
  refine gk_ifd (fun c1 => ?_) (fun c1 => ?_)
  · try simp only [toN] at c1
    refine gk_region env false [] [0, 2, 3] ?_ -- 2
    refine gk_ret env ?_
    rw [rprintS, if_pos c1, rprintOk, if_pos c1]; rfl
  · try simp only [toN] at c1
    refine gk_region env false [] [0, 2, 3, 4] ?_ -- 3
    refine gk_nil 4 187 4 (default : Tk) tkC (by rfl) (by rfl) ?_
    refine gk_region env false [] [0, 2, 3, 4, 5] ?_ -- 4
    refine gk_loop (α := Nat × List Tk) (fun x => RpI l x.1 x.2) (fun x => [(5, iG x.1), (4, .sl 0 4 0 x.2.length)]) (fun x => [(0, some (.row 187 4 (default : Tk) tkC x.2 0))]) (fun x => l.length - x.1) (0, []) ⟨Nat.zero_le _, ⟨Nat.zero_le _, Nat.zero_le _, fun t h => (by cases h)⟩, rfl⟩ ?_ (hp := by simp only [AllP]; repeat' first | exact trivial | exact EntL.refl _ | exact BEntL.refl _ | exact rfl | omega | apply And.intro | intro _) -- loop 5
    rintro ⟨i, acc⟩ hI
    dsimp only at *
    have h1 := hI.le
    have hb := hI.b
    have hb1 := hb.len
    have hb2 := hb.z
    refine gk_region env false [] [0, 2, 3, 4, 5, 13] ?_ -- 5
    refine gk_ifd (fun c2 => ?_) (fun c2 => ?_)
    · try simp only [toN] at c2
      have hfd := hf (l.getD i default) (getD_mem (by omega))
      refine gk_region env false [.call (fine_ok (l.getD i default) hfd)] [0, 2, 3, 4, 5, 21] ?_ -- 7
      refine gk_if (fun c3 => ?_) (fun c3 => ?_)
      · try simp only [bb, toN] at c3
        refine gk_region env false [] [0, 2, 3, 4, 5] ?_ -- 8
        refine gk_ret env ?_
        have e : rpF l 0 [] = none := by rw [hI.eq, rpF, if_pos (by omega), if_neg c3]
        rw [rprintS, if_neg c1, rprintOk, if_neg c1, e]; rfl
      · try simp only [bb, toN] at c3
        have hlo := c3.lo
        have hbb := (toksD_b hfd c3).len
        refine gk_region env false [.call (toks_ok (l.getD i default) hlo.1 hlo.2), .el default tkC (acc ++ toksD (l.getD i default))] [0, 2, 3, 4, 5] ?_ (hp := (by simp only [AllP, Int.toNat_natCast]; repeat' first | exact trivial | exact EntL.refl _ | exact BEntL.refl _ | exact rfl | omega | apply And.intro | intro _ | (simp [rowL]; done) | (simp only [List.length_append, List.length_cons, List.length_nil]; omega) | (simp [*]; done))) -- 9
        refine gk_region env false [] [0, 2, 3, 4, 5] ?_ -- 6
        refine gk_round ((i + 1, acc ++ toksD (l.getD i default))) ?_ (hp := by simp only [AllP]; repeat' first | exact trivial | exact EntL.refl _ | exact BEntL.refl _ | exact rfl | omega | apply And.intro | intro _ | (simp; done))
        refine ⟨by simp only; omega, hb.app (toksD_b hfd c3), hI.eq.trans ?_⟩
        rw [rpF, if_pos (by omega), if_pos c3]
    · try simp only [toN] at c2
      refine gk_region env false [.call (rprT_ok acc (by omega) (by omega) hb.tx)] [2, 3, 6] ?_ -- 10
      refine gk_region env false [] [2, 3, 6, 33] ?_ -- 11
      refine gk_ifd (fun c4 => ?_) (fun c4 => ?_)
      · try simp only [toN] at c4
        refine gk_region env false [] [2, 3, 6] ?_ -- 12
        refine gk_ret env ?_
        have := prT_size acc
        omega
      · try simp only [toN] at c4
        refine gk_region env false [] [2, 3] ?_ -- 13
        refine gk_ret env ?_
        have e : rpF l 0 [] = some acc := by rw [hI.eq, rpF, if_neg (by omega)]
        rw [rprintS, if_neg c1, rprintOk, if_neg c1, e]; rfl

theorem rwritten_ok (l : List Dm) (hl : l.length ≤ 1000) (hf : ∀ d, d ∈ l → FewD d) : GC Tryz.prog 33 [rowD l] (bG (rprintOk l)) := by
  refine gc_of_gk Tryz.func33 ?_
  refine gk_region env false [] [0, 2] ?_ -- 0
  refine gk_region env false [.call (rprint_ok l hl hf)] [2, 4] ?_ -- 1
  refine gk_region env false [] [2] ?_ -- 2
  refine gk_ret env ?_
  rfl
end Go.Gh
