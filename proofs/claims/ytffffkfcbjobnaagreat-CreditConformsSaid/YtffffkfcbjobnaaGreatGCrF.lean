/- Walks by the logic of calls, and plain laws. -/
import Derived.Test.YtffffkfcbjobnaaGreatGCrQ
namespace Go.Gh
open Go Go.Proofs
set_option maxRecDepth 1000000
set_option maxHeartbeats 2000000
set_option linter.unusedSimpArgs false
set_option linter.unusedVariables false
set_option linter.unnecessarySimpa false
set_option linter.unusedSectionVars false
variable [PowTab] [ItoaU]
open Go.RowKit

def cleanV (d : Dm) : Dm := if d.op = 0 then dNeed d.doc else if d.op = 1 then dIs d.doc d.field d.text else if d.op = 3 then dSame d.doc d.field d.other d.second else dLim d.doc d.field d.lo d.hi (decide (d.op = 4))
def namedV (d : Dm) : Bool := if d.op = 0 then nameOk d.doc else if d.op = 1 then valueOk d.text && nameV d.doc d.field else if d.op = 3 then nameV d.doc d.field && nameV d.other d.second
  else nameV d.doc d.field && decide (0 ≤ d.lo) && decide (d.lo ≤ d.hi) && decide (d.hi ≤ 1099511627776)
def wordsV (d : Dm) : ByteArray := if d.op = 0 then needW d.doc else if d.op = 1 then isW d.doc d.field d.text else if d.op = 3 then sameW d.doc d.field d.other d.second else limW d.doc d.field d.lo d.hi (decide (d.op = 4))
def knownV (d : Dm) : Bool := decide (0 ≤ d.op) && decide (d.op ≤ 4)
/-- whether a demand can be written -/
def canV (d : Dm) : Bool := knownV d && (decide (d = cleanV d) && namedV d)
def printF (l : List Dm) (i : Nat) (acc : List ByteArray) : Option (List ByteArray) :=
  if i < l.length then if canV (l.getD i default) = true ∧ l.length ≤ 20 then printF l (i + 1) (acc ++ [wordsV (l.getD i default)]) else none else some acc
termination_by l.length - i
def printS (l : List Dm) : ByteArray := match printF l 0 [] with
  | none => e0
  | some r => if 20000 < (joinS r ⟨#[32]⟩).size then e0 else joinS r ⟨#[32]⟩
def printOk (l : List Dm) : Bool := match printF l 0 [] with
  | none => false
  | some r => decide ((joinS r ⟨#[32]⟩).size ≤ 20000)
theorem FewD.words {d : Dm} (h : FewD d) (hc : canV d = true) : (wordsV d).size ≤ 940 := by
  obtain ⟨h1, h2, h3, h4, h5⟩ := h
  have hq := quoteV_size d.text
  unfold wordsV
  split
  · simp only [needW, size_add, lit_size, List.size_toArray, List.length_cons, List.length_nil]; omega
  · split
    · simp only [isW, spotW, sz_ofL, size_add, lit_size, List.size_toArray, List.length_cons, List.length_nil]; omega
    · split
      · simp only [sameW, spotW, size_add, lit_size, List.size_toArray, List.length_cons, List.length_nil]; omega
      · rename_i g1 g2 g3
        simp [canV, namedV, g1, g2, g3] at hc
        obtain ⟨_, _, ⟨⟨_, a1⟩, a2⟩, a3⟩ := hc
        have q1 := ItoaU.size d.lo
        have q2 := ItoaU.size d.hi
        have q3 : (if decide (d.op = 4) = true then wSum else wField).size ≤ 6 := by split <;> decide
        simp only [limW, spotW, sz_ofL, size_add, lit_size, List.size_toArray, List.length_cons, List.length_nil]; omega
theorem clean_0 {d : Dm} (h : d.op = 0) : cleanV d = dNeed d.doc ∧ wordsV d = needW d.doc ∧ canV d = (dmEq d (dNeed d.doc) && nameOk d.doc) := by
  have hc : cleanV d = dNeed d.doc := by simp [cleanV, h]
  exact ⟨hc, by simp [wordsV, h], by rw [canV, hc, dmEq_eq]; simp [knownV, namedV, h]⟩
theorem clean_1 {d : Dm} (h : d.op = 1) : cleanV d = dIs d.doc d.field d.text ∧ wordsV d = isW d.doc d.field d.text ∧ canV d = (dmEq d (dIs d.doc d.field d.text) && (valueOk d.text && nameV d.doc d.field)) := by
  have hc : cleanV d = dIs d.doc d.field d.text := by simp [cleanV, h]
  exact ⟨hc, by simp [wordsV, h], by rw [canV, hc, dmEq_eq]; simp [knownV, namedV, h]⟩
theorem clean_3 {d : Dm} (h : d.op = 3) : cleanV d = dSame d.doc d.field d.other d.second ∧ wordsV d = sameW d.doc d.field d.other d.second ∧ canV d = (dmEq d (dSame d.doc d.field d.other d.second) && (nameV d.doc d.field && nameV d.other d.second)) := by
  have hc : cleanV d = dSame d.doc d.field d.other d.second := by simp [cleanV, h]
  exact ⟨hc, by simp [wordsV, h], by rw [canV, hc, dmEq_eq]; simp [knownV, namedV, h]⟩
theorem clean_2 {d : Dm} (h : d.op = 2) : cleanV d = dLim d.doc d.field d.lo d.hi false ∧ wordsV d = limW d.doc d.field d.lo d.hi false ∧ canV d = (dmEq d (dLim d.doc d.field d.lo d.hi false) && (nameV d.doc d.field && decide (0 ≤ d.lo) && decide (d.lo ≤ d.hi) && decide (d.hi ≤ 1099511627776))) := by
  have hc : cleanV d = dLim d.doc d.field d.lo d.hi false := by simp [cleanV, h]
  exact ⟨hc, by simp [wordsV, h], by rw [canV, hc, dmEq_eq]; simp [knownV, namedV, h]⟩
theorem clean_4 {d : Dm} (h : d.op = 4) : cleanV d = dLim d.doc d.field d.lo d.hi true ∧ wordsV d = limW d.doc d.field d.lo d.hi true ∧ canV d = (dmEq d (dLim d.doc d.field d.lo d.hi true) && (nameV d.doc d.field && decide (0 ≤ d.lo) && decide (d.lo ≤ d.hi) && decide (d.hi ≤ 1099511627776))) := by
  have hc : cleanV d = dLim d.doc d.field d.lo d.hi true := by simp [cleanV, h]
  exact ⟨hc, by simp [wordsV, h], by rw [canV, hc, dmEq_eq]; simp [knownV, namedV, h]⟩
theorem inv_d0 : Inv Tryz.prog 136 "allonge/require.demand" 195 := fun x args w => by kernel_rfl
theorem inv_d1 : Inv Tryz.prog 138 "allonge/require.demand" 203 := fun x args w => by kernel_rfl
theorem inv_d3 : Inv Tryz.prog 140 "allonge/require.demand" 213 := fun x args w => by kernel_rfl
theorem inv_d2 : Inv Tryz.prog 142 "allonge/require.demand" 218 := fun x args w => by kernel_rfl
theorem inv_n0 : Inv Tryz.prog 136 "allonge/require.named" 197 := fun x args w => by kernel_rfl
theorem inv_n1 : Inv Tryz.prog 138 "allonge/require.named" 205 := fun x args w => by kernel_rfl
theorem inv_n3 : Inv Tryz.prog 140 "allonge/require.named" 215 := fun x args w => by kernel_rfl
theorem inv_n2 : Inv Tryz.prog 142 "allonge/require.named" 220 := fun x args w => by kernel_rfl
theorem inv_w0 : Inv Tryz.prog 136 "allonge/require.words" 198 := fun x args w => by kernel_rfl
theorem inv_w1 : Inv Tryz.prog 138 "allonge/require.words" 206 := fun x args w => by kernel_rfl
theorem inv_w3 : Inv Tryz.prog 140 "allonge/require.words" 216 := fun x args w => by kernel_rfl
theorem inv_w2 : Inv Tryz.prog 142 "allonge/require.words" 221 := fun x args w => by kernel_rfl

theorem getD_mem' {α : Type} [Inhabited α] {l : List α} {i : Nat} (h : i < l.length) : l.getD i default ∈ l := by
  rw [List.getD_eq_getElem?_getD, List.getElem?_eq_getElem h]; exact List.getElem_mem h

theorem print_ok (l : List Dm) (hl : l.length ≤ 1000) (hf : ∀ d, d ∈ l → FewD d) : GC Tryz.prog 72 [rowD l] (.tup [sG (printS l), bG (printOk l)]) := by
  refine gc_of_gk Tryz.func72 ?_
  refine gk_region env false [] [0, 2, 3] ?_ -- 0
  refine gk_region env false [] [0, 2, 3, 4] ?_ -- 1
  refine gk_nil 4 9 1 (default : ByteArray) strC (by rfl) (by rfl) ?_
  refine gk_region env false [] [0, 2, 3, 4, 10, 11, 12] ?_ -- 2
  refine gk_loop (α := Nat × List ByteArray) (fun x => x.1 ≤ l.length ∧ x.2.length ≤ x.1 ∧ (∀ s, s ∈ x.2 → s.size ≤ 940) ∧ printF l 0 [] = printF l x.1 x.2) (fun x => [(12, iG x.1), (4, .sl 0 1 0 x.2.length)]) (fun x => [(0, some (.row 9 1 default strC x.2 0))]) (fun x => l.length - x.1) (0, []) ⟨by simp, by simp, fun s h => by simp at h, rfl⟩ ?_ -- loop 3
  rintro ⟨i, acc⟩ ⟨hi, hj, hz, he⟩
  dsimp only at *
  have hfd := fun h : i < l.length => hf _ (getD_mem' (l := l) h)
  refine gk_region env false [] [0, 2, 3, 4, 10, 11, 12, 13] ?_ -- 3
  refine gk_ifd (fun c1 => ?_) (fun c1 => ?_)
  · try simp only [toN] at c1
    refine gk_region env false [] [0, 2, 3, 4, 6, 10, 11, 12] ?_ -- 4
    rcases ops (l.getD i default).op with h | h | h | h | h | h
    · refine gk_region env false [.call (GC.lift (clause_need (l.getD i default) h))] [0, 2, 3, 4, 6, 7, 8, 10, 11, 12] ?_ -- 5
      refine gk_region env false [] [0, 2, 3, 4, 6, 7, 10, 11, 12, 27] ?_ -- 6
      refine gk_if (fun c2 => ?_) (fun c2 => ?_)
      · try simp only [bb, toN] at c2
        refine gk_region env false [] [0, 2, 3, 4, 6, 7, 10, 11, 12] ?_ -- 7
        refine gk_ret env ?_
        have e : printF l 0 [] = none := he.trans (by rw [printF, if_pos (by omega), if_neg (fun hh => by have := hh.2; simp at c2; omega)])
        simp [printS, printOk, e, tupG]
      · try simp only [bb, toN] at c2
        obtain ⟨f5, f1, f2, f3, f4⟩ := hfd (by omega)
        replace f1 := Nat.le_trans f1 (by decide : 60 ≤ 1000)
        replace f2 := Nat.le_trans f2 (by decide : 60 ≤ 1000)
        replace f3 := Nat.le_trans f3 (by decide : 60 ≤ 1000)
        replace f4 := Nat.le_trans f4 (by decide : 60 ≤ 1000)
        replace f5 := Nat.le_trans f5 (by decide : 500 ≤ 1000)
        refine gk_region env false [.inv inv_d0 (GC.lift (needs_demand (l.getD i default).doc)), .eq (eq_demand (l.getD i default) (dNeed (l.getD i default).doc)), .inv inv_n0 (GC.lift (needs_named (l.getD i default).doc f1))] [0, 2, 3, 4, 7, 10, 11, 12, 36] ?_ -- 8
        refine gk_if (fun c3 => ?_) (fun c3 => ?_)
        · try simp only [bb, toN] at c3
          refine gk_region env false [] [0, 2, 3, 4, 7, 10, 11, 12] ?_ -- 9
          refine gk_ret env ?_
          obtain ⟨_, _, hcx⟩ := clean_0 h
          have hcan : ¬ canV (l.getD i default) = true := by
            rw [hcx]
            simp at c3 ⊢
            grind
          have e : printF l 0 [] = none := he.trans (by rw [printF, if_pos (by omega), if_neg (fun hh => hcan hh.1)])
          simp [printS, printOk, e, tupG]
        · try simp only [bb, toN] at c3
          obtain ⟨_, hw, hcx⟩ := clean_0 h
          have hcan : canV (l.getD i default) = true := by
              rw [hcx]
              simp at c3 ⊢
              grind
          refine gk_region env false [.inv inv_w0 (GC.lift (needs_words (l.getD i default).doc f1)), .el default strC [needW (l.getD i default).doc], .el default strC (acc ++ [needW (l.getD i default).doc])] [0, 2, 3, 4, 10, 11, 12] ?_ (hp := (by simp only [AllP, Int.toNat_natCast]; repeat' first | exact trivial | exact EntL.refl _ | exact BEntL.refl _ | exact rfl | omega | apply And.intro | intro _ | (simp [rowL]; done) | (simp only [List.length_append, List.length_cons, List.length_nil]; omega) | (simp [*]; done))) -- 10
          refine gk_region env false [] [0, 2, 3, 4, 10, 11, 12] ?_ -- 11
          refine gk_round ((i + 1, acc ++ [needW (l.getD i default).doc])) ?_
          refine ⟨by simp only; omega, by simp only [List.length_append, List.length_cons, List.length_nil]; omega, fun s hs => ?_, he.trans ?_⟩
          · rcases List.mem_append.1 hs with hs | hs
            · exact hz s hs
            · rw [List.mem_singleton.1 hs, ← hw]; exact (hfd (by omega)).words hcan
          · rw [printF, if_pos (by omega), if_pos ⟨hcan, by omega⟩, hw]
    · refine gk_region env false [.call (GC.lift (clause_is (l.getD i default) h))] [0, 2, 3, 4, 6, 7, 8, 10, 11, 12] ?_ -- 5
      refine gk_region env false [] [0, 2, 3, 4, 6, 7, 10, 11, 12, 27] ?_ -- 6
      refine gk_if (fun c2 => ?_) (fun c2 => ?_)
      · try simp only [bb, toN] at c2
        refine gk_region env false [] [0, 2, 3, 4, 6, 7, 10, 11, 12] ?_ -- 7
        refine gk_ret env ?_
        have e : printF l 0 [] = none := he.trans (by rw [printF, if_pos (by omega), if_neg (fun hh => by have := hh.2; simp at c2; omega)])
        simp [printS, printOk, e, tupG]
      · try simp only [bb, toN] at c2
        obtain ⟨f5, f1, f2, f3, f4⟩ := hfd (by omega)
        replace f1 := Nat.le_trans f1 (by decide : 60 ≤ 1000)
        replace f2 := Nat.le_trans f2 (by decide : 60 ≤ 1000)
        replace f3 := Nat.le_trans f3 (by decide : 60 ≤ 1000)
        replace f4 := Nat.le_trans f4 (by decide : 60 ≤ 1000)
        replace f5 := Nat.le_trans f5 (by decide : 500 ≤ 1000)
        refine gk_region env false [.inv inv_d1 (GC.lift (reads_demand (l.getD i default).doc (l.getD i default).field (l.getD i default).text)), .eq (eq_demand (l.getD i default) (dIs (l.getD i default).doc (l.getD i default).field (l.getD i default).text)), .inv inv_n1 (GC.lift (reads_named (l.getD i default).doc (l.getD i default).field f1 f2 (l.getD i default).text f5))] [0, 2, 3, 4, 7, 10, 11, 12, 36] ?_ -- 8
        refine gk_if (fun c3 => ?_) (fun c3 => ?_)
        · try simp only [bb, toN] at c3
          refine gk_region env false [] [0, 2, 3, 4, 7, 10, 11, 12] ?_ -- 9
          refine gk_ret env ?_
          obtain ⟨_, _, hcx⟩ := clean_1 h
          have hcan : ¬ canV (l.getD i default) = true := by
            rw [hcx]
            simp at c3 ⊢
            grind
          have e : printF l 0 [] = none := he.trans (by rw [printF, if_pos (by omega), if_neg (fun hh => hcan hh.1)])
          simp [printS, printOk, e, tupG]
        · try simp only [bb, toN] at c3
          obtain ⟨_, hw, hcx⟩ := clean_1 h
          have hcan : canV (l.getD i default) = true := by
              rw [hcx]
              simp at c3 ⊢
              grind
          refine gk_region env false [.inv inv_w1 (GC.lift (reads_words (l.getD i default).doc (l.getD i default).field f1 f2 (l.getD i default).text f5)), .el default strC [isW (l.getD i default).doc (l.getD i default).field (l.getD i default).text], .el default strC (acc ++ [isW (l.getD i default).doc (l.getD i default).field (l.getD i default).text])] [0, 2, 3, 4, 10, 11, 12] ?_ (hp := (by simp only [AllP, Int.toNat_natCast]; repeat' first | exact trivial | exact EntL.refl _ | exact BEntL.refl _ | exact rfl | omega | apply And.intro | intro _ | (simp [rowL]; done) | (simp only [List.length_append, List.length_cons, List.length_nil]; omega) | (simp [*]; done))) -- 10
          refine gk_region env false [] [0, 2, 3, 4, 10, 11, 12] ?_ -- 11
          refine gk_round ((i + 1, acc ++ [isW (l.getD i default).doc (l.getD i default).field (l.getD i default).text])) ?_
          refine ⟨by simp only; omega, by simp only [List.length_append, List.length_cons, List.length_nil]; omega, fun s hs => ?_, he.trans ?_⟩
          · rcases List.mem_append.1 hs with hs | hs
            · exact hz s hs
            · rw [List.mem_singleton.1 hs, ← hw]; exact (hfd (by omega)).words hcan
          · rw [printF, if_pos (by omega), if_pos ⟨hcan, by omega⟩, hw]
    · refine gk_region env false [.call (GC.lift (clause_within (l.getD i default) h))] [0, 2, 3, 4, 6, 7, 8, 10, 11, 12] ?_ -- 5
      refine gk_region env false [] [0, 2, 3, 4, 6, 7, 10, 11, 12, 27] ?_ -- 6
      refine gk_if (fun c2 => ?_) (fun c2 => ?_)
      · try simp only [bb, toN] at c2
        refine gk_region env false [] [0, 2, 3, 4, 6, 7, 10, 11, 12] ?_ -- 7
        refine gk_ret env ?_
        have e : printF l 0 [] = none := he.trans (by rw [printF, if_pos (by omega), if_neg (fun hh => by have := hh.2; simp at c2; omega)])
        simp [printS, printOk, e, tupG]
      · try simp only [bb, toN] at c2
        obtain ⟨f5, f1, f2, f3, f4⟩ := hfd (by omega)
        replace f1 := Nat.le_trans f1 (by decide : 60 ≤ 1000)
        replace f2 := Nat.le_trans f2 (by decide : 60 ≤ 1000)
        replace f3 := Nat.le_trans f3 (by decide : 60 ≤ 1000)
        replace f4 := Nat.le_trans f4 (by decide : 60 ≤ 1000)
        replace f5 := Nat.le_trans f5 (by decide : 500 ≤ 1000)
        refine gk_region env false [.inv inv_d2 (GC.lift (limits_demand_false (l.getD i default).doc (l.getD i default).field (l.getD i default).lo (l.getD i default).hi)), .eq (eq_demand (l.getD i default) (dLim (l.getD i default).doc (l.getD i default).field (l.getD i default).lo (l.getD i default).hi false)), .inv inv_n2 (GC.lift (limits_named (l.getD i default).doc (l.getD i default).field f1 f2 (l.getD i default).lo (l.getD i default).hi false))] [0, 2, 3, 4, 7, 10, 11, 12, 36] ?_ -- 8
        refine gk_if (fun c3 => ?_) (fun c3 => ?_)
        · try simp only [bb, toN] at c3
          refine gk_region env false [] [0, 2, 3, 4, 7, 10, 11, 12] ?_ -- 9
          refine gk_ret env ?_
          obtain ⟨_, _, hcx⟩ := clean_2 h
          have hcan : ¬ canV (l.getD i default) = true := by
            rw [hcx]
            simp at c3 ⊢
            grind
          have e : printF l 0 [] = none := he.trans (by rw [printF, if_pos (by omega), if_neg (fun hh => hcan hh.1)])
          simp [printS, printOk, e, tupG]
        · try simp only [bb, toN] at c3
          obtain ⟨_, hw, hcx⟩ := clean_2 h
          have hcan : canV (l.getD i default) = true := by
              rw [hcx]
              simp at c3 ⊢
              grind
          have hlim : 0 ≤ (l.getD i default).lo ∧ (l.getD i default).lo ≤ (l.getD i default).hi ∧ (l.getD i default).hi ≤ 1099511627776 := by
              have h9 := hcan
              rw [hcx] at h9
              simp only [Bool.and_eq_true, decide_eq_true_eq] at h9
              omega
          refine gk_region env false [.inv inv_w2 (limits_words (l.getD i default).doc (l.getD i default).field f1 f2 (l.getD i default).lo (l.getD i default).hi hlim.1 hlim.2.1 hlim.2.2 false), .el default strC [limW (l.getD i default).doc (l.getD i default).field (l.getD i default).lo (l.getD i default).hi false], .el default strC (acc ++ [limW (l.getD i default).doc (l.getD i default).field (l.getD i default).lo (l.getD i default).hi false])] [0, 2, 3, 4, 10, 11, 12] ?_ (hp := (by simp only [AllP, Int.toNat_natCast]; repeat' first | exact trivial | exact EntL.refl _ | exact BEntL.refl _ | exact rfl | omega | apply And.intro | intro _ | (simp [rowL]; done) | (simp only [List.length_append, List.length_cons, List.length_nil]; omega) | (simp [*]; done))) -- 10
          refine gk_region env false [] [0, 2, 3, 4, 10, 11, 12] ?_ -- 11
          refine gk_round ((i + 1, acc ++ [limW (l.getD i default).doc (l.getD i default).field (l.getD i default).lo (l.getD i default).hi false])) ?_
          refine ⟨by simp only; omega, by simp only [List.length_append, List.length_cons, List.length_nil]; omega, fun s hs => ?_, he.trans ?_⟩
          · rcases List.mem_append.1 hs with hs | hs
            · exact hz s hs
            · rw [List.mem_singleton.1 hs, ← hw]; exact (hfd (by omega)).words hcan
          · rw [printF, if_pos (by omega), if_pos ⟨hcan, by omega⟩, hw]
    · refine gk_region env false [.call (GC.lift (clause_same (l.getD i default) h))] [0, 2, 3, 4, 6, 7, 8, 10, 11, 12] ?_ -- 5
      refine gk_region env false [] [0, 2, 3, 4, 6, 7, 10, 11, 12, 27] ?_ -- 6
      refine gk_if (fun c2 => ?_) (fun c2 => ?_)
      · try simp only [bb, toN] at c2
        refine gk_region env false [] [0, 2, 3, 4, 6, 7, 10, 11, 12] ?_ -- 7
        refine gk_ret env ?_
        have e : printF l 0 [] = none := he.trans (by rw [printF, if_pos (by omega), if_neg (fun hh => by have := hh.2; simp at c2; omega)])
        simp [printS, printOk, e, tupG]
      · try simp only [bb, toN] at c2
        obtain ⟨f5, f1, f2, f3, f4⟩ := hfd (by omega)
        replace f1 := Nat.le_trans f1 (by decide : 60 ≤ 1000)
        replace f2 := Nat.le_trans f2 (by decide : 60 ≤ 1000)
        replace f3 := Nat.le_trans f3 (by decide : 60 ≤ 1000)
        replace f4 := Nat.le_trans f4 (by decide : 60 ≤ 1000)
        replace f5 := Nat.le_trans f5 (by decide : 500 ≤ 1000)
        refine gk_region env false [.inv inv_d3 (GC.lift (agrees_demand (l.getD i default).doc (l.getD i default).field (l.getD i default).other (l.getD i default).second)), .eq (eq_demand (l.getD i default) (dSame (l.getD i default).doc (l.getD i default).field (l.getD i default).other (l.getD i default).second)), .inv inv_n3 (GC.lift (agrees_named (l.getD i default).doc (l.getD i default).field (l.getD i default).other (l.getD i default).second f1 f2 f3 f4))] [0, 2, 3, 4, 7, 10, 11, 12, 36] ?_ -- 8
        refine gk_if (fun c3 => ?_) (fun c3 => ?_)
        · try simp only [bb, toN] at c3
          refine gk_region env false [] [0, 2, 3, 4, 7, 10, 11, 12] ?_ -- 9
          refine gk_ret env ?_
          obtain ⟨_, _, hcx⟩ := clean_3 h
          have hcan : ¬ canV (l.getD i default) = true := by
            rw [hcx]
            simp at c3 ⊢
            grind
          have e : printF l 0 [] = none := he.trans (by rw [printF, if_pos (by omega), if_neg (fun hh => hcan hh.1)])
          simp [printS, printOk, e, tupG]
        · try simp only [bb, toN] at c3
          obtain ⟨_, hw, hcx⟩ := clean_3 h
          have hcan : canV (l.getD i default) = true := by
              rw [hcx]
              simp at c3 ⊢
              grind
          refine gk_region env false [.inv inv_w3 (GC.lift (agrees_words (l.getD i default).doc (l.getD i default).field (l.getD i default).other (l.getD i default).second f1 f2 f3 f4)), .el default strC [sameW (l.getD i default).doc (l.getD i default).field (l.getD i default).other (l.getD i default).second], .el default strC (acc ++ [sameW (l.getD i default).doc (l.getD i default).field (l.getD i default).other (l.getD i default).second])] [0, 2, 3, 4, 10, 11, 12] ?_ (hp := (by simp only [AllP, Int.toNat_natCast]; repeat' first | exact trivial | exact EntL.refl _ | exact BEntL.refl _ | exact rfl | omega | apply And.intro | intro _ | (simp [rowL]; done) | (simp only [List.length_append, List.length_cons, List.length_nil]; omega) | (simp [*]; done))) -- 10
          refine gk_region env false [] [0, 2, 3, 4, 10, 11, 12] ?_ -- 11
          refine gk_round ((i + 1, acc ++ [sameW (l.getD i default).doc (l.getD i default).field (l.getD i default).other (l.getD i default).second])) ?_
          refine ⟨by simp only; omega, by simp only [List.length_append, List.length_cons, List.length_nil]; omega, fun s hs => ?_, he.trans ?_⟩
          · rcases List.mem_append.1 hs with hs | hs
            · exact hz s hs
            · rw [List.mem_singleton.1 hs, ← hw]; exact (hfd (by omega)).words hcan
          · rw [printF, if_pos (by omega), if_pos ⟨hcan, by omega⟩, hw]
    · refine gk_region env false [.call (GC.lift (clause_sum (l.getD i default) h))] [0, 2, 3, 4, 6, 7, 8, 10, 11, 12] ?_ -- 5
      refine gk_region env false [] [0, 2, 3, 4, 6, 7, 10, 11, 12, 27] ?_ -- 6
      refine gk_if (fun c2 => ?_) (fun c2 => ?_)
      · try simp only [bb, toN] at c2
        refine gk_region env false [] [0, 2, 3, 4, 6, 7, 10, 11, 12] ?_ -- 7
        refine gk_ret env ?_
        have e : printF l 0 [] = none := he.trans (by rw [printF, if_pos (by omega), if_neg (fun hh => by have := hh.2; simp at c2; omega)])
        simp [printS, printOk, e, tupG]
      · try simp only [bb, toN] at c2
        obtain ⟨f5, f1, f2, f3, f4⟩ := hfd (by omega)
        replace f1 := Nat.le_trans f1 (by decide : 60 ≤ 1000)
        replace f2 := Nat.le_trans f2 (by decide : 60 ≤ 1000)
        replace f3 := Nat.le_trans f3 (by decide : 60 ≤ 1000)
        replace f4 := Nat.le_trans f4 (by decide : 60 ≤ 1000)
        replace f5 := Nat.le_trans f5 (by decide : 500 ≤ 1000)
        refine gk_region env false [.inv inv_d2 (GC.lift (limits_demand_true (l.getD i default).doc (l.getD i default).field (l.getD i default).lo (l.getD i default).hi)), .eq (eq_demand (l.getD i default) (dLim (l.getD i default).doc (l.getD i default).field (l.getD i default).lo (l.getD i default).hi true)), .inv inv_n2 (GC.lift (limits_named (l.getD i default).doc (l.getD i default).field f1 f2 (l.getD i default).lo (l.getD i default).hi true))] [0, 2, 3, 4, 7, 10, 11, 12, 36] ?_ -- 8
        refine gk_if (fun c3 => ?_) (fun c3 => ?_)
        · try simp only [bb, toN] at c3
          refine gk_region env false [] [0, 2, 3, 4, 7, 10, 11, 12] ?_ -- 9
          refine gk_ret env ?_
          obtain ⟨_, _, hcx⟩ := clean_4 h
          have hcan : ¬ canV (l.getD i default) = true := by
            rw [hcx]
            simp at c3 ⊢
            grind
          have e : printF l 0 [] = none := he.trans (by rw [printF, if_pos (by omega), if_neg (fun hh => hcan hh.1)])
          simp [printS, printOk, e, tupG]
        · try simp only [bb, toN] at c3
          obtain ⟨_, hw, hcx⟩ := clean_4 h
          have hcan : canV (l.getD i default) = true := by
              rw [hcx]
              simp at c3 ⊢
              grind
          have hlim : 0 ≤ (l.getD i default).lo ∧ (l.getD i default).lo ≤ (l.getD i default).hi ∧ (l.getD i default).hi ≤ 1099511627776 := by
              have h9 := hcan
              rw [hcx] at h9
              simp only [Bool.and_eq_true, decide_eq_true_eq] at h9
              omega
          refine gk_region env false [.inv inv_w2 (limits_words (l.getD i default).doc (l.getD i default).field f1 f2 (l.getD i default).lo (l.getD i default).hi hlim.1 hlim.2.1 hlim.2.2 true), .el default strC [limW (l.getD i default).doc (l.getD i default).field (l.getD i default).lo (l.getD i default).hi true], .el default strC (acc ++ [limW (l.getD i default).doc (l.getD i default).field (l.getD i default).lo (l.getD i default).hi true])] [0, 2, 3, 4, 10, 11, 12] ?_ (hp := (by simp only [AllP, Int.toNat_natCast]; repeat' first | exact trivial | exact EntL.refl _ | exact BEntL.refl _ | exact rfl | omega | apply And.intro | intro _ | (simp [rowL]; done) | (simp only [List.length_append, List.length_cons, List.length_nil]; omega) | (simp [*]; done))) -- 10
          refine gk_region env false [] [0, 2, 3, 4, 10, 11, 12] ?_ -- 11
          refine gk_round ((i + 1, acc ++ [limW (l.getD i default).doc (l.getD i default).field (l.getD i default).lo (l.getD i default).hi true])) ?_
          refine ⟨by simp only; omega, by simp only [List.length_append, List.length_cons, List.length_nil]; omega, fun s hs => ?_, he.trans ?_⟩
          · rcases List.mem_append.1 hs with hs | hs
            · exact hz s hs
            · rw [List.mem_singleton.1 hs, ← hw]; exact (hfd (by omega)).words hcan
          · rw [printF, if_pos (by omega), if_pos ⟨hcan, by omega⟩, hw]
    · refine gk_region env false [.call (GC.lift (clause_none (l.getD i default) h))] [0, 2, 3, 4, 6, 7, 8, 10, 11, 12] ?_ -- 5
      refine gk_region env false [] [0, 2, 3, 4, 6, 7, 10, 11, 12, 27] ?_ -- 6
      refine gk_if (fun c2 => ?_) (fun c2 => ?_)
      · try simp only [bb, toN] at c2
        refine gk_region env false [] [0, 2, 3, 4, 6, 7, 10, 11, 12] ?_ -- 7
        refine gk_ret env ?_
        have hcan : ¬ canV (l.getD i default) = true := fun hh => by
          simp only [canV, knownV, Bool.and_eq_true, decide_eq_true_eq] at hh
          omega
        have e : printF l 0 [] = none := he.trans (by rw [printF, if_pos (by omega), if_neg (fun hh => hcan hh.1)])
        simp [printS, printOk, e, tupG]
      · try simp only [bb, toN] at c2
        exact absurd c2.1 (by simp)
  · try simp only [toN] at c1
    have e : printF l 0 [] = some acc := he.trans (by rw [printF, if_neg (by omega)])
    have hjn : (Lib.join (acc.map bs) (bs ⟨#[32]⟩)).length ≤ 140737488355328 := by
        have := join_le (acc.map bs) 940 (fun x hx => by
          obtain ⟨s, hs, rfl⟩ := List.mem_map.1 hx
          rw [bs_size]; exact hz s hs)
        rw [List.length_map] at this
        refine Nat.le_trans this ?_
        have h3 : acc.length * 941 ≤ 1000 * 941 := Nat.mul_le_mul_right _ (by omega)
        omega
    refine gk_region env false [.call (GC.lift (join_ok acc ⟨#[32]⟩ (by omega) hjn))] [2, 3, 9] ?_ -- 12
    refine gk_region env false [] [2, 3, 9, 47] ?_ -- 13
    refine gk_ifd (fun c4 => ?_) (fun c4 => ?_)
    · try simp only [toN] at c4
      refine gk_region env false [] [2, 3, 9] ?_ -- 14
      refine gk_ret env ?_
      simp [printS, printOk, e, tupG]
      omega
    · try simp only [toN] at c4
      refine gk_region env false [] [2, 3] ?_ -- 15
      refine gk_ret env ?_
      simp [printS, printOk, e, tupG]
      omega
end Go.Gh
