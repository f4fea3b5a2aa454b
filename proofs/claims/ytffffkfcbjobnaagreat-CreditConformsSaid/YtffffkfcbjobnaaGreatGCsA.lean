/- Walks by the logic of calls, and plain laws. -/
import Derived.Test.YtffffkfcbjobnaaGreatGCrY
namespace Go.Gh
open Go Go.Proofs
set_option maxRecDepth 1000000
set_option maxHeartbeats 2000000
set_option linter.unusedSimpArgs false
set_option linter.unusedVariables false
set_option linter.unnecessarySimpa false
set_option linter.unusedSectionVars false
variable [PowTab] [ItoaU]
open Go.RowKit

def actS (s : Sta) (t : Trn) : Sta × Int := if t.kind = 0 then drawS s t else if t.kind = 1 then amendS s t else if t.kind = 2 then acceptS s t else if t.kind = 3 then rejectS s t else if t.kind = 4 then transferS s t else if t.kind = 5 then confirmS s t else payS s t
def dayS (s : Sta) (d : Int) : Sta := { s with day := d }
def turnS (s : Sta) (t : Trn) : Sta × Int :=
  if (inB t.kind 7 = true ∧ inB t.day 100001 = true) ∧ inB t.by_ s.firms = true then if t.day < s.day then (s, 13) else if (actS s t).2 = 0 then (dayS (actS s t).1 t.day, 0) else actS s t else (s, 1)
structure FitT (t : Trn) : Prop where
  terms : t.terms.length ≤ 30 ∧ ∀ d, d ∈ t.terms → FewD d
  docs : FitL t.docs

theorem turn_st (k : Nat) (s : Sta) (hs : Fits k s) (kd dy by_ to_ sm no : Int) (tms : List Dm) (dcs : List Dc) (ht : FitT ⟨kd, dy, by_, to_, sm, no, tms, dcs⟩) : GM Tryz.prog 54 [.ptr 0 0 0 0, trnG ⟨kd, dy, by_, to_, sm, no, tms, dcs⟩] [staB 1 2 s, amdB s, amnB s] (iG (turnS s ⟨kd, dy, by_, to_, sm, no, tms, dcs⟩).2) [some (staB 3 4 (turnS s ⟨kd, dy, by_, to_, sm, no, tms, dcs⟩).1), none, none, some (amdB (turnS s ⟨kd, dy, by_, to_, sm, no, tms, dcs⟩).1), some (amnB (turnS s ⟨kd, dy, by_, to_, sm, no, tms, dcs⟩).1)] := by
  refine gm_of_gk Tryz.func54 ?_
  refine gk_region env false [] [0, 3, 4] ?_ -- 0
  refine gk_region env false [.call (cin_ok kd 7), .call (cin_ok dy 100001), .call (cin_ok by_ s.firms)] [0, 3, 4, 7] ?_ -- 1
  refine gk_if (fun c1 => ?_) (fun c1 => ?_)
  · try simp only [bb, toN] at c1
    refine gk_region env false [] [0, 3, 4] ?_ -- 2
    refine gk_retX env [iG _] (hp := ?_)
    have e : turnS s ⟨kd, dy, by_, to_, sm, no, tms, dcs⟩ = (s, 1) := by rw [turnS, if_neg (by rintro ⟨⟨h1, h2⟩, h3⟩; simp_all)]
    simp only [AllP, e]
    repeat' first | exact trivial | exact rfl | apply And.intro | (first | exact c3 | exact c3.symm) | (simp; done)
  · try simp only [bb, toN] at c1
    refine gk_region env false [] [0, 3, 4, 28] ?_ -- 3
    refine gk_ifd (fun c2 => ?_) (fun c2 => ?_)
    · try simp only [toN] at c2
      refine gk_region env false [] [0, 3, 4] ?_ -- 4
      refine gk_retX env [iG _] (hp := ?_)
      have e : turnS s ⟨kd, dy, by_, to_, sm, no, tms, dcs⟩ = (s, 13) := by rw [turnS, if_pos c1, if_pos c2]
      simp only [AllP, e]
      repeat' first | exact trivial | exact rfl | apply And.intro | (first | exact c3 | exact c3.symm) | (simp; done)
    · try simp only [toN] at c2
      refine gk_region env false [] [0, 3, 4, 5] ?_ -- 5
      obtain rfl | rfl | rfl | rfl | rfl | rfl | rfl : kd = 0 ∨ kd = 1 ∨ kd = 2 ∨ kd = 3 ∨ kd = 4 ∨ kd = 5 ∨ kd = 6 := by have := inB_iff.1 c1.1.1; omega
      · refine gk_region env false [.bx (iG 0), .bx (.d (.sc (.func (.func 86) #[] #[]))), .callm [0, 1, 2] (draw_st k s hs ⟨0, dy, by_, to_, sm, no, tms, dcs⟩ ht.docs)] [0, 3, 4, 6] ?_ -- 6
        refine gk_region env false [] [0, 3, 4, 6, 45] ?_ -- 7
        refine gk_ifd (fun c3 => ?_) (fun c3 => ?_)
        · try simp only [toN] at c3
          refine gk_region env false [] [4, 6] ?_ -- 8
          refine gk_region env false [] [4] ?_ -- 9
          refine gk_retX env [iG _] (hp := ?_)
          have e : turnS s ⟨0, dy, by_, to_, sm, no, tms, dcs⟩ = (dayS (drawS s ⟨0, dy, by_, to_, sm, no, tms, dcs⟩).1 dy, 0) := by rw [turnS, if_pos ⟨⟨by rw [inB_iff]; simp only; omega, c1.1.2⟩, c1.2⟩, if_neg c2, if_pos (show (actS s ⟨0, dy, by_, to_, sm, no, tms, dcs⟩).2 = 0 from c3)]; rfl
          simp only [AllP, e]
          repeat' first | exact trivial | exact rfl | apply And.intro | (first | exact c3 | exact c3.symm) | (simp [dayS]; done)
        · try simp only [toN] at c3
          refine gk_region env false [] [4] ?_ -- 9
          refine gk_retX env [iG _] (hp := ?_)
          have e : turnS s ⟨0, dy, by_, to_, sm, no, tms, dcs⟩ = (drawS s ⟨0, dy, by_, to_, sm, no, tms, dcs⟩) := by rw [turnS, if_pos ⟨⟨by rw [inB_iff]; simp only; omega, c1.1.2⟩, c1.2⟩, if_neg c2, if_neg (show ¬ (actS s ⟨0, dy, by_, to_, sm, no, tms, dcs⟩).2 = 0 from c3)]; rfl
          simp only [AllP, e]
          repeat' first | exact trivial | exact rfl | apply And.intro | (first | exact c3 | exact c3.symm) | (simp; done)
      · refine gk_region env false [.bx (iG 1), .bx (.d (.sc (.func (.func 87) #[] #[]))), .callm [0, 1, 2] (amend_st k s hs ⟨1, dy, by_, to_, sm, no, tms, dcs⟩ ht.terms.1 ht.terms.2)] [0, 3, 4, 6] ?_ -- 6
        refine gk_region env false [] [0, 3, 4, 6, 45] ?_ -- 7
        refine gk_ifd (fun c3 => ?_) (fun c3 => ?_)
        · try simp only [toN] at c3
          refine gk_region env false [] [4, 6] ?_ -- 8
          refine gk_region env false [] [4] ?_ -- 9
          refine gk_retX env [iG _] (hp := ?_)
          have e : turnS s ⟨1, dy, by_, to_, sm, no, tms, dcs⟩ = (dayS (amendS s ⟨1, dy, by_, to_, sm, no, tms, dcs⟩).1 dy, 0) := by rw [turnS, if_pos ⟨⟨by rw [inB_iff]; simp only; omega, c1.1.2⟩, c1.2⟩, if_neg c2, if_pos (show (actS s ⟨1, dy, by_, to_, sm, no, tms, dcs⟩).2 = 0 from c3)]; rfl
          simp only [AllP, e]
          repeat' first | exact trivial | exact rfl | apply And.intro | (first | exact c3 | exact c3.symm) | (simp [dayS]; done)
        · try simp only [toN] at c3
          refine gk_region env false [] [4] ?_ -- 9
          refine gk_retX env [iG _] (hp := ?_)
          have e : turnS s ⟨1, dy, by_, to_, sm, no, tms, dcs⟩ = (amendS s ⟨1, dy, by_, to_, sm, no, tms, dcs⟩) := by rw [turnS, if_pos ⟨⟨by rw [inB_iff]; simp only; omega, c1.1.2⟩, c1.2⟩, if_neg c2, if_neg (show ¬ (actS s ⟨1, dy, by_, to_, sm, no, tms, dcs⟩).2 = 0 from c3)]; rfl
          simp only [AllP, e]
          repeat' first | exact trivial | exact rfl | apply And.intro | (first | exact c3 | exact c3.symm) | (simp; done)
      · refine gk_region env false [.bx (iG 2), .bx (.d (.sc (.func (.func 88) #[] #[]))), .callm [0, 1, 2] (accept_st k s hs ⟨2, dy, by_, to_, sm, no, tms, dcs⟩)] [0, 3, 4, 6] ?_ -- 6
        refine gk_region env false [] [0, 3, 4, 6, 45] ?_ -- 7
        refine gk_ifd (fun c3 => ?_) (fun c3 => ?_)
        · try simp only [toN] at c3
          refine gk_region env false [] [4, 6] ?_ -- 8
          refine gk_region env false [] [4] ?_ -- 9
          refine gk_retX env [iG _] (hp := ?_)
          have e : turnS s ⟨2, dy, by_, to_, sm, no, tms, dcs⟩ = (dayS (acceptS s ⟨2, dy, by_, to_, sm, no, tms, dcs⟩).1 dy, 0) := by rw [turnS, if_pos ⟨⟨by rw [inB_iff]; simp only; omega, c1.1.2⟩, c1.2⟩, if_neg c2, if_pos (show (actS s ⟨2, dy, by_, to_, sm, no, tms, dcs⟩).2 = 0 from c3)]; rfl
          simp only [AllP, e]
          repeat' first | exact trivial | exact rfl | apply And.intro | (first | exact c3 | exact c3.symm) | (simp [dayS]; done)
        · try simp only [toN] at c3
          refine gk_region env false [] [4] ?_ -- 9
          refine gk_retX env [iG _] (hp := ?_)
          have e : turnS s ⟨2, dy, by_, to_, sm, no, tms, dcs⟩ = (acceptS s ⟨2, dy, by_, to_, sm, no, tms, dcs⟩) := by rw [turnS, if_pos ⟨⟨by rw [inB_iff]; simp only; omega, c1.1.2⟩, c1.2⟩, if_neg c2, if_neg (show ¬ (actS s ⟨2, dy, by_, to_, sm, no, tms, dcs⟩).2 = 0 from c3)]; rfl
          simp only [AllP, e]
          repeat' first | exact trivial | exact rfl | apply And.intro | (first | exact c3 | exact c3.symm) | (simp; done)
      · refine gk_region env false [.bx (iG 3), .bx (.d (.sc (.func (.func 89) #[] #[]))), .callm [0, 1, 2] (reject_st k s hs ⟨3, dy, by_, to_, sm, no, tms, dcs⟩)] [0, 3, 4, 6] ?_ -- 6
        refine gk_region env false [] [0, 3, 4, 6, 45] ?_ -- 7
        refine gk_ifd (fun c3 => ?_) (fun c3 => ?_)
        · try simp only [toN] at c3
          refine gk_region env false [] [4, 6] ?_ -- 8
          refine gk_region env false [] [4] ?_ -- 9
          refine gk_retX env [iG _] (hp := ?_)
          have e : turnS s ⟨3, dy, by_, to_, sm, no, tms, dcs⟩ = (dayS (rejectS s ⟨3, dy, by_, to_, sm, no, tms, dcs⟩).1 dy, 0) := by rw [turnS, if_pos ⟨⟨by rw [inB_iff]; simp only; omega, c1.1.2⟩, c1.2⟩, if_neg c2, if_pos (show (actS s ⟨3, dy, by_, to_, sm, no, tms, dcs⟩).2 = 0 from c3)]; rfl
          simp only [AllP, e]
          repeat' first | exact trivial | exact rfl | apply And.intro | (first | exact c3 | exact c3.symm) | (simp [dayS]; done)
        · try simp only [toN] at c3
          refine gk_region env false [] [4] ?_ -- 9
          refine gk_retX env [iG _] (hp := ?_)
          have e : turnS s ⟨3, dy, by_, to_, sm, no, tms, dcs⟩ = (rejectS s ⟨3, dy, by_, to_, sm, no, tms, dcs⟩) := by rw [turnS, if_pos ⟨⟨by rw [inB_iff]; simp only; omega, c1.1.2⟩, c1.2⟩, if_neg c2, if_neg (show ¬ (actS s ⟨3, dy, by_, to_, sm, no, tms, dcs⟩).2 = 0 from c3)]; rfl
          simp only [AllP, e]
          repeat' first | exact trivial | exact rfl | apply And.intro | (first | exact c3 | exact c3.symm) | (simp; done)
      · refine gk_region env false [.bx (iG 4), .bx (.d (.sc (.func (.func 90) #[] #[]))), .callm [0, 1, 2] (transfer_st k s hs ⟨4, dy, by_, to_, sm, no, tms, dcs⟩)] [0, 3, 4, 6] ?_ -- 6
        refine gk_region env false [] [0, 3, 4, 6, 45] ?_ -- 7
        refine gk_ifd (fun c3 => ?_) (fun c3 => ?_)
        · try simp only [toN] at c3
          refine gk_region env false [] [4, 6] ?_ -- 8
          refine gk_region env false [] [4] ?_ -- 9
          refine gk_retX env [iG _] (hp := ?_)
          have e : turnS s ⟨4, dy, by_, to_, sm, no, tms, dcs⟩ = (dayS (transferS s ⟨4, dy, by_, to_, sm, no, tms, dcs⟩).1 dy, 0) := by rw [turnS, if_pos ⟨⟨by rw [inB_iff]; simp only; omega, c1.1.2⟩, c1.2⟩, if_neg c2, if_pos (show (actS s ⟨4, dy, by_, to_, sm, no, tms, dcs⟩).2 = 0 from c3)]; rfl
          simp only [AllP, e]
          repeat' first | exact trivial | exact rfl | apply And.intro | (first | exact c3 | exact c3.symm) | (simp [dayS]; done)
        · try simp only [toN] at c3
          refine gk_region env false [] [4] ?_ -- 9
          refine gk_retX env [iG _] (hp := ?_)
          have e : turnS s ⟨4, dy, by_, to_, sm, no, tms, dcs⟩ = (transferS s ⟨4, dy, by_, to_, sm, no, tms, dcs⟩) := by rw [turnS, if_pos ⟨⟨by rw [inB_iff]; simp only; omega, c1.1.2⟩, c1.2⟩, if_neg c2, if_neg (show ¬ (actS s ⟨4, dy, by_, to_, sm, no, tms, dcs⟩).2 = 0 from c3)]; rfl
          simp only [AllP, e]
          repeat' first | exact trivial | exact rfl | apply And.intro | (first | exact c3 | exact c3.symm) | (simp; done)
      · refine gk_region env false [.bx (iG 5), .bx (.d (.sc (.func (.func 91) #[] #[]))), .callm [0, 1, 2] (confirm_st k s hs ⟨5, dy, by_, to_, sm, no, tms, dcs⟩)] [0, 3, 4, 6] ?_ -- 6
        refine gk_region env false [] [0, 3, 4, 6, 45] ?_ -- 7
        refine gk_ifd (fun c3 => ?_) (fun c3 => ?_)
        · try simp only [toN] at c3
          refine gk_region env false [] [4, 6] ?_ -- 8
          refine gk_region env false [] [4] ?_ -- 9
          refine gk_retX env [iG _] (hp := ?_)
          have e : turnS s ⟨5, dy, by_, to_, sm, no, tms, dcs⟩ = (dayS (confirmS s ⟨5, dy, by_, to_, sm, no, tms, dcs⟩).1 dy, 0) := by rw [turnS, if_pos ⟨⟨by rw [inB_iff]; simp only; omega, c1.1.2⟩, c1.2⟩, if_neg c2, if_pos (show (actS s ⟨5, dy, by_, to_, sm, no, tms, dcs⟩).2 = 0 from c3)]; rfl
          simp only [AllP, e]
          repeat' first | exact trivial | exact rfl | apply And.intro | (first | exact c3 | exact c3.symm) | (simp [dayS]; done)
        · try simp only [toN] at c3
          refine gk_region env false [] [4] ?_ -- 9
          refine gk_retX env [iG _] (hp := ?_)
          have e : turnS s ⟨5, dy, by_, to_, sm, no, tms, dcs⟩ = (confirmS s ⟨5, dy, by_, to_, sm, no, tms, dcs⟩) := by rw [turnS, if_pos ⟨⟨by rw [inB_iff]; simp only; omega, c1.1.2⟩, c1.2⟩, if_neg c2, if_neg (show ¬ (actS s ⟨5, dy, by_, to_, sm, no, tms, dcs⟩).2 = 0 from c3)]; rfl
          simp only [AllP, e]
          repeat' first | exact trivial | exact rfl | apply And.intro | (first | exact c3 | exact c3.symm) | (simp; done)
      · refine gk_region env false [.bx (iG 6), .bx (.d (.sc (.func (.func 92) #[] #[]))), .callm [0, 1, 2] (pay_st k s hs ⟨6, dy, by_, to_, sm, no, tms, dcs⟩)] [0, 3, 4, 6] ?_ -- 6
        refine gk_region env false [] [0, 3, 4, 6, 45] ?_ -- 7
        refine gk_ifd (fun c3 => ?_) (fun c3 => ?_)
        · try simp only [toN] at c3
          refine gk_region env false [] [4, 6] ?_ -- 8
          refine gk_region env false [] [4] ?_ -- 9
          refine gk_retX env [iG _] (hp := ?_)
          have e : turnS s ⟨6, dy, by_, to_, sm, no, tms, dcs⟩ = (dayS (payS s ⟨6, dy, by_, to_, sm, no, tms, dcs⟩).1 dy, 0) := by rw [turnS, if_pos ⟨⟨by rw [inB_iff]; simp only; omega, c1.1.2⟩, c1.2⟩, if_neg c2, if_pos (show (actS s ⟨6, dy, by_, to_, sm, no, tms, dcs⟩).2 = 0 from c3)]; rfl
          simp only [AllP, e]
          repeat' first | exact trivial | exact rfl | apply And.intro | (first | exact c3 | exact c3.symm) | (simp [dayS]; done)
        · try simp only [toN] at c3
          refine gk_region env false [] [4] ?_ -- 9
          refine gk_retX env [iG _] (hp := ?_)
          have e : turnS s ⟨6, dy, by_, to_, sm, no, tms, dcs⟩ = (payS s ⟨6, dy, by_, to_, sm, no, tms, dcs⟩) := by rw [turnS, if_pos ⟨⟨by rw [inB_iff]; simp only; omega, c1.1.2⟩, c1.2⟩, if_neg c2, if_neg (show ¬ (actS s ⟨6, dy, by_, to_, sm, no, tms, dcs⟩).2 = 0 from c3)]; rfl
          simp only [AllP, e]
          repeat' first | exact trivial | exact rfl | apply And.intro | (first | exact c3 | exact c3.symm) | (simp; done)

theorem mem_set_or {α : Type} {l : List α} {i : Nat} {b x : α} (h : x ∈ l.set i b) : x ∈ l ∨ x = b := List.mem_or_eq_of_mem_set h
theorem Fits.up {k : Nat} {s : Sta} (h : Fits k s) (hk : k < 1000) : Fits (k + 1) s := by
  have h1 := h.left; have h2 := h.moved; have h3 := h.drawn; have h4 := h.paid; have h5 := h.amended
  exact ⟨by omega, by omega, by omega, by omega, by omega, h.amds, h.amd, h.terms, by omega, h.sum, h.rest⟩
theorem Fits.drop_ {k : Nat} {s : Sta} (h : Fits k s) {i : Nat} (hi : i < s.amds.length) : ∀ a, a ∈ s.amds.set i { s.amds.getD i default with pend := false } → (0 ≤ a.sum ∧ a.sum ≤ 1099511627776) ∧ a.terms.length ≤ 30 ∧ ∀ d, d ∈ a.terms → FewD d := fun a ha => by
  rcases mem_set_or ha with ha | rfl
  · exact h.amd a ha
  · exact h.at_ hi
theorem fits_take {k : Nat} {s : Sta} (h : Fits k s) (hk : k < 1000) {no : Int} (h0 : 0 ≤ no) (h1 : no < s.amds.length) : Fits (k + 1) (takeS s no) ∧ (takeS s no).left ≤ s.left + 1099511627776 ∧ s.left ≤ (takeS s no).left := by
  have hat := h.at_ (i := no.toNat) (by omega)
  have e : (takeS s no).left = s.left + (s.amds.getD no.toNat default).sum := rfl
  have h2 := h.moved; have h3 := h.drawn; have h4 := h.paid; have h5 := h.amended; have h6 := h.left
  refine ⟨⟨by omega, by rw [e]; omega, ?_, ?_, ?_, ?_, ?_, hat.2, ?_, h.sum, h.rest⟩, by rw [e]; omega, by rw [e]; omega⟩
  · show _ ≤ s.moved ∧ s.moved ≤ _; omega
  · show _ ≤ s.drawn ∧ s.drawn ≤ _; omega
  · show _ ≤ s.paid ∧ s.paid ≤ _; omega
  · show (s.amds.set _ _).length ≤ 8; rw [List.length_set]; exact h.amds
  · exact h.drop_ (by omega)
  · show (s.amended ++ [no]).length ≤ k + 1; simp; omega
theorem fits_sub {k : Nat} {s s0 : Sta} {t : Trn} {p : Prop} [Decidable p] (h : Fits (k + 1) s) (ht : 1 ≤ t.sum ∧ t.sum ≤ 1099511627776) (h0 : Fits k s0) (e1 : s0.left ≤ s.left ∧ s.left ≤ s0.left + 1099511627776) (e2 : s.moved = s0.moved) (e3 : s.drawn = s0.drawn) : Fits (k + 1) (subS s t p) := by
  have h2 := h0.moved; have h3 := h0.drawn; have h6 := h0.left; have h7 := h.few
  unfold subS
  split
  · exact ⟨h.few, by simp only; omega, h.moved, by simp only; omega, h.paid, h.amds, h.amd, h.terms, h.amended, h.sum, h.rest⟩
  · exact ⟨h.few, h.left, by simp only; omega, by simp only; omega, h.paid, h.amds, h.amd, h.terms, h.amended, h.sum, h.rest⟩
theorem fits_draw {k : Nat} {s : Sta} {t : Trn} (h : Fits k s) (hk : k < 1000) : Fits (k + 1) (drawS s t).1 := by
  unfold drawS
  split
  · exact h.up hk
  · split
    · exact h.up hk
    · split
      · exact h.up hk
      · rename_i h3
        split
        · exact fits_sub (h.up hk) (by omega) h (by omega) rfl rfl
        · split
          · exact h.up hk
          · rename_i h5
            have hno := noS_at (s := s) (t := t) (by omega)
            have hf := fits_take h hk hno.1 hno.2.1
            exact fits_sub hf.1 (by omega) h ⟨hf.2.2, hf.2.1⟩ rfl rfl
theorem fits_act {k : Nat} {s : Sta} {t : Trn} (h : Fits k s) (hk : k < 1000) (ht : FitT t) : Fits (k + 1) (actS s t).1 := by
  have hu := h.up hk
  unfold actS
  split
  · exact fits_draw h hk
  · split
    · unfold amendS
      split
      · split
        · split
          · exact hu
          · split
            · exact hu
            · rename_i h1 h2
              refine ⟨hu.few, hu.left, hu.moved, hu.drawn, hu.paid, ?_, fun a ha => ?_, hu.terms, hu.amended, hu.sum, hu.rest⟩
              · have := h.amds
                show (s.amds ++ [_]).length ≤ 8
                simp; omega
              · rcases List.mem_append.1 ha with ha | ha
                · exact h.amd a ha
                · rw [List.mem_singleton.1 ha]
                  exact ⟨by simp only; omega, ht.terms⟩
        · exact hu
      · exact hu
    · split
      · unfold acceptS
        split
        · rename_i hp
          split
          · exact hu
          · have hp := pendE_0 hp
            exact (fits_take h hk hp.2.1 hp.2.2.1).1
        · exact hu
      · split
        · unfold rejectS
          split
          · rename_i hp
            have hp := pendE_0 hp
            refine ⟨hu.few, hu.left, hu.moved, hu.drawn, hu.paid, ?_, h.drop_ (by omega), hu.terms, hu.amended, hu.sum, hu.rest⟩
            show (s.amds.set _ _).length ≤ 8; rw [List.length_set]; exact h.amds
          · exact hu
        · split
          · unfold transferS
            have h6 := h.left; have h7 := h.moved
            split
            · split
              · split
                · split
                  · exact hu
                  · split
                    · exact hu
                    · exact ⟨hu.few, by show _ ≤ s.left - t.sum ∧ s.left - t.sum ≤ _; omega, by show _ ≤ t.sum ∧ t.sum ≤ _; omega, hu.drawn, hu.paid, hu.amds, hu.amd, hu.terms, hu.amended, hu.sum, hu.rest⟩
                · exact hu
              · exact hu
            · exact hu
          · split
            · unfold confirmS
              split
              · split
                · exact hu
                · exact ⟨hu.few, hu.left, hu.moved, hu.drawn, hu.paid, hu.amds, hu.amd, hu.terms, hu.amended, hu.sum, hu.rest⟩
              · exact hu
            · unfold payS
              have h6 := h.drawn; have h7 := h.paid; have h8 := h.sum; have h9 := h.rest; have hkk := h.few
              split
              · split
                · exact hu
                · unfold paidS
                  split
                  · exact ⟨hu.few, by simp only; omega, hu.moved, hu.drawn, by simp only; omega, hu.amds, hu.amd, hu.terms, hu.amended, hu.sum, by simp only; omega⟩
                  · exact ⟨hu.few, hu.left, hu.moved, hu.drawn, by simp only; omega, hu.amds, hu.amd, hu.terms, hu.amended, hu.sum, hu.rest⟩
              · exact hu
theorem fits_turn {k : Nat} {s : Sta} {t : Trn} (h : Fits k s) (hk : k < 1000) (ht : FitT t) : Fits (k + 1) (turnS s t).1 := by
  have hu := h.up hk
  have ha := fits_act h hk ht
  unfold turnS
  split
  · split
    · exact hu
    · split
      · exact ⟨ha.few, ha.left, ha.moved, ha.drawn, ha.paid, ha.amds, ha.amd, ha.terms, ha.amended, ha.sum, ha.rest⟩
      · exact ha
  · exact hu
end Go.Gh
