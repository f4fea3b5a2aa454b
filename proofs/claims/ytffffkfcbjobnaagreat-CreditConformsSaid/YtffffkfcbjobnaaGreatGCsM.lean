/- Walks by the logic of calls, and plain laws. -/
import Derived.Test.YtffffkfcbjobnaaGreatGCsI
namespace Go.Gh
open Go Go.Proofs
set_option maxRecDepth 1000000
set_option maxHeartbeats 2000000
set_option linter.unusedSimpArgs false
set_option linter.unusedVariables false
set_option linter.unnecessarySimpa false
set_option linter.unusedSectionVars false
variable [PowTab] [ItoaU]
open Go.RowKit

/-! what a turn does to a state: plain -/
theorem err_draw {s : Sta} {t : Trn} : (drawS s t).2 ≠ 0 → (drawS s t).1 = s := by
  unfold drawS; repeat' split
  all_goals simp
theorem err_amend {s : Sta} {t : Trn} : (amendS s t).2 ≠ 0 → (amendS s t).1 = s := by
  unfold amendS; repeat' split
  all_goals simp
theorem err_accept {s : Sta} {t : Trn} : (acceptS s t).2 ≠ 0 → (acceptS s t).1 = s := by
  unfold acceptS; repeat' split
  all_goals simp
theorem err_reject {s : Sta} {t : Trn} : (rejectS s t).2 ≠ 0 → (rejectS s t).1 = s := by
  unfold rejectS; repeat' split
  all_goals simp
theorem err_transfer {s : Sta} {t : Trn} : (transferS s t).2 ≠ 0 → (transferS s t).1 = s := by
  unfold transferS; repeat' split
  all_goals simp
theorem err_confirm {s : Sta} {t : Trn} : (confirmS s t).2 ≠ 0 → (confirmS s t).1 = s := by
  unfold confirmS; repeat' split
  all_goals simp
theorem err_pay {s : Sta} {t : Trn} : (payS s t).2 ≠ 0 → (payS s t).1 = s := by
  unfold payS; repeat' split
  all_goals simp
theorem err_act {s : Sta} {t : Trn} (h : (actS s t).2 ≠ 0) : (actS s t).1 = s := by
  unfold actS at h ⊢
  repeat' split
  all_goals (simp only [*, if_true, if_false] at h)
  · exact err_draw h
  · exact err_amend h
  · exact err_accept h
  · exact err_reject h
  · exact err_transfer h
  · exact err_confirm h
  · exact err_pay h
theorem turn_err {s : Sta} {t : Trn} (h : (turnS s t).2 ≠ 0) : (turnS s t).1 = s := by
  unfold turnS at h ⊢
  split
  · rename_i h1
    rw [if_pos h1] at h
    split
    · rfl
    · rename_i h2
      rw [if_neg h2] at h
      split
      · rename_i h3; rw [if_pos h3] at h; exact absurd rfl h
      · rename_i h3; exact err_act h3
  · rfl
theorem turn_ok {s : Sta} {t : Trn} (h : (turnS s t).2 = 0) : (0 ≤ t.kind ∧ t.kind < 7) ∧ s.day ≤ t.day ∧ (actS s t).2 = 0 ∧ (turnS s t).1 = dayS (actS s t).1 t.day := by
  unfold turnS at h ⊢
  split at h
  · rename_i h1
    rw [if_pos h1]
    split at h
    · cases h
    · rename_i h2
      rw [if_neg h2]
      split at h
      · rename_i h3
        rw [if_pos h3]
        exact ⟨inB_iff.1 h1.1.1, by omega, h3, rfl⟩
      · rename_i h3; exact absurd h h3
  · cases h
theorem draw_ok {s : Sta} {t : Trn} (h : (drawS s t).2 = 0) : t.day ≤ s.c.exp ∧ (t.by_ = s.c.ben ∨ s.second ≠ -1) ∧ (1 ≤ t.sum ∧ t.sum ≤ 1099511627776) ∧
    (((drawS s t).1 = subS s t (t.by_ = s.c.ben) ∧ fitsB s t.sum (amtS s t) = true ∧ confV s.terms t.docs = true) ∨
     ((drawS s t).1 = subS (takeS s (noS s t)) t (t.by_ = s.c.ben) ∧ t.by_ = s.c.ben ∧ ¬ noS s t < 0)) := by
  unfold drawS at h ⊢
  split at h
  · cases h
  · rename_i h1
    rw [if_neg h1]
    split at h
    · cases h
    · rename_i h2
      rw [if_neg h2]
      split at h
      · cases h
      · rename_i h3
        rw [if_neg h3]
        refine ⟨by omega, by omega, by omega, ?_⟩
        split at h
        · rename_i h4
          rw [if_pos h4]
          exact .inl ⟨rfl, h4.1, h4.2⟩
        · rename_i h4
          rw [if_neg h4]
          split at h
          · cases h
          · rename_i h5
            rw [if_neg h5]
            exact .inr ⟨rfl, by omega, by omega⟩
theorem fitsB_le {s : Sta} {a b : Int} (h : fitsB s a b = true) : a ≤ b := by
  simp only [fitsB, Bool.cond_eq_ite] at h
  split at h
  · rename_i h1; have := of_decide_eq_true h1; omega
  · split at h
    · have := of_decide_eq_true h; omega
    · cases h
theorem amend_ok {s : Sta} {t : Trn} (h : (amendS s t).2 = 0) : (amendS s t).1 = { s with amds := s.amds ++ [⟨t.terms, t.sum, true⟩] } ∧ 0 ≤ t.sum := by
  unfold amendS at h ⊢
  by_cases h1 : t.by_ = s.c.iss
  · rw [if_pos h1] at h ⊢
    by_cases h2 : printOk t.terms = true
    · rw [if_pos h2] at h ⊢
      by_cases h3 : t.sum < 0 ∨ 1099511627776 < t.sum
      · rw [if_pos h3] at h; cases h
      · rw [if_neg h3] at h ⊢
        by_cases h4 : s.amds.length = 8
        · rw [if_pos h4] at h; cases h
        · rw [if_neg h4] at h ⊢; exact ⟨rfl, by omega⟩
    · rw [if_neg h2] at h; cases h
  · rw [if_neg h1] at h; cases h
theorem transfer_ok {s : Sta} {t : Trn} (h : (transferS s t).2 = 0) : (transferS s t).1 = transS s t ∧ s.second = -1 ∧ 0 ≤ t.to_ ∧ 1 ≤ t.sum ∧ t.sum ≤ s.left := by
  unfold transferS at h ⊢
  by_cases h1 : t.by_ = s.c.ben ∧ s.c.trans = true
  · rw [if_pos h1] at h ⊢
    by_cases h2 : s.second = -1
    · rw [if_pos h2] at h ⊢
      by_cases h3 : inB t.to_ s.firms = true ∧ t.to_ ≠ s.c.ben
      · rw [if_pos h3] at h ⊢
        by_cases h4 : s.c.exp < t.day
        · rw [if_pos h4] at h; cases h
        · rw [if_neg h4] at h ⊢
          by_cases h5 : t.sum < 1 ∨ s.left < t.sum
          · rw [if_pos h5] at h; cases h
          · rw [if_neg h5]; exact ⟨rfl, h2, (inB_iff.1 h3.1).1, by omega, by omega⟩
      · rw [if_neg h3] at h; cases h
    · rw [if_neg h2] at h; cases h
  · rw [if_neg h1] at h; cases h
theorem pay_ok {s : Sta} {t : Trn} (h : (payS s t).2 = 0) : (payS s t).1 = paidS s t.sum ∧ 1 ≤ t.sum ∧ t.sum ≤ s.drawn - s.paid := by
  unfold payS at h ⊢
  by_cases h1 : t.by_ = s.c.iss ∨ (s.conf = true ∧ t.by_ = s.c.conf)
  · rw [if_pos h1] at h ⊢
    by_cases h2 : t.sum < 1 ∨ s.drawn - s.paid < t.sum
    · rw [if_pos h2] at h; cases h
    · rw [if_neg h2]; exact ⟨rfl, by omega, by omega⟩
  · rw [if_neg h1] at h; cases h
theorem accept_ok {s : Sta} {t : Trn} (h : (acceptS s t).2 = 0) : (acceptS s t).1 = takeS s t.no ∧ 0 ≤ t.no ∧ t.no < s.amds.length ∧ (s.amds.getD t.no.toNat default).pend = true := by
  unfold acceptS at h ⊢
  by_cases h1 : pendE s t = 0
  · rw [if_pos h1] at h ⊢
    by_cases h2 : s.c.exp < t.day
    · rw [if_pos h2] at h; cases h
    · rw [if_neg h2]
      obtain ⟨_, p1, p2, p3⟩ := pendE_0 h1
      exact ⟨rfl, p1, p2, p3⟩
  · rw [if_neg h1] at h; exact absurd h h1
theorem reject_ok {s : Sta} {t : Trn} (h : (rejectS s t).2 = 0) : (rejectS s t).1 = dropS s t.no ∧ 0 ≤ t.no ∧ t.no < s.amds.length := by
  unfold rejectS at h ⊢
  by_cases h1 : pendE s t = 0
  · rw [if_pos h1]
    obtain ⟨_, p1, p2, p3⟩ := pendE_0 h1
    exact ⟨rfl, p1, p2⟩
  · rw [if_neg h1] at h; exact absurd h h1
theorem confirm_ok {s : Sta} {t : Trn} (h : (confirmS s t).2 = 0) : (confirmS s t).1 = { s with conf := true } := by
  unfold confirmS at h ⊢
  by_cases h1 : t.by_ = s.c.conf
  · rw [if_pos h1] at h ⊢
    by_cases h2 : s.conf = true
    · rw [if_pos h2] at h; cases h
    · rw [if_neg h2]
  · rw [if_neg h1] at h; cases h
/-! the account -/
def sumAt (a : List Amd) : List Int → Int
  | [] => 0
  | k :: ks => (a.getD k.toNat default).sum + sumAt a ks
theorem sumAt_append (a : List Amd) (l m : List Int) : sumAt a (l ++ m) = sumAt a l + sumAt a m := by
  induction l with
  | nil => simp [sumAt]
  | cons k l ih => simp only [List.cons_append, sumAt, ih]; omega
theorem set_sum {a : List Amd} {i j : Nat} (h : i < a.length) : ((a.set i { a.getD i default with pend := false }).getD j default).sum = (a.getD j default).sum := by
  by_cases e : j = i
  · subst e
    rw [List.getD_eq_getElem?_getD, List.getElem?_set_self h]; rfl
  · rw [List.getD_eq_getElem?_getD, List.getElem?_set_ne (fun h => e h.symm), ← List.getD_eq_getElem?_getD]
theorem set_pend {a : List Amd} {i j : Nat} (h : i < a.length) (hp : (a.getD j default).pend = false ∨ j = i) : ((a.set i { a.getD i default with pend := false }).getD j default).pend = false := by
  by_cases e : j = i
  · subst e
    rw [List.getD_eq_getElem?_getD, List.getElem?_set_self h]; rfl
  · rw [List.getD_eq_getElem?_getD, List.getElem?_set_ne (fun h => e h.symm), ← List.getD_eq_getElem?_getD]
    exact hp.resolve_right e
theorem getD_sum {b : List Amd} {j : Nat} (h : j < b.length) : (b.getD j default).sum = b[j].sum := by
  rw [List.getD_eq_getElem?_getD, List.getElem?_eq_getElem h]; rfl
theorem set_sums {a : List Amd} {i : Nat} (h : i < a.length) : (a.set i { a.getD i default with pend := false }).map (fun x => x.sum) = a.map fun x => x.sum := by
  refine List.ext_getElem (by simp) fun j h1 h2 => ?_
  have hb := set_sum (j := j) h
  simp only [List.length_map, List.length_set] at h1 h2
  rw [getD_sum (by rw [List.length_set]; exact h1), getD_sum h1] at hb
  simp only [List.getElem_map]
  exact hb
theorem sumAt_set {a : List Amd} {i : Nat} (h : i < a.length) (l : List Int) : sumAt (a.set i { a.getD i default with pend := false }) l = sumAt a l := by
  induction l with
  | nil => rfl
  | cons k l ih => simp only [sumAt, ih, set_sum h]
theorem sumAt_app {a : List Amd} {x : Amd} : ∀ {l : List Int}, (∀ k, k ∈ l → 0 ≤ k ∧ k < a.length) → sumAt (a ++ [x]) l = sumAt a l
  | [], _ => rfl
  | k :: l, h => by
    have hk := h k (by simp)
    simp only [sumAt, sumAt_app (l := l) fun k hk => h k (by simp [hk])]
    rw [List.getD_eq_getElem?_getD, List.getElem?_append_left (by omega), ← List.getD_eq_getElem?_getD]
structure Acc (c : Crd) (s : Sta) : Prop where
  cc : s.c = c
  left : 0 ≤ s.left
  moved : 0 ≤ s.moved
  paid : s.paid ≤ s.drawn
  second : s.second = -1 → s.moved = 0
  each : ∀ k, k ∈ s.amended → (0 ≤ k ∧ k < s.amds.length) ∧ (s.amds.getD k.toNat default).pend = false
  nodup : s.amended.Nodup
  rest : 0 ≤ s.rest ∧ s.rest ≤ c.rev
  all : s.drawn + s.left + s.moved = c.sum * (1 + c.rev - s.rest) + sumAt s.amds s.amended
theorem acc_take {c : Crd} {s : Sta} (h : Acc c s) {no : Int} (h0 : 0 ≤ no) (h1 : no < s.amds.length) (hp : (s.amds.getD no.toNat default).pend = true) (hs : 0 ≤ (s.amds.getD no.toNat default).sum) : Acc c (takeS s no) := by
  have hn : no ∉ s.amended := fun hm => by rw [(h.each no hm).2] at hp; cases hp
  have hl : no.toNat < s.amds.length := by omega
  have ha := h.all
  have h2 := h.left
  refine ⟨h.cc, by show 0 ≤ s.left + _; omega, h.moved, h.paid, h.second, fun k hk => ?_, ?_, h.rest, ?_⟩
  · show (0 ≤ k ∧ k < ((s.amds.set no.toNat _).length : Int)) ∧ ((s.amds.set no.toNat _).getD k.toNat default).pend = false
    rw [List.length_set]
    rcases List.mem_append.1 hk with hk | hk
    · exact ⟨(h.each k hk).1, set_pend hl (.inl (h.each k hk).2)⟩
    · rw [List.mem_singleton.1 hk]
      exact ⟨⟨h0, h1⟩, set_pend hl (.inr rfl)⟩
  · show (s.amended ++ [no]).Nodup
    refine List.nodup_append.2 ⟨h.nodup, by simp, fun a ha b hb => ?_⟩
    rw [List.mem_singleton.1 hb]
    exact fun e => hn (e ▸ ha)
  · show s.drawn + (s.left + (s.amds.getD no.toNat default).sum) + s.moved = c.sum * (1 + c.rev - s.rest) + sumAt (s.amds.set no.toNat _) (s.amended ++ [no])
    rw [sumAt_append, sumAt_set hl, sumAt_set hl]
    simp only [sumAt]
    omega
theorem acc_sub {c : Crd} {s : Sta} {t : Trn} {p : Prop} [Decidable p] (h : Acc c s) (ht : 1 ≤ t.sum) (h1 : p → t.sum ≤ s.left) (h2 : ¬ p → t.sum ≤ s.moved ∧ s.second ≠ -1) : Acc c (subS s t p) := by
  have ha := h.all; have hl := h.left; have hm := h.moved; have hp := h.paid
  unfold subS
  split
  · rename_i hq; have := h1 hq
    exact ⟨h.cc, by simp only; omega, h.moved, by simp only; omega, h.second, h.each, h.nodup, h.rest, by simp only; omega⟩
  · rename_i hq; have := h2 hq
    exact ⟨h.cc, h.left, by simp only; omega, by simp only; omega, fun e => absurd e this.2, h.each, h.nodup, h.rest, by simp only; omega⟩
theorem cand_sum {s : Sta} {t : Trn} {a : Amd} (h : candB s t a = true) : a.pend = true ∧ t.sum ≤ s.left + a.sum ∧ confV a.terms t.docs = true := by
  simp only [candB, Bool.cond_eq_ite] at h
  split at h
  · rename_i h1
    split at h
    · rename_i h2; exact ⟨h1, fitsB_le h2, h⟩
    · cases h
  · cases h
theorem acc_act {c : Crd} {s : Sta} {t : Trn} (h : Acc c s) (hk : 0 ≤ t.kind ∧ t.kind < 7) (hs : ∀ a, a ∈ s.amds → 0 ≤ a.sum) (hc : 1 ≤ c.sum) (h0 : (actS s t).2 = 0) : Acc c (actS s t).1 := by
  have ha := h.all; have hl := h.left; have hm := h.moved; have hpd := h.paid
  have hsa : ∀ i, i < s.amds.length → 0 ≤ (s.amds.getD i default).sum := fun i hi => hs _ (getD_mem hi)
  unfold actS at h0 ⊢
  split
  · rename_i hk0
    rw [if_pos hk0] at h0
    obtain ⟨_, h2, h3, h4⟩ := draw_ok h0
    rcases h4 with ⟨e, h5, _⟩ | ⟨e, h5, h6⟩
    · rw [e]
      have h7 := fitsB_le h5
      refine acc_sub h h3.1 (fun hp => ?_) fun hp => ?_
      · rw [amtS, if_pos hp] at h7; exact h7
      · rw [amtS, if_neg hp] at h7; exact ⟨h7, h2.resolve_left hp⟩
    · rw [e]
      obtain ⟨n1, n2, n3⟩ := noS_at h6
      obtain ⟨c1, c2, _⟩ := cand_sum n3
      exact acc_sub (acc_take h n1 n2 c1 (hsa _ (by omega))) h3.1 (fun _ => c2) fun hp => absurd h5 hp
  rename_i k0
  rw [if_neg k0] at h0
  split
  · rename_i k1
    rw [if_pos k1] at h0
    rw [(amend_ok h0).1]
    refine ⟨h.cc, h.left, h.moved, h.paid, h.second, fun k hk => ?_, h.nodup, h.rest, ?_⟩
    · obtain ⟨e1, e2⟩ := h.each k hk
      simp only [List.length_append, List.length_cons, List.length_nil]
      refine ⟨by omega, ?_⟩
      rw [List.getD_eq_getElem?_getD, List.getElem?_append_left (by omega), ← List.getD_eq_getElem?_getD]
      exact e2
    · simp only
      rw [sumAt_app fun k hk => (h.each k hk).1]
      exact h.all
  rename_i k1
  rw [if_neg k1] at h0
  split
  · rename_i k2
    rw [if_pos k2] at h0
    obtain ⟨e, p1, p2, p3⟩ := accept_ok h0
    rw [e]
    exact acc_take h p1 p2 p3 (hsa _ (by omega))
  rename_i k2
  rw [if_neg k2] at h0
  split
  · rename_i k3
    rw [if_pos k3] at h0
    obtain ⟨e, p1, p2⟩ := reject_ok h0
    rw [e]
    have hl : t.no.toNat < s.amds.length := by omega
    refine ⟨h.cc, h.left, h.moved, h.paid, h.second, fun k hk => ?_, h.nodup, h.rest, ?_⟩
    · show (0 ≤ k ∧ k < ((s.amds.set t.no.toNat _).length : Int)) ∧ ((s.amds.set t.no.toNat _).getD k.toNat default).pend = false
      rw [List.length_set]
      exact ⟨(h.each k hk).1, set_pend hl (.inl (h.each k hk).2)⟩
    · show s.drawn + s.left + s.moved = c.sum * (1 + c.rev - s.rest) + sumAt (s.amds.set t.no.toNat _) s.amended
      rw [sumAt_set hl]; exact ha
  rename_i k3
  rw [if_neg k3] at h0
  split
  · rename_i k4
    rw [if_pos k4] at h0
    obtain ⟨e, q1, q2, q3, q4⟩ := transfer_ok h0
    rw [e]
    have hm0 := h.second q1
    exact ⟨h.cc, by simp only [transS]; omega, by simp only [transS]; omega, h.paid, fun e => by simp only [transS] at e; omega, h.each, h.nodup, h.rest, by simp only [transS]; omega⟩
  rename_i k4
  rw [if_neg k4] at h0
  split
  · rename_i k5
    rw [if_pos k5] at h0
    rw [confirm_ok h0]
    exact ⟨h.cc, h.left, h.moved, h.paid, h.second, h.each, h.nodup, h.rest, h.all⟩
  rename_i k5
  rw [if_neg k5] at h0
  obtain ⟨e, q1, q2⟩ := pay_ok h0
  rw [e]
  unfold paidS
  split
  · rename_i q3
    have hr := h.rest
    refine ⟨h.cc, ?_, h.moved, by simp only; omega, h.second, h.each, h.nodup, by simp only; omega, ?_⟩
    · simp only; rw [h.cc]; omega
    · simp only
      rw [show c.sum * (1 + c.rev - (s.rest - 1)) = c.sum * (1 + c.rev - s.rest) + c.sum by rw [show (1 + c.rev - (s.rest - 1)) = (1 + c.rev - s.rest) + 1 by omega, Int.mul_add, Int.mul_one]]
      have := h.cc
      rw [this]
      omega
  · exact ⟨h.cc, h.left, h.moved, by simp only; omega, h.second, h.each, h.nodup, h.rest, h.all⟩
end Go.Gh
