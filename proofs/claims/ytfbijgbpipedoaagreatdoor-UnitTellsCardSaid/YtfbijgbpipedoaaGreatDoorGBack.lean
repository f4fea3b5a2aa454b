/- Walks by the logic of calls, and plain laws. -/
import Derived.Test.YtfbijgbpipedoaaGreatDoorGUnitPl
import Derived.Test.YtfbijgbpipedoaaGreatDoorGNum
import Derived.Test.YtfbijgbpipedoaaGreatDoorGh3
namespace Go.Gh
open Go Go.Proofs
set_option maxRecDepth 1000000
set_option maxHeartbeats 2000000
set_option linter.unusedSimpArgs false
set_option linter.unusedVariables false
open Go.Proofs.YtfbijgbpipedoaaGreatDoor Go.Proofs.YtfbijgbpipedoaaGreatDoor.Ra Go.RowKit

theorem below_grow (w : World) (k : Nat) (os : Array Obj) : Below w.heap.size w (Go.Sort.grow (w.drewN k) os) :=
  ⟨rfl, rfl, rfl, by show w.heap.size ≤ (w.heap ++ os).size; rw [Array.size_append]; omega, fun r hr => by
    show (w.heap ++ os)[r]? = w.heap[r]?
    exact Array.getElem?_append_left hr⟩
theorem itoa_ok (n : Int) (hn : In n) : GC Tryz.prog 32 [iG n] (sG (ofL (Lib.itoa n))) :=
  gc_of_laid Tryz.func32 rfl rfl rfl rfl fun F w hg => (Tryz.strconv_Itoa n hn.1 hn.2 w (tabIs_of_glob (g := 3) hg (by exact List.mem_cons_self) (by kernel_rfl))).mono fun e w' ⟨h1, k, os, h2⟩ => ⟨h1, h2 ▸ below_grow w k os⟩
def printR (t : List Un) (q : Qu) : ByteArray := if rght t [q] = 0 then ofL (Lib.itoa q.n) ++ ⟨#[32]⟩ ++ (uAt t q.u).name else ⟨#[]⟩
theorem itoa_size {n : Int} (h0 : 0 ≤ n) (h1 : n ≤ 1000000000) : (ofL (Lib.itoa n)).size ≤ 10 := by
  rw [ofL_size]
  unfold Lib.itoa
  rw [if_neg (by omega)]
  exact dec_length 9 _ (by omega)

theorem print_ok (t : List Un) (ht : t.length ≤ 9223372036854775807) (hs : ∀ u, u ∈ t → u.name.size ≤ 9223372036854775807) (hn : ∀ u, u ∈ t → u.name.size ≤ 1000) (q : Qu) : GC Tryz.prog 10 [rowU t, quG q] (sG (printR t q)) := by
  refine gc_of_gk Tryz.func10 ?_
  refine gk_region env false [] [0, 3, 4] ?_ -- 0
  refine gk_region env false [.el default quC [q], .call (right_ok t ht hs [q] (by simp))] [0, 3, 4, 9] ?_ -- 1
  refine gk_ifn (fun c1 => ?_) (fun c1 => ?_)
  · try simp only [toN] at c1
    refine gk_region env false [] [0, 3, 4] ?_ -- 2
    refine gk_ret env ?_
    rw [printR, if_neg c1]; rfl
  · try simp only [toN] at c1
    have oa := rght_one c1
    obtain ⟨a1, a2, a3, a4, a5⟩ := id oa
    have z1 := itoa_size a3 a4
    have z2 := hn _ (getD_mem (t := t) (i := q.u.toNat) (by omega))
    have z3 : (ofL (Lib.itoa q.n) ++ (⟨#[32]⟩ : ByteArray)).size = (ofL (Lib.itoa q.n)).size + 1 := ByteArray.size_append
    refine gk_region env false [.call (itoa_ok q.n ⟨by omega, by omega⟩)] [4] ?_ (hp := by simp only [AllP, bb, toN]; repeat' first | exact trivial | exact EntL.refl _ | exact rfl | (rw [z3]; omega) | (show _ + 1 ≤ _; omega) | omega | apply And.intro | intro _) -- 3
    refine gk_ret env ?_
    rw [printR, if_pos c1]; rfl

theorem chkF_name {t : List Un} : ∀ (k i : Nat), t.length - i = k → chkF t i = 0 → ∀ j, i ≤ j → j < t.length → nameOk (t.getD j default).name = true ∧ named (t.take j) (t.getD j default).name = false := by
  intro k
  induction k with
  | zero => intro i h _ j h1 h2; omega
  | succ k ih =>
    intro i h hc j h1 h2
    rw [chkF, if_pos (by omega)] at hc
    split at hc
    · rename_i hn
      split at hc
      · omega
      · rename_i hm
        split at hc
        · omega
        · by_cases e : j = i
          · subst e; exact ⟨hn, by simpa using hm⟩
          · exact ih (i + 1) (by omega) hc j (by omega) h2
    · omega
theorem chk_F {t : List Un} (h : chk t = 0) : chkF t 0 = 0 := by
  unfold chk at h
  split at h
  · omega
  · exact h
theorem chk_name {t : List Un} (h : chk t = 0) {j : Nat} (hj : j < t.length) : nameOk (t.getD j default).name = true ∧ named (t.take j) (t.getD j default).name = false := chkF_name _ 0 rfl (chk_F h) j (Nat.zero_le _) hj
theorem chk_size {t : List Un} (h : chk t = 0) : ∀ u, u ∈ t → u.name.size ≤ 1000 := fun u hu => by
  obtain ⟨j, hj⟩ := List.getElem?_of_mem hu
  have hlt := (List.getElem?_eq_some_iff.1 hj).1
  have := (chk_name h hlt).1
  have e : t.getD j default = u := by rw [List.getD_eq_getElem?_getD, hj]; rfl
  rw [e] at this
  unfold nameOk at this
  simp only [Bool.and_eq_true, decide_eq_true_eq] at this
  omega
theorem find_spec {t : List Un} {s : ByteArray} : ∀ (k i : Nat), t.length - i = k → find t s i ≠ -1 → (i : Int) ≤ find t s i ∧ find t s i < t.length ∧ (uAt t (find t s i)).name = s := by
  intro k
  induction k with
  | zero => intro i h hf; rw [find, if_neg (by omega)] at hf; exact absurd rfl hf
  | succ k ih =>
    intro i h hf
    rw [find, if_pos (by omega)] at hf ⊢
    split at hf
    · rename_i he
      rw [if_pos he]
      exact ⟨Int.le_refl _, by omega, by unfold uAt; simpa using he⟩
    · rename_i he
      rw [if_neg he]
      obtain ⟨h1, h2, h3⟩ := ih (i + 1) (by omega) hf
      exact ⟨by omega, h2, h3⟩
theorem find_at {t : List Un} {s : ByteArray} {m : Nat} (hm : m < t.length) (hs : (t.getD m default).name = s) : ∀ (k i : Nat), m - i = k → i ≤ m → (∀ j, i ≤ j → j < m → (t.getD j default).name ≠ s) → find t s i = m := by
  intro k
  induction k with
  | zero =>
    intro i h hi _
    have : i = m := by omega
    subst this
    rw [find, if_pos hm, if_pos hs]
  | succ k ih =>
    intro i h hi hj
    rw [find, if_pos (by omega), if_neg (hj i (Nat.le_refl _) (by omega))]
    exact ih (i + 1) (by omega) (by omega) fun j h1 h2 => hj j (by omega) h2
theorem find_unique {t : List Un} (hc : chk t = 0) {m : Nat} (hm : m < t.length) : find t (t.getD m default).name 0 = m := by
  refine find_at hm rfl _ 0 rfl (Nat.zero_le _) fun j _ hj e => ?_
  have := (chk_name hc hm).2
  simp only [named, List.any_eq_false, decide_eq_true_eq] at this
  refine this (t.getD j default) ?_ e
  rw [List.getD_eq_getElem?_getD, List.getElem?_eq_getElem (show j < t.length by omega)]
  exact List.mem_iff_getElem?.2 ⟨j, by rw [List.getElem?_take, if_pos hj, List.getElem?_eq_getElem (show j < t.length by omega)]; rfl⟩
theorem name_ne {t : List Un} (hc : chk t = 0) {m : Nat} (hm : m < t.length) : (t.getD m default).name ≠ ⟨#[]⟩ := fun e => by
  have := (chk_name hc hm).1
  rw [e] at this
  simp [nameOk] at this
theorem blank_dec (u : Nat) : (32 : UInt8) ∉ Lib.decDigits u := fun h => by
  have := (dec_digits u).1 _ h
  unfold isDg at this
  have e : (32 : UInt8).toNat = 32 := rfl
  omega
theorem itoa_dec {n : Int} (h : 0 ≤ n) : Lib.itoa n = Lib.decDigits n.toNat := by unfold Lib.itoa; rw [if_neg (by omega)]
theorem print_list {t : List Un} {q : Qu} (h : rght t [q] = 0) : printR t q = ofL (Lib.decDigits q.n.toNat ++ 32 :: (uAt t q.u).name.data.toList) := by
  have hq := rght_one h
  unfold printR
  rw [if_pos h, itoa_dec hq.n0]
  have e : (⟨#[32]⟩ : ByteArray) = ofL [32] := rfl
  rw [e, ← ofL_append]
  conv => lhs; rw [← ofL_self (uAt t q.u).name]
  rw [← ofL_append, List.append_assoc]; rfl
theorem print_read {t : List Un} {q : Qu} (hc : chk t = 0) (hq : QuOk t q) : readR t (printR t q) = (q, 0) := by
  have hr : rght t [q] = 0 := rght_of hc (by intro x hx; rw [List.mem_singleton.1 hx]; exact hq)
  obtain ⟨_, k1, k2⟩ := cut_of (a := Lib.decDigits q.n.toNat) (b := (uAt t q.u).name.data.toList) (blank_dec _)
  have n0 := hq.n0; have n1 := hq.n1; have u0 := hq.u0; have u1 := hq.u1
  obtain ⟨d1, d2⟩ := dec_num (u := q.n.toNat) (by omega)
  rw [print_list hr]
  unfold readR
  rw [if_pos hc, k1, k2, ofL_self, d1, d2]
  have hf : find t (uAt t q.u).name 0 = q.u := by
    have := find_unique hc (m := q.u.toNat) (by omega)
    unfold uAt; rw [this]; omega
  rw [hf, if_neg (by simp; omega)]
  have : (q.n.toNat : Int) = q.n := by omega
  rw [this]
theorem read_print {t : List Un} {s : ByteArray} (hc : chk t = 0) (h : (readR t s).2 = 0) : printR t (readR t s).1 = s := by
  unfold readR at h ⊢
  rw [if_pos hc] at h ⊢
  split at h
  · simp at h
  · rename_i hb
    rw [if_neg hb]
    simp only [Bool.or_eq_true, Bool.not_eq_true', decide_eq_true_eq, not_or, Bool.not_eq_false] at hb
    obtain ⟨⟨h1, h2⟩, h3⟩ := hb
    obtain ⟨f1, f2, f3⟩ := find_spec _ 0 rfl h3
    have hs0 : s = ofL s.data.toList := (ofL_self s).symm
    generalize s.data.toList = l at hs0
    subst hs0
    have hi : 0 ≤ idx1 (ofL l) 32 := by
      refine Classical.byContradiction fun hn => ?_
      have e : cutB (ofL l) 32 = ⟨#[]⟩ := by unfold cutB; rw [if_neg hn]
      rw [e] at f3 f1 f2
      exact name_ne hc (m := (find t ⟨#[]⟩ 0).toNat) (by omega) f3
    obtain ⟨a, b, rfl, ha, ea, eb⟩ := cut_split hi
    rw [ea] at h1 h2 ⊢
    rw [eb] at f1 f2 f3 ⊢
    obtain ⟨q1, q2⟩ := num_back h1
    have hq : QuOk t ⟨numV (ofL a), find t (ofL b) 0⟩ := ⟨by simpa using f1, f2, q1, by dsimp only; omega, chk_ok hc (by simpa using f1) f2⟩
    have hr : rght t [⟨numV (ofL a), find t (ofL b) 0⟩] = 0 := rght_of hc (by intro x hx; rw [List.mem_singleton.1 hx]; exact hq)
    rw [print_list hr]
    dsimp only
    rw [q2, f3]; rfl
theorem read_err {t : List Un} {s : ByteArray} (hc : chk t = 0) : (readR t s).2 = 0 ∨ (readR t s).2 = 9 := by
  unfold readR; rw [if_pos hc]; split
  · exact .inr rfl
  · exact .inl rfl
theorem print_not {t : List Un} {q : Qu} (hc : chk t = 0) (h : quOk t q = false) : printR t q = ⟨#[]⟩ := by
  unfold printR
  refine if_neg fun hr => ?_
  obtain ⟨h1, h2, h3, h4, _⟩ := rght_one hr
  simp [quOk, h1, h2, h3, h4] at h
theorem back_pre {t : List Un} {n : Int} (h : (fewF t 0 = true ∧ chk t = 0) ∧ n ≤ 200) : fewF t 0 = true ∧ chk t = 0 := h.1
theorem print_size {t : List Un} (hc : chk t = 0) (q : Qu) : (printR t q).size ≤ 9223372036854775807 := by
  unfold printR
  split
  · rename_i h
    have hq := rght_one h
    have z1 := itoa_size hq.n0 hq.n1
    have z2 := chk_size hc _ (getD_mem (t := t) (i := q.u.toNat) (by have := hq.u0; have := hq.u1; omega))
    rw [ByteArray.size_append, ByteArray.size_append]
    have : (⟨#[32]⟩ : ByteArray).size = 1 := rfl
    unfold uAt
    omega
  · exact Nat.zero_le _

end Go.Gh
