/- Number of the program. -/
import Derived.Test.YtmkeajeohkdieaaDoorLxC
namespace Go.Proofs.YtmkeajeohkdieaaDoor
open Go.RowKit Lx
set_option linter.unusedSimpArgs false
set_option linter.unusedVariables false

theorem val_snoc (l : List UInt8) (c : UInt8) : val (l ++ [c]) = 10 * val l + (c.toNat - 48) := by
  unfold val valFrom; rw [List.foldl_append]; rfl
theorem digit_bd {c : UInt8} (h : digit c = true) : 48 ≤ c.toNat ∧ c.toNat ≤ 57 := by simpa [digit] using h
theorem val_lt : ∀ (l : List UInt8), l.all digit = true → val l < 10 ^ l.length := by
  have key : ∀ (l : List UInt8) (a k : Nat), a < 10 ^ k → l.all digit = true → valFrom a l < 10 ^ (k + l.length) := by
    intro l
    induction l with
    | nil => intro a k ha _; simpa [valFrom] using ha
    | cons c l ih =>
      intro a k ha h
      rw [List.all_cons, Bool.and_eq_true] at h
      have := digit_bd h.1
      have h2 := ih (10 * a + (c.toNat - 48)) (k + 1) (by rw [Nat.pow_succ]; omega) h.2
      rw [List.length_cons, show k + (l.length + 1) = k + 1 + l.length by omega]
      exact h2
  intro l h
  have := key l 0 0 (by decide) h
  simpa [val] using this
theorem val_ge (c : UInt8) (l : List UInt8) (hc : 49 ≤ c.toNat) : 10 ^ l.length ≤ val (c :: l) := by
  have key : ∀ (l : List UInt8) (a k : Nat), 10 ^ k ≤ a → 10 ^ (k + l.length) ≤ valFrom a l := by
    intro l
    induction l with
    | nil => intro a k ha; simpa [valFrom] using ha
    | cons d l ih =>
      intro a k ha
      rw [List.length_cons, show k + (l.length + 1) = k + 1 + l.length by omega]
      exact ih (10 * a + (d.toNat - 48)) (k + 1) (by rw [Nat.pow_succ]; omega)
  have := key l (c.toNat - 48) 0 (by simp; omega)
  unfold val valFrom
  rw [List.foldl_cons]
  simpa [valFrom] using this

/-- the value of a number, 0 for what is none -/
def numV (l : List UInt8) : Int := if numOk l = true then val l else 0
theorem numV_no {l : List UInt8} (h : numOk l = false) : numV l = 0 := by unfold numV; rw [h]; rfl
theorem numV_yes {l : List UInt8} (h : numOk l = true) : numV l = val l := by unfold numV; rw [if_pos h]

theorem num_short {c : UInt8} {r : List UInt8} (h : numOk (c :: r) = true) : (c :: r).length ≤ 13 := by
  unfold numOk at h
  simp only [Bool.and_eq_true, decide_eq_true_eq, Bool.or_eq_true, bne_iff_ne, ne_eq] at h
  obtain ⟨⟨h1, h2⟩, h3⟩ := h
  rcases h2 with h2 | h2
  · rw [List.all_cons, Bool.and_eq_true] at h1
    have hd := digit_bd h1.1
    have hne : c.toNat ≠ 48 := fun e => h2 (by rw [eq8]; exact e)
    have := val_ge c r (by omega)
    have h13 : ¬ 13 ≤ r.length := by
      intro h13
      have := Nat.pow_le_pow_right (show 0 < 10 by omega) h13
      have e : (10 : Nat) ^ 13 = 10000000000000 := by decide
      omega
    simp; omega
  · have : r = [] := by cases r with | nil => rfl | cons _ _ => simp at h2
    subst this; simp

theorem take_val (s : ByteArray) (k : Nat) (h : k < s.size) : val ((bs s).take (k + 1)) = 10 * val ((bs s).take k) + (s[k].toNat - 48) := by
  rw [List.take_add_one, bs_get s k h]
  exact val_snoc _ _
theorem take_digit {l : List UInt8} {k : Nat} {c : UInt8} (h : l.all digit = true) (hk : l[k]? = some c) : digit c = true := by
  rw [List.all_eq_true] at h
  exact h c (List.mem_of_getElem? hk)
theorem take_lt {l : List UInt8} (h : l.all digit = true) (k : Nat) (hk : k ≤ 13) : val (l.take k) < 10000000000000 := by
  have h1 : (l.take k).all digit = true := by
    rw [List.all_eq_true] at h ⊢
    exact fun x hx => h x (List.mem_of_mem_take hx)
  have h2 := val_lt _ h1
  have h3 : (l.take k).length ≤ 13 := by rw [List.length_take]; omega
  have h4 := Nat.pow_le_pow_right (show 0 < 10 by omega) h3
  have e : (10 : Nat) ^ 13 = 10000000000000 := by decide
  omega

theorem num_when {s : ByteArray} (h0 : (bs s).isEmpty = false) (hd : (bs s).all digit = true) (hz : (bs s)[0]? ≠ some 48 ∨ bs s = [48]) : numOk (bs s) = decide (val (bs s) ≤ 1099511627776) := by
  cases hb : bs s with
  | nil => rw [hb] at h0; cases h0
  | cons c r =>
    rw [hb] at hd hz
    have : (c != 48 || r.isEmpty) = true := by
      rcases hz with hz | hz
      · simp at hz; simp [hz]
      · injection hz with h1 h2; subst h2; simp
    show ((c :: r).all digit && (c != 48 || r.isEmpty) && decide (val (c :: r) ≤ 1099511627776)) = _
    rw [hd, this]; rfl

set_option maxHeartbeats 4000000 in
theorem number_yes (s : ByteArray) (w : World) (hs : s.size ≤ 13) (h0 : (bs s).isEmpty = false) (hd : (bs s).all digit = true) (hz : (bs s)[0]? ≠ some 48 ∨ bs s = [48]) :
    Calls Tryd.prog 17 #[.string s] w fun e w' => e = .returned (.tuple #[.int .i64 (numV (bs s)), .bool (numOk (bs s))]) ∧ w = w' := by
  have h1 : s.toList.isEmpty = false := by rw [bs_empty, h0]
  have hne : ¬ s.toList = [] := by rw [bs_toList]; intro e; rw [e] at h0; cases h0
  have hlen := bs_len s
  have hpos : 0 < s.size := by
    rw [← hlen]
    cases hb : bs s with
    | nil => rw [hb] at h0; cases h0
    | cons _ _ => simp
  have hspan := fun w => span_digit s w (by omega)
  rw [all_span.2 hd, hlen] at hspan
  have HS := Lib.hid hspan
  have HN := Lib.hid (num_when h0 hd hz)
  have HD := Lib.hid hd
  have hz2 : ((s[0].toNat : Int) == 48) = false ∨ (s.toList = [48] ∧ ((s[0].toNat : Int) == 48) = true) := by
    rcases hz with hz | hz
    · refine .inl ?_
      rw [bs_get s 0 hpos] at hz
      simp only [beq_eq_false_iff_ne, ne_eq]
      intro e
      apply hz
      congr 1
      rw [eq8]
      show s[0].toNat = 48
      omega
    · refine .inr ⟨by rw [bs_toList, hz], ?_⟩
      have h := bs_get s 0 hpos
      rw [hz] at h
      simp at h
      simp only [beq_iff_eq]
      rw [← h]; rfl
  have HL := Lib.hid hlen
  clear hspan hd h0 hz hlen
  have hloop : True := trivial
  rcases hz2 with hz2 | ⟨hz2, hz3⟩
  all_goals
    go_enter Tryd.func17, Tryd.ntmps17
    go_wp2_with (go_at_call 31; refine (HS.out _).mono ?_; rintro e w' ⟨rfl, rfl⟩)
    go_loop [4, 31] (fun a i => ∃ k : Nat, i = .int .i64 k ∧ k ≤ s.size ∧ a = .int .i64 (val ((bs s).take k) : Nat)) (fun _ i => s.size - (intOf i).toNat)
    case atStart => exact ⟨0, rfl, by omega, rfl⟩
    case round =>
      obtain ⟨k, rfl, hk, rfl⟩ := hrel
      by_cases hlt : k < s.size
      · have hv := take_lt HD.out k (by omega)
        have hdig := digit_bd (take_digit HD.out (bs_get s k hlt))
        obtain ⟨dg0, dg1⟩ := hdig
        have HT := Lib.hid (take_val s k hlt)
        have hx0 : (48 : Int) ≤ s[k].toNat := by omega
        have hx1 : (s[k].toNat : Int) ≤ 57 := by omega
        obtain ⟨a, ha⟩ : ∃ a, a = val ((bs s).take k) := ⟨_, rfl⟩
        rw [← ha] at hv HT ⊢
        go_wp2
        go_round
        case rel => exact ⟨k + 1, by go_num, by omega, by rw [HT.out]; go_num⟩
        case measure => simp [intOf]; omega
      · obtain rfl : k = s.size := by omega
        have hfull : (bs s).take s.size = bs s := by rw [← HL.out, List.take_length]
        rw [hfull]
        have hv : val (bs s) < 10000000000000 := by
          have := take_lt HD.out s.size hs
          rw [hfull] at this; exact this
        clear hfull
        by_cases hmax : val (bs s) ≤ 1099511627776
        · have hok : numOk (bs s) = true := by rw [HN.out, decide_eq_true hmax]
          have HV := Lib.hid (numV_yes hok)
          have HO := Lib.hid hok
          clear hok
          generalize val (bs s) = v at *
          go_wp2
          go_ret2
          exact ⟨by rw [HV.out, HO.out]; rfl, rfl⟩
        · have hok : numOk (bs s) = false := by rw [HN.out, decide_eq_false hmax]
          have HV := Lib.hid (numV_no hok)
          have HO := Lib.hid hok
          clear hok
          generalize val (bs s) = v at *
          go_wp2
          go_ret2
          exact ⟨by rw [HV.out, HO.out]; rfl, rfl⟩

end Go.Proofs.YtmkeajeohkdieaaDoor
