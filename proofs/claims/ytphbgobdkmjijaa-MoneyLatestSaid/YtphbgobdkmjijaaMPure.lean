/- The plain laws of interest, discount and exchange. -/
import Derived.Test.YtphbgobdkmjijaaMDef
namespace Go.Proofs.Ytphbgobdkmjijaa.Mo

theorem floor_parts (x y D : Int) (hD : 0 < D) :
    x / D + y / D ≤ (x + y) / D ∧ (x + y) / D ≤ x / D + y / D + 1 := by
  have h1 := Int.mul_ediv_add_emod x D
  have h2 := Int.mul_ediv_add_emod y D
  have r1 := Int.emod_nonneg x (show D ≠ 0 by omega)
  have r2 := Int.emod_nonneg y (show D ≠ 0 by omega)
  have s1 := Int.emod_lt_of_pos x hD
  have s2 := Int.emod_lt_of_pos y hD
  have e : x + y = (x % D + y % D) + D * (x / D + y / D) := by rw [Int.mul_add]; omega
  rw [e, Int.add_mul_ediv_left _ _ (by omega)]
  have h0 : 0 ≤ (x % D + y % D) / D := Int.ediv_nonneg (by omega) (by omega)
  have h3 : (x % D + y % D) / D < 2 := Int.ediv_lt_of_lt_mul hD (by omega)
  omega

theorem ceil_parts (x y D : Int) (hD : 0 < D) :
    ceil (x + y) D ≤ ceil x D + ceil y D ∧ ceil x D + ceil y D ≤ ceil (x + y) D + 1 := by
  have key : ∀ z, ceil z D = -((-z) / D) := by
    intro z
    unfold ceil
    have h1 := Int.mul_ediv_add_emod (-z) D
    have r1 := Int.emod_nonneg (-z) (show D ≠ 0 by omega)
    have s1 := Int.emod_lt_of_pos (-z) hD
    have e : z + D - 1 = (D - 1 - (-z) % D) + D * (-((-z) / D)) := by rw [Int.mul_neg]; omega
    rw [e, Int.add_mul_ediv_left _ _ (by omega), Int.ediv_eq_zero_of_lt (by omega) (by omega)]
    omega
  rw [key, key, key]
  have h1 := Int.mul_ediv_add_emod (-x) D
  have h2 := Int.mul_ediv_add_emod (-y) D
  have r1 := Int.emod_nonneg (-x) (show D ≠ 0 by omega)
  have r2 := Int.emod_nonneg (-y) (show D ≠ 0 by omega)
  have s1 := Int.emod_lt_of_pos (-x) hD
  have s2 := Int.emod_lt_of_pos (-y) hD
  have e : -(x + y) = ((-x) % D + (-y) % D) + D * ((-x) / D + (-y) / D) := by rw [Int.mul_add]; omega
  rw [e, Int.add_mul_ediv_left _ _ (by omega)]
  have h0 : 0 ≤ ((-x) % D + (-y) % D) / D := Int.ediv_nonneg (by omega) (by omega)
  have h3 : ((-x) % D + (-y) % D) / D < 2 := Int.ediv_lt_of_lt_mul hD (by omega)
  omega

theorem cap_ok {m n : Int} : capE m n = 0 ↔ n ≤ m := by unfold capE; split <;> omega
theorem cap_val {m n : Int} (h : n ≤ m) : capV m n = n := by unfold capV; rw [if_neg (by omega)]
theorem cap_bd {m n : Int} (h : 0 ≤ n) (hm : 0 ≤ m) : 0 ≤ capV m n ∧ capV m n ≤ m := by unfold capV; split <;> omega

theorem iErr_ok {s p f t b : Int} : iErr s p f t b = 0 ↔ iOk s p f t b ∧ s * (p * (t - f)) / (1000 * b) ≤ 1099511627776 := by
  unfold iErr; split
  · rename_i h; simp only [cap_ok, h, true_and]
  · rename_i h; simp [h]
theorem iVal_ok {s p f t b : Int} (h : iErr s p f t b = 0) : iVal s p f t b = s * (p * (t - f)) / (1000 * b) := by
  obtain ⟨h1, h2⟩ := iErr_ok.1 h
  unfold iVal; rw [if_pos h1, cap_val h2]
theorem iOk_nonneg {s p f t b : Int} (h : iOk s p f t b) : 0 ≤ s * (p * (t - f)) ∧ 0 < 1000 * b := by
  obtain ⟨⟨s0, s1⟩, ⟨p0, p1⟩, _, _, hft, hb⟩ := h
  exact ⟨Int.mul_nonneg s0 (Int.mul_nonneg p0 (by omega)), by omega⟩
theorem iVal_bd (s p f t b : Int) : 0 ≤ iVal s p f t b ∧ iVal s p f t b ≤ 1099511627776 := by
  unfold iVal; split
  · rename_i h
    obtain ⟨h1, h2⟩ := iOk_nonneg h
    exact cap_bd (Int.ediv_nonneg h1 (by omega)) (by omega)
  · omega

theorem dErr_ok {s p d : Int} : dErr s p d = 0 ↔ dOk s p d ∧ ceil (s * (p * d)) 360000 ≤ s := by
  unfold dErr; split
  · rename_i h; simp only [cap_ok, h, true_and]
  · rename_i h; simp [h]
theorem dVal_ok {s p d : Int} (h : dErr s p d = 0) : dVal s p d = ceil (s * (p * d)) 360000 := by
  obtain ⟨h1, h2⟩ := dErr_ok.1 h
  unfold dVal; rw [if_pos h1, cap_val h2]
theorem dOk_nonneg {s p d : Int} (h : dOk s p d) : 0 ≤ s * (p * d) := by
  obtain ⟨⟨s0, s1⟩, ⟨p0, p1⟩, d0, _⟩ := h
  exact Int.mul_nonneg s0 (Int.mul_nonneg p0 d0)
theorem ceil_nonneg {x D : Int} (h : 0 ≤ x) (hD : 0 < D) : 0 ≤ ceil x D := Int.ediv_nonneg (by omega) (by omega)
theorem dVal_bd (s p d : Int) : 0 ≤ dVal s p d ∧ dVal s p d ≤ 1099511627776 := by
  unfold dVal; split
  · rename_i h
    have h1 := dOk_nonneg h
    obtain ⟨⟨s0, s1⟩, _⟩ := h
    have := cap_bd (m := s) (ceil_nonneg h1 (show (0 : Int) < 360000 by omega)) s0
    omega
  · omega

theorem sumOk_part {s t : Int} (hs : 0 ≤ s) (ht : 0 ≤ t) (h : sumOk (s + t)) : sumOk s ∧ sumOk t := by unfold sumOk at *; omega

/-- the interest of a sum that is split in two -/
theorem int_sum {s t p f to b : Int} (hs : 0 ≤ s) (ht : 0 ≤ t) (h : iErr (s + t) p f to b = 0) :
    iErr s p f to b = 0 ∧ iErr t p f to b = 0 ∧ iVal (s + t) p f to b - 1 ≤ iVal s p f to b + iVal t p f to b ∧ iVal s p f to b + iVal t p f to b ≤ iVal (s + t) p f to b := by
  obtain ⟨⟨hsum, hrest⟩, hle⟩ := iErr_ok.1 h
  obtain ⟨o1, o2⟩ := sumOk_part hs ht hsum
  have k1 : iOk s p f to b := ⟨o1, hrest⟩
  have k2 : iOk t p f to b := ⟨o2, hrest⟩
  obtain ⟨n1, hD⟩ := iOk_nonneg k1
  obtain ⟨n2, _⟩ := iOk_nonneg k2
  obtain ⟨f1, f2⟩ := floor_parts (s * (p * (to - f))) (t * (p * (to - f))) (1000 * b) hD
  rw [← Int.add_mul] at f1 f2
  have g1 : 0 ≤ s * (p * (to - f)) / (1000 * b) := Int.ediv_nonneg n1 (by omega)
  have g2 : 0 ≤ t * (p * (to - f)) / (1000 * b) := Int.ediv_nonneg n2 (by omega)
  have e1 : iErr s p f to b = 0 := iErr_ok.2 ⟨k1, by omega⟩
  have e2 : iErr t p f to b = 0 := iErr_ok.2 ⟨k2, by omega⟩
  rw [iVal_ok h, iVal_ok e1, iVal_ok e2]
  exact ⟨e1, e2, by omega, by omega⟩

/-- .. and of a period -/
theorem int_days {s p f m to b : Int} (h1 : f ≤ m) (h2 : m ≤ to) (h : iErr s p f to b = 0) :
    iErr s p f m b = 0 ∧ iErr s p m to b = 0 ∧ iVal s p f to b - 1 ≤ iVal s p f m b + iVal s p m to b ∧ iVal s p f m b + iVal s p m to b ≤ iVal s p f to b := by
  obtain ⟨⟨hsum, hp, hf, ht, _, hb⟩, hle⟩ := iErr_ok.1 h
  have hm : dayOk m := by unfold dayOk at *; omega
  have k1 : iOk s p f m b := ⟨hsum, hp, hf, hm, h1, hb⟩
  have k2 : iOk s p m to b := ⟨hsum, hp, hm, ht, h2, hb⟩
  obtain ⟨n1, hD⟩ := iOk_nonneg k1
  obtain ⟨n2, _⟩ := iOk_nonneg k2
  obtain ⟨f1, f2⟩ := floor_parts (s * (p * (m - f))) (s * (p * (to - m))) (1000 * b) hD
  have e : s * (p * (m - f)) + s * (p * (to - m)) = s * (p * (to - f)) := by
    rw [← Int.mul_add, ← Int.mul_add, show m - f + (to - m) = to - f by omega]
  rw [e] at f1 f2
  have g1 : 0 ≤ s * (p * (m - f)) / (1000 * b) := Int.ediv_nonneg n1 (by omega)
  have g2 : 0 ≤ s * (p * (to - m)) / (1000 * b) := Int.ediv_nonneg n2 (by omega)
  have e1 : iErr s p f m b = 0 := iErr_ok.2 ⟨k1, by omega⟩
  have e2 : iErr s p m to b = 0 := iErr_ok.2 ⟨k2, by omega⟩
  rw [iVal_ok h, iVal_ok e1, iVal_ok e2]
  exact ⟨e1, e2, by omega, by omega⟩

/-- the discount of a sum that is split in two -/
theorem dis_sum {s t p d : Int} (hst : s + t ≤ 1099511627776) (h1 : dErr s p d = 0) (h2 : dErr t p d = 0) :
    dErr (s + t) p d = 0 ∧ dVal (s + t) p d ≤ dVal s p d + dVal t p d ∧ dVal s p d + dVal t p d ≤ dVal (s + t) p d + 1 := by
  obtain ⟨⟨⟨s0, s1⟩, hp, hd⟩, l1⟩ := dErr_ok.1 h1
  obtain ⟨⟨⟨t0, t1⟩, _⟩, l2⟩ := dErr_ok.1 h2
  have k : dOk (s + t) p d := ⟨⟨by omega, hst⟩, hp, hd⟩
  obtain ⟨c1, c2⟩ := ceil_parts (s * (p * d)) (t * (p * d)) 360000 (by omega)
  rw [← Int.add_mul] at c1 c2
  have e : dErr (s + t) p d = 0 := dErr_ok.2 ⟨k, by omega⟩
  rw [dVal_ok e, dVal_ok h1, dVal_ok h2]
  exact ⟨e, c1, c2⟩

/-- .. and of a period -/
theorem dis_days {s p c d : Int} (hc : 0 ≤ c) (hd : 0 ≤ d) (h : dErr s p (c + d) = 0) :
    dErr s p c = 0 ∧ dErr s p d = 0 ∧ dVal s p (c + d) ≤ dVal s p c + dVal s p d ∧ dVal s p c + dVal s p d ≤ dVal s p (c + d) + 1 := by
  obtain ⟨⟨⟨s0, s1⟩, hp, _, hcd⟩, l⟩ := dErr_ok.1 h
  have k1 : dOk s p c := ⟨⟨s0, s1⟩, hp, hc, by omega⟩
  have k2 : dOk s p d := ⟨⟨s0, s1⟩, hp, hd, by omega⟩
  have n1 := dOk_nonneg k1
  have n2 := dOk_nonneg k2
  obtain ⟨c1, c2⟩ := ceil_parts (s * (p * c)) (s * (p * d)) 360000 (by omega)
  rw [← Int.mul_add, ← Int.mul_add] at c1 c2
  have m1 : ceil (s * (p * c)) 360000 ≤ ceil (s * (p * (c + d))) 360000 := by
    unfold ceil
    apply Int.ediv_le_ediv (by omega)
    rw [Int.mul_add p, Int.mul_add s]; omega
  have m2 : ceil (s * (p * d)) 360000 ≤ ceil (s * (p * (c + d))) 360000 := by
    unfold ceil
    apply Int.ediv_le_ediv (by omega)
    rw [Int.mul_add p, Int.mul_add s]; omega
  have e1 : dErr s p c = 0 := dErr_ok.2 ⟨k1, by omega⟩
  have e2 : dErr s p d = 0 := dErr_ok.2 ⟨k2, by omega⟩
  rw [dVal_ok h, dVal_ok e1, dVal_ok e2]
  exact ⟨e1, e2, c1, c2⟩

theorem find_mem_aux' (f t day : Int) : ∀ (rs : List Rate) (o : Option Rate) (r : Rate), rs.foldl (pick f t day) o = some r → r ∈ rs ∨ o = some r := by
  intro rs
  induction rs with
  | nil => intro o r h; exact .inr h
  | cons q l ih =>
    intro o r h
    rcases ih _ _ h with h1 | h1
    · exact .inl (List.mem_cons_of_mem _ h1)
    · unfold pick at h1
      split at h1
      · split at h1
        · injection h1 with h1; subst h1; exact .inl (by simp)
        · split at h1
          · injection h1 with h1; subst h1; exact .inl (by simp)
          · exact .inr h1
      · exact .inr h1
theorem which_ok {rs : List Rate} {s f t day a b : Int} (h : cOk rs s day) (hw : which rs f t day = some (a, b)) : 1 ≤ a ∧ a ≤ 1073741824 ∧ 1 ≤ b ∧ b ≤ 1073741824 := by
  unfold which at hw
  split at hw
  · rename_i r hr
    have : r ∈ rs := by
      rcases find_mem_aux' f t day rs none r hr with h | h
      · exact h
      · cases h
    obtain ⟨h1, h2, h3, h4⟩ := h.2.2.2 r this
    simp at hw; obtain ⟨rfl, rfl⟩ := hw
    exact ⟨h1, h2, h3, h4⟩
  · split at hw
    · rename_i r hr
      have : r ∈ rs := by
        rcases find_mem_aux' t f day rs none r hr with h | h
        · exact h
        · cases h
      obtain ⟨h1, h2, h3, h4⟩ := h.2.2.2 r this
      simp at hw; obtain ⟨rfl, rfl⟩ := hw
      exact ⟨h3, h4, h1, h2⟩
    · cases hw

theorem cErr_ok {rs : List Rate} {s f t day : Int} : cErr rs s f t day = 0 ↔ cOk rs s day ∧ (f = t ∨ f ≠ t ∧ ∃ a b, which rs f t day = some (a, b) ∧ s * a / b ≤ 1099511627776) := by
  unfold cErr; split
  · rename_i h
    by_cases e : f = t
    · simp [e, h]
    · rw [if_neg e]
      cases hw : which rs f t day with
      | none => simp [e]
      | some p =>
        obtain ⟨a, b⟩ := p
        simp only [cap_ok, h, e, true_and, false_or, ne_eq, not_false_eq_true, Option.some.injEq, Prod.mk.injEq]
        exact ⟨fun h => ⟨a, b, ⟨rfl, rfl⟩, h⟩, fun ⟨_, _, ⟨h1, h2⟩, h⟩ => by rw [h1, h2]; exact h⟩
  · rename_i h; simp [h]
theorem cVal_same {rs : List Rate} {s f t day : Int} (h : cOk rs s day) (e : f = t) : cVal rs s f t day = s := by unfold cVal; rw [if_pos h, if_pos e]
theorem cVal_which {rs : List Rate} {s f t day a b : Int} (h : cOk rs s day) (e : f ≠ t) (hw : which rs f t day = some (a, b)) (hl : s * a / b ≤ 1099511627776) : cVal rs s f t day = s * a / b := by
  unfold cVal; rw [if_pos h, if_neg e, hw]; exact cap_val hl
theorem cVal_bd (rs : List Rate) (s f t day : Int) : 0 ≤ cVal rs s f t day ∧ cVal rs s f t day ≤ 1099511627776 := by
  unfold cVal; split
  · rename_i h
    obtain ⟨s0, s1⟩ := h.2.1
    split
    · exact ⟨s0, s1⟩
    · cases hw : which rs f t day with
      | none => simp
      | some p =>
        obtain ⟨a, b⟩ := p
        obtain ⟨h1, h2, h3, h4⟩ := which_ok h hw
        exact cap_bd (Int.ediv_nonneg (Int.mul_nonneg s0 (by omega)) (by omega)) (by omega)
  · omega

/-- the converted value of a sum that is split in two -/
theorem con_sum {rs : List Rate} {s t f to day : Int} (hs : 0 ≤ s) (ht : 0 ≤ t) (h : cErr rs (s + t) f to day = 0) :
    cErr rs s f to day = 0 ∧ cErr rs t f to day = 0 ∧ cVal rs (s + t) f to day - 1 ≤ cVal rs s f to day + cVal rs t f to day ∧ cVal rs s f to day + cVal rs t f to day ≤ cVal rs (s + t) f to day := by
  obtain ⟨⟨hl, hsum, hd, hr⟩, hrest⟩ := cErr_ok.1 h
  obtain ⟨o1, o2⟩ := sumOk_part hs ht hsum
  have k : cOk rs (s + t) day := ⟨hl, hsum, hd, hr⟩
  have k1 : cOk rs s day := ⟨hl, o1, hd, hr⟩
  have k2 : cOk rs t day := ⟨hl, o2, hd, hr⟩
  rcases hrest with e | ⟨e, a, b, hw, hle⟩
  · rw [cVal_same k e, cVal_same k1 e, cVal_same k2 e]
    exact ⟨cErr_ok.2 ⟨k1, .inl e⟩, cErr_ok.2 ⟨k2, .inl e⟩, by omega, by omega⟩
  · obtain ⟨a0, _, b0, _⟩ := which_ok k hw
    have n1 : 0 ≤ s * a := Int.mul_nonneg hs (by omega)
    have n2 : 0 ≤ t * a := Int.mul_nonneg ht (by omega)
    obtain ⟨f1, f2⟩ := floor_parts (s * a) (t * a) b (by omega)
    rw [← Int.add_mul] at f1 f2
    have g1 : 0 ≤ s * a / b := Int.ediv_nonneg n1 (by omega)
    have g2 : 0 ≤ t * a / b := Int.ediv_nonneg n2 (by omega)
    rw [cVal_which k e hw hle, cVal_which k1 e hw (by omega), cVal_which k2 e hw (by omega)]
    exact ⟨cErr_ok.2 ⟨k1, .inr ⟨e, a, b, hw, by omega⟩⟩, cErr_ok.2 ⟨k2, .inr ⟨e, a, b, hw, by omega⟩⟩, by omega, by omega⟩

end Go.Proofs.Ytphbgobdkmjijaa.Mo
