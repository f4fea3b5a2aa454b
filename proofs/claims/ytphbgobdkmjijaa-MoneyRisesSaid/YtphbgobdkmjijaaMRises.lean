/- The statement MoneyRises, walked. -/
import Derived.Test.YtphbgobdkmjijaaMFrom
namespace Go.Proofs.Ytphbgobdkmjijaa
open Go.RowKit Mo

/-- a greater sum, rate and period have no less interest -/
theorem int_mono {s s' p p' d d' : Int} (hs : s ≤ s') (hp : p ≤ p') (hd : d ≤ d') (h : iErr s p 0 d 360 = 0) (h' : iErr s' p' 0 d' 360 = 0) : iVal s p 0 d 360 ≤ iVal s' p' 0 d' 360 := by
  rw [iVal_ok h, iVal_ok h']
  obtain ⟨⟨⟨s0, _⟩, ⟨p0, _⟩, _, ⟨d0, _⟩, _⟩, _⟩ := iErr_ok.1 h
  apply Int.ediv_le_ediv (by omega)
  apply Int.mul_le_mul hs _ (Int.mul_nonneg p0 (by omega)) (by omega)
  exact Int.mul_le_mul hp (by omega) (by omega) (by omega)
theorem dis_mono {s s' p p' d d' : Int} (hs : s ≤ s') (hp : p ≤ p') (hd : d ≤ d') (h : dErr s p d = 0) (h' : dErr s' p' d' = 0) : dVal s p d ≤ dVal s' p' d' := by
  rw [dVal_ok h, dVal_ok h']
  obtain ⟨⟨⟨s0, _⟩, ⟨p0, _⟩, d0, _⟩, _⟩ := dErr_ok.1 h
  unfold ceil
  apply Int.ediv_le_ediv (by omega)
  have : s * (p * d) ≤ s' * (p' * d') :=
    Int.mul_le_mul hs (Int.mul_le_mul hp hd d0 (by omega)) (Int.mul_nonneg p0 d0) (by omega)
  omega
/-- a discount is the interest of its period, or 1 more -/
theorem dis_int {s p d : Int} (h : dErr s p d = 0) : iErr s p 0 d 360 = 0 ∧ (dVal s p d = iVal s p 0 d 360 ∨ dVal s p d = iVal s p 0 d 360 + 1) := by
  obtain ⟨⟨⟨s0, s1⟩, ⟨p0, p1⟩, d0, d1⟩, hl⟩ := dErr_ok.1 h
  have hn : 0 ≤ s * (p * d) := Int.mul_nonneg s0 (Int.mul_nonneg p0 d0)
  have k : iOk s p 0 d 360 := ⟨⟨s0, s1⟩, ⟨p0, p1⟩, ⟨by omega, by omega⟩, ⟨d0, by omega⟩, d0, .inl rfl⟩
  have e : s * (p * (d - 0)) / (1000 * 360) = s * (p * d) / 360000 := by rw [Int.sub_zero]; rfl
  have hc : ceil (s * (p * d)) 360000 = s * (p * d) / 360000 ∨ ceil (s * (p * d)) 360000 = s * (p * d) / 360000 + 1 := by
    unfold ceil; generalize s * (p * d) = z at *; omega
  have he : iErr s p 0 d 360 = 0 := iErr_ok.2 ⟨k, by rw [e]; omega⟩
  rw [dVal_ok h, iVal_ok he, e]
  exact ⟨he, hc⟩

set_option maxRecDepth 100000 in
set_option maxHeartbeats 8000000 in
theorem rises_any (x0 x1 y0 y1 z0 z1 : Int) (w : World) :
    Calls Try.prog 5 #[.agg #[.int .i64 x0, .int .i64 x1], .agg #[.int .i64 y0, .int .i64 y1], .agg #[.int .i64 z0, .int .i64 z1]] w fun e w' => e = .returned (.bool true) ∧ Below w.heap.size w w' := by
  obtain ⟨W, hW⟩ : ∃ W, W = ((w.alloc (.cells #[.int .i64 x0, .int .i64 x1] 30)).alloc (.cells #[.int .i64 y0, .int .i64 y1] 30)).alloc (.cells #[.int .i64 z0, .int .i64 z1] 30) := ⟨_, rfl⟩
  have HC0 : Hid (W.cell? ⟨w.heap.size, 0, none⟩ = some (.int .i64 x0)) := by subst hW; simp [Hid, go_sem]
  have HC1 : Hid (W.cell? ⟨w.heap.size, 1, none⟩ = some (.int .i64 x1)) := by subst hW; simp [Hid, go_sem]
  have HC2 : Hid (W.cell? ⟨w.heap.size + 1, 0, none⟩ = some (.int .i64 y0)) := by subst hW; simp [Hid, go_sem]
  have HC3 : Hid (W.cell? ⟨w.heap.size + 1, 1, none⟩ = some (.int .i64 y1)) := by subst hW; simp [Hid, go_sem]
  have HC4 : Hid (W.cell? ⟨w.heap.size + 2, 0, none⟩ = some (.int .i64 z0)) := by subst hW; simp [Hid, go_sem]
  have HC5 : Hid (W.cell? ⟨w.heap.size + 2, 1, none⟩ = some (.int .i64 z1)) := by subst hW; simp [Hid, go_sem]
  have HBW : Hid (Below w.heap.size w W) := by subst hW; exact (((Below.refl _ _).alloc (Nat.le_refl _) _).alloc (by simp) _).alloc (by simp; omega) _
  have HL : Lat W W := Lat.refl W
  have HW := Lib.hid hW
  clear hW
  go_enter Try.func5, Try.ntmps5
  go_wp2_with fail
  rw [← HW.out]
  refine (sane_from W _ HL).mono ?_
  rintro e w1 ⟨rfl, L1⟩
  have c0 := L1.cell HC0.out
  have c1 := L1.cell HC1.out
  have c2 := L1.cell HC2.out
  have c3 := L1.cell HC3.out
  have c4 := L1.cell HC4.out
  have c5 := L1.cell HC5.out
  go_wp2_with fail
  refine (interest_from _ _ _ _ _ W _ L1).mono ?_
  rintro e w2 ⟨rfl, L2⟩
  clear c0 c1 c2 c3 c4 c5
  have c0 := L2.cell HC0.out
  have c1 := L2.cell HC1.out
  have c2 := L2.cell HC2.out
  have c3 := L2.cell HC3.out
  have c4 := L2.cell HC4.out
  have c5 := L2.cell HC5.out
  go_wp2_with fail
  refine (interest_from _ _ _ _ _ W _ L2).mono ?_
  rintro e w3 ⟨rfl, L3⟩
  clear c0 c1 c2 c3 c4 c5
  have c0 := L3.cell HC0.out
  have c1 := L3.cell HC1.out
  have c2 := L3.cell HC2.out
  have c3 := L3.cell HC3.out
  have c4 := L3.cell HC4.out
  have c5 := L3.cell HC5.out
  go_wp2_with fail
  refine (discount_from _ _ _ W _ L3).mono ?_
  rintro e w4 ⟨rfl, L4⟩
  clear c0 c1 c2 c3 c4 c5
  have c0 := L4.cell HC0.out
  have c1 := L4.cell HC1.out
  have c2 := L4.cell HC2.out
  have c3 := L4.cell HC3.out
  have c4 := L4.cell HC4.out
  have c5 := L4.cell HC5.out
  go_wp2_with fail
  refine (discount_from _ _ _ W _ L4).mono ?_
  rintro e w5 ⟨rfl, L5⟩
  clear c0 c1 c2 c3 c4 c5
  have ms : min x0 x1 ≤ max x0 x1 := by omega
  have mp : min y0 y1 ≤ max y0 y1 := by omega
  have md : min z0 z1 ≤ max z0 z1 := by omega
  generalize min x0 x1 = s at *
  generalize max x0 x1 = s' at *
  generalize min y0 y1 = p at *
  generalize max y0 y1 = p' at *
  generalize min z0 z1 = d at *
  generalize max z0 z1 = d' at *
  have bd1 := iVal_bd s p 0 d 360
  have bd2 := iVal_bd s' p' 0 d' 360
  have HIM := Lib.hid (int_mono ms mp md)
  have HDM := Lib.hid (dis_mono ms mp md)
  have HD1 := Lib.hid (@dis_int s p d)
  have HD2 := Lib.hid (@dis_int s' p' d')
  have hfin : Below w.heap.size w w5 := Below.trans HBW.out (L5.mono HBW.out.size)
  have HF := Lib.hid hfin
  clear ms mp md hfin
  by_cases he : iErr s p 0 d 360 = 0
  · by_cases hf : iErr s' p' 0 d' 360 = 0
    · have hle := HIM.out he hf
      by_cases hg : dErr s p d = 0
      · by_cases hh : dErr s' p' d' = 0
        · have hld := HDM.out hg hh
          rcases (HD1.out hg).2 with h1 | h1
          all_goals
            rcases (HD2.out hh).2 with h2 | h2
            all_goals
              rw [h1, h2] at hld
              go_wp2
              go_ret
              exact ⟨rfl, HF.out⟩
        · have hb : (dErr s' p' d' == 0) = false := by simpa using hh
          have hb' : (dErr s' p' d' != 0) = true := by simpa using hh
          clear hh
          rcases (HD1.out hg).2 with h1 | h1
          all_goals
            go_wp2
            go_ret
            exact ⟨rfl, HF.out⟩
      · have hb : (dErr s p d == 0) = false := by simpa using hg
        have hb' : (dErr s p d != 0) = true := by simpa using hg
        clear hg
        by_cases hh : dErr s' p' d' = 0
        · rcases (HD2.out hh).2 with h2 | h2
          all_goals
            go_wp2
            go_ret
            exact ⟨rfl, HF.out⟩
        · have hc : (dErr s' p' d' != 0) = true := by simpa using hh
          clear hh
          go_wp2
          go_ret
          exact ⟨rfl, HF.out⟩
    · have hh : dErr s' p' d' ≠ 0 := fun h => hf (HD2.out h).1
      have hb : (iErr s' p' 0 d' 360 == 0) = false := by simpa using hf
      have hc : (dErr s' p' d' == 0) = false := by simpa using hh
      have hc' : (dErr s' p' d' != 0) = true := by simpa using hh
      clear hf hh
      by_cases hg : dErr s p d = 0
      · rcases (HD1.out hg).2 with h1 | h1
        all_goals
          go_wp2
          go_ret
          exact ⟨rfl, HF.out⟩
      · have hb2 : (dErr s p d == 0) = false := by simpa using hg
        have hb2' : (dErr s p d != 0) = true := by simpa using hg
        clear hg
        go_wp2
        go_ret
        exact ⟨rfl, HF.out⟩
  · have hg : dErr s p d ≠ 0 := fun h => he (HD1.out h).1
    have hb : (iErr s p 0 d 360 == 0) = false := by simpa using he
    have hc : (dErr s p d == 0) = false := by simpa using hg
    have hc' : (dErr s p d != 0) = true := by simpa using hg
    clear he hg
    by_cases hh : dErr s' p' d' = 0
    · have hf := (HD2.out hh).1
      rcases (HD2.out hh).2 with h2 | h2
      all_goals
        go_wp2
        go_ret
        exact ⟨rfl, HF.out⟩
    · have hc2 : (dErr s' p' d' != 0) = true := by simpa using hh
      clear hh
      go_wp2
      go_ret
      exact ⟨rfl, HF.out⟩

end Go.Proofs.Ytphbgobdkmjijaa
