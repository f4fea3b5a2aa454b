/- The statement MoneyParts, walked. -/
import Derived.Test.YtphbgobdkmjijaaMFrom
namespace Go.Proofs.Ytphbgobdkmjijaa
open Go.RowKit Mo

theorem splitB_of {a b v o : Int} (h1 : v - 1 + o ≤ a + b) (h2 : a + b ≤ v + o) : splitB a b v o = true := by simp only [splitB, decide_eq_true_eq]; exact ⟨h1, h2⟩

/-- the two periods, and their sum, are periods -/
def twoB (mid g : Int) : Bool := decide ((0 ≤ mid ∧ 0 ≤ g) ∧ mid ≤ 20000 ∧ g ≤ 20000 - mid)
theorem twoB_of {mid g : Int} (h : twoB mid g = true) : (0 ≤ mid ∧ 0 ≤ g) ∧ mid ≤ 20000 ∧ g ≤ 20000 - mid := by simpa [twoB] using h
theorem twoB_yes {mid g : Int} (h : (0 ≤ mid ∧ 0 ≤ g) ∧ mid ≤ 20000 ∧ g ≤ 20000 - mid) : twoB mid g = true := by simpa [twoB] using h
theorem twoB_no {mid g : Int} (h : ¬ ((0 ≤ mid ∧ 0 ≤ g) ∧ mid ≤ 20000 ∧ g ≤ 20000 - mid)) : twoB mid g = false := by simp only [twoB, decide_eq_false_iff_not]; exact h

set_option maxRecDepth 100000 in
set_option maxHeartbeats 8000000 in
theorem parts_any (A : Option Addr) (cp : Nat) (rs : List Rate) (s t p f mid g x y : Int) (w : World) (hr : RR w w.heap.size A rs) :
    Calls Try.prog 4 #[.slice A rs.length cp, .int .i64 s, .int .i64 t, .int .i64 p, .int .i64 f, .int .i64 mid, .int .i64 g, .agg #[.int .i64 x, .int .i64 y]] w fun e w' => e = .returned (.bool true) ∧ Below w.heap.size w w' := by
  have hlen := hr.1.1
  obtain ⟨W, hW⟩ : ∃ W, W = w.alloc (.cells #[.int .i64 x, .int .i64 y] 30) := ⟨_, rfl⟩
  have HR : Hid (RR W W.heap.size A rs) := by
    subst hW; exact (hr.below ((Below.refl _ _).alloc (Nat.le_refl _) _)).more (by simp)
  have HC0 : Hid (W.cell? ⟨w.heap.size, 0, none⟩ = some (.int .i64 x)) := by subst hW; exact World.cell?_alloc_new w _ _ 0
  have HC1 : Hid (W.cell? ⟨w.heap.size, 1, none⟩ = some (.int .i64 y)) := by subst hW; exact World.cell?_alloc_new w _ _ 1
  have HBW : Hid (Below w.heap.size w W) := by subst hW; exact (Below.refl _ _).alloc (Nat.le_refl _) _
  have HL : Lat W W := Lat.refl W
  have HW := Lib.hid hW
  clear hr hW
  by_cases hd : rs.length ≤ 100 ∧ 0 ≤ s ∧ 0 ≤ t ∧ s ≤ 1099511627776 ∧ t ≤ 1099511627776 - s
  · obtain ⟨h100, s0, t0, s1, t1⟩ := hd
    go_enter Try.func4, Try.ntmps4
    go_wp2_with fail
    rw [← HW.out]
    refine (sane_from W _ HL).mono ?_
    rintro e w1 ⟨rfl, L1⟩
    go_wp2_with fail
    go_loopw [18] (fun b wr => ∃ n : Int, b = .int .i64 n ∧ (n = 360 ∨ n = 365 ∨ n = 370) ∧ Lat W wr) (fun b _ => (400 - intOf b).toNat)
    case atStart => exact ⟨360, rfl, .inl rfl, L1⟩
    case round =>
      obtain ⟨n, rfl, hn, L2⟩ := hrel
      by_cases hlt : n ≤ 365
      · have n0 : 0 ≤ n := by omega
        have Hn := Lib.hid hn
        clear hn
        have bd1 := iVal_bd (s + t) p f g n
        have bd2 := iVal_bd s p f g n
        have bd3 := iVal_bd t p f g n
        have bd4 := iVal_bd (s + t) p f mid n
        have bd5 := iVal_bd (s + t) p mid g n
        as_aux_lemma =>
          by_cases he : iErr (s + t) p f g n = 0
          · obtain ⟨e1, e2, e3, e4⟩ := int_sum s0 t0 he
            have sp1 : splitB (iVal s p f g n) (iVal t p f g n) (iVal (s + t) p f g n) 0 = true := splitB_of (by omega) (by omega)
            by_cases hm : f ≤ mid ∧ mid ≤ g
            · obtain ⟨m1, m2⟩ := hm
              obtain ⟨e5, e6, e7, e8⟩ := int_days m1 m2 he
              have sp2 : splitB (iVal (s + t) p f mid n) (iVal (s + t) p mid g n) (iVal (s + t) p f g n) 0 = true := splitB_of (by omega) (by omega)
              clear e3 e4 e7 e8
              go_wp2_with (first | (go_at_call 9; refine (interest_from _ _ _ _ _ W _ (by assumption)).mono ?_; rintro e w' ⟨rfl, LL⟩) | (go_at_call 15; refine (split_any _ _ _ _ _ (by omega) (by omega) (by omega) (by omega) (by omega) (by omega) (by omega) (by omega)).mono ?_; rintro e w' ⟨rfl, rfl⟩))
              go_roundw
              case rel => exact ⟨n + 5, rfl, by have := Hn.out; omega, by assumption⟩
              case measure => simp [intOf]; omega
            · clear e3 e4
              by_cases hm1 : f ≤ mid
              · have hm2 : ¬ mid ≤ g := fun h => hm ⟨hm1, h⟩
                clear hm
                go_wp2_with (first | (go_at_call 9; refine (interest_from _ _ _ _ _ W _ (by assumption)).mono ?_; rintro e w' ⟨rfl, LL⟩) | (go_at_call 15; refine (split_any _ _ _ _ _ (by omega) (by omega) (by omega) (by omega) (by omega) (by omega) (by omega) (by omega)).mono ?_; rintro e w' ⟨rfl, rfl⟩))
                go_roundw
                case rel => exact ⟨n + 5, rfl, by have := Hn.out; omega, by assumption⟩
                case measure => simp [intOf]; omega
              · clear hm
                go_wp2_with (first | (go_at_call 9; refine (interest_from _ _ _ _ _ W _ (by assumption)).mono ?_; rintro e w' ⟨rfl, LL⟩) | (go_at_call 15; refine (split_any _ _ _ _ _ (by omega) (by omega) (by omega) (by omega) (by omega) (by omega) (by omega) (by omega)).mono ?_; rintro e w' ⟨rfl, rfl⟩))
                go_roundw
                case rel => exact ⟨n + 5, rfl, by have := Hn.out; omega, by assumption⟩
                case measure => simp [intOf]; omega
          · have hb : (iErr (s + t) p f g n == 0) = false := by simpa using he
            clear he
            go_wp2_with (first | (go_at_call 9; refine (interest_from _ _ _ _ _ W _ (by assumption)).mono ?_; rintro e w' ⟨rfl, LL⟩) | (go_at_call 15; refine (split_any _ _ _ _ _ (by omega) (by omega) (by omega) (by omega) (by omega) (by omega) (by omega) (by omega)).mono ?_; rintro e w' ⟨rfl, rfl⟩))
            go_roundw
            case rel => exact ⟨n + 5, rfl, by have := Hn.out; omega, by assumption⟩
            case measure => simp [intOf]; omega
      · have hn' : ¬ n ≤ 365 := hlt
        clear hn hlt
        have wst : wrap64 (s + t) = s + t := IntWalk.wrap64_in _ (by omega)
        go_upto_region 19 with (first | (go_at_call 11; refine (discount_from _ _ _ W _ (by assumption)).mono ?_; rintro e w' ⟨rfl, LL⟩) | (go_at_call 15; refine (split_any _ _ _ _ _ (by omega) (by omega) (by omega) (by omega) (by omega) (by omega) (by omega) (by omega)).mono ?_; rintro e w' ⟨rfl, rfl⟩))
        have bd1 := dVal_bd (s + t) p f
        have bd2 := dVal_bd s p f
        have bd3 := dVal_bd t p f
        go_cut [30, 32, 34, 208] (fun _ _ _ v wx => v = .bool false ∧ Lat W wx)
        case first =>
          as_aux_lemma =>
            by_cases h1 : dErr s p f = 0
            · by_cases h2 : dErr t p f = 0
              · obtain ⟨e1, e2, e3⟩ := dis_sum (by omega) h1 h2
                have sp : splitB (dVal s p f) (dVal t p f) (dVal (s + t) p f) 1 = true := splitB_of (by omega) (by omega)
                clear e2 e3
                go_wp2_with (go_at_call 15; refine (split_any _ _ _ _ _ (by omega) (by omega) (by omega) (by omega) (by omega) (by omega) (by omega) (by omega)).mono ?_; rintro e w' ⟨rfl, rfl⟩)
                go_meet
                exact ⟨rfl, by assumption⟩
              · have hb : (dErr t p f == 0) = false := by simpa using h2
                clear h2
                go_wp2_with (go_at_call 15; refine (split_any _ _ _ _ _ (by omega) (by omega) (by omega) (by omega) (by omega) (by omega) (by omega) (by omega)).mono ?_; rintro e w' ⟨rfl, rfl⟩)
                go_meet
                exact ⟨rfl, by assumption⟩
            · have hb : (dErr s p f == 0) = false := by simpa using h1
              clear h1
              go_wp2_with (go_at_call 15; refine (split_any _ _ _ _ _ (by omega) (by omega) (by omega) (by omega) (by omega) (by omega) (by omega) (by omega)).mono ?_; rintro e w' ⟨rfl, rfl⟩)
              go_meet
              exact ⟨rfl, by assumption⟩
        case rest =>
          obtain ⟨rfl, L3⟩ := hcut
          clear bd1 bd2 bd3
          go_upto_region 23 with (go_at_call 11; refine (discount_from _ _ _ W _ (by assumption)).mono ?_; rintro e w' ⟨rfl, LL⟩)
          go_cut [242] (fun v wx => v = .bool (twoB mid g) ∧ Lat W wx)
          case first =>
            as_aux_lemma =>
              by_cases hm : (0 ≤ mid ∧ 0 ≤ g) ∧ mid ≤ 20000 ∧ g ≤ 20000 - mid
              · have hT := Lib.hid (twoB_yes hm)
                obtain ⟨⟨m0, g0⟩, m1, g1⟩ := hm
                go_wp2_with fail
                go_meet
                exact ⟨by rw [hT.out], by assumption⟩
              · have hT := Lib.hid (twoB_no hm)
                have Hm := Lib.hid hm
                clear hm
                go_wp2_with fail
                all_goals
                  go_meet
                  refine ⟨?_, by assumption⟩
                  rw [hT.out]
                  try (first | rfl | (congr 1; simp only [decide_eq_false_iff_not]; have := Hm.out; omega))
          case rest =>
          obtain ⟨rfl, L4⟩ := hcut
          go_upto_if 242 with fail
          go_cut [36, 38] (fun _ _ wx => Lat W wx)
          case first =>
            as_aux_lemma =>
              cases hm : twoB mid g with
              | true =>
                obtain ⟨⟨m0, g0⟩, m1, g1⟩ := twoB_of hm
                clear hm
                have bd1 := dVal_bd (s + t) p mid
                have bd2 := dVal_bd (s + t) p g
                have bd3 := dVal_bd (s + t) p (mid + g)
                by_cases hj : dErr (s + t) p (mid + g) = 0
                · obtain ⟨e1, e2, e3, e4⟩ := dis_days m0 g0 hj
                  have sp : splitB (dVal (s + t) p mid) (dVal (s + t) p g) (dVal (s + t) p (mid + g)) 1 = true := splitB_of (by omega) (by omega)
                  clear e3 e4
                  go_wp2_with (first | (go_at_call 11; refine (discount_from _ _ _ W _ (by assumption)).mono ?_; rintro e w' ⟨rfl, LL⟩) | (go_at_call 15; refine (split_any _ _ _ _ _ (by omega) (by omega) (by omega) (by omega) (by omega) (by omega) (by omega) (by omega)).mono ?_; rintro e w' ⟨rfl, rfl⟩))
                  go_meet
                  assumption
                · have hb : (dErr (s + t) p (mid + g) == 0) = false := by simpa using hj
                  clear hj
                  go_wp2_with (first | (go_at_call 11; refine (discount_from _ _ _ W _ (by assumption)).mono ?_; rintro e w' ⟨rfl, LL⟩) | (go_at_call 15; refine (split_any _ _ _ _ _ (by omega) (by omega) (by omega) (by omega) (by omega) (by omega) (by omega) (by omega)).mono ?_; rintro e w' ⟨rfl, rfl⟩))
                  go_meet
                  assumption
              | false =>
                go_wp2_with fail
                go_meet
                assumption
          case rest =>
            go_upto_region 27 with (fail)
            have c0 := hcut.cell HC0.out
            have c1 := hcut.cell HC1.out
            go_wp2_with fail
            refine (convert_from A _ _ rs _ _ _ _ W _ HR (Lib.hid rfl) hcut).mono ?_
            rintro e w6 ⟨rfl, L6⟩
            clear c0 c1
            have c0 := L6.cell HC0.out
            have c1 := L6.cell HC1.out
            go_wp2_with fail
            refine (convert_from A _ _ rs _ _ _ _ W _ HR (Lib.hid rfl) L6).mono ?_
            rintro e w7 ⟨rfl, L7⟩
            clear c0 c1
            have c0 := L7.cell HC0.out
            have c1 := L7.cell HC1.out
            go_wp2_with fail
            refine (convert_from A _ _ rs _ _ _ _ W _ HR (Lib.hid rfl) L7).mono ?_
            rintro e w8 ⟨rfl, L8⟩
            clear c0 c1
            have bd1 := cVal_bd rs (s + t) x y g
            have bd2 := cVal_bd rs s x y g
            have bd3 := cVal_bd rs t x y g
            as_aux_lemma =>
              by_cases hk : cErr rs (s + t) x y g = 0
              · obtain ⟨e1, e2, e3, e4⟩ := con_sum s0 t0 hk
                have sp : splitB (cVal rs s x y g) (cVal rs t x y g) (cVal rs (s + t) x y g) 0 = true := splitB_of (by omega) (by omega)
                clear e3 e4
                go_wp2_with (go_at_call 15; refine (split_any _ _ _ _ _ (by omega) (by omega) (by omega) (by omega) (by omega) (by omega) (by omega) (by omega)).mono ?_; rintro e w' ⟨rfl, rfl⟩)
                go_ret
                exact ⟨rfl, Below.trans HBW.out (L8.mono HBW.out.size)⟩
              · have hb : (cErr rs (s + t) x y g != 0) = true := by simpa using hk
                clear hk
                go_wp2_with (go_at_call 15; refine (split_any _ _ _ _ _ (by omega) (by omega) (by omega) (by omega) (by omega) (by omega) (by omega) (by omega)).mono ?_; rintro e w' ⟨rfl, rfl⟩)
                go_ret
                exact ⟨rfl, Below.trans HBW.out (L8.mono HBW.out.size)⟩
  · have Hd := Lib.hid hd
    clear hd
    go_enter Try.func4, Try.ntmps4
    go_wp2_with fail
    rw [← HW.out]
    refine (sane_from W _ HL).mono ?_
    rintro e w1 ⟨rfl, L1⟩
    go_wp2_with fail
    all_goals first
      | (go_ret
         exact ⟨rfl, Below.trans HBW.out (L1.mono HBW.out.size)⟩)
      | (exfalso; exact Hd.out (by omega))

end Go.Proofs.Ytphbgobdkmjijaa
