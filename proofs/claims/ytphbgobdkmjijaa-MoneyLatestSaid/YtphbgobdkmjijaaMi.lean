/- The examples of the statements hold. -/
import Derived.Test.YtphbgobdkmjijaaMh
namespace Go.Proofs.Ytphbgobdkmjijaa
open Go.RowKit Mo

theorem ex1 : iVal 1000 60 0 90 360 = 15 := by decide
theorem ex2 : iErr 1000 60 0 90 360 = 0 := by decide
theorem ex3 : iVal 1000 60 0 90 365 = 14 := by decide
theorem ex4 : iErr 1000 60 0 90 365 = 0 := by decide
theorem ex5 : dVal 1001 60 90 = 16 := by decide
theorem ex6 : dErr 1001 60 90 = 0 := by decide
def exRates : List Rate := [⟨0, 1, 3, 2, 5⟩]
theorem ex7 : cVal exRates 100 0 1 5 = 150 := by decide
theorem ex8 : cErr exRates 100 0 1 5 = 0 := by decide
theorem ex9 : cVal exRates 100 1 0 5 = 66 := by decide
theorem ex10 : cErr exRates 100 1 0 5 = 0 := by decide
theorem ex11 : cVal exRates 100 0 1 4 = 0 := by decide
theorem ex12 : cErr exRates 100 0 1 4 = 4 := by decide

/-- a conversion, the list's length as a number -/
theorem conv_at (A : Option Addr) (n c : Nat) (rs : List Rate) (s f t day : Int) (w : World) (hr : RR w w.heap.size A rs) (hn : rs.length = n) :
    Calls Try.prog 13 #[.slice A n c, .int .i64 s, .int .i64 f, .int .i64 t, .int .i64 day] w fun e w' =>
      e = .returned (.tuple #[.int .i64 (cVal rs s f t day), .int .i64 (cErr rs s f t day)]) ∧ Below w.heap.size w w' := by
  subst hn; exact convert_any A c rs s f t day w hr

set_option maxHeartbeats 4000000 in
theorem sane_any (w : World) :
    Calls Try.prog 8 #[] w fun e w' => e = .returned (.bool true) ∧ Below w.heap.size w w' := by
  have i1 := interest_any 1000 60 0 90 360
  rw [ex1, ex2] at i1
  have i2 := interest_any 1000 60 0 90 365
  rw [ex3, ex4] at i2
  have d1 := discount_any 1001 60 90
  rw [ex5, ex6] at d1
  have I1 := Lib.hid i1
  have I2 := Lib.hid i2
  have D1 := Lib.hid d1
  clear i1 i2 d1
  go_enter Try.func8, Try.ntmps8
  go_wp2_with fail
  refine (I1.out _).mono ?_
  rintro e w1 ⟨rfl, hb1⟩
  go_wp2_with fail
  refine (I2.out _).mono ?_
  rintro e w2 ⟨rfl, hb2⟩
  go_wp2_with fail
  refine (D1.out _).mono ?_
  rintro e w3 ⟨rfl, hb3⟩
  have hb : Below w.heap.size w w3 := (hb1.trans (hb2.mono hb1.size)).trans (hb3.mono (Nat.le_trans hb1.size hb2.size))
  clear hb1 hb2 hb3 I1 I2 D1
  go_wp2_with fail
  have HB := Lib.hid hb
  clear hb
  have hex : RR (w3.alloc (.cells (rcs ⟨0, 1, 3, 2, 5⟩) 36)) (w3.alloc (.cells (rcs ⟨0, 1, 3, 2, 5⟩) 36)).heap.size (some ⟨w3.heap.size, 0, none⟩) exRates := by
    refine ⟨⟨by simp [exRates], ?_⟩, fun _ => ⟨w3.heap.size, 0, rfl, by simp, ?_⟩⟩
    · intro r h
      simp [exRates] at h
      subst h
      exact ⟨by decide, by decide, by decide, by decide⟩
    · intro i r h
      have hi : i = 0 := by
        have := (List.getElem?_eq_some_iff.1 h).1
        simp [exRates] at this; omega
      subst hi
      simp [exRates] at h
      subst h
      exact RB.cells (heap_alloc_new w3 _)
  refine (conv_at _ _ _ exRates _ _ _ _ _ hex rfl).mono ?_
  rw [ex7, ex8]
  rintro e w4 ⟨rfl, hb4⟩
  have hx4 := (hex.below hb4).more hb4.size
  have hB4 := HB.out.trans ((((Below.refl _ _).alloc (Nat.le_refl _) _).trans (hb4.mono (by simp))).mono HB.out.size)
  have hs4 : w.heap.size ≤ w4.heap.size := hB4.size
  have HX4 := Lib.hid hx4
  have HB4 := Lib.hid hB4
  clear hb4 hx4 hB4 hex
  go_wp2_with fail
  refine (conv_at _ _ _ exRates _ _ _ _ _ HX4.out rfl).mono ?_
  rw [ex9, ex10]
  rintro e w5 ⟨rfl, hb5⟩
  have HX5 := Lib.hid ((HX4.out.below hb5).more hb5.size)
  have hB5 := HB4.out.trans (hb5.mono hs4)
  have hs5 : w.heap.size ≤ w5.heap.size := hB5.size
  have HB5 := Lib.hid hB5
  clear hb5 hB5
  go_wp2_with fail
  refine (conv_at _ _ _ exRates _ _ _ _ _ HX5.out rfl).mono ?_
  rw [ex11, ex12]
  rintro e w6 ⟨rfl, hb6⟩
  have HB6 := Lib.hid (HB5.out.trans (hb6.mono hs5))
  clear hb6
  go_wp2
  go_ret
  exact ⟨rfl, HB6.out⟩

end Go.Proofs.Ytphbgobdkmjijaa
