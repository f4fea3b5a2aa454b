/- The statement MoneyTells, walked. -/
import Derived.Test.YtphbgobdkmjijaaMi
namespace Go.Proofs.Ytphbgobdkmjijaa
open Go.RowKit Mo

theorem refConv_at (A : Option Addr) (B c : Nat) (rs : List Rate) (s f t day : Int) (w : World) (hr : RR w B A rs) :
    Calls Try.prog 14 #[.slice A rs.length c, .int .i64 s, .int .i64 f, .int .i64 t, .int .i64 day] w fun e w' =>
      e = .returned (.tuple #[.int .i64 (cVal rs s f t day), .int .i64 (cErr rs s f t day)]) ∧ Below w.heap.size w w' := by
  refine (refConvert_any A B c rs s f t day w hr).mono ?_
  rintro e w' ⟨rfl, n, rfl⟩
  exact ⟨rfl, below_drewN (Below.refl _ _) _⟩

set_option maxHeartbeats 8000000 in
theorem tells_any (A : Option Addr) (cp : Nat) (rs : List Rate) (s a b c basis : Int) (w : World) (hr : RR w w.heap.size A rs) :
    Calls Try.prog 3 #[.slice A rs.length cp, .int .i64 s, .int .i64 a, .int .i64 b, .int .i64 c, .int .i64 basis] w fun e w' => e = .returned (.bool true) ∧ Below w.heap.size w w' := by
  have hlen := hr.1.1
  have Hr := Lib.hid hr
  clear hr
  by_cases h120 : (120 : Int) < rs.length
  · go_enter Try.func3, Try.ntmps3
    go_wp2_with (go_at_call 8; refine (sane_any _).mono ?_; rintro e w1 ⟨rfl, hb⟩; have HB := Lib.hid hb; clear hb)
    go_ret
    exact ⟨rfl, HB.out⟩
  · go_enter Try.func3, Try.ntmps3
    go_wp2_with fail
    refine (sane_any _).mono ?_
    rintro e w1 ⟨rfl, hb⟩
    have HB1 := Lib.hid hb
    have z1 := hb.size
    clear hb
    go_wp2_with fail
    refine (interest_any _ _ _ _ _ _).mono ?_
    rintro e w2 ⟨rfl, hb⟩
    have HB2 := Lib.hid (HB1.out.trans (hb.mono z1))
    have z2 := HB2.out.size
    clear hb
    go_wp2_with fail
    refine (refInterest_any _ _ _ _ _ _).mono ?_
    rintro e w3 ⟨rfl, hb⟩
    have HB3 := Lib.hid (HB2.out.trans (hb.mono z2))
    have z3 := HB3.out.size
    clear hb
    go_wp2_with fail
    refine (discount_any _ _ _ _).mono ?_
    rintro e w4 ⟨rfl, hb⟩
    have HB4 := Lib.hid (HB3.out.trans (hb.mono z3))
    have z4 := HB4.out.size
    clear hb
    go_wp2_with fail
    refine (refDiscount_any _ _ _ _).mono ?_
    rintro e w5 ⟨rfl, hb⟩
    have HB5 := Lib.hid (HB4.out.trans (hb.mono z4))
    have z5 := HB5.out.size
    clear hb
    go_wp2_with fail
    refine (convert_any A _ rs _ _ _ _ _ ((Hr.out.below HB5.out).more z5)).mono ?_
    rintro e w6 ⟨rfl, hb⟩
    have HB6 := Lib.hid (HB5.out.trans (hb.mono z5))
    have z6 := HB6.out.size
    clear hb
    go_wp2_with fail
    refine (refConv_at A _ _ rs _ _ _ _ _ ((Hr.out.below HB6.out).more z6)).mono ?_
    rintro e w7 ⟨rfl, hb⟩
    have HB7 := Lib.hid (HB6.out.trans (hb.mono z6))
    clear hb
    go_wp2
    go_ret
    exact ⟨rfl, HB7.out⟩

end Go.Proofs.Ytphbgobdkmjijaa
