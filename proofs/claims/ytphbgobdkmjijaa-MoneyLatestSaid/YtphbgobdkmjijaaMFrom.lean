/- The contracts, seen from an earlier world. -/
import Derived.Test.YtphbgobdkmjijaaMTells
import Derived.Test.YtphbgobdkmjijaaMPure
import Derived.Deep.DeepCutAuto
namespace Go.Proofs.Ytphbgobdkmjijaa
open Go.RowKit Mo

/-- later than W, and nothing that was there has changed -/
def Lat (W w : World) : Prop := Below W.heap.size W w
theorem Lat.refl (W : World) : Lat W W := Below.refl _ _
theorem Lat.step {W w w' : World} (h : Lat W w) (k : Below w.heap.size w w') : Lat W w' := Below.trans h (k.mono h.size)
theorem Lat.rates {W w : World} {A : Option Addr} {rs : List Rate} (h : Lat W w) (hr : Hid (RR W W.heap.size A rs)) : RR w w.heap.size A rs := (hr.out.below h).more h.size
theorem Lat.cell {W w : World} (h : Lat W w) {b o : Nat} {v : Value} (hc : W.cell? ⟨b, o, none⟩ = some v) : w.cell? ⟨b, o, none⟩ = some v :=
  (Below.cell h (World.block_lt_of_cell? W _ hc)).trans hc

theorem interest_from (s p f t b : Int) (W w : World) (h : Lat W w) :
    Calls Try.prog 9 #[.int .i64 s, .int .i64 p, .int .i64 f, .int .i64 t, .int .i64 b] w fun e w' => e = .returned (.tuple #[.int .i64 (iVal s p f t b), .int .i64 (iErr s p f t b)]) ∧ Lat W w' :=
  (interest_any s p f t b w).mono fun _ _ ⟨he, hb⟩ => ⟨he, h.step hb⟩
theorem discount_from (s p d : Int) (W w : World) (h : Lat W w) :
    Calls Try.prog 11 #[.int .i64 s, .int .i64 p, .int .i64 d] w fun e w' => e = .returned (.tuple #[.int .i64 (dVal s p d), .int .i64 (dErr s p d)]) ∧ Lat W w' :=
  (discount_any s p d w).mono fun _ _ ⟨he, hb⟩ => ⟨he, h.step hb⟩
theorem convert_from (A : Option Addr) (n c : Nat) (rs : List Rate) (s f t day : Int) (W w : World) (hr : Hid (RR W W.heap.size A rs)) (hn : Hid (rs.length = n)) (h : Lat W w) :
    Calls Try.prog 13 #[.slice A n c, .int .i64 s, .int .i64 f, .int .i64 t, .int .i64 day] w fun e w' => e = .returned (.tuple #[.int .i64 (cVal rs s f t day), .int .i64 (cErr rs s f t day)]) ∧ Lat W w' :=
  (conv_at A n c rs s f t day w (h.rates hr) hn.out).mono fun _ _ ⟨he, hb⟩ => ⟨he, h.step hb⟩
theorem sane_from (W w : World) (h : Lat W w) :
    Calls Try.prog 8 #[] w fun e w' => e = .returned (.bool true) ∧ Lat W w' :=
  (sane_any w).mono fun _ _ ⟨he, hb⟩ => ⟨he, h.step hb⟩

def splitB (a b w o : Int) : Bool := decide (w - 1 + o ≤ a + b ∧ a + b ≤ w + o)
theorem split_any (a b v o : Int) (w : World) (a0 : 0 ≤ a) (a1 : a ≤ 1099511627776) (b0 : 0 ≤ b) (b1 : b ≤ 1099511627776) (v0 : 0 ≤ v) (v1 : v ≤ 1099511627776) (o0 : 0 ≤ o) (o1 : o ≤ 1) :
    Calls Try.prog 15 #[.int .i64 a, .int .i64 b, .int .i64 v, .int .i64 o] w fun e w' => e = .returned (.bool (splitB a b v o)) ∧ w = w' := by
  go_enter Try.func15, Try.ntmps15
  go_wp2
  all_goals go_ret
  · exact ⟨by simp [splitB, *], rfl⟩
  · exact ⟨by simp [splitB]; omega, rfl⟩

end Go.Proofs.Ytphbgobdkmjijaa
