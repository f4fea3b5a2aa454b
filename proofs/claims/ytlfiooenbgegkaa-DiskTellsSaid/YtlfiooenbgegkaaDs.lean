/- The reference's Write, walked: what it refuses. -/
import Derived.Test.YtlfiooenbgegkaaDr
namespace Go.Proofs.Ytlfiooenbgegkaa
open Go.RowKit Ds
set_option linter.unusedSimpArgs false
set_option linter.unusedVariables false
set_option maxHeartbeats 4000000

theorem rwrite_bad (A : Option Addr) (n c : Nat) (A' : Option Addr) (n' c' : Nat) (left : Int) (down : Bool) (k : Int) (s : ByteArray) (er : Int) (w : World) (HU : Hid (RUp A n c A' n' c' left down er w)) (h : er ≠ 0) :
    Calls Try.prog 18 #[.agg #[.slice A n c, .slice A' n' c', .int .i64 left, .bool down], .int .i64 k, .string s] w (DiskEnd w nilD er) := by
  have t1 : (er != 0) = true := by simpa using h
  clear h
  go_enter Try.func18, Try.ntmps18
  go_wp2_with fail
  refine (HU.out _ (by repeat first | with_reducible exact Below.refl _ _ | refine Below.alloc ?_ (by simp <;> omega) _)).mono ?_
  rintro e w1 ⟨rfl, b1⟩
  obtain ⟨⟨k1, k2⟩, hb, hz⟩ := boxes2 b1 (by simp)
  obtain ⟨⟨a0, a1, a2, a3⟩, f0, f1, f2, f3⟩ := blk4 k2
  have HB := Lib.hid hb
  clear k1 k2 b1 hb
  go_wp2_with fail
  refine bodyPost_ret (v := .tuple #[dv none 0 none 0 nilD, .int .i64 er]) (by simp [results, Try.results18, go_sem, dv, dcells, nilD, *]) rfl (DiskEnd.none_ ?_)
  repeat first | with_reducible exact HB.out | refine Below.setCell ?_ (by simp only; omega) _

theorem rwrite_out (A : Option Addr) (n c : Nat) (A' : Option Addr) (n' c' : Nat) (left : Int) (down : Bool) (k : Int) (s : ByteArray) (er : Int) (w : World) (HU : Hid (RUp A n c A' n' c' left down 0 w))
    (h : (k < 0 ∧ er = 1) ∨ (0 ≤ k ∧ (n : Int) ≤ k ∧ er = 1) ∨ (0 ≤ k ∧ k < n ∧ 16 < s.size ∧ er = 1) ∨ (0 ≤ k ∧ k < n ∧ s.size ≤ 16 ∧ n' = 512 ∧ er = 6)) :
    Calls Try.prog 18 #[.agg #[.slice A n c, .slice A' n' c', .int .i64 left, .bool down], .int .i64 k, .string s] w (DiskEnd w nilD er) := by
  rcases h with ⟨h, rfl⟩ | ⟨h, h2, rfl⟩ | ⟨h, h2, h3, rfl⟩ | ⟨h, h2, h3, rfl, rfl⟩
  all_goals
    go_enter Try.func18, Try.ntmps18
    go_wp2_with fail
    refine (HU.out _ (by repeat first | with_reducible exact Below.refl _ _ | refine Below.alloc ?_ (by simp <;> omega) _)).mono ?_
    rintro e w1 ⟨rfl, b1⟩
    obtain ⟨⟨k1, k2⟩, hb, hz⟩ := boxes2 b1 (by simp)
    obtain ⟨⟨a0, a1, a2, a3⟩, f0, f1, f2, f3⟩ := blk4 k2
    obtain ⟨⟨a4, a5, a6, a7⟩, f4⟩ := blk4 k1
    have HB := Lib.hid hb
    clear k1 k2 b1 hb f4
    go_wp2_with fail
    refine bodyPost_ret (v := .tuple #[dv none 0 none 0 nilD, .int .i64 _]) (by simp [results, Try.results18, go_sem, dv, dcells, nilD, *]) rfl (DiskEnd.none_ ?_)
    repeat first | with_reducible exact HB.out | refine Below.setCell ?_ (by simp only; omega) _

end Go.Proofs.Ytlfiooenbgegkaa
