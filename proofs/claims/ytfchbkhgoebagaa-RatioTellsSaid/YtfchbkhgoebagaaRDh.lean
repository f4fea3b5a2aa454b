/- Walks of the reference: Gcd. -/
import Derived.Test.YtfchbkhgoebagaaRDg
namespace Go.Proofs.Ytfchbkhgoebagaa
open Go.RowKit

/-- the number that a slice holds -/
def readNum (v : Value) (w : World) : Nat :=
  match v with
  | .slice (some a) _ _ => val5 fun j => match w.cell? ⟨a.block, j, none⟩ with | some (.int _ n) => n.toNat | _ => 0
  | _ => 0
theorem val_dig {x : Nat} (h : x < 1073741824 ^ 5) : val5 (dig x) = x := by
  unfold val5 dig
  simp only [Nat.pow_zero, Nat.pow_one, Nat.reducePow] at *
  omega
theorem readNum_of {w : World} {g x : Nat} (h : Num w g x) (hx : x < 1073741824 ^ 5) : readNum (.slice (some ⟨g, 0, none⟩) 5 5) w = x := by
  unfold readNum
  simp only
  rw [← val_dig hx]
  unfold val5
  dsimp only
  rw [(h 0 (by decide)).1, (h 1 (by decide)).1, (h 2 (by decide)).1, (h 3 (by decide)).1, (h 4 (by decide)).1]
  simp

set_option maxHeartbeats 4000000 in
theorem gcd_num (g h x y : Nat) (w : World) (hx : Num w g x) (hy : Num w h y) (lx : x < 1073741824 ^ 5) (ly : 2 * y ≤ 1073741824 ^ 5) :
    Calls Try.prog 38 #[.slice (some ⟨g, 0, none⟩) 5 5, .slice (some ⟨h, 0, none⟩) 5 5] w fun e w' => ∃ k, e = .returned (.slice (some ⟨k, 0, none⟩) 5 5) ∧ Num w' k (Nat.gcd x y) ∧ Below w.heap.size w w' := by
  have HX := Lib.hid hx
  have HY := Lib.hid hy
  have LX := Lib.hid lx
  have LY := Lib.hid ly
  clear hx hy lx ly
  go_enter Try.func38, Try.ntmps38
  go_wp2_with fail
  go_loopw [0, 1] (fun a b wr => ∃ p q ga gb : Nat, a = .slice (some ⟨ga, 0, none⟩) 5 5 ∧ b = .slice (some ⟨gb, 0, none⟩) 5 5 ∧ Hid (Num wr ga p) ∧ Hid (Num wr gb q) ∧ Hid (p < 1073741824 ^ 5) ∧ Hid (2 * q ≤ 1073741824 ^ 5) ∧ Hid (Nat.gcd p q = Nat.gcd x y) ∧ Below w.heap.size w wr) (fun _ b wr => readNum b wr)
  case atStart => exact ⟨x, y, g, h, rfl, rfl, HX, HY, LX, LY, Lib.hid rfl, Below.refl _ _⟩
  case round =>
    obtain ⟨p, q, ga, gb, rfl, rfl, HP, HQ, LP, LQ, HG, hb⟩ := hrel
    have q5 : q < 1073741824 ^ 5 := by have := LQ.out; have := pow_pos' 5; omega
    have Z := Lib.hid (zero_num gb q wr HQ.out q5)
    by_cases h0 : q = 0
    · have e := HG.out
      rw [h0, Nat.gcd_zero_right] at e
      have HE := Lib.hid e
      have hd : decide (q = 0) = true := decide_eq_true h0
      clear e h0 q5
      go_wp2_with fail
      refine Z.out.mono ?_
      rintro e w1 ⟨rfl, b1⟩
      rw [hd]
      clear hd
      go_wp2_with fail
      go_ret
      exact ⟨_, rfl, by rw [← HE.out]; exact HP.out.below b1 rfl, Below.trans hb (b1.mono hb.size)⟩
    · have hd : decide (q = 0) = false := decide_eq_false h0
      have HN := Lib.hid h0
      have RQ := Lib.hid (readNum_of HQ.out q5)
      clear h0 q5
      go_wp2_with fail
      refine Z.out.mono ?_
      rintro e w1 ⟨rfl, b1⟩
      rw [hd]
      clear hd
      have hb1 := Below.trans hb (b1.mono hb.size)
      have NP1 := Lib.hid (HP.out.below b1 rfl)
      have NQ1 := Lib.hid (HQ.out.below b1 rfl)
      have O := Lib.hid (over_num ga gb p q w1 NP1.out NQ1.out LP.out LQ.out (Nat.pos_of_ne_zero HN.out))
      go_wp2_with fail
      refine O.out.mono ?_
      rintro e w2 ⟨k1, m1, rfl, hk1, hm1, N1, N2, b2⟩
      have HN2 := Lib.hid N2
      have HNQ := Lib.hid (Num.below NQ1.out b2 rfl)
      clear N1 N2
      go_wp2_with fail
      have hlt := Nat.mod_lt p (Nat.pos_of_ne_zero HN.out)
      refine ⟨⟨q, p % q, gb, m1, rfl, rfl, HNQ, HN2, Lib.hid (by have := LQ.out; have := pow_pos' 5; omega), Lib.hid (by have := LQ.out; omega), Lib.hid (by rw [← HG.out, Nat.gcd_comm, ← Nat.gcd_rec, Nat.gcd_comm]), Below.trans hb1 (b2.mono hb1.size)⟩, ?_⟩
      rw [RQ.out, readNum_of HN2.out (by have := LQ.out; have := pow_pos' 5; omega)]
      exact hlt

end Go.Proofs.Ytfchbkhgoebagaa
