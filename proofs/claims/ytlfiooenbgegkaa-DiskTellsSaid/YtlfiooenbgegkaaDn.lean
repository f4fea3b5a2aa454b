/- The reference's Same, at two equal disks. -/
import Derived.Test.YtlfiooenbgegkaaDm
namespace Go.Proofs.Ytlfiooenbgegkaa
open Go.RowKit Ds
set_option linter.unusedSimpArgs false
set_option linter.unusedVariables false

set_option maxHeartbeats 8000000 in
theorem rsame_any (A : Option Addr) (c : Nat) (A' : Option Addr) (c' : Nat) (A2 : Option Addr) (c2 : Nat) (A2' : Option Addr) (c2' : Nat) (d : Dk) (w : World) (h1 : DiskAt w w.heap.size A c A' c' d) (h2 : DiskAt w w.heap.size A2 c2 A2' c2' d) :
    Calls Try.prog 12 #[dv A c A' c' d, dv A2 c2 A2' c2' d] w fun e w' => e = .returned (.bool true) ∧ Below w.heap.size w w' := by
  obtain ⟨l, p, left, down⟩ := d
  have l1 := h1.lS
  have l2 := h1.lP
  obtain ⟨W, hW⟩ : ∃ W, W = (w.alloc (.cells (dcells A c A' c' ⟨l, p, left, down⟩) 25)).alloc (.cells (dcells A2 c2 A2' c2' ⟨l, p, left, down⟩) 25) := ⟨_, rfl⟩
  have K1 : W.heap[w.heap.size]? = some (.cells (dcells A c A' c' ⟨l, p, left, down⟩) 25 (0, 0)) := by rw [hW]; exact blk_old (blk_new _ _)
  have K2 : W.heap[w.heap.size + 1]? = some (.cells (dcells A2 c2 A2' c2' ⟨l, p, left, down⟩) 25 (0, 0)) := by rw [hW]; have := blk_new (w.alloc (.cells (dcells A c A' c' ⟨l, p, left, down⟩) 25)) (.cells (dcells A2 c2 A2' c2' ⟨l, p, left, down⟩) 25); rw [World.size_alloc] at this; exact this
  have hb : Below w.heap.size w W := by rw [hW]; exact ((Below.refl _ _).alloc (Nat.le_refl _) _).alloc (by simp) _
  have H1 := Lib.hid (h1.step hb)
  have H2 := Lib.hid (h2.step hb)
  have HB := Lib.hid hb
  clear h1 h2 hb
  unfold dv dcells at *
  simp only at *
  obtain ⟨n, hn⟩ : ∃ n, n = l.length := ⟨_, rfl⟩
  obtain ⟨m, hm⟩ : ∃ m, m = p.length := ⟨_, rfl⟩
  have HN := Lib.hid hn
  have HM := Lib.hid hm
  rw [← hn, ← hm] at hW K1 K2 ⊢
  rw [← hn] at l1
  rw [← hm] at l2
  have HW := Lib.hid hW
  clear hW hn hm
  obtain ⟨⟨a0, a1, a2, a3⟩, f0⟩ := blk4 K1
  obtain ⟨⟨b0, b1, b2, b3⟩, f1⟩ := blk4 K2
  clear K1 K2 f0 f1
  have t1 : ((n : Int) != (n : Int)) = false := by simp
  have t2 : ((m : Int) != (m : Int)) = false := by simp
  have t3 : (left != left) = false := by simp
  have t4 : (down != down) = false := by simp
  go_enter Try.func12, Try.ntmps12
  go_upto_region 1 with fail
  rw [← HW.out]
  go_wp2_with fail
  go_loopw [5] (fun i wr => ∃ (k q : Nat), i = .int .i64 k ∧ k ≤ n ∧ wr = W.drewN q) (fun i _ => n - (intOf i).toNat)
  case atStart => exact ⟨0, 0, rfl, by omega, rfl⟩
  case round =>
    obtain ⟨k, q, rfl, hk, rfl⟩ := hrel
    by_cases hlt : k < n
    · obtain ⟨s, hs⟩ : ∃ s, l[k]? = some s := ⟨_, List.getElem?_eq_getElem (by rw [← HN.out]; exact hlt)⟩
      obtain ⟨b, off, rfl, hb, hcell⟩ := H1.out.secs.open_ (by show 0 < l.length; rw [← HN.out]; omega)
      obtain ⟨b', off', rfl, hb', hcell'⟩ := H2.out.secs.open_ (by show 0 < l.length; rw [← HN.out]; omega)
      have c1 := secs_at hcell hs
      have c2 := secs_at hcell' hs
      clear hcell hcell' hs
      go_wp2_with fail
      go_quiet (fail)
      go_wp2_with fail
      go_roundw
      case rel => exact ⟨k + 1, q + nq, by go_num, by omega, rfl⟩
      case measure => simp [intOf]; omega
    · obtain rfl : n = k := by omega
      go_wp2_with fail
      go_loopw [6] (fun i wr => ∃ (k q : Nat), i = .int .i64 k ∧ k ≤ m ∧ wr = W.drewN q) (fun i _ => m - (intOf i).toNat)
      case atStart => exact ⟨0, _, rfl, by omega, rfl⟩
      case round =>
        obtain ⟨k, q2, rfl, hk, rfl⟩ := hrel
        by_cases hlt2 : k < m
        · obtain ⟨x, hx⟩ : ∃ x, p[k]? = some x := ⟨_, List.getElem?_eq_getElem (by rw [← HM.out]; exact hlt2)⟩
          obtain ⟨b, off, rfl, hb, hcell⟩ := H1.out.pend.open_ (by show 0 < p.length; rw [← HM.out]; omega)
          obtain ⟨b', off', rfl, hb', hcell'⟩ := H2.out.pend.open_ (by show 0 < p.length; rw [← HM.out]; omega)
          obtain ⟨c1, c2⟩ := pend_at hcell hx
          obtain ⟨c3, c4⟩ := pend_at hcell' hx
          clear hcell hcell' hx
          go_wp2_with fail
          go_quiet (fail)
          go_wp2_with fail
          go_roundw
          case rel => exact ⟨k + 1, q2 + nq, by go_num, by omega, rfl⟩
          case measure => simp [intOf]; omega
        · obtain rfl : m = k := by omega
          go_wp2_with fail
          go_ret
          exact ⟨rfl, below_drewN HB.out _⟩

end Go.Proofs.Ytlfiooenbgegkaa
