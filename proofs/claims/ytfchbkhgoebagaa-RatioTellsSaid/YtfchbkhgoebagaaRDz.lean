/- Walks of the reference: Div, Floor, Ceil, Nearest, Compare. -/
import Derived.Test.YtfchbkhgoebagaaRDl
import Derived.Test.YtfchbkhgoebagaaRt
namespace Go.Proofs.Ytfchbkhgoebagaa
open Go.RowKit Ra
attribute [local go_sem ↓] Go.wp_at_zero Go.wp_at_succ

set_option linter.unusedSimpArgs false in
set_option maxHeartbeats 4000000 in
theorem rdiv_za (a b : Q) (v u er : Int) (w : World)
    (HA : Hid (∀ w, Calls Try.prog 15 #[.agg #[.int .i64 a.n, .int .i64 a.d]] w fun e w' => e = .returned (.bool true) ∧ Below w.heap.size w w'))
    (HB : Hid (∀ w, Calls Try.prog 15 #[.agg #[.int .i64 b.n, .int .i64 b.d]] w fun e w' => e = .returned (.bool true) ∧ Below w.heap.size w w'))
    (Qan : Hid (-9223372036854775808 ≤ a.n ∧ a.n ≤ 9223372036854775807)) (Qad : Hid (-9223372036854775808 ≤ a.d ∧ a.d ≤ 9223372036854775807)) (Qbn : Hid (-9223372036854775808 ≤ b.n ∧ b.n ≤ 9223372036854775807)) (Qbd : Hid (-9223372036854775808 ≤ b.d ∧ b.d ≤ 9223372036854775807))
    (P1 : Hid (a.n.natAbs * b.d.natAbs < 1073741824 ^ 5 ∧ a.n.natAbs < 1073741824 ^ 5))
    (P2 : Hid (a.d.natAbs * b.n.natAbs < 1073741824 ^ 5 ∧ a.d.natAbs < 1073741824 ^ 5))
    (HGive : Hid (∀ (g h : Nat) (w : World), Num w g (a.n.natAbs * b.d.natAbs) → Num w h (a.d.natAbs * b.n.natAbs) → Calls Try.prog 35 #[.bool false, .slice (some ⟨g, 0, none⟩) 5 5, .slice (some ⟨h, 0, none⟩) 5 5] w fun e w' => e = .returned (.tuple #[.agg #[.int .i64 v, .int .i64 u], .int .i64 er]) ∧ Below w.heap.size w w'))
    (za : (a.n != 0) = false) (zb : (b.n == 0) = false)
    : Calls Try.prog 23 #[.agg #[.int .i64 a.n, .int .i64 a.d], .agg #[.int .i64 b.n, .int .i64 b.d]] w fun e w' => e = .returned (.tuple #[.agg #[.int .i64 v, .int .i64 u], .int .i64 er]) ∧ Below w.heap.size w w' := by
  obtain ⟨W, hW⟩ : ∃ W, W = Two a b w := ⟨_, rfl⟩
  have T0 : TwoAt a b w.heap.size W := by rw [hW]; exact two_at a b w
  have B0 : Below w.heap.size w W := by rw [hW]; exact two_below a b w
  unfold Two at hW
  have HW := Lib.hid hW
  clear hW
  go_enter Try.func23, Try.ntmps23
  go_wp2_with fail
  rw [← HW.out]
  refine (HA.out _).mono ?_
  rintro e w1 ⟨rfl, b1⟩
  have T1 := T0.below b1
  have B1 := Below.trans B0 (b1.mono B0.size)
  obtain ⟨c1, c2, c3, c4, c5, c6, c7, c8, c9⟩ := T1
  go_wp2_with fail
  refine (HB.out _).mono ?_
  rintro e w2 ⟨rfl, b2⟩
  have T2 := TwoAt.below ⟨c1, c2, c3, c4, c5, c6, c7, c8, c9⟩ b2
  have B2 := Below.trans B1 (b2.mono B1.size)
  clear c1 c2 c3 c4 c5 c6 c7 c8 c9
  obtain ⟨c1, c2, c3, c4, c5, c6, c7, c8, c9⟩ := T2
  go_wp2_with fail
  refine wp_region_held_drew (S := fun w' => w'.cell? ⟨w.heap.size, 0, none⟩ = some (.int .i64 a.n) ∧ w'.cell? ⟨w.heap.size, 1, none⟩ = some (.int .i64 a.d) ∧ w'.cell? ⟨w.heap.size + 1, 0, none⟩ = some (.int .i64 b.n) ∧ w'.cell? ⟨w.heap.size + 1, 1, none⟩ = some (.int .i64 b.d) ∧ (∃ v, w'.cell? ⟨w.heap.size + 1 + 1, 0, none⟩ = some v) ∧ (∃ v, w'.cell? ⟨w.heap.size + 1 + 1, 1, none⟩ = some v) ∧ w'.frozen? ⟨w.heap.size + 1 + 1, 0, none⟩ = false ∧ w'.frozen? ⟨w.heap.size + 1 + 1, 1, none⟩ = false ∧ w.heap.size + 3 ≤ w'.heap.size ∧ Below w.heap.size w w') (by kernel_rfl) ?_ (fun hHeld => ?_)
  · first
      | assumption
      | exact two_keep bt rfl (by assumption)
      | exact two_set _ _ (by assumption)
      | exact two_keep (Below.drew (Below.refl _ _)) rfl ⟨c1, c2, c3, c4, ⟨_, c5⟩, ⟨_, c6⟩, c7, c8, c9, B2⟩
  refine wpAnyH_take (i := 0) (v := ?_) rfl (by kernel_rfl) (by kernel_rfl) (by kernel_rfl) (fun _ _ _ h => h) (Or.inl ⟨by kernel_rfl, ?_⟩) (by assumption) ?_
  rotate_left
  · (intro w hSw; (try dsimp only at hSw); go_simp; first | done | with_reducible rfl)
  try simp only [Act.put, List.setIfInBounds_toArray, List.set_cons_zero, List.set_cons_succ]
  refine wpAnyH_take (i := 1) (v := ?_) rfl (by kernel_rfl) (by kernel_rfl) (by kernel_rfl) (fun _ _ _ h => h) (Or.inl ⟨by kernel_rfl, ?_⟩) (by assumption) ?_
  rotate_left
  · (intro w hSw; (try dsimp only at hSw); go_simp; first | done | with_reducible rfl)
  try simp only [Act.put, List.setIfInBounds_toArray, List.set_cons_zero, List.set_cons_succ]
  refine wpAnyH_take (i := 2) (v := ?_) rfl (by kernel_rfl) (by kernel_rfl) (by kernel_rfl) (fun _ _ _ h => h) (Or.inl ⟨by kernel_rfl, ?_⟩) (by assumption) ?_
  rotate_left
  · (intro w hSw; (try dsimp only at hSw); go_simp; first | done | with_reducible rfl)
  try simp only [Act.put, List.setIfInBounds_toArray, List.set_cons_zero, List.set_cons_succ]
  refine wpAnyH_take (i := 3) (v := ?_) rfl (by kernel_rfl) (by kernel_rfl) (by kernel_rfl) (fun _ _ _ h => h) (Or.inl ⟨by kernel_rfl, ?_⟩) (by assumption) ?_
  rotate_left
  · (intro w hSw; (try dsimp only at hSw); go_simp; first | done | with_reducible rfl)
  try simp only [Act.put, List.setIfInBounds_toArray, List.set_cons_zero, List.set_cons_succ]
  refine wpAnyH_take (i := 4) (v := undef) rfl (by kernel_rfl) (by kernel_rfl) (by kernel_rfl) (fun _ _ _ h => h) (Or.inr ⟨by kernel_rfl, rfl⟩) (by assumption) ?_
  try simp only [Act.put, List.setIfInBounds_toArray, List.set_cons_zero, List.set_cons_succ]
  refine wpAnyH_take (i := 5) (v := undef) rfl (by kernel_rfl) (by kernel_rfl) (by kernel_rfl) (fun _ _ _ h => h) (Or.inr ⟨by kernel_rfl, rfl⟩) (by assumption) ?_
  try simp only [Act.put, List.setIfInBounds_toArray, List.set_cons_zero, List.set_cons_succ]
  refine wpAnyH_take (i := 6) (v := undef) rfl (by kernel_rfl) (by kernel_rfl) (by kernel_rfl) (fun _ _ _ h => h) (Or.inr ⟨by kernel_rfl, rfl⟩) (by assumption) ?_
  try simp only [Act.put, List.setIfInBounds_toArray, List.set_cons_zero, List.set_cons_succ]
  refine wpAnyH_take (i := 7) (v := undef) rfl (by kernel_rfl) (by kernel_rfl) (by kernel_rfl) (fun _ _ _ h => h) (Or.inr ⟨by kernel_rfl, rfl⟩) (by assumption) ?_
  try simp only [Act.put, List.setIfInBounds_toArray, List.set_cons_zero, List.set_cons_succ]
  refine wpAnyH_take (i := 8) (v := undef) rfl (by kernel_rfl) (by kernel_rfl) (by kernel_rfl) (fun _ _ _ h => h) (Or.inr ⟨by kernel_rfl, rfl⟩) (by assumption) ?_
  try simp only [Act.put, List.setIfInBounds_toArray, List.set_cons_zero, List.set_cons_succ]
  refine wpAnyH_take (i := 9) (v := undef) rfl (by kernel_rfl) (by kernel_rfl) (by kernel_rfl) (fun _ _ _ h => h) (Or.inr ⟨by kernel_rfl, rfl⟩) (by assumption) ?_
  try simp only [Act.put, List.setIfInBounds_toArray, List.set_cons_zero, List.set_cons_succ]
  refine wpAnyH_take (i := 10) (v := undef) rfl (by kernel_rfl) (by kernel_rfl) (by kernel_rfl) (fun _ _ _ h => h) (Or.inr ⟨by kernel_rfl, rfl⟩) (by assumption) ?_
  try simp only [Act.put, List.setIfInBounds_toArray, List.set_cons_zero, List.set_cons_succ]
  refine wpAnyH_take (i := 11) (v := ?_) rfl (by kernel_rfl) (by kernel_rfl) (by kernel_rfl) (fun _ _ _ h => h) (Or.inl ⟨by kernel_rfl, ?_⟩) (by assumption) ?_
  rotate_left
  · (intro w hSw; (try dsimp only at hSw); go_simp; first | done | with_reducible rfl)
  try simp only [Act.put, List.setIfInBounds_toArray, List.set_cons_zero, List.set_cons_succ]
  refine wpAnyH_take (i := 12) (v := ?_) rfl (by kernel_rfl) (by kernel_rfl) (by kernel_rfl) (fun _ _ _ h => h) (Or.inl ⟨by kernel_rfl, ?_⟩) (by assumption) ?_
  rotate_left
  · (intro w hSw; (try dsimp only at hSw); go_simp; first | done | with_reducible rfl)
  try simp only [Act.put, List.setIfInBounds_toArray, List.set_cons_zero, List.set_cons_succ]
  refine wpAnyH_take (i := 13) (v := ?_) rfl (by kernel_rfl) (by kernel_rfl) (by kernel_rfl) (fun _ _ _ h => h) (Or.inl ⟨by kernel_rfl, ?_⟩) (by assumption) ?_
  rotate_left
  · (intro w hSw; (try dsimp only at hSw); go_simp; first | done | with_reducible rfl)
  try simp only [Act.put, List.setIfInBounds_toArray, List.set_cons_zero, List.set_cons_succ]
  refine wpAnyH_take (i := 15) (v := ?_) rfl (by kernel_rfl) (by kernel_rfl) (by kernel_rfl) (fun _ _ _ h => h) (Or.inl ⟨by kernel_rfl, ?_⟩) (by assumption) ?_
  rotate_left
  · (intro w hSw; (try dsimp only at hSw); go_simp; first | done | with_reducible rfl)
  try simp only [Act.put, List.setIfInBounds_toArray, List.set_cons_zero, List.set_cons_succ]
  refine wpAnyH_take (i := 16) (v := ?_) rfl (by kernel_rfl) (by kernel_rfl) (by kernel_rfl) (fun _ _ _ h => h) (Or.inl ⟨by kernel_rfl, ?_⟩) (by assumption) ?_
  rotate_left
  · (intro w hSw; (try dsimp only at hSw); go_simp; first | done | with_reducible rfl)
  try simp only [Act.put, List.setIfInBounds_toArray, List.set_cons_zero, List.set_cons_succ]
  refine wpAnyH_take (i := 19) (v := ?_) rfl (by kernel_rfl) (by kernel_rfl) (by kernel_rfl) (fun _ _ _ h => h) (Or.inl ⟨by kernel_rfl, ?_⟩) (by assumption) ?_
  rotate_left
  · (intro w hSw; (try dsimp only at hSw); go_simp; first | done | with_reducible rfl)
  try simp only [Act.put, List.setIfInBounds_toArray, List.set_cons_zero, List.set_cons_succ]
  refine wpAnyH_take (i := 20) (v := ?_) rfl (by kernel_rfl) (by kernel_rfl) (by kernel_rfl) (fun _ _ _ h => h) (Or.inl ⟨by kernel_rfl, ?_⟩) (by assumption) ?_
  rotate_left
  · (intro w hSw; (try dsimp only at hSw); go_simp; first | done | with_reducible rfl)
  try simp only [Act.put, List.setIfInBounds_toArray, List.set_cons_zero, List.set_cons_succ]
  refine wpAnyH_take (i := 22) (v := ?_) rfl (by kernel_rfl) (by kernel_rfl) (by kernel_rfl) (fun _ _ _ h => h) (Or.inl ⟨by kernel_rfl, ?_⟩) (by assumption) ?_
  rotate_left
  · (intro w hSw; (try dsimp only at hSw); go_simp; first | done | with_reducible rfl)
  try simp only [Act.put, List.setIfInBounds_toArray, List.set_cons_zero, List.set_cons_succ]
  refine wpAnyH_take (i := 23) (v := ?_) rfl (by kernel_rfl) (by kernel_rfl) (by kernel_rfl) (fun _ _ _ h => h) (Or.inl ⟨by kernel_rfl, ?_⟩) (by assumption) ?_
  rotate_left
  · (intro w hSw; (try dsimp only at hSw); go_simp; first | done | with_reducible rfl)
  try simp only [Act.put, List.setIfInBounds_toArray, List.set_cons_zero, List.set_cons_succ]
  refine wpAnyH_ready (rs := [14]) (by kernel_rfl) (by simp) ?_
  refine AllReadyH.cons rfl (fun K hK => ?_) AllReadyH.nil
  go_simp
  go_at_call_of 36 (Value.int .i64 a.n); refine (of_num a.n _ Qan.out.1 Qan.out.2).mono ?_; rintro e wt ⟨kA, rfl, hkA, NA, bt⟩; have nA := Lib.hid NA; clear NA
  (try go_wp2_with fail)
  refine hK.out _ _ ?_ (fun hHeld => ?_)
  · first
      | assumption
      | exact two_keep bt rfl (by assumption)
      | exact two_set _ _ (by assumption)
      | exact two_keep (Below.drew (Below.refl _ _)) rfl ⟨c1, c2, c3, c4, ⟨_, c5⟩, ⟨_, c6⟩, c7, c8, c9, B2⟩
  clear hK K
  try simp only [Act.put, List.setIfInBounds_toArray, List.set_cons_zero, List.set_cons_succ]
  refine wpAnyH_ready (rs := [17]) (by kernel_rfl) (by simp) ?_
  refine AllReadyH.cons rfl (fun K hK => ?_) AllReadyH.nil
  go_simp
  go_at_call_of 36 (Value.int .i64 b.d); refine (of_num b.d _ Qbd.out.1 Qbd.out.2).mono ?_; rintro e wt ⟨kB, rfl, hkB, NB, bt⟩; have nB := Lib.hid NB; clear NB; have nA := Lib.hid (Num.below nA.out bt rfl)
  (try go_wp2_with fail)
  refine hK.out _ _ ?_ (fun hHeld => ?_)
  · first
      | assumption
      | exact two_keep bt rfl (by assumption)
      | exact two_set _ _ (by assumption)
      | exact two_keep (Below.drew (Below.refl _ _)) rfl ⟨c1, c2, c3, c4, ⟨_, c5⟩, ⟨_, c6⟩, c7, c8, c9, B2⟩
  clear hK K
  try simp only [Act.put, List.setIfInBounds_toArray, List.set_cons_zero, List.set_cons_succ]
  refine wpAnyH_ready (rs := [18]) (by kernel_rfl) (by simp) ?_
  refine AllReadyH.cons rfl (fun K hK => ?_) AllReadyH.nil
  go_simp
  go_at_call 44; refine (times_num kA kB _ _ _ nA.out nB.out P1.out.1 P1.out.2).mono ?_; rintro e wt ⟨kT, rfl, hkT, NT, bt⟩; have nT := Lib.hid NT; clear NT
  (try go_wp2_with fail)
  refine hK.out _ _ ?_ (fun hHeld => ?_)
  · first
      | assumption
      | exact two_keep bt rfl (by assumption)
      | exact two_set _ _ (by assumption)
      | exact two_keep (Below.drew (Below.refl _ _)) rfl ⟨c1, c2, c3, c4, ⟨_, c5⟩, ⟨_, c6⟩, c7, c8, c9, B2⟩
  clear hK K
  try simp only [Act.put, List.setIfInBounds_toArray, List.set_cons_zero, List.set_cons_succ]
  refine wpAnyH_ready (rs := [21]) (by kernel_rfl) (by simp) ?_
  refine AllReadyH.cons rfl (fun K hK => ?_) AllReadyH.nil
  go_simp
  go_at_call_of 36 (Value.int .i64 a.d); refine (of_num a.d _ Qad.out.1 Qad.out.2).mono ?_; rintro e wt ⟨kC, rfl, hkC, NC, bt⟩; have nC := Lib.hid NC; clear NC; have nT := Lib.hid (Num.below nT.out bt rfl)
  (try go_wp2_with fail)
  refine hK.out _ _ ?_ (fun hHeld => ?_)
  · first
      | assumption
      | exact two_keep bt rfl (by assumption)
      | exact two_set _ _ (by assumption)
      | exact two_keep (Below.drew (Below.refl _ _)) rfl ⟨c1, c2, c3, c4, ⟨_, c5⟩, ⟨_, c6⟩, c7, c8, c9, B2⟩
  clear hK K
  try simp only [Act.put, List.setIfInBounds_toArray, List.set_cons_zero, List.set_cons_succ]
  refine wpAnyH_ready (rs := [24]) (by kernel_rfl) (by simp) ?_
  refine AllReadyH.cons rfl (fun K hK => ?_) AllReadyH.nil
  go_simp
  go_at_call_of 36 (Value.int .i64 b.n); refine (of_num b.n _ Qbn.out.1 Qbn.out.2).mono ?_; rintro e wt ⟨kD, rfl, hkD, ND, bt⟩; have nD := Lib.hid ND; clear ND; have nT := Lib.hid (Num.below nT.out bt rfl); have nC := Lib.hid (Num.below nC.out bt rfl)
  (try go_wp2_with fail)
  refine hK.out _ _ ?_ (fun hHeld => ?_)
  · first
      | assumption
      | exact two_keep bt rfl (by assumption)
      | exact two_set _ _ (by assumption)
      | exact two_keep (Below.drew (Below.refl _ _)) rfl ⟨c1, c2, c3, c4, ⟨_, c5⟩, ⟨_, c6⟩, c7, c8, c9, B2⟩
  clear hK K
  try simp only [Act.put, List.setIfInBounds_toArray, List.set_cons_zero, List.set_cons_succ]
  refine wpAnyH_ready (rs := [25]) (by kernel_rfl) (by simp) ?_
  refine AllReadyH.cons rfl (fun K hK => ?_) AllReadyH.nil
  go_simp
  go_at_call 44; refine (times_num kC kD _ _ _ nC.out nD.out P2.out.1 P2.out.2).mono ?_; rintro e wt ⟨kU, rfl, hkU, NU, bt⟩; have nU := Lib.hid NU; clear NU; have nT := Lib.hid (Num.below nT.out bt rfl)
  (try go_wp2_with fail)
  refine hK.out _ _ ?_ (fun hHeld => ?_)
  · first
      | assumption
      | exact two_keep bt rfl (by assumption)
      | exact two_set _ _ (by assumption)
      | exact two_keep (Below.drew (Below.refl _ _)) rfl ⟨c1, c2, c3, c4, ⟨_, c5⟩, ⟨_, c6⟩, c7, c8, c9, B2⟩
  clear hK K
  try simp only [Act.put, List.setIfInBounds_toArray, List.set_cons_zero, List.set_cons_succ]
  refine wpAnyH_ready (rs := [26]) (by kernel_rfl) (by simp) ?_
  refine AllReadyH.cons rfl (fun K hK => ?_) AllReadyH.nil
  go_simp
  go_at_call 35; refine (HGive.out kT kU _ nT.out nU.out).mono ?_; rintro e wt ⟨rfl, bt⟩; obtain ⟨k1, k2, k3, k4, ⟨z0, k5⟩, ⟨z1, k6⟩, k7, k8, k9, k10⟩ := two_keep bt rfl (by assumption)
  (try go_wp2_with fail)
  refine hK.out _ _ ?_ (fun hHeld => ?_)
  · first
      | assumption
      | exact two_keep bt rfl (by assumption)
      | exact two_set _ _ (by assumption)
      | exact two_keep (Below.drew (Below.refl _ _)) rfl ⟨c1, c2, c3, c4, ⟨_, c5⟩, ⟨_, c6⟩, c7, c8, c9, B2⟩
  clear hK K
  try simp only [Act.put, List.setIfInBounds_toArray, List.set_cons_zero, List.set_cons_succ]
  refine wpAnyH_take (i := 27) (v := ?_) rfl (by kernel_rfl) (by kernel_rfl) (by kernel_rfl) (fun _ _ _ h => h) (Or.inl ⟨by kernel_rfl, ?_⟩) (by assumption) ?_
  rotate_left
  · (intro w hSw; (try dsimp only at hSw); go_simp; first | done | with_reducible rfl)
  try simp only [Act.put, List.setIfInBounds_toArray, List.set_cons_zero, List.set_cons_succ]
  refine wpAnyH_take (i := 28) (v := ?_) rfl (by kernel_rfl) (by kernel_rfl) (by kernel_rfl) (fun _ _ _ h => h) (Or.inl ⟨by kernel_rfl, ?_⟩) (by assumption) ?_
  rotate_left
  · (intro w hSw; (try dsimp only at hSw); go_simp; first | done | with_reducible rfl)
  try simp only [Act.put, List.setIfInBounds_toArray, List.set_cons_zero, List.set_cons_succ]
  refine wpAnyH_ready (rs := [29]) (by kernel_rfl) (by simp) ?_
  refine AllReadyH.cons rfl (fun K hK => ?_) AllReadyH.nil
  go_simp
  refine hK.out _ _ ?_ (fun hHeld => ?_)
  · first
      | assumption
      | exact two_keep bt rfl (by assumption)
      | exact two_set _ _ (by assumption)
      | exact two_keep (Below.drew (Below.refl _ _)) rfl ⟨c1, c2, c3, c4, ⟨_, c5⟩, ⟨_, c6⟩, c7, c8, c9, B2⟩
  clear hK K
  try simp only [Act.put, List.setIfInBounds_toArray, List.set_cons_zero, List.set_cons_succ]
  refine wpAnyH_ready (rs := [30]) (by kernel_rfl) (by simp) ?_
  refine AllReadyH.cons rfl (fun K hK => ?_) AllReadyH.nil
  go_simp
  refine hK.out _ _ ?_ (fun hHeld => ?_)
  · first
      | assumption
      | exact two_keep bt rfl (by assumption)
      | exact two_set _ _ (by assumption)
      | exact two_keep (Below.drew (Below.refl _ _)) rfl ⟨c1, c2, c3, c4, ⟨_, c5⟩, ⟨_, c6⟩, c7, c8, c9, B2⟩
  clear hK K
  try simp only [Act.put, List.setIfInBounds_toArray, List.set_cons_zero, List.set_cons_succ]
  refine wpAnyH_done (by kernel_rfl) ?_ _
  all_goals go_wp2_with fail
  all_goals refine bodyPost_ret (v := .tuple #[.agg #[.int .i64 v, .int .i64 u], .int .i64 er]) (by simp [results, Try.results23, go_sem, *]) rfl ⟨rfl, ?_⟩
  all_goals exact Below.setCell (Below.setCell k10 (by simp only; omega) _) (by simp only; omega) _

set_option linter.unusedSimpArgs false in
set_option maxHeartbeats 4000000 in
theorem rdiv_nz (a b : Q) (neg : Bool) (v u er : Int) (w : World)
    (HA : Hid (∀ w, Calls Try.prog 15 #[.agg #[.int .i64 a.n, .int .i64 a.d]] w fun e w' => e = .returned (.bool true) ∧ Below w.heap.size w w'))
    (HB : Hid (∀ w, Calls Try.prog 15 #[.agg #[.int .i64 b.n, .int .i64 b.d]] w fun e w' => e = .returned (.bool true) ∧ Below w.heap.size w w'))
    (Qan : Hid (-9223372036854775808 ≤ a.n ∧ a.n ≤ 9223372036854775807)) (Qad : Hid (-9223372036854775808 ≤ a.d ∧ a.d ≤ 9223372036854775807)) (Qbn : Hid (-9223372036854775808 ≤ b.n ∧ b.n ≤ 9223372036854775807)) (Qbd : Hid (-9223372036854775808 ≤ b.d ∧ b.d ≤ 9223372036854775807))
    (P1 : Hid (a.n.natAbs * b.d.natAbs < 1073741824 ^ 5 ∧ a.n.natAbs < 1073741824 ^ 5))
    (P2 : Hid (a.d.natAbs * b.n.natAbs < 1073741824 ^ 5 ∧ a.d.natAbs < 1073741824 ^ 5))
    (HGive : Hid (∀ (g h : Nat) (w : World), Num w g (a.n.natAbs * b.d.natAbs) → Num w h (a.d.natAbs * b.n.natAbs) → Calls Try.prog 35 #[.bool neg, .slice (some ⟨g, 0, none⟩) 5 5, .slice (some ⟨h, 0, none⟩) 5 5] w fun e w' => e = .returned (.tuple #[.agg #[.int .i64 v, .int .i64 u], .int .i64 er]) ∧ Below w.heap.size w w'))
    (za : (a.n != 0) = true) (zb : (b.n == 0) = false)
    (en : (decide (a.n < 0) == decide (b.n < 0)) = !neg)
    : Calls Try.prog 23 #[.agg #[.int .i64 a.n, .int .i64 a.d], .agg #[.int .i64 b.n, .int .i64 b.d]] w fun e w' => e = .returned (.tuple #[.agg #[.int .i64 v, .int .i64 u], .int .i64 er]) ∧ Below w.heap.size w w' := by
  obtain ⟨W, hW⟩ : ∃ W, W = Two a b w := ⟨_, rfl⟩
  have T0 : TwoAt a b w.heap.size W := by rw [hW]; exact two_at a b w
  have B0 : Below w.heap.size w W := by rw [hW]; exact two_below a b w
  unfold Two at hW
  have HW := Lib.hid hW
  clear hW
  go_enter Try.func23, Try.ntmps23
  go_wp2_with fail
  rw [← HW.out]
  refine (HA.out _).mono ?_
  rintro e w1 ⟨rfl, b1⟩
  have T1 := T0.below b1
  have B1 := Below.trans B0 (b1.mono B0.size)
  obtain ⟨c1, c2, c3, c4, c5, c6, c7, c8, c9⟩ := T1
  go_wp2_with fail
  refine (HB.out _).mono ?_
  rintro e w2 ⟨rfl, b2⟩
  have T2 := TwoAt.below ⟨c1, c2, c3, c4, c5, c6, c7, c8, c9⟩ b2
  have B2 := Below.trans B1 (b2.mono B1.size)
  clear c1 c2 c3 c4 c5 c6 c7 c8 c9
  obtain ⟨c1, c2, c3, c4, c5, c6, c7, c8, c9⟩ := T2
  go_wp2_with fail
  refine wp_region_held_drew (S := fun w' => w'.cell? ⟨w.heap.size, 0, none⟩ = some (.int .i64 a.n) ∧ w'.cell? ⟨w.heap.size, 1, none⟩ = some (.int .i64 a.d) ∧ w'.cell? ⟨w.heap.size + 1, 0, none⟩ = some (.int .i64 b.n) ∧ w'.cell? ⟨w.heap.size + 1, 1, none⟩ = some (.int .i64 b.d) ∧ (∃ v, w'.cell? ⟨w.heap.size + 1 + 1, 0, none⟩ = some v) ∧ (∃ v, w'.cell? ⟨w.heap.size + 1 + 1, 1, none⟩ = some v) ∧ w'.frozen? ⟨w.heap.size + 1 + 1, 0, none⟩ = false ∧ w'.frozen? ⟨w.heap.size + 1 + 1, 1, none⟩ = false ∧ w.heap.size + 3 ≤ w'.heap.size ∧ Below w.heap.size w w') (by kernel_rfl) ?_ (fun hHeld => ?_)
  · first
      | assumption
      | exact two_keep bt rfl (by assumption)
      | exact two_set _ _ (by assumption)
      | exact two_keep (Below.drew (Below.refl _ _)) rfl ⟨c1, c2, c3, c4, ⟨_, c5⟩, ⟨_, c6⟩, c7, c8, c9, B2⟩
  refine wpAnyH_take (i := 0) (v := ?_) rfl (by kernel_rfl) (by kernel_rfl) (by kernel_rfl) (fun _ _ _ h => h) (Or.inl ⟨by kernel_rfl, ?_⟩) (by assumption) ?_
  rotate_left
  · (intro w hSw; (try dsimp only at hSw); go_simp; first | done | with_reducible rfl)
  try simp only [Act.put, List.setIfInBounds_toArray, List.set_cons_zero, List.set_cons_succ]
  refine wpAnyH_take (i := 1) (v := ?_) rfl (by kernel_rfl) (by kernel_rfl) (by kernel_rfl) (fun _ _ _ h => h) (Or.inl ⟨by kernel_rfl, ?_⟩) (by assumption) ?_
  rotate_left
  · (intro w hSw; (try dsimp only at hSw); go_simp; first | done | with_reducible rfl)
  try simp only [Act.put, List.setIfInBounds_toArray, List.set_cons_zero, List.set_cons_succ]
  refine wpAnyH_take (i := 2) (v := ?_) rfl (by kernel_rfl) (by kernel_rfl) (by kernel_rfl) (fun _ _ _ h => h) (Or.inl ⟨by kernel_rfl, ?_⟩) (by assumption) ?_
  rotate_left
  · (intro w hSw; (try dsimp only at hSw); go_simp; first | done | with_reducible rfl)
  try simp only [Act.put, List.setIfInBounds_toArray, List.set_cons_zero, List.set_cons_succ]
  refine wpAnyH_take (i := 3) (v := ?_) rfl (by kernel_rfl) (by kernel_rfl) (by kernel_rfl) (fun _ _ _ h => h) (Or.inl ⟨by kernel_rfl, ?_⟩) (by assumption) ?_
  rotate_left
  · (intro w hSw; (try dsimp only at hSw); go_simp; first | done | with_reducible rfl)
  try simp only [Act.put, List.setIfInBounds_toArray, List.set_cons_zero, List.set_cons_succ]
  refine wpAnyH_take (i := 4) (v := ?_) rfl (by kernel_rfl) (by kernel_rfl) (by kernel_rfl) (fun _ _ _ h => h) (Or.inl ⟨by kernel_rfl, ?_⟩) (by assumption) ?_
  rotate_left
  · (intro w hSw; (try dsimp only at hSw); go_simp; first | done | with_reducible rfl)
  try simp only [Act.put, List.setIfInBounds_toArray, List.set_cons_zero, List.set_cons_succ]
  refine wpAnyH_take (i := 5) (v := ?_) rfl (by kernel_rfl) (by kernel_rfl) (by kernel_rfl) (fun _ _ _ h => h) (Or.inl ⟨by kernel_rfl, ?_⟩) (by assumption) ?_
  rotate_left
  · (intro w hSw; (try dsimp only at hSw); go_simp; first | done | with_reducible rfl)
  try simp only [Act.put, List.setIfInBounds_toArray, List.set_cons_zero, List.set_cons_succ]
  refine wpAnyH_take (i := 6) (v := ?_) rfl (by kernel_rfl) (by kernel_rfl) (by kernel_rfl) (fun _ _ _ h => h) (Or.inl ⟨by kernel_rfl, ?_⟩) (by assumption) ?_
  rotate_left
  · (intro w hSw; (try dsimp only at hSw); go_simp; first | done | with_reducible rfl)
  try simp only [Act.put, List.setIfInBounds_toArray, List.set_cons_zero, List.set_cons_succ]
  refine wpAnyH_take (i := 7) (v := ?_) rfl (by kernel_rfl) (by kernel_rfl) (by kernel_rfl) (fun _ _ _ h => h) (Or.inl ⟨by kernel_rfl, ?_⟩) (by assumption) ?_
  rotate_left
  · (intro w hSw; (try dsimp only at hSw); go_simp; first | done | with_reducible rfl)
  try simp only [Act.put, List.setIfInBounds_toArray, List.set_cons_zero, List.set_cons_succ]
  refine wpAnyH_take (i := 8) (v := ?_) rfl (by kernel_rfl) (by kernel_rfl) (by kernel_rfl) (fun _ _ _ h => h) (Or.inl ⟨by kernel_rfl, ?_⟩) (by assumption) ?_
  rotate_left
  · (intro w hSw; (try dsimp only at hSw); go_simp; first | done | with_reducible rfl)
  try simp only [Act.put, List.setIfInBounds_toArray, List.set_cons_zero, List.set_cons_succ]
  refine wpAnyH_take (i := 9) (v := ?_) rfl (by kernel_rfl) (by kernel_rfl) (by kernel_rfl) (fun _ _ _ h => h) (Or.inl ⟨by kernel_rfl, ?_⟩) (by assumption) ?_
  rotate_left
  · (intro w hSw; (try dsimp only at hSw); go_simp; first | done | with_reducible rfl)
  try simp only [Act.put, List.setIfInBounds_toArray, List.set_cons_zero, List.set_cons_succ]
  refine wpAnyH_take (i := 10) (v := ?_) rfl (by kernel_rfl) (by kernel_rfl) (by kernel_rfl) (fun _ _ _ h => h) (Or.inl ⟨by kernel_rfl, ?_⟩) (by assumption) ?_
  rotate_left
  · (intro w hSw; (try dsimp only at hSw); go_simp; first | done | with_reducible rfl)
  try simp only [Act.put, List.setIfInBounds_toArray, List.set_cons_zero, List.set_cons_succ]
  refine wpAnyH_take (i := 11) (v := ?_) rfl (by kernel_rfl) (by kernel_rfl) (by kernel_rfl) (fun _ _ _ h => h) (Or.inl ⟨by kernel_rfl, ?_⟩) (by assumption) ?_
  rotate_left
  · (intro w hSw; (try dsimp only at hSw); go_simp; first | done | with_reducible rfl)
  try simp only [Act.put, List.setIfInBounds_toArray, List.set_cons_zero, List.set_cons_succ]
  refine wpAnyH_take (i := 12) (v := ?_) rfl (by kernel_rfl) (by kernel_rfl) (by kernel_rfl) (fun _ _ _ h => h) (Or.inl ⟨by kernel_rfl, ?_⟩) (by assumption) ?_
  rotate_left
  · (intro w hSw; (try dsimp only at hSw); go_simp; first | done | with_reducible rfl)
  try simp only [Act.put, List.setIfInBounds_toArray, List.set_cons_zero, List.set_cons_succ]
  refine wpAnyH_take (i := 13) (v := ?_) rfl (by kernel_rfl) (by kernel_rfl) (by kernel_rfl) (fun _ _ _ h => h) (Or.inl ⟨by kernel_rfl, ?_⟩) (by assumption) ?_
  rotate_left
  · (intro w hSw; (try dsimp only at hSw); go_simp; first | done | with_reducible rfl)
  try simp only [Act.put, List.setIfInBounds_toArray, List.set_cons_zero, List.set_cons_succ]
  refine wpAnyH_take (i := 15) (v := ?_) rfl (by kernel_rfl) (by kernel_rfl) (by kernel_rfl) (fun _ _ _ h => h) (Or.inl ⟨by kernel_rfl, ?_⟩) (by assumption) ?_
  rotate_left
  · (intro w hSw; (try dsimp only at hSw); go_simp; first | done | with_reducible rfl)
  try simp only [Act.put, List.setIfInBounds_toArray, List.set_cons_zero, List.set_cons_succ]
  refine wpAnyH_take (i := 16) (v := ?_) rfl (by kernel_rfl) (by kernel_rfl) (by kernel_rfl) (fun _ _ _ h => h) (Or.inl ⟨by kernel_rfl, ?_⟩) (by assumption) ?_
  rotate_left
  · (intro w hSw; (try dsimp only at hSw); go_simp; first | done | with_reducible rfl)
  try simp only [Act.put, List.setIfInBounds_toArray, List.set_cons_zero, List.set_cons_succ]
  refine wpAnyH_take (i := 19) (v := ?_) rfl (by kernel_rfl) (by kernel_rfl) (by kernel_rfl) (fun _ _ _ h => h) (Or.inl ⟨by kernel_rfl, ?_⟩) (by assumption) ?_
  rotate_left
  · (intro w hSw; (try dsimp only at hSw); go_simp; first | done | with_reducible rfl)
  try simp only [Act.put, List.setIfInBounds_toArray, List.set_cons_zero, List.set_cons_succ]
  refine wpAnyH_take (i := 20) (v := ?_) rfl (by kernel_rfl) (by kernel_rfl) (by kernel_rfl) (fun _ _ _ h => h) (Or.inl ⟨by kernel_rfl, ?_⟩) (by assumption) ?_
  rotate_left
  · (intro w hSw; (try dsimp only at hSw); go_simp; first | done | with_reducible rfl)
  try simp only [Act.put, List.setIfInBounds_toArray, List.set_cons_zero, List.set_cons_succ]
  refine wpAnyH_take (i := 22) (v := ?_) rfl (by kernel_rfl) (by kernel_rfl) (by kernel_rfl) (fun _ _ _ h => h) (Or.inl ⟨by kernel_rfl, ?_⟩) (by assumption) ?_
  rotate_left
  · (intro w hSw; (try dsimp only at hSw); go_simp; first | done | with_reducible rfl)
  try simp only [Act.put, List.setIfInBounds_toArray, List.set_cons_zero, List.set_cons_succ]
  refine wpAnyH_take (i := 23) (v := ?_) rfl (by kernel_rfl) (by kernel_rfl) (by kernel_rfl) (fun _ _ _ h => h) (Or.inl ⟨by kernel_rfl, ?_⟩) (by assumption) ?_
  rotate_left
  · (intro w hSw; (try dsimp only at hSw); go_simp; first | done | with_reducible rfl)
  try simp only [Act.put, List.setIfInBounds_toArray, List.set_cons_zero, List.set_cons_succ]
  refine wpAnyH_ready (rs := [14]) (by kernel_rfl) (by simp) ?_
  refine AllReadyH.cons rfl (fun K hK => ?_) AllReadyH.nil
  go_simp
  go_at_call_of 36 (Value.int .i64 a.n); refine (of_num a.n _ Qan.out.1 Qan.out.2).mono ?_; rintro e wt ⟨kA, rfl, hkA, NA, bt⟩; have nA := Lib.hid NA; clear NA
  (try go_wp2_with fail)
  refine hK.out _ _ ?_ (fun hHeld => ?_)
  · first
      | assumption
      | exact two_keep bt rfl (by assumption)
      | exact two_set _ _ (by assumption)
      | exact two_keep (Below.drew (Below.refl _ _)) rfl ⟨c1, c2, c3, c4, ⟨_, c5⟩, ⟨_, c6⟩, c7, c8, c9, B2⟩
  clear hK K
  try simp only [Act.put, List.setIfInBounds_toArray, List.set_cons_zero, List.set_cons_succ]
  refine wpAnyH_ready (rs := [17]) (by kernel_rfl) (by simp) ?_
  refine AllReadyH.cons rfl (fun K hK => ?_) AllReadyH.nil
  go_simp
  go_at_call_of 36 (Value.int .i64 b.d); refine (of_num b.d _ Qbd.out.1 Qbd.out.2).mono ?_; rintro e wt ⟨kB, rfl, hkB, NB, bt⟩; have nB := Lib.hid NB; clear NB; have nA := Lib.hid (Num.below nA.out bt rfl)
  (try go_wp2_with fail)
  refine hK.out _ _ ?_ (fun hHeld => ?_)
  · first
      | assumption
      | exact two_keep bt rfl (by assumption)
      | exact two_set _ _ (by assumption)
      | exact two_keep (Below.drew (Below.refl _ _)) rfl ⟨c1, c2, c3, c4, ⟨_, c5⟩, ⟨_, c6⟩, c7, c8, c9, B2⟩
  clear hK K
  try simp only [Act.put, List.setIfInBounds_toArray, List.set_cons_zero, List.set_cons_succ]
  refine wpAnyH_ready (rs := [18]) (by kernel_rfl) (by simp) ?_
  refine AllReadyH.cons rfl (fun K hK => ?_) AllReadyH.nil
  go_simp
  go_at_call 44; refine (times_num kA kB _ _ _ nA.out nB.out P1.out.1 P1.out.2).mono ?_; rintro e wt ⟨kT, rfl, hkT, NT, bt⟩; have nT := Lib.hid NT; clear NT
  (try go_wp2_with fail)
  refine hK.out _ _ ?_ (fun hHeld => ?_)
  · first
      | assumption
      | exact two_keep bt rfl (by assumption)
      | exact two_set _ _ (by assumption)
      | exact two_keep (Below.drew (Below.refl _ _)) rfl ⟨c1, c2, c3, c4, ⟨_, c5⟩, ⟨_, c6⟩, c7, c8, c9, B2⟩
  clear hK K
  try simp only [Act.put, List.setIfInBounds_toArray, List.set_cons_zero, List.set_cons_succ]
  refine wpAnyH_ready (rs := [21]) (by kernel_rfl) (by simp) ?_
  refine AllReadyH.cons rfl (fun K hK => ?_) AllReadyH.nil
  go_simp
  go_at_call_of 36 (Value.int .i64 a.d); refine (of_num a.d _ Qad.out.1 Qad.out.2).mono ?_; rintro e wt ⟨kC, rfl, hkC, NC, bt⟩; have nC := Lib.hid NC; clear NC; have nT := Lib.hid (Num.below nT.out bt rfl)
  (try go_wp2_with fail)
  refine hK.out _ _ ?_ (fun hHeld => ?_)
  · first
      | assumption
      | exact two_keep bt rfl (by assumption)
      | exact two_set _ _ (by assumption)
      | exact two_keep (Below.drew (Below.refl _ _)) rfl ⟨c1, c2, c3, c4, ⟨_, c5⟩, ⟨_, c6⟩, c7, c8, c9, B2⟩
  clear hK K
  try simp only [Act.put, List.setIfInBounds_toArray, List.set_cons_zero, List.set_cons_succ]
  refine wpAnyH_ready (rs := [24]) (by kernel_rfl) (by simp) ?_
  refine AllReadyH.cons rfl (fun K hK => ?_) AllReadyH.nil
  go_simp
  go_at_call_of 36 (Value.int .i64 b.n); refine (of_num b.n _ Qbn.out.1 Qbn.out.2).mono ?_; rintro e wt ⟨kD, rfl, hkD, ND, bt⟩; have nD := Lib.hid ND; clear ND; have nT := Lib.hid (Num.below nT.out bt rfl); have nC := Lib.hid (Num.below nC.out bt rfl)
  (try go_wp2_with fail)
  refine hK.out _ _ ?_ (fun hHeld => ?_)
  · first
      | assumption
      | exact two_keep bt rfl (by assumption)
      | exact two_set _ _ (by assumption)
      | exact two_keep (Below.drew (Below.refl _ _)) rfl ⟨c1, c2, c3, c4, ⟨_, c5⟩, ⟨_, c6⟩, c7, c8, c9, B2⟩
  clear hK K
  try simp only [Act.put, List.setIfInBounds_toArray, List.set_cons_zero, List.set_cons_succ]
  refine wpAnyH_ready (rs := [25]) (by kernel_rfl) (by simp) ?_
  refine AllReadyH.cons rfl (fun K hK => ?_) AllReadyH.nil
  go_simp
  go_at_call 44; refine (times_num kC kD _ _ _ nC.out nD.out P2.out.1 P2.out.2).mono ?_; rintro e wt ⟨kU, rfl, hkU, NU, bt⟩; have nU := Lib.hid NU; clear NU; have nT := Lib.hid (Num.below nT.out bt rfl)
  (try go_wp2_with fail)
  refine hK.out _ _ ?_ (fun hHeld => ?_)
  · first
      | assumption
      | exact two_keep bt rfl (by assumption)
      | exact two_set _ _ (by assumption)
      | exact two_keep (Below.drew (Below.refl _ _)) rfl ⟨c1, c2, c3, c4, ⟨_, c5⟩, ⟨_, c6⟩, c7, c8, c9, B2⟩
  clear hK K
  try simp only [Act.put, List.setIfInBounds_toArray, List.set_cons_zero, List.set_cons_succ]
  refine wpAnyH_ready (rs := [26]) (by kernel_rfl) (by simp) ?_
  refine AllReadyH.cons rfl (fun K hK => ?_) AllReadyH.nil
  go_simp
  go_at_call 35; refine (HGive.out kT kU _ nT.out nU.out).mono ?_; rintro e wt ⟨rfl, bt⟩; obtain ⟨k1, k2, k3, k4, ⟨z0, k5⟩, ⟨z1, k6⟩, k7, k8, k9, k10⟩ := two_keep bt rfl (by assumption)
  (try go_wp2_with fail)
  refine hK.out _ _ ?_ (fun hHeld => ?_)
  · first
      | assumption
      | exact two_keep bt rfl (by assumption)
      | exact two_set _ _ (by assumption)
      | exact two_keep (Below.drew (Below.refl _ _)) rfl ⟨c1, c2, c3, c4, ⟨_, c5⟩, ⟨_, c6⟩, c7, c8, c9, B2⟩
  clear hK K
  try simp only [Act.put, List.setIfInBounds_toArray, List.set_cons_zero, List.set_cons_succ]
  refine wpAnyH_take (i := 27) (v := ?_) rfl (by kernel_rfl) (by kernel_rfl) (by kernel_rfl) (fun _ _ _ h => h) (Or.inl ⟨by kernel_rfl, ?_⟩) (by assumption) ?_
  rotate_left
  · (intro w hSw; (try dsimp only at hSw); go_simp; first | done | with_reducible rfl)
  try simp only [Act.put, List.setIfInBounds_toArray, List.set_cons_zero, List.set_cons_succ]
  refine wpAnyH_take (i := 28) (v := ?_) rfl (by kernel_rfl) (by kernel_rfl) (by kernel_rfl) (fun _ _ _ h => h) (Or.inl ⟨by kernel_rfl, ?_⟩) (by assumption) ?_
  rotate_left
  · (intro w hSw; (try dsimp only at hSw); go_simp; first | done | with_reducible rfl)
  try simp only [Act.put, List.setIfInBounds_toArray, List.set_cons_zero, List.set_cons_succ]
  refine wpAnyH_ready (rs := [29]) (by kernel_rfl) (by simp) ?_
  refine AllReadyH.cons rfl (fun K hK => ?_) AllReadyH.nil
  go_simp
  refine hK.out _ _ ?_ (fun hHeld => ?_)
  · first
      | assumption
      | exact two_keep bt rfl (by assumption)
      | exact two_set _ _ (by assumption)
      | exact two_keep (Below.drew (Below.refl _ _)) rfl ⟨c1, c2, c3, c4, ⟨_, c5⟩, ⟨_, c6⟩, c7, c8, c9, B2⟩
  clear hK K
  try simp only [Act.put, List.setIfInBounds_toArray, List.set_cons_zero, List.set_cons_succ]
  refine wpAnyH_ready (rs := [30]) (by kernel_rfl) (by simp) ?_
  refine AllReadyH.cons rfl (fun K hK => ?_) AllReadyH.nil
  go_simp
  refine hK.out _ _ ?_ (fun hHeld => ?_)
  · first
      | assumption
      | exact two_keep bt rfl (by assumption)
      | exact two_set _ _ (by assumption)
      | exact two_keep (Below.drew (Below.refl _ _)) rfl ⟨c1, c2, c3, c4, ⟨_, c5⟩, ⟨_, c6⟩, c7, c8, c9, B2⟩
  clear hK K
  try simp only [Act.put, List.setIfInBounds_toArray, List.set_cons_zero, List.set_cons_succ]
  refine wpAnyH_done (by kernel_rfl) ?_ _
  all_goals go_wp2_with fail
  all_goals refine bodyPost_ret (v := .tuple #[.agg #[.int .i64 v, .int .i64 u], .int .i64 er]) (by simp [results, Try.results23, go_sem, *]) rfl ⟨rfl, ?_⟩
  all_goals exact Below.setCell (Below.setCell k10 (by simp only; omega) _) (by simp only; omega) _

end Go.Proofs.Ytfchbkhgoebagaa

namespace Go.Proofs.Ytfchbkhgoebagaa
open Go.RowKit Ra

theorem rfloor_not (a : Q) (w : World) (HA : Hid (∀ w, Calls Try.prog 15 #[.agg #[.int .i64 a.n, .int .i64 a.d]] w fun e w' => e = .returned (.bool false) ∧ Below w.heap.size w w')) :
    Calls Try.prog 27 #[.agg #[.int .i64 a.n, .int .i64 a.d]] w fun e w' => e = .returned (.int .i64 0) ∧ Below w.heap.size w w' := by
  obtain ⟨W, hW⟩ : ∃ W, W = Box1 a w := ⟨_, rfl⟩
  have P0 : HoldB a w.heap.size w W := by rw [hW]; exact box_at a w
  unfold Box1 at hW
  have HW := Lib.hid hW
  clear hW
  go_enter Try.func27, Try.ntmps27
  go_wp2_with fail
  rw [← HW.out]
  refine (HA.out _).mono ?_
  rintro e w1 ⟨rfl, b1⟩
  obtain ⟨c1, c2, c9, B1⟩ := box_keep b1 rfl P0
  go_wp2_with fail
  go_ret
  exact ⟨rfl, B1⟩
theorem rceil_not (a : Q) (w : World) (HA : Hid (∀ w, Calls Try.prog 15 #[.agg #[.int .i64 a.n, .int .i64 a.d]] w fun e w' => e = .returned (.bool false) ∧ Below w.heap.size w w')) :
    Calls Try.prog 29 #[.agg #[.int .i64 a.n, .int .i64 a.d]] w fun e w' => e = .returned (.int .i64 0) ∧ Below w.heap.size w w' := by
  obtain ⟨W, hW⟩ : ∃ W, W = Box1 a w := ⟨_, rfl⟩
  have P0 : HoldB a w.heap.size w W := by rw [hW]; exact box_at a w
  unfold Box1 at hW
  have HW := Lib.hid hW
  clear hW
  go_enter Try.func29, Try.ntmps29
  go_wp2_with fail
  rw [← HW.out]
  refine (HA.out _).mono ?_
  rintro e w1 ⟨rfl, b1⟩
  obtain ⟨c1, c2, c9, B1⟩ := box_keep b1 rfl P0
  go_wp2_with fail
  go_ret
  exact ⟨rfl, B1⟩
theorem rfloor_yes (a : Q) (q x r : Int) (w : World) (HA : Hid (∀ w, Calls Try.prog 15 #[.agg #[.int .i64 a.n, .int .i64 a.d]] w fun e w' => e = .returned (.bool true) ∧ Below w.heap.size w w'))
    (d0 : ¬ a.d = 0) (eq : a.n.tdiv a.d = q) (wq : IntKind.i64.wrap q = q) (wx : IntKind.i64.wrap (q * a.d) = x) (wq1 : IntKind.i64.wrap (q - 1) = q - 1) (hr : a.n < x ∧ r = q - 1 ∨ ¬ a.n < x ∧ r = q) :
    Calls Try.prog 27 #[.agg #[.int .i64 a.n, .int .i64 a.d]] w fun e w' => e = .returned (.int .i64 r) ∧ Below w.heap.size w w' := by
  obtain ⟨W, hW⟩ : ∃ W, W = Box1 a w := ⟨_, rfl⟩
  have P0 : HoldB a w.heap.size w W := by rw [hW]; exact box_at a w
  unfold Box1 at hW
  have HW := Lib.hid hW
  clear hW
  rcases hr with ⟨hr, rfl⟩ | ⟨hr, rfl⟩
  all_goals
    go_enter Try.func27, Try.ntmps27
    go_wp2_with fail
    rw [← HW.out]
    refine (HA.out _).mono ?_
    rintro e w1 ⟨rfl, b1⟩
    obtain ⟨c1, c2, c9, B1⟩ := box_keep b1 rfl P0
    go_wp2_with fail
    go_ret
    exact ⟨rfl, B1⟩
theorem rceil_yes (a : Q) (q x r : Int) (w : World) (HA : Hid (∀ w, Calls Try.prog 15 #[.agg #[.int .i64 a.n, .int .i64 a.d]] w fun e w' => e = .returned (.bool true) ∧ Below w.heap.size w w'))
    (d0 : ¬ a.d = 0) (eq : a.n.tdiv a.d = q) (wq : IntKind.i64.wrap q = q) (wx : IntKind.i64.wrap (q * a.d) = x) (wq1 : IntKind.i64.wrap (q + 1) = q + 1) (hr : x < a.n ∧ r = q + 1 ∨ ¬ x < a.n ∧ r = q) :
    Calls Try.prog 29 #[.agg #[.int .i64 a.n, .int .i64 a.d]] w fun e w' => e = .returned (.int .i64 r) ∧ Below w.heap.size w w' := by
  obtain ⟨W, hW⟩ : ∃ W, W = Box1 a w := ⟨_, rfl⟩
  have P0 : HoldB a w.heap.size w W := by rw [hW]; exact box_at a w
  unfold Box1 at hW
  have HW := Lib.hid hW
  clear hW
  rcases hr with ⟨hr, rfl⟩ | ⟨hr, rfl⟩
  all_goals
    go_enter Try.func29, Try.ntmps29
    go_wp2_with fail
    rw [← HW.out]
    refine (HA.out _).mono ?_
    rintro e w1 ⟨rfl, b1⟩
    obtain ⟨c1, c2, c9, B1⟩ := box_keep b1 rfl P0
    go_wp2_with fail
    go_ret
    exact ⟨rfl, B1⟩

theorem tdiv_parts {n d : Int} (h : 0 < d) (n0 : -1152921504606846976 ≤ n) (n1 : n ≤ 1152921504606846976) : (n.tdiv d).natAbs ≤ 1152921504606846976 ∧ -1152921504606846976 ≤ n.tdiv d * d ∧ n.tdiv d * d ≤ 1152921504606846976 ∧ (n < n.tdiv d * d ∧ n / d = n.tdiv d - 1 ∨ ¬ n < n.tdiv d * d ∧ n / d = n.tdiv d) := by
  have h1 := Int.mul_tdiv_add_tmod n d
  have h0 := Int.mul_comm d (n.tdiv d)
  have h2 := tdiv_floor (n := n) h
  have h3 : (n.tmod d).natAbs ≤ n.natAbs := by rw [Int.natAbs_tmod]; exact Nat.mod_le _ _
  have h4 : (n.tdiv d).natAbs ≤ n.natAbs := by rw [Int.natAbs_tdiv]; exact Nat.div_le_self _ _
  have h5 : 0 ≤ n → 0 ≤ n.tmod d := fun hh => Int.tmod_nonneg _ hh
  have h6 : n ≤ 0 → n.tmod d ≤ 0 := fun hh => by
    have := Int.tmod_nonneg d (show 0 ≤ -n by omega)
    rw [Int.neg_tmod] at this
    omega
  by_cases hr : n.tmod d < 0
  · rw [if_pos hr] at h2
    omega
  · rw [if_neg hr] at h2
    omega

theorem rfloor_any (a : Q) (w : World) (ha : Q64 a) : Calls Try.prog 27 #[Qv a] w fun e w' => e = .returned (.int .i64 (floorV a)) ∧ Below w.heap.size w w' := by
  unfold floorV
  by_cases ra : rightB a = true
  rotate_left
  · rw [if_neg ra]
    rw [Bool.not_eq_true] at ra
    exact rfloor_not a w (Lib.hid (rright_end ha false ra))
  rw [if_pos ra]
  have hA := (right_iff a).1 ra
  have pA := hA.pos
  obtain ⟨t1, t2, t3, t4⟩ := tdiv_parts (show 0 < a.d by omega) hA.lo hA.hi
  exact rfloor_yes a _ _ _ w (Lib.hid (rright_end ha true ra)) (by omega) rfl (IntWalk.i64_in _ (by omega)) (IntWalk.i64_in _ (by omega)) (IntWalk.i64_in _ (by omega)) t4
theorem rceil_any (a : Q) (w : World) (ha : Q64 a) : Calls Try.prog 29 #[Qv a] w fun e w' => e = .returned (.int .i64 (ceilV a)) ∧ Below w.heap.size w w' := by
  unfold ceilV
  by_cases ra : rightB a = true
  rotate_left
  · rw [if_neg ra]
    rw [Bool.not_eq_true] at ra
    exact rceil_not a w (Lib.hid (rright_end ha false ra))
  rw [if_pos ra]
  have hA := (right_iff a).1 ra
  have pA := hA.pos
  have l1 := hA.lo; have l2 := hA.hi
  obtain ⟨t1, t2, t3, _⟩ := tdiv_parts (show 0 < a.d by omega) hA.lo hA.hi
  obtain ⟨_, _, _, t4⟩ := tdiv_parts (n := -a.n) (show 0 < a.d by omega) (by omega) (by omega)
  rw [Int.neg_tdiv, Int.neg_mul] at t4
  exact rceil_yes a _ _ _ w (Lib.hid (rright_end ha true ra)) (by omega) rfl (IntWalk.i64_in _ (by omega)) (IntWalk.i64_in _ (by omega)) (IntWalk.i64_in _ (by omega)) (by omega)

end Go.Proofs.Ytfchbkhgoebagaa

namespace Go.Proofs.Ytfchbkhgoebagaa
open Go.RowKit Ra

theorem rnear_not (a : Q) (w : World) (HA : Hid (∀ w, Calls Try.prog 15 #[.agg #[.int .i64 a.n, .int .i64 a.d]] w fun e w' => e = .returned (.bool false) ∧ Below w.heap.size w w')) :
    Calls Try.prog 31 #[.agg #[.int .i64 a.n, .int .i64 a.d]] w fun e w' => e = .returned (.int .i64 0) ∧ Below w.heap.size w w' := by
  obtain ⟨W, hW⟩ : ∃ W, W = Box1 a w := ⟨_, rfl⟩
  have P0 : HoldB a w.heap.size w W := by rw [hW]; exact box_at a w
  unfold Box1 at hW
  have HW := Lib.hid hW
  clear hW
  go_enter Try.func31, Try.ntmps31
  go_wp2_with fail
  rw [← HW.out]
  refine (HA.out _).mono ?_
  rintro e w1 ⟨rfl, b1⟩
  obtain ⟨c1, c2, c9, B1⟩ := box_keep b1 rfl P0
  go_wp2_with fail
  go_ret
  exact ⟨rfl, B1⟩
theorem rnear_yes (a : Q) (f x r u : Int) (w : World) (HA : Hid (∀ w, Calls Try.prog 15 #[.agg #[.int .i64 a.n, .int .i64 a.d]] w fun e w' => e = .returned (.bool true) ∧ Below w.heap.size w w'))
    (HF : Hid (∀ w, Calls Try.prog 27 #[.agg #[.int .i64 a.n, .int .i64 a.d]] w fun e w' => e = .returned (.int .i64 f) ∧ Below w.heap.size w w'))
    (ex : IntKind.i64.wrap (f * a.d) = x) (er : IntKind.i64.wrap (a.n - x) = r) (eu : IntKind.i64.wrap (a.d - r) = u) (e1 : IntKind.i64.wrap (f + 1) = f + 1) (hu : Hid (u = a.d - r)) :
    Calls Try.prog 31 #[.agg #[.int .i64 a.n, .int .i64 a.d]] w fun e w' => e = .returned (.int .i64 (nearR f r a.d)) ∧ Below w.heap.size w w' := by
  obtain ⟨W, hW⟩ : ∃ W, W = Box1 a w := ⟨_, rfl⟩
  have P0 : HoldB a w.heap.size w W := by rw [hW]; exact box_at a w
  unfold Box1 at hW
  have HW := Lib.hid hW
  clear hW
  go_enter Try.func31, Try.ntmps31
  go_wp2_with fail
  rw [← HW.out]
  refine (HA.out _).mono ?_
  rintro e w1 ⟨rfl, b1⟩
  have P1 := box_keep b1 rfl P0
  obtain ⟨c1, c2, c9, B1⟩ := P1
  go_wp2_with fail
  refine (HF.out _).mono ?_
  rintro e w2 ⟨rfl, b2⟩
  have P2 := box_keep b2 rfl ⟨c1, c2, c9, B1⟩
  clear c1 c2 c9 B1
  obtain ⟨c1, c2, c9, B2⟩ := P2
  go_wp2_with fail
  all_goals go_ret
  all_goals have hu' := hu.out
  all_goals first
    | (have hv : nearR f r a.d = f + 1 := by
         unfold nearR
         rw [if_pos]
         try simp only [ne_eq, beq_eq_false_iff_ne] at *
         omega
       rw [hv]
       exact ⟨rfl, B2⟩)
    | (have hv : nearR f r a.d = f := by
         unfold nearR
         rw [if_neg]
         try simp only [ne_eq, beq_iff_eq] at *
         omega
       rw [hv]
       exact ⟨rfl, B2⟩)

theorem rnear_any (a : Q) (w : World) (ha : Q64 a) : Calls Try.prog 31 #[Qv a] w fun e w' => e = .returned (.int .i64 (nearV a)) ∧ Below w.heap.size w w' := by
  unfold nearV
  by_cases ra : rightB a = true
  rotate_left
  · rw [if_neg ra]
    rw [Bool.not_eq_true] at ra
    exact rnear_not a w (Lib.hid (rright_end ha false ra))
  rw [if_pos ra]
  have hA := (right_iff a).1 ra
  have l1 := hA.lo; have l2 := hA.hi; have l3 := hA.den; have pA := hA.pos
  have hf := floor_bound hA
  have HF := fun w => rfloor_any a w ha
  have e : floorV a = a.n / a.d := by unfold floorV; rw [ra, if_pos rfl]
  rw [e] at HF hf
  have m0 := Int.emod_nonneg a.n (show a.d ≠ 0 by omega)
  have m1 := Int.emod_lt_of_pos a.n (show 0 < a.d by omega)
  have m2 := Int.mul_ediv_add_emod a.n a.d
  have m3 := Int.mul_comm a.d (a.n / a.d)
  have en : nearN a = nearR (a.n / a.d) (a.n % a.d) a.d := by
    unfold nearN nearR
    have : (a.n / a.d).tmod 2 ≠ 0 ↔ (a.n / a.d) % 2 ≠ 0 := by
      rw [ne_eq, ne_eq, ← Int.dvd_iff_emod_eq_zero, ← Int.dvd_iff_tmod_eq_zero]
    simp only [this]
  rw [en]
  exact rnear_yes a _ _ _ (a.d - a.n % a.d) w (Lib.hid (rright_end ha true ra)) (Lib.hid HF) rfl (by
    have : IntKind.i64.wrap (a.n / a.d * a.d) = a.n / a.d * a.d := IntWalk.i64_in _ (by omega)
    rw [this, show a.n - a.n / a.d * a.d = a.n % a.d by omega]
    exact IntWalk.i64_in _ (by omega)) (IntWalk.i64_in _ (by omega)) (IntWalk.i64_in _ (by omega)) (Lib.hid rfl)

end Go.Proofs.Ytfchbkhgoebagaa

namespace Go.Proofs.Ytfchbkhgoebagaa
open Go.RowKit Ra
attribute [local go_sem ↓] Go.wp_at_zero Go.wp_at_succ

set_option maxHeartbeats 2000000 in
theorem rdiv_zero (a b : Q) (w : World) (HA : Hid (∀ w, Calls Try.prog 15 #[.agg #[.int .i64 a.n, .int .i64 a.d]] w fun e w' => e = .returned (.bool true) ∧ Below w.heap.size w w')) (HB : Hid (∀ w, Calls Try.prog 15 #[.agg #[.int .i64 b.n, .int .i64 b.d]] w fun e w' => e = .returned (.bool true) ∧ Below w.heap.size w w')) (Hz : Hid (b.n = 0)) :
    Calls Try.prog 23 #[.agg #[.int .i64 a.n, .int .i64 a.d], .agg #[.int .i64 b.n, .int .i64 b.d]] w fun e w' => e = .returned (.tuple #[.agg #[.int .i64 0, .int .i64 0], .int .i64 1]) ∧ Below w.heap.size w w' := by
  obtain ⟨W, hW⟩ : ∃ W, W = Two a b w := ⟨_, rfl⟩
  have T0 : TwoAt a b w.heap.size W := by rw [hW]; exact two_at a b w
  have B0 : Below w.heap.size w W := by rw [hW]; exact two_below a b w
  unfold Two at hW
  have HW := Lib.hid hW
  clear hW
  go_enter Try.func23, Try.ntmps23
  go_wp2_with fail
  rw [← HW.out]
  refine (HA.out _).mono ?_
  rintro e w1 ⟨rfl, b1⟩
  have T1 := T0.below b1
  have B1 := Below.trans B0 (b1.mono B0.size)
  obtain ⟨c1, c2, c3, c4, c5, c6, c7, c8, c9⟩ := T1
  go_wp2_with fail
  refine (HB.out _).mono ?_
  rintro e w2 ⟨rfl, b2⟩
  have T2 := TwoAt.below ⟨c1, c2, c3, c4, c5, c6, c7, c8, c9⟩ b2
  have B2 := Below.trans B1 (b2.mono B1.size)
  clear c1 c2 c3 c4 c5 c6 c7 c8 c9
  obtain ⟨c1, c2, c3, c4, c5, c6, c7, c8, c9⟩ := T2
  have hz := Hz.out
  rw [hz] at c3
  go_wp2_with fail
  refine bodyPost_ret (v := .tuple #[.agg #[.int .i64 0, .int .i64 0], .int .i64 1]) (by simp [results, Try.results23, go_sem, *]) rfl ⟨rfl, ?_⟩
  exact Below.setCell (Below.setCell B2 (by simp only; omega) _) (by simp only; omega) _

theorem rcmp_not1 (a b : Q) (w : World) (HA : Hid (∀ w, Calls Try.prog 15 #[.agg #[.int .i64 a.n, .int .i64 a.d]] w fun e w' => e = .returned (.bool false) ∧ Below w.heap.size w w')) :
    Calls Try.prog 25 #[.agg #[.int .i64 a.n, .int .i64 a.d], .agg #[.int .i64 b.n, .int .i64 b.d]] w fun e w' => e = .returned (.int .i64 0) ∧ Below w.heap.size w w' := by
  obtain ⟨W, hW⟩ : ∃ W, W = Par a b w := ⟨_, rfl⟩
  have P0 : HoldP a b w.heap.size w W := by rw [hW]; exact par_at a b w
  unfold Par at hW
  have HW := Lib.hid hW
  clear hW
  go_enter Try.func25, Try.ntmps25
  go_wp2_with fail
  rw [← HW.out]
  refine (HA.out _).mono ?_
  rintro e w1 ⟨rfl, b1⟩
  obtain ⟨c1, c2, c3, c4, c9, B1⟩ := par_keep b1 rfl P0
  go_wp2_with fail
  go_ret
  exact ⟨rfl, B1⟩
theorem rcmp_not2 (a b : Q) (w : World) (HA : Hid (∀ w, Calls Try.prog 15 #[.agg #[.int .i64 a.n, .int .i64 a.d]] w fun e w' => e = .returned (.bool true) ∧ Below w.heap.size w w'))
    (HB : Hid (∀ w, Calls Try.prog 15 #[.agg #[.int .i64 b.n, .int .i64 b.d]] w fun e w' => e = .returned (.bool false) ∧ Below w.heap.size w w')) :
    Calls Try.prog 25 #[.agg #[.int .i64 a.n, .int .i64 a.d], .agg #[.int .i64 b.n, .int .i64 b.d]] w fun e w' => e = .returned (.int .i64 0) ∧ Below w.heap.size w w' := by
  obtain ⟨W, hW⟩ : ∃ W, W = Par a b w := ⟨_, rfl⟩
  have P0 : HoldP a b w.heap.size w W := by rw [hW]; exact par_at a b w
  unfold Par at hW
  have HW := Lib.hid hW
  clear hW
  go_enter Try.func25, Try.ntmps25
  go_wp2_with fail
  rw [← HW.out]
  refine (HA.out _).mono ?_
  rintro e w1 ⟨rfl, b1⟩
  obtain ⟨c1, c2, c3, c4, c9, B1⟩ := par_keep b1 rfl P0
  go_wp2_with fail
  refine (HB.out _).mono ?_
  rintro e w2 ⟨rfl, b2⟩
  have P2 := par_keep b2 rfl ⟨c1, c2, c3, c4, c9, B1⟩
  clear c1 c2 c3 c4 c9 B1
  obtain ⟨c1, c2, c3, c4, c9, B2⟩ := P2
  go_wp2_with fail
  go_ret
  exact ⟨rfl, B2⟩

set_option maxHeartbeats 4000000 in
theorem rcmp_z (a b : Q) (ma mb mn : Bool) (N : Nat) (c : Int) (w : World)
    (HA : Hid (∀ w, Calls Try.prog 15 #[.agg #[.int .i64 a.n, .int .i64 a.d]] w fun e w' => e = .returned (.bool true) ∧ Below w.heap.size w w'))
    (HB : Hid (∀ w, Calls Try.prog 15 #[.agg #[.int .i64 b.n, .int .i64 b.d]] w fun e w' => e = .returned (.bool true) ∧ Below w.heap.size w w'))
    (Qan : Hid (-9223372036854775808 ≤ a.n ∧ a.n ≤ 9223372036854775807)) (Qad : Hid (-9223372036854775808 ≤ a.d ∧ a.d ≤ 9223372036854775807)) (Qbn : Hid (-9223372036854775808 ≤ b.n ∧ b.n ≤ 9223372036854775807)) (Qbd : Hid (-9223372036854775808 ≤ b.d ∧ b.d ≤ 9223372036854775807))
    (P1 : Hid (a.n.natAbs * b.d.natAbs < 1073741824 ^ 5 ∧ a.n.natAbs < 1073741824 ^ 5))
    (P2 : Hid (b.n.natAbs * a.d.natAbs < 1073741824 ^ 5 ∧ b.n.natAbs < 1073741824 ^ 5))
    (HSum : Hid (∀ (g h : Nat) (w : World), Num w g (a.n.natAbs * b.d.natAbs) → Num w h (b.n.natAbs * a.d.natAbs) → Calls Try.prog 43 #[.slice (some ⟨g, 0, none⟩) 5 5, .bool ma, .slice (some ⟨h, 0, none⟩) 5 5, .bool mb] w fun e w' => ∃ k, e = .returned (.tuple #[.slice (some ⟨k, 0, none⟩) 5 5, .bool mn]) ∧ w.heap.size ≤ k ∧ Num w' k N ∧ Below w.heap.size w w'))
    (LN : Hid (N < 1073741824 ^ 5)) (ea : decide (a.n < 0) = ma) (eb : decide (0 ≤ b.n) = mb)
    (hz : decide (N = 0) = true) (hc : c = 0)
    : Calls Try.prog 25 #[.agg #[.int .i64 a.n, .int .i64 a.d], .agg #[.int .i64 b.n, .int .i64 b.d]] w fun e w' => e = .returned (.int .i64 c) ∧ Below w.heap.size w w' := by
  subst hc
  obtain ⟨W, hW⟩ : ∃ W, W = Par a b w := ⟨_, rfl⟩
  have P0 : HoldP a b w.heap.size w W := by rw [hW]; exact par_at a b w
  unfold Par at hW
  have HW := Lib.hid hW
  clear hW
  go_enter Try.func25, Try.ntmps25
  go_wp2_with fail
  rw [← HW.out]
  refine (HA.out _).mono ?_
  rintro e w1 ⟨rfl, b1⟩
  obtain ⟨c1, c2, c3, c4, c9, B1⟩ := par_keep b1 rfl P0
  go_wp2_with fail
  refine (HB.out _).mono ?_
  rintro e w2 ⟨rfl, b2⟩
  have P2' := par_keep b2 rfl ⟨c1, c2, c3, c4, c9, B1⟩
  clear c1 c2 c3 c4 c9 B1
  obtain ⟨c1, c2, c3, c4, c9, B2⟩ := P2'
  go_wp2_with fail
  go_region_held3 (fun w' => w'.cell? ⟨w.heap.size, 0, none⟩ = some (.int .i64 a.n) ∧ w'.cell? ⟨w.heap.size, 1, none⟩ = some (.int .i64 a.d) ∧ w'.cell? ⟨w.heap.size + 1, 0, none⟩ = some (.int .i64 b.n) ∧ w'.cell? ⟨w.heap.size + 1, 1, none⟩ = some (.int .i64 b.d) ∧ w.heap.size + 2 ≤ w'.heap.size ∧ Below w.heap.size w w')
    (first
      | assumption
      | exact par_keep bt rfl (by assumption)
      | exact par_keep (Below.drew (Below.refl _ _)) rfl ⟨c1, c2, c3, c4, c9, B2⟩)
    (first
      | (go_at_call_of 36 (Value.int .i64 a.n); refine (of_num a.n _ Qan.out.1 Qan.out.2).mono ?_; rintro e wt ⟨kA, rfl, hkA, NA, bt⟩; have nA := Lib.hid NA; clear NA)
      | (go_at_call_of 36 (Value.int .i64 b.d); refine (of_num b.d _ Qbd.out.1 Qbd.out.2).mono ?_; rintro e wt ⟨kB, rfl, hkB, NB, bt⟩; have nB := Lib.hid NB; clear NB; have nA := Lib.hid (Num.below nA.out bt rfl))
      | (go_at_call_of 36 (Value.int .i64 b.n); refine (of_num b.n _ Qbn.out.1 Qbn.out.2).mono ?_; rintro e wt ⟨kC, rfl, hkC, NC, bt⟩; have nC := Lib.hid NC; clear NC; have nT := Lib.hid (Num.below nT.out bt rfl))
      | (go_at_call_of 36 (Value.int .i64 a.d); refine (of_num a.d _ Qad.out.1 Qad.out.2).mono ?_; rintro e wt ⟨kD, rfl, hkD, ND, bt⟩; have nD := Lib.hid ND; clear ND; have nT := Lib.hid (Num.below nT.out bt rfl); have nC := Lib.hid (Num.below nC.out bt rfl))
      | (go_at_call 44; refine (times_num kC kD _ _ _ nC.out nD.out P2.out.1 P2.out.2).mono ?_; rintro e wt ⟨kU, rfl, hkU, NU, bt⟩; have nU := Lib.hid NU; clear NU; have nT := Lib.hid (Num.below nT.out bt rfl))
      | (go_at_call 44; refine (times_num kA kB _ _ _ nA.out nB.out P1.out.1 P1.out.2).mono ?_; rintro e wt ⟨kT, rfl, hkT, NT, bt⟩; have nT := Lib.hid NT; clear NT)
      | (go_at_call 43; refine (HSum.out kT kU _ nT.out nU.out).mono ?_; rintro e wt ⟨kN, rfl, hkN, NN, bt⟩; have nN := Lib.hid NN; clear NN))
  have hold : HoldP a b w.heap.size w wt := by assumption
  obtain ⟨d1, d2, d3, d4, d9, B5⟩ := hold
  clear c1 c2 c3 c4 c9
  have ZZ := Lib.hid (zero_num kN _ wt nN.out LN.out)
  go_wp2_with fail
  refine ZZ.out.mono ?_
  rintro e w6 ⟨rfl, b6⟩
  rw [hz]
  go_wp2_with fail
  all_goals go_ret
  all_goals exact ⟨rfl, Below.trans B5 (b6.mono B5.size)⟩

set_option maxHeartbeats 4000000 in
theorem rcmp_neg (a b : Q) (ma mb : Bool) (N : Nat) (c : Int) (w : World)
    (HA : Hid (∀ w, Calls Try.prog 15 #[.agg #[.int .i64 a.n, .int .i64 a.d]] w fun e w' => e = .returned (.bool true) ∧ Below w.heap.size w w'))
    (HB : Hid (∀ w, Calls Try.prog 15 #[.agg #[.int .i64 b.n, .int .i64 b.d]] w fun e w' => e = .returned (.bool true) ∧ Below w.heap.size w w'))
    (Qan : Hid (-9223372036854775808 ≤ a.n ∧ a.n ≤ 9223372036854775807)) (Qad : Hid (-9223372036854775808 ≤ a.d ∧ a.d ≤ 9223372036854775807)) (Qbn : Hid (-9223372036854775808 ≤ b.n ∧ b.n ≤ 9223372036854775807)) (Qbd : Hid (-9223372036854775808 ≤ b.d ∧ b.d ≤ 9223372036854775807))
    (P1 : Hid (a.n.natAbs * b.d.natAbs < 1073741824 ^ 5 ∧ a.n.natAbs < 1073741824 ^ 5))
    (P2 : Hid (b.n.natAbs * a.d.natAbs < 1073741824 ^ 5 ∧ b.n.natAbs < 1073741824 ^ 5))
    (HSum : Hid (∀ (g h : Nat) (w : World), Num w g (a.n.natAbs * b.d.natAbs) → Num w h (b.n.natAbs * a.d.natAbs) → Calls Try.prog 43 #[.slice (some ⟨g, 0, none⟩) 5 5, .bool ma, .slice (some ⟨h, 0, none⟩) 5 5, .bool mb] w fun e w' => ∃ k, e = .returned (.tuple #[.slice (some ⟨k, 0, none⟩) 5 5, .bool true]) ∧ w.heap.size ≤ k ∧ Num w' k N ∧ Below w.heap.size w w'))
    (LN : Hid (N < 1073741824 ^ 5)) (ea : decide (a.n < 0) = ma) (eb : decide (0 ≤ b.n) = mb)
    (hz : decide (N = 0) = false) (hc : c = -1)
    : Calls Try.prog 25 #[.agg #[.int .i64 a.n, .int .i64 a.d], .agg #[.int .i64 b.n, .int .i64 b.d]] w fun e w' => e = .returned (.int .i64 c) ∧ Below w.heap.size w w' := by
  subst hc
  obtain ⟨W, hW⟩ : ∃ W, W = Par a b w := ⟨_, rfl⟩
  have P0 : HoldP a b w.heap.size w W := by rw [hW]; exact par_at a b w
  unfold Par at hW
  have HW := Lib.hid hW
  clear hW
  go_enter Try.func25, Try.ntmps25
  go_wp2_with fail
  rw [← HW.out]
  refine (HA.out _).mono ?_
  rintro e w1 ⟨rfl, b1⟩
  obtain ⟨c1, c2, c3, c4, c9, B1⟩ := par_keep b1 rfl P0
  go_wp2_with fail
  refine (HB.out _).mono ?_
  rintro e w2 ⟨rfl, b2⟩
  have P2' := par_keep b2 rfl ⟨c1, c2, c3, c4, c9, B1⟩
  clear c1 c2 c3 c4 c9 B1
  obtain ⟨c1, c2, c3, c4, c9, B2⟩ := P2'
  go_wp2_with fail
  go_region_held3 (fun w' => w'.cell? ⟨w.heap.size, 0, none⟩ = some (.int .i64 a.n) ∧ w'.cell? ⟨w.heap.size, 1, none⟩ = some (.int .i64 a.d) ∧ w'.cell? ⟨w.heap.size + 1, 0, none⟩ = some (.int .i64 b.n) ∧ w'.cell? ⟨w.heap.size + 1, 1, none⟩ = some (.int .i64 b.d) ∧ w.heap.size + 2 ≤ w'.heap.size ∧ Below w.heap.size w w')
    (first
      | assumption
      | exact par_keep bt rfl (by assumption)
      | exact par_keep (Below.drew (Below.refl _ _)) rfl ⟨c1, c2, c3, c4, c9, B2⟩)
    (first
      | (go_at_call_of 36 (Value.int .i64 a.n); refine (of_num a.n _ Qan.out.1 Qan.out.2).mono ?_; rintro e wt ⟨kA, rfl, hkA, NA, bt⟩; have nA := Lib.hid NA; clear NA)
      | (go_at_call_of 36 (Value.int .i64 b.d); refine (of_num b.d _ Qbd.out.1 Qbd.out.2).mono ?_; rintro e wt ⟨kB, rfl, hkB, NB, bt⟩; have nB := Lib.hid NB; clear NB; have nA := Lib.hid (Num.below nA.out bt rfl))
      | (go_at_call_of 36 (Value.int .i64 b.n); refine (of_num b.n _ Qbn.out.1 Qbn.out.2).mono ?_; rintro e wt ⟨kC, rfl, hkC, NC, bt⟩; have nC := Lib.hid NC; clear NC; have nT := Lib.hid (Num.below nT.out bt rfl))
      | (go_at_call_of 36 (Value.int .i64 a.d); refine (of_num a.d _ Qad.out.1 Qad.out.2).mono ?_; rintro e wt ⟨kD, rfl, hkD, ND, bt⟩; have nD := Lib.hid ND; clear ND; have nT := Lib.hid (Num.below nT.out bt rfl); have nC := Lib.hid (Num.below nC.out bt rfl))
      | (go_at_call 44; refine (times_num kC kD _ _ _ nC.out nD.out P2.out.1 P2.out.2).mono ?_; rintro e wt ⟨kU, rfl, hkU, NU, bt⟩; have nU := Lib.hid NU; clear NU; have nT := Lib.hid (Num.below nT.out bt rfl))
      | (go_at_call 44; refine (times_num kA kB _ _ _ nA.out nB.out P1.out.1 P1.out.2).mono ?_; rintro e wt ⟨kT, rfl, hkT, NT, bt⟩; have nT := Lib.hid NT; clear NT)
      | (go_at_call 43; refine (HSum.out kT kU _ nT.out nU.out).mono ?_; rintro e wt ⟨kN, rfl, hkN, NN, bt⟩; have nN := Lib.hid NN; clear NN))
  have hold : HoldP a b w.heap.size w wt := by assumption
  obtain ⟨d1, d2, d3, d4, d9, B5⟩ := hold
  clear c1 c2 c3 c4 c9
  have ZZ := Lib.hid (zero_num kN _ wt nN.out LN.out)
  go_wp2_with fail
  refine ZZ.out.mono ?_
  rintro e w6 ⟨rfl, b6⟩
  rw [hz]
  go_wp2_with fail
  all_goals go_ret
  all_goals exact ⟨rfl, Below.trans B5 (b6.mono B5.size)⟩

set_option maxHeartbeats 4000000 in
theorem rcmp_pos (a b : Q) (ma mb : Bool) (N : Nat) (c : Int) (w : World)
    (HA : Hid (∀ w, Calls Try.prog 15 #[.agg #[.int .i64 a.n, .int .i64 a.d]] w fun e w' => e = .returned (.bool true) ∧ Below w.heap.size w w'))
    (HB : Hid (∀ w, Calls Try.prog 15 #[.agg #[.int .i64 b.n, .int .i64 b.d]] w fun e w' => e = .returned (.bool true) ∧ Below w.heap.size w w'))
    (Qan : Hid (-9223372036854775808 ≤ a.n ∧ a.n ≤ 9223372036854775807)) (Qad : Hid (-9223372036854775808 ≤ a.d ∧ a.d ≤ 9223372036854775807)) (Qbn : Hid (-9223372036854775808 ≤ b.n ∧ b.n ≤ 9223372036854775807)) (Qbd : Hid (-9223372036854775808 ≤ b.d ∧ b.d ≤ 9223372036854775807))
    (P1 : Hid (a.n.natAbs * b.d.natAbs < 1073741824 ^ 5 ∧ a.n.natAbs < 1073741824 ^ 5))
    (P2 : Hid (b.n.natAbs * a.d.natAbs < 1073741824 ^ 5 ∧ b.n.natAbs < 1073741824 ^ 5))
    (HSum : Hid (∀ (g h : Nat) (w : World), Num w g (a.n.natAbs * b.d.natAbs) → Num w h (b.n.natAbs * a.d.natAbs) → Calls Try.prog 43 #[.slice (some ⟨g, 0, none⟩) 5 5, .bool ma, .slice (some ⟨h, 0, none⟩) 5 5, .bool mb] w fun e w' => ∃ k, e = .returned (.tuple #[.slice (some ⟨k, 0, none⟩) 5 5, .bool false]) ∧ w.heap.size ≤ k ∧ Num w' k N ∧ Below w.heap.size w w'))
    (LN : Hid (N < 1073741824 ^ 5)) (ea : decide (a.n < 0) = ma) (eb : decide (0 ≤ b.n) = mb)
    (hz : decide (N = 0) = false) (hc : c = 1)
    : Calls Try.prog 25 #[.agg #[.int .i64 a.n, .int .i64 a.d], .agg #[.int .i64 b.n, .int .i64 b.d]] w fun e w' => e = .returned (.int .i64 c) ∧ Below w.heap.size w w' := by
  subst hc
  obtain ⟨W, hW⟩ : ∃ W, W = Par a b w := ⟨_, rfl⟩
  have P0 : HoldP a b w.heap.size w W := by rw [hW]; exact par_at a b w
  unfold Par at hW
  have HW := Lib.hid hW
  clear hW
  go_enter Try.func25, Try.ntmps25
  go_wp2_with fail
  rw [← HW.out]
  refine (HA.out _).mono ?_
  rintro e w1 ⟨rfl, b1⟩
  obtain ⟨c1, c2, c3, c4, c9, B1⟩ := par_keep b1 rfl P0
  go_wp2_with fail
  refine (HB.out _).mono ?_
  rintro e w2 ⟨rfl, b2⟩
  have P2' := par_keep b2 rfl ⟨c1, c2, c3, c4, c9, B1⟩
  clear c1 c2 c3 c4 c9 B1
  obtain ⟨c1, c2, c3, c4, c9, B2⟩ := P2'
  go_wp2_with fail
  go_region_held3 (fun w' => w'.cell? ⟨w.heap.size, 0, none⟩ = some (.int .i64 a.n) ∧ w'.cell? ⟨w.heap.size, 1, none⟩ = some (.int .i64 a.d) ∧ w'.cell? ⟨w.heap.size + 1, 0, none⟩ = some (.int .i64 b.n) ∧ w'.cell? ⟨w.heap.size + 1, 1, none⟩ = some (.int .i64 b.d) ∧ w.heap.size + 2 ≤ w'.heap.size ∧ Below w.heap.size w w')
    (first
      | assumption
      | exact par_keep bt rfl (by assumption)
      | exact par_keep (Below.drew (Below.refl _ _)) rfl ⟨c1, c2, c3, c4, c9, B2⟩)
    (first
      | (go_at_call_of 36 (Value.int .i64 a.n); refine (of_num a.n _ Qan.out.1 Qan.out.2).mono ?_; rintro e wt ⟨kA, rfl, hkA, NA, bt⟩; have nA := Lib.hid NA; clear NA)
      | (go_at_call_of 36 (Value.int .i64 b.d); refine (of_num b.d _ Qbd.out.1 Qbd.out.2).mono ?_; rintro e wt ⟨kB, rfl, hkB, NB, bt⟩; have nB := Lib.hid NB; clear NB; have nA := Lib.hid (Num.below nA.out bt rfl))
      | (go_at_call_of 36 (Value.int .i64 b.n); refine (of_num b.n _ Qbn.out.1 Qbn.out.2).mono ?_; rintro e wt ⟨kC, rfl, hkC, NC, bt⟩; have nC := Lib.hid NC; clear NC; have nT := Lib.hid (Num.below nT.out bt rfl))
      | (go_at_call_of 36 (Value.int .i64 a.d); refine (of_num a.d _ Qad.out.1 Qad.out.2).mono ?_; rintro e wt ⟨kD, rfl, hkD, ND, bt⟩; have nD := Lib.hid ND; clear ND; have nT := Lib.hid (Num.below nT.out bt rfl); have nC := Lib.hid (Num.below nC.out bt rfl))
      | (go_at_call 44; refine (times_num kC kD _ _ _ nC.out nD.out P2.out.1 P2.out.2).mono ?_; rintro e wt ⟨kU, rfl, hkU, NU, bt⟩; have nU := Lib.hid NU; clear NU; have nT := Lib.hid (Num.below nT.out bt rfl))
      | (go_at_call 44; refine (times_num kA kB _ _ _ nA.out nB.out P1.out.1 P1.out.2).mono ?_; rintro e wt ⟨kT, rfl, hkT, NT, bt⟩; have nT := Lib.hid NT; clear NT)
      | (go_at_call 43; refine (HSum.out kT kU _ nT.out nU.out).mono ?_; rintro e wt ⟨kN, rfl, hkN, NN, bt⟩; have nN := Lib.hid NN; clear NN))
  have hold : HoldP a b w.heap.size w wt := by assumption
  obtain ⟨d1, d2, d3, d4, d9, B5⟩ := hold
  clear c1 c2 c3 c4 c9
  have ZZ := Lib.hid (zero_num kN _ wt nN.out LN.out)
  go_wp2_with fail
  refine ZZ.out.mono ?_
  rintro e w6 ⟨rfl, b6⟩
  rw [hz]
  go_wp2_with fail
  all_goals go_ret
  all_goals exact ⟨rfl, Below.trans B5 (b6.mono B5.size)⟩

end Go.Proofs.Ytfchbkhgoebagaa

