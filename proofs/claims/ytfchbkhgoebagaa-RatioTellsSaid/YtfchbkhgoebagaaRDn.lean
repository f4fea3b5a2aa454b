/- Walks of the reference: Add, of right ratios. -/
import Derived.Test.YtfchbkhgoebagaaRDl
import Derived.Test.YtfchbkhgoebagaaRt
namespace Go.Proofs.Ytfchbkhgoebagaa
open Go.RowKit Ra
attribute [local go_sem ↓] Go.wp_at_zero Go.wp_at_succ

set_option linter.unusedSimpArgs false in
set_option maxHeartbeats 4000000 in
theorem radd_pos (a b : Q) (ma mb : Bool) (N : Nat) (v u er : Int) (w : World)
    (HA : Hid (∀ w, Calls Try.prog 15 #[.agg #[.int .i64 a.n, .int .i64 a.d]] w fun e w' => e = .returned (.bool true) ∧ Below w.heap.size w w'))
    (HB : Hid (∀ w, Calls Try.prog 15 #[.agg #[.int .i64 b.n, .int .i64 b.d]] w fun e w' => e = .returned (.bool true) ∧ Below w.heap.size w w'))
    (Qan : Hid (-9223372036854775808 ≤ a.n ∧ a.n ≤ 9223372036854775807)) (Qad : Hid (-9223372036854775808 ≤ a.d ∧ a.d ≤ 9223372036854775807)) (Qbn : Hid (-9223372036854775808 ≤ b.n ∧ b.n ≤ 9223372036854775807)) (Qbd : Hid (-9223372036854775808 ≤ b.d ∧ b.d ≤ 9223372036854775807))
    (P1 : Hid (a.n.natAbs * b.d.natAbs < 1073741824 ^ 5 ∧ a.n.natAbs < 1073741824 ^ 5))
    (P2 : Hid (b.n.natAbs * a.d.natAbs < 1073741824 ^ 5 ∧ b.n.natAbs < 1073741824 ^ 5))
    (P3 : Hid (a.d.natAbs * b.d.natAbs < 1073741824 ^ 5 ∧ a.d.natAbs < 1073741824 ^ 5))
    (HSum : Hid (∀ (g h : Nat) (w : World), Num w g (a.n.natAbs * b.d.natAbs) → Num w h (b.n.natAbs * a.d.natAbs) → Calls Try.prog 43 #[.slice (some ⟨g, 0, none⟩) 5 5, .bool ma, .slice (some ⟨h, 0, none⟩) 5 5, .bool mb] w fun e w' => ∃ k, e = .returned (.tuple #[.slice (some ⟨k, 0, none⟩) 5 5, .bool false]) ∧ w.heap.size ≤ k ∧ Num w' k N ∧ Below w.heap.size w w'))
    (HGive : Hid (∀ (g h : Nat) (w : World), Num w g (N) → Num w h (a.d.natAbs * b.d.natAbs) → Calls Try.prog 35 #[.bool false, .slice (some ⟨g, 0, none⟩) 5 5, .slice (some ⟨h, 0, none⟩) 5 5] w fun e w' => e = .returned (.tuple #[.agg #[.int .i64 v, .int .i64 u], .int .i64 er]) ∧ Below w.heap.size w w'))
    (ea : decide (a.n < 0) = ma) (eb : decide (b.n < 0) = mb)
    : Calls Try.prog 17 #[.agg #[.int .i64 a.n, .int .i64 a.d], .agg #[.int .i64 b.n, .int .i64 b.d]] w fun e w' => e = .returned (.tuple #[.agg #[.int .i64 v, .int .i64 u], .int .i64 er]) ∧ Below w.heap.size w w' := by
  obtain ⟨W, hW⟩ : ∃ W, W = Two a b w := ⟨_, rfl⟩
  have T0 : TwoAt a b w.heap.size W := by rw [hW]; exact two_at a b w
  have B0 : Below w.heap.size w W := by rw [hW]; exact two_below a b w
  unfold Two at hW
  have HW := Lib.hid hW
  clear hW
  go_enter Try.func17, Try.ntmps17
  go_wp2_with fail
  rw [← HW.out]
  refine (HA.out _).mono ?_
  rintro e w1 ⟨rfl, b1⟩
  have T1 := T0.below b1
  have B1 := Below.trans B0 (b1.mono B0.size)
  obtain ⟨c1, c2, c3, c4, c5, c6, c7, c8, c9⟩ := T1
  go_wp2_with fail
  refine (HB.out _).mono ?_
  rintro e w2 ⟨rfl, b2⟩
  have T2 := TwoAt.below ⟨c1, c2, c3, c4, c5, c6, c7, c8, c9⟩ b2
  have B2 := Below.trans B1 (b2.mono B1.size)
  clear c1 c2 c3 c4 c5 c6 c7 c8 c9
  obtain ⟨c1, c2, c3, c4, c5, c6, c7, c8, c9⟩ := T2
  go_wp2_with fail
  go_region_held3 (fun w' => w'.cell? ⟨w.heap.size, 0, none⟩ = some (.int .i64 a.n) ∧ w'.cell? ⟨w.heap.size, 1, none⟩ = some (.int .i64 a.d) ∧ w'.cell? ⟨w.heap.size + 1, 0, none⟩ = some (.int .i64 b.n) ∧ w'.cell? ⟨w.heap.size + 1, 1, none⟩ = some (.int .i64 b.d) ∧ (∃ v, w'.cell? ⟨w.heap.size + 1 + 1, 0, none⟩ = some v) ∧ (∃ v, w'.cell? ⟨w.heap.size + 1 + 1, 1, none⟩ = some v) ∧ w'.frozen? ⟨w.heap.size + 1 + 1, 0, none⟩ = false ∧ w'.frozen? ⟨w.heap.size + 1 + 1, 1, none⟩ = false ∧ w.heap.size + 3 ≤ w'.heap.size ∧ Below w.heap.size w w')
    (first
      | assumption
      | exact two_keep bt rfl (by assumption)
      | exact two_keep (Below.drew (Below.refl _ _)) rfl ⟨c1, c2, c3, c4, ⟨_, c5⟩, ⟨_, c6⟩, c7, c8, c9, B2⟩)
    (first
      | (go_at_call_of 36 (Value.int .i64 a.n); refine (of_num a.n _ Qan.out.1 Qan.out.2).mono ?_; rintro e wt ⟨kA, rfl, hkA, NA, bt⟩; have nA := Lib.hid NA; clear NA)
      | (go_at_call_of 36 (Value.int .i64 b.d); refine (of_num b.d _ Qbd.out.1 Qbd.out.2).mono ?_; rintro e wt ⟨kB, rfl, hkB, NB, bt⟩; have nB := Lib.hid NB; clear NB; have nA := Lib.hid (Num.below nA.out bt rfl))
      | (go_at_call_of 36 (Value.int .i64 b.n); refine (of_num b.n _ Qbn.out.1 Qbn.out.2).mono ?_; rintro e wt ⟨kC, rfl, hkC, NC, bt⟩; have nC := Lib.hid NC; clear NC; have nT := Lib.hid (Num.below nT.out bt rfl))
      | (go_at_call_of 36 (Value.int .i64 a.d); refine (of_num a.d _ Qad.out.1 Qad.out.2).mono ?_; rintro e wt ⟨kD, rfl, hkD, ND, bt⟩; have nD := Lib.hid ND; clear ND; have nT := Lib.hid (Num.below nT.out bt rfl); have nC := Lib.hid (Num.below nC.out bt rfl))
      | (go_at_call 44; refine (times_num kC kD _ _ _ nC.out nD.out P2.out.1 P2.out.2).mono ?_; rintro e wt ⟨kU, rfl, hkU, NU, bt⟩; have nU := Lib.hid NU; clear NU; have nT := Lib.hid (Num.below nT.out bt rfl))
      | (go_at_call 44; refine (times_num kA kB _ _ _ nA.out nB.out P1.out.1 P1.out.2).mono ?_; rintro e wt ⟨kT, rfl, hkT, NT, bt⟩; have nT := Lib.hid NT; clear NT)
      | (go_at_call 43; refine (HSum.out kT kU _ nT.out nU.out).mono ?_; rintro e wt ⟨kN, rfl, hkN, NN, bt⟩; have nN := Lib.hid NN; clear NN))
  have hold : Hold2 a b w.heap.size w wt := by assumption
  have ND := Lib.hid (Row5.drew1 nN.out)
  clear nN
  have nN := ND
  generalize wt = w5 at *
  obtain ⟨d1, d2, d3, d4, ⟨y5, d5⟩, ⟨y6, d6⟩, d7, d8, d9, B5⟩ := hold
  clear c1 c2 c3 c4 c5 c6 c7 c8 c9
  go_wp2_with fail
  refine wp_region_held_drew (S := fun w' => w'.cell? ⟨w.heap.size, 0, none⟩ = some (.int .i64 a.n) ∧ w'.cell? ⟨w.heap.size, 1, none⟩ = some (.int .i64 a.d) ∧ w'.cell? ⟨w.heap.size + 1, 0, none⟩ = some (.int .i64 b.n) ∧ w'.cell? ⟨w.heap.size + 1, 1, none⟩ = some (.int .i64 b.d) ∧ (∃ v, w'.cell? ⟨w.heap.size + 1 + 1, 0, none⟩ = some v) ∧ (∃ v, w'.cell? ⟨w.heap.size + 1 + 1, 1, none⟩ = some v) ∧ w'.frozen? ⟨w.heap.size + 1 + 1, 0, none⟩ = false ∧ w'.frozen? ⟨w.heap.size + 1 + 1, 1, none⟩ = false ∧ w.heap.size + 3 ≤ w'.heap.size ∧ Below w.heap.size w w') (by kernel_rfl) ?_ (fun hHeld => ?_)
  · first
      | assumption
      | exact two_keep bt rfl (by assumption)
      | exact two_set _ _ (by assumption)
      | exact two_keep (Below.drew (Below.refl _ _)) rfl ⟨d1, d2, d3, d4, ⟨_, d5⟩, ⟨_, d6⟩, d7, d8, d9, B5⟩
  refine wpAnyH_take (i := 0) (v := ?_) rfl (by kernel_rfl) (by kernel_rfl) (by kernel_rfl) (fun _ _ _ h => h) (Or.inl ⟨by kernel_rfl, ?_⟩) (by assumption) ?_
  rotate_left
  · (intro w hSw; (try dsimp only at hSw); go_simp; first | done | with_reducible rfl)
  try simp only [Act.put, List.setIfInBounds_toArray, List.set_cons_zero, List.set_cons_succ]
  refine wpAnyH_take (i := 1) (v := ?_) rfl (by kernel_rfl) (by kernel_rfl) (by kernel_rfl) (fun _ _ _ h => h) (Or.inl ⟨by kernel_rfl, ?_⟩) (by assumption) ?_
  rotate_left
  · (intro w hSw; (try dsimp only at hSw); go_simp; first | done | with_reducible rfl)
  try simp only [Act.put, List.setIfInBounds_toArray, List.set_cons_zero, List.set_cons_succ]
  refine wpAnyH_take (i := 2) (v := undef) rfl (by kernel_rfl) (by kernel_rfl) (by kernel_rfl) (fun _ _ _ h => h) (Or.inr ⟨by kernel_rfl, rfl⟩) (by assumption) ?_
  try simp only [Act.put, List.setIfInBounds_toArray, List.set_cons_zero, List.set_cons_succ]
  refine wpAnyH_take (i := 3) (v := undef) rfl (by kernel_rfl) (by kernel_rfl) (by kernel_rfl) (fun _ _ _ h => h) (Or.inr ⟨by kernel_rfl, rfl⟩) (by assumption) ?_
  try simp only [Act.put, List.setIfInBounds_toArray, List.set_cons_zero, List.set_cons_succ]
  refine wpAnyH_take (i := 4) (v := undef) rfl (by kernel_rfl) (by kernel_rfl) (by kernel_rfl) (fun _ _ _ h => h) (Or.inr ⟨by kernel_rfl, rfl⟩) (by assumption) ?_
  try simp only [Act.put, List.setIfInBounds_toArray, List.set_cons_zero, List.set_cons_succ]
  refine wpAnyH_take (i := 5) (v := ?_) rfl (by kernel_rfl) (by kernel_rfl) (by kernel_rfl) (fun _ _ _ h => h) (Or.inl ⟨by kernel_rfl, ?_⟩) (by assumption) ?_
  rotate_left
  · (intro w hSw; (try dsimp only at hSw); go_simp; first | done | with_reducible rfl)
  try simp only [Act.put, List.setIfInBounds_toArray, List.set_cons_zero, List.set_cons_succ]
  refine wpAnyH_take (i := 6) (v := ?_) rfl (by kernel_rfl) (by kernel_rfl) (by kernel_rfl) (fun _ _ _ h => h) (Or.inl ⟨by kernel_rfl, ?_⟩) (by assumption) ?_
  rotate_left
  · (intro w hSw; (try dsimp only at hSw); go_simp; first | done | with_reducible rfl)
  try simp only [Act.put, List.setIfInBounds_toArray, List.set_cons_zero, List.set_cons_succ]
  refine wpAnyH_take (i := 7) (v := ?_) rfl (by kernel_rfl) (by kernel_rfl) (by kernel_rfl) (fun _ _ _ h => h) (Or.inl ⟨by kernel_rfl, ?_⟩) (by assumption) ?_
  rotate_left
  · (intro w hSw; (try dsimp only at hSw); go_simp; first | done | with_reducible rfl)
  try simp only [Act.put, List.setIfInBounds_toArray, List.set_cons_zero, List.set_cons_succ]
  refine wpAnyH_take (i := 8) (v := ?_) rfl (by kernel_rfl) (by kernel_rfl) (by kernel_rfl) (fun _ _ _ h => h) (Or.inl ⟨by kernel_rfl, ?_⟩) (by assumption) ?_
  rotate_left
  · (intro w hSw; (try dsimp only at hSw); go_simp; first | done | with_reducible rfl)
  try simp only [Act.put, List.setIfInBounds_toArray, List.set_cons_zero, List.set_cons_succ]
  refine wpAnyH_take (i := 10) (v := ?_) rfl (by kernel_rfl) (by kernel_rfl) (by kernel_rfl) (fun _ _ _ h => h) (Or.inl ⟨by kernel_rfl, ?_⟩) (by assumption) ?_
  rotate_left
  · (intro w hSw; (try dsimp only at hSw); go_simp; first | done | with_reducible rfl)
  try simp only [Act.put, List.setIfInBounds_toArray, List.set_cons_zero, List.set_cons_succ]
  refine wpAnyH_take (i := 11) (v := ?_) rfl (by kernel_rfl) (by kernel_rfl) (by kernel_rfl) (fun _ _ _ h => h) (Or.inl ⟨by kernel_rfl, ?_⟩) (by assumption) ?_
  rotate_left
  · (intro w hSw; (try dsimp only at hSw); go_simp; first | done | with_reducible rfl)
  try simp only [Act.put, List.setIfInBounds_toArray, List.set_cons_zero, List.set_cons_succ]
  refine wpAnyH_ready (rs := [9]) (by kernel_rfl) (by simp) ?_
  refine AllReadyH.cons rfl (fun K hK => ?_) AllReadyH.nil
  go_simp
  go_at_call_of 36 (Value.int .i64 a.d); refine (of_num a.d _ Qad.out.1 Qad.out.2).mono ?_; rintro e wt ⟨kA, rfl, hkA, NA, bt⟩; have nA := Lib.hid NA; clear NA; have nN := Lib.hid (Num.below nN.out bt rfl)
  (try go_wp2_with fail)
  refine hK.out _ _ ?_ (fun hHeld => ?_)
  · first
      | assumption
      | exact two_keep bt rfl (by assumption)
      | exact two_set _ _ (by assumption)
      | exact two_keep (Below.drew (Below.refl _ _)) rfl ⟨d1, d2, d3, d4, ⟨_, d5⟩, ⟨_, d6⟩, d7, d8, d9, B5⟩
  clear hK K
  try simp only [Act.put, List.setIfInBounds_toArray, List.set_cons_zero, List.set_cons_succ]
  refine wpAnyH_ready (rs := [12]) (by kernel_rfl) (by simp) ?_
  refine AllReadyH.cons rfl (fun K hK => ?_) AllReadyH.nil
  go_simp
  go_at_call_of 36 (Value.int .i64 b.d); refine (of_num b.d _ Qbd.out.1 Qbd.out.2).mono ?_; rintro e wt ⟨kB, rfl, hkB, NB, bt⟩; have nB := Lib.hid NB; clear NB; have nN := Lib.hid (Num.below nN.out bt rfl); have nA := Lib.hid (Num.below nA.out bt rfl)
  (try go_wp2_with fail)
  refine hK.out _ _ ?_ (fun hHeld => ?_)
  · first
      | assumption
      | exact two_keep bt rfl (by assumption)
      | exact two_set _ _ (by assumption)
      | exact two_keep (Below.drew (Below.refl _ _)) rfl ⟨d1, d2, d3, d4, ⟨_, d5⟩, ⟨_, d6⟩, d7, d8, d9, B5⟩
  clear hK K
  try simp only [Act.put, List.setIfInBounds_toArray, List.set_cons_zero, List.set_cons_succ]
  refine wpAnyH_ready (rs := [13]) (by kernel_rfl) (by simp) ?_
  refine AllReadyH.cons rfl (fun K hK => ?_) AllReadyH.nil
  go_simp
  go_at_call 44; refine (times_num kA kB _ _ _ nA.out nB.out P3.out.1 P3.out.2).mono ?_; rintro e wt ⟨kT, rfl, hkT, NT, bt⟩; have nT := Lib.hid NT; clear NT; have nN := Lib.hid (Num.below nN.out bt rfl)
  (try go_wp2_with fail)
  refine hK.out _ _ ?_ (fun hHeld => ?_)
  · first
      | assumption
      | exact two_keep bt rfl (by assumption)
      | exact two_set _ _ (by assumption)
      | exact two_keep (Below.drew (Below.refl _ _)) rfl ⟨d1, d2, d3, d4, ⟨_, d5⟩, ⟨_, d6⟩, d7, d8, d9, B5⟩
  clear hK K
  try simp only [Act.put, List.setIfInBounds_toArray, List.set_cons_zero, List.set_cons_succ]
  refine wpAnyH_ready (rs := [14]) (by kernel_rfl) (by simp) ?_
  refine AllReadyH.cons rfl (fun K hK => ?_) AllReadyH.nil
  go_simp
  go_at_call 35; refine (HGive.out kN kT _ nN.out nT.out).mono ?_; rintro e wt ⟨rfl, bt⟩; obtain ⟨k1, k2, k3, k4, ⟨z0, k5⟩, ⟨z1, k6⟩, k7, k8, k9, k10⟩ := two_keep bt rfl (by assumption)
  (try go_wp2_with fail)
  refine hK.out _ _ ?_ (fun hHeld => ?_)
  · first
      | assumption
      | exact two_keep bt rfl (by assumption)
      | exact two_set _ _ (by assumption)
      | exact two_keep (Below.drew (Below.refl _ _)) rfl ⟨d1, d2, d3, d4, ⟨_, d5⟩, ⟨_, d6⟩, d7, d8, d9, B5⟩
  clear hK K
  try simp only [Act.put, List.setIfInBounds_toArray, List.set_cons_zero, List.set_cons_succ]
  refine wpAnyH_take (i := 15) (v := ?_) rfl (by kernel_rfl) (by kernel_rfl) (by kernel_rfl) (fun _ _ _ h => h) (Or.inl ⟨by kernel_rfl, ?_⟩) (by assumption) ?_
  rotate_left
  · (intro w hSw; (try dsimp only at hSw); go_simp; first | done | with_reducible rfl)
  try simp only [Act.put, List.setIfInBounds_toArray, List.set_cons_zero, List.set_cons_succ]
  refine wpAnyH_take (i := 16) (v := ?_) rfl (by kernel_rfl) (by kernel_rfl) (by kernel_rfl) (fun _ _ _ h => h) (Or.inl ⟨by kernel_rfl, ?_⟩) (by assumption) ?_
  rotate_left
  · (intro w hSw; (try dsimp only at hSw); go_simp; first | done | with_reducible rfl)
  try simp only [Act.put, List.setIfInBounds_toArray, List.set_cons_zero, List.set_cons_succ]
  refine wpAnyH_ready (rs := [17]) (by kernel_rfl) (by simp) ?_
  refine AllReadyH.cons rfl (fun K hK => ?_) AllReadyH.nil
  go_simp
  refine hK.out _ _ ?_ (fun hHeld => ?_)
  · first
      | assumption
      | exact two_keep bt rfl (by assumption)
      | exact two_set _ _ (by assumption)
      | exact two_keep (Below.drew (Below.refl _ _)) rfl ⟨d1, d2, d3, d4, ⟨_, d5⟩, ⟨_, d6⟩, d7, d8, d9, B5⟩
  clear hK K
  try simp only [Act.put, List.setIfInBounds_toArray, List.set_cons_zero, List.set_cons_succ]
  refine wpAnyH_ready (rs := [18]) (by kernel_rfl) (by simp) ?_
  refine AllReadyH.cons rfl (fun K hK => ?_) AllReadyH.nil
  go_simp
  refine hK.out _ _ ?_ (fun hHeld => ?_)
  · first
      | assumption
      | exact two_keep bt rfl (by assumption)
      | exact two_set _ _ (by assumption)
      | exact two_keep (Below.drew (Below.refl _ _)) rfl ⟨d1, d2, d3, d4, ⟨_, d5⟩, ⟨_, d6⟩, d7, d8, d9, B5⟩
  clear hK K
  try simp only [Act.put, List.setIfInBounds_toArray, List.set_cons_zero, List.set_cons_succ]
  refine wpAnyH_done (by kernel_rfl) ?_ _
  all_goals go_wp2_with fail
  all_goals refine bodyPost_ret (v := .tuple #[.agg #[.int .i64 v, .int .i64 u], .int .i64 er]) (by simp [results, Try.results17, go_sem, *]) rfl ⟨rfl, ?_⟩
  all_goals exact Below.setCell (Below.setCell k10 (by simp only; omega) _) (by simp only; omega) _

set_option linter.unusedSimpArgs false in
set_option maxHeartbeats 4000000 in
theorem radd_neg (a b : Q) (ma mb : Bool) (N : Nat) (v u er : Int) (w : World)
    (HA : Hid (∀ w, Calls Try.prog 15 #[.agg #[.int .i64 a.n, .int .i64 a.d]] w fun e w' => e = .returned (.bool true) ∧ Below w.heap.size w w'))
    (HB : Hid (∀ w, Calls Try.prog 15 #[.agg #[.int .i64 b.n, .int .i64 b.d]] w fun e w' => e = .returned (.bool true) ∧ Below w.heap.size w w'))
    (Qan : Hid (-9223372036854775808 ≤ a.n ∧ a.n ≤ 9223372036854775807)) (Qad : Hid (-9223372036854775808 ≤ a.d ∧ a.d ≤ 9223372036854775807)) (Qbn : Hid (-9223372036854775808 ≤ b.n ∧ b.n ≤ 9223372036854775807)) (Qbd : Hid (-9223372036854775808 ≤ b.d ∧ b.d ≤ 9223372036854775807))
    (P1 : Hid (a.n.natAbs * b.d.natAbs < 1073741824 ^ 5 ∧ a.n.natAbs < 1073741824 ^ 5))
    (P2 : Hid (b.n.natAbs * a.d.natAbs < 1073741824 ^ 5 ∧ b.n.natAbs < 1073741824 ^ 5))
    (P3 : Hid (a.d.natAbs * b.d.natAbs < 1073741824 ^ 5 ∧ a.d.natAbs < 1073741824 ^ 5))
    (HSum : Hid (∀ (g h : Nat) (w : World), Num w g (a.n.natAbs * b.d.natAbs) → Num w h (b.n.natAbs * a.d.natAbs) → Calls Try.prog 43 #[.slice (some ⟨g, 0, none⟩) 5 5, .bool ma, .slice (some ⟨h, 0, none⟩) 5 5, .bool mb] w fun e w' => ∃ k, e = .returned (.tuple #[.slice (some ⟨k, 0, none⟩) 5 5, .bool true]) ∧ w.heap.size ≤ k ∧ Num w' k N ∧ Below w.heap.size w w'))
    (HGive : Hid (∀ (g h : Nat) (w : World), Num w g (N) → Num w h (a.d.natAbs * b.d.natAbs) → Calls Try.prog 35 #[.bool true, .slice (some ⟨g, 0, none⟩) 5 5, .slice (some ⟨h, 0, none⟩) 5 5] w fun e w' => e = .returned (.tuple #[.agg #[.int .i64 v, .int .i64 u], .int .i64 er]) ∧ Below w.heap.size w w'))
    (ea : decide (a.n < 0) = ma) (eb : decide (b.n < 0) = mb)
    (LN : Hid (N < 1073741824 ^ 5)) (hz : decide (N = 0) = false)
    : Calls Try.prog 17 #[.agg #[.int .i64 a.n, .int .i64 a.d], .agg #[.int .i64 b.n, .int .i64 b.d]] w fun e w' => e = .returned (.tuple #[.agg #[.int .i64 v, .int .i64 u], .int .i64 er]) ∧ Below w.heap.size w w' := by
  obtain ⟨W, hW⟩ : ∃ W, W = Two a b w := ⟨_, rfl⟩
  have T0 : TwoAt a b w.heap.size W := by rw [hW]; exact two_at a b w
  have B0 : Below w.heap.size w W := by rw [hW]; exact two_below a b w
  unfold Two at hW
  have HW := Lib.hid hW
  clear hW
  go_enter Try.func17, Try.ntmps17
  go_wp2_with fail
  rw [← HW.out]
  refine (HA.out _).mono ?_
  rintro e w1 ⟨rfl, b1⟩
  have T1 := T0.below b1
  have B1 := Below.trans B0 (b1.mono B0.size)
  obtain ⟨c1, c2, c3, c4, c5, c6, c7, c8, c9⟩ := T1
  go_wp2_with fail
  refine (HB.out _).mono ?_
  rintro e w2 ⟨rfl, b2⟩
  have T2 := TwoAt.below ⟨c1, c2, c3, c4, c5, c6, c7, c8, c9⟩ b2
  have B2 := Below.trans B1 (b2.mono B1.size)
  clear c1 c2 c3 c4 c5 c6 c7 c8 c9
  obtain ⟨c1, c2, c3, c4, c5, c6, c7, c8, c9⟩ := T2
  go_wp2_with fail
  go_region_held3 (fun w' => w'.cell? ⟨w.heap.size, 0, none⟩ = some (.int .i64 a.n) ∧ w'.cell? ⟨w.heap.size, 1, none⟩ = some (.int .i64 a.d) ∧ w'.cell? ⟨w.heap.size + 1, 0, none⟩ = some (.int .i64 b.n) ∧ w'.cell? ⟨w.heap.size + 1, 1, none⟩ = some (.int .i64 b.d) ∧ (∃ v, w'.cell? ⟨w.heap.size + 1 + 1, 0, none⟩ = some v) ∧ (∃ v, w'.cell? ⟨w.heap.size + 1 + 1, 1, none⟩ = some v) ∧ w'.frozen? ⟨w.heap.size + 1 + 1, 0, none⟩ = false ∧ w'.frozen? ⟨w.heap.size + 1 + 1, 1, none⟩ = false ∧ w.heap.size + 3 ≤ w'.heap.size ∧ Below w.heap.size w w')
    (first
      | assumption
      | exact two_keep bt rfl (by assumption)
      | exact two_keep (Below.drew (Below.refl _ _)) rfl ⟨c1, c2, c3, c4, ⟨_, c5⟩, ⟨_, c6⟩, c7, c8, c9, B2⟩)
    (first
      | (go_at_call_of 36 (Value.int .i64 a.n); refine (of_num a.n _ Qan.out.1 Qan.out.2).mono ?_; rintro e wt ⟨kA, rfl, hkA, NA, bt⟩; have nA := Lib.hid NA; clear NA)
      | (go_at_call_of 36 (Value.int .i64 b.d); refine (of_num b.d _ Qbd.out.1 Qbd.out.2).mono ?_; rintro e wt ⟨kB, rfl, hkB, NB, bt⟩; have nB := Lib.hid NB; clear NB; have nA := Lib.hid (Num.below nA.out bt rfl))
      | (go_at_call_of 36 (Value.int .i64 b.n); refine (of_num b.n _ Qbn.out.1 Qbn.out.2).mono ?_; rintro e wt ⟨kC, rfl, hkC, NC, bt⟩; have nC := Lib.hid NC; clear NC; have nT := Lib.hid (Num.below nT.out bt rfl))
      | (go_at_call_of 36 (Value.int .i64 a.d); refine (of_num a.d _ Qad.out.1 Qad.out.2).mono ?_; rintro e wt ⟨kD, rfl, hkD, ND, bt⟩; have nD := Lib.hid ND; clear ND; have nT := Lib.hid (Num.below nT.out bt rfl); have nC := Lib.hid (Num.below nC.out bt rfl))
      | (go_at_call 44; refine (times_num kC kD _ _ _ nC.out nD.out P2.out.1 P2.out.2).mono ?_; rintro e wt ⟨kU, rfl, hkU, NU, bt⟩; have nU := Lib.hid NU; clear NU; have nT := Lib.hid (Num.below nT.out bt rfl))
      | (go_at_call 44; refine (times_num kA kB _ _ _ nA.out nB.out P1.out.1 P1.out.2).mono ?_; rintro e wt ⟨kT, rfl, hkT, NT, bt⟩; have nT := Lib.hid NT; clear NT)
      | (go_at_call 43; refine (HSum.out kT kU _ nT.out nU.out).mono ?_; rintro e wt ⟨kN, rfl, hkN, NN, bt⟩; have nN := Lib.hid NN; clear NN))
  have hold : Hold2 a b w.heap.size w wt := by assumption
  have ND := Lib.hid (Row5.drew1 nN.out)
  clear nN
  have nN := ND
  generalize wt = w5 at *
  obtain ⟨d1, d2, d3, d4, ⟨y5, d5⟩, ⟨y6, d6⟩, d7, d8, d9, B5⟩ := hold
  clear c1 c2 c3 c4 c5 c6 c7 c8 c9
  go_wp2_with fail
  refine wp_region_held_drew (S := fun w' => w'.cell? ⟨w.heap.size, 0, none⟩ = some (.int .i64 a.n) ∧ w'.cell? ⟨w.heap.size, 1, none⟩ = some (.int .i64 a.d) ∧ w'.cell? ⟨w.heap.size + 1, 0, none⟩ = some (.int .i64 b.n) ∧ w'.cell? ⟨w.heap.size + 1, 1, none⟩ = some (.int .i64 b.d) ∧ (∃ v, w'.cell? ⟨w.heap.size + 1 + 1, 0, none⟩ = some v) ∧ (∃ v, w'.cell? ⟨w.heap.size + 1 + 1, 1, none⟩ = some v) ∧ w'.frozen? ⟨w.heap.size + 1 + 1, 0, none⟩ = false ∧ w'.frozen? ⟨w.heap.size + 1 + 1, 1, none⟩ = false ∧ w.heap.size + 3 ≤ w'.heap.size ∧ Below w.heap.size w w') (by kernel_rfl) ?_ (fun hHeld => ?_)
  · first
      | assumption
      | exact two_keep bt rfl (by assumption)
      | exact two_set _ _ (by assumption)
      | exact two_keep (Below.drew (Below.refl _ _)) rfl ⟨d1, d2, d3, d4, ⟨_, d5⟩, ⟨_, d6⟩, d7, d8, d9, B5⟩
  refine wpAnyH_take (i := 0) (v := ?_) rfl (by kernel_rfl) (by kernel_rfl) (by kernel_rfl) (fun _ _ _ h => h) (Or.inl ⟨by kernel_rfl, ?_⟩) (by assumption) ?_
  rotate_left
  · (intro w hSw; (try dsimp only at hSw); go_simp; first | done | with_reducible rfl)
  try simp only [Act.put, List.setIfInBounds_toArray, List.set_cons_zero, List.set_cons_succ]
  refine wpAnyH_take (i := 1) (v := ?_) rfl (by kernel_rfl) (by kernel_rfl) (by kernel_rfl) (fun _ _ _ h => h) (Or.inl ⟨by kernel_rfl, ?_⟩) (by assumption) ?_
  rotate_left
  · (intro w hSw; (try dsimp only at hSw); go_simp; first | done | with_reducible rfl)
  try simp only [Act.put, List.setIfInBounds_toArray, List.set_cons_zero, List.set_cons_succ]
  refine wpAnyH_take (i := 2) (v := ?_) rfl (by kernel_rfl) (by kernel_rfl) (by kernel_rfl) (fun _ _ _ h => h) (Or.inl ⟨by kernel_rfl, ?_⟩) (by assumption) ?_
  rotate_left
  · (intro w hSw; (try dsimp only at hSw); go_simp; first | done | with_reducible rfl)
  try simp only [Act.put, List.setIfInBounds_toArray, List.set_cons_zero, List.set_cons_succ]
  refine wpAnyH_take (i := 6) (v := ?_) rfl (by kernel_rfl) (by kernel_rfl) (by kernel_rfl) (fun _ _ _ h => h) (Or.inl ⟨by kernel_rfl, ?_⟩) (by assumption) ?_
  rotate_left
  · (intro w hSw; (try dsimp only at hSw); go_simp; first | done | with_reducible rfl)
  try simp only [Act.put, List.setIfInBounds_toArray, List.set_cons_zero, List.set_cons_succ]
  refine wpAnyH_take (i := 7) (v := ?_) rfl (by kernel_rfl) (by kernel_rfl) (by kernel_rfl) (fun _ _ _ h => h) (Or.inl ⟨by kernel_rfl, ?_⟩) (by assumption) ?_
  rotate_left
  · (intro w hSw; (try dsimp only at hSw); go_simp; first | done | with_reducible rfl)
  try simp only [Act.put, List.setIfInBounds_toArray, List.set_cons_zero, List.set_cons_succ]
  refine wpAnyH_take (i := 8) (v := ?_) rfl (by kernel_rfl) (by kernel_rfl) (by kernel_rfl) (fun _ _ _ h => h) (Or.inl ⟨by kernel_rfl, ?_⟩) (by assumption) ?_
  rotate_left
  · (intro w hSw; (try dsimp only at hSw); go_simp; first | done | with_reducible rfl)
  try simp only [Act.put, List.setIfInBounds_toArray, List.set_cons_zero, List.set_cons_succ]
  refine wpAnyH_take (i := 10) (v := ?_) rfl (by kernel_rfl) (by kernel_rfl) (by kernel_rfl) (fun _ _ _ h => h) (Or.inl ⟨by kernel_rfl, ?_⟩) (by assumption) ?_
  rotate_left
  · (intro w hSw; (try dsimp only at hSw); go_simp; first | done | with_reducible rfl)
  try simp only [Act.put, List.setIfInBounds_toArray, List.set_cons_zero, List.set_cons_succ]
  refine wpAnyH_take (i := 11) (v := ?_) rfl (by kernel_rfl) (by kernel_rfl) (by kernel_rfl) (fun _ _ _ h => h) (Or.inl ⟨by kernel_rfl, ?_⟩) (by assumption) ?_
  rotate_left
  · (intro w hSw; (try dsimp only at hSw); go_simp; first | done | with_reducible rfl)
  try simp only [Act.put, List.setIfInBounds_toArray, List.set_cons_zero, List.set_cons_succ]
  refine wpAnyH_ready (rs := [3]) (by kernel_rfl) (by simp) ?_
  refine AllReadyH.cons rfl (fun K hK => ?_) AllReadyH.nil
  go_simp
  go_at_call 45; refine (zero_num kN _ _ nN.out LN.out).mono ?_; rintro e wt ⟨rfl, bt⟩; have nN := Lib.hid (Num.below nN.out bt rfl)
  (try go_wp2_with fail)
  refine hK.out _ _ ?_ (fun hHeld => ?_)
  · first
      | assumption
      | exact two_keep bt rfl (by assumption)
      | exact two_set _ _ (by assumption)
      | exact two_keep (Below.drew (Below.refl _ _)) rfl ⟨d1, d2, d3, d4, ⟨_, d5⟩, ⟨_, d6⟩, d7, d8, d9, B5⟩
  clear hK K
  try simp only [Act.put, List.setIfInBounds_toArray, List.set_cons_zero, List.set_cons_succ]
  refine wpAnyH_take (i := 4) (v := ?_) rfl (by kernel_rfl) (by kernel_rfl) (by kernel_rfl) (fun _ _ _ h => h) (Or.inl ⟨by kernel_rfl, ?_⟩) (by assumption) ?_
  rotate_left
  · (intro w hSw; (try dsimp only at hSw); go_simp; first | done | with_reducible rfl)
  try simp only [Act.put, List.setIfInBounds_toArray, List.set_cons_zero, List.set_cons_succ]
  refine wpAnyH_take (i := 5) (v := ?_) rfl (by kernel_rfl) (by kernel_rfl) (by kernel_rfl) (fun _ _ _ h => h) (Or.inl ⟨by kernel_rfl, ?_⟩) (by assumption) ?_
  rotate_left
  · (intro w hSw; (try dsimp only at hSw); go_simp; first | done | with_reducible rfl)
  try simp only [Act.put, List.setIfInBounds_toArray, List.set_cons_zero, List.set_cons_succ]
  refine wpAnyH_ready (rs := [9]) (by kernel_rfl) (by simp) ?_
  refine AllReadyH.cons rfl (fun K hK => ?_) AllReadyH.nil
  go_simp
  go_at_call_of 36 (Value.int .i64 a.d); refine (of_num a.d _ Qad.out.1 Qad.out.2).mono ?_; rintro e wt ⟨kA, rfl, hkA, NA, bt⟩; have nA := Lib.hid NA; clear NA; have nN := Lib.hid (Num.below nN.out bt rfl)
  (try go_wp2_with fail)
  refine hK.out _ _ ?_ (fun hHeld => ?_)
  · first
      | assumption
      | exact two_keep bt rfl (by assumption)
      | exact two_set _ _ (by assumption)
      | exact two_keep (Below.drew (Below.refl _ _)) rfl ⟨d1, d2, d3, d4, ⟨_, d5⟩, ⟨_, d6⟩, d7, d8, d9, B5⟩
  clear hK K
  try simp only [Act.put, List.setIfInBounds_toArray, List.set_cons_zero, List.set_cons_succ]
  refine wpAnyH_ready (rs := [12]) (by kernel_rfl) (by simp) ?_
  refine AllReadyH.cons rfl (fun K hK => ?_) AllReadyH.nil
  go_simp
  go_at_call_of 36 (Value.int .i64 b.d); refine (of_num b.d _ Qbd.out.1 Qbd.out.2).mono ?_; rintro e wt ⟨kB, rfl, hkB, NB, bt⟩; have nB := Lib.hid NB; clear NB; have nN := Lib.hid (Num.below nN.out bt rfl); have nA := Lib.hid (Num.below nA.out bt rfl)
  (try go_wp2_with fail)
  refine hK.out _ _ ?_ (fun hHeld => ?_)
  · first
      | assumption
      | exact two_keep bt rfl (by assumption)
      | exact two_set _ _ (by assumption)
      | exact two_keep (Below.drew (Below.refl _ _)) rfl ⟨d1, d2, d3, d4, ⟨_, d5⟩, ⟨_, d6⟩, d7, d8, d9, B5⟩
  clear hK K
  try simp only [Act.put, List.setIfInBounds_toArray, List.set_cons_zero, List.set_cons_succ]
  refine wpAnyH_ready (rs := [13]) (by kernel_rfl) (by simp) ?_
  refine AllReadyH.cons rfl (fun K hK => ?_) AllReadyH.nil
  go_simp
  go_at_call 44; refine (times_num kA kB _ _ _ nA.out nB.out P3.out.1 P3.out.2).mono ?_; rintro e wt ⟨kT, rfl, hkT, NT, bt⟩; have nT := Lib.hid NT; clear NT; have nN := Lib.hid (Num.below nN.out bt rfl)
  (try go_wp2_with fail)
  refine hK.out _ _ ?_ (fun hHeld => ?_)
  · first
      | assumption
      | exact two_keep bt rfl (by assumption)
      | exact two_set _ _ (by assumption)
      | exact two_keep (Below.drew (Below.refl _ _)) rfl ⟨d1, d2, d3, d4, ⟨_, d5⟩, ⟨_, d6⟩, d7, d8, d9, B5⟩
  clear hK K
  try simp only [Act.put, List.setIfInBounds_toArray, List.set_cons_zero, List.set_cons_succ]
  refine wpAnyH_ready (rs := [14]) (by kernel_rfl) (by simp) ?_
  refine AllReadyH.cons rfl (fun K hK => ?_) AllReadyH.nil
  go_simp
  go_at_call 35; refine (HGive.out kN kT _ nN.out nT.out).mono ?_; rintro e wt ⟨rfl, bt⟩; obtain ⟨k1, k2, k3, k4, ⟨z0, k5⟩, ⟨z1, k6⟩, k7, k8, k9, k10⟩ := two_keep bt rfl (by assumption)
  (try go_wp2_with fail)
  refine hK.out _ _ ?_ (fun hHeld => ?_)
  · first
      | assumption
      | exact two_keep bt rfl (by assumption)
      | exact two_set _ _ (by assumption)
      | exact two_keep (Below.drew (Below.refl _ _)) rfl ⟨d1, d2, d3, d4, ⟨_, d5⟩, ⟨_, d6⟩, d7, d8, d9, B5⟩
  clear hK K
  try simp only [Act.put, List.setIfInBounds_toArray, List.set_cons_zero, List.set_cons_succ]
  refine wpAnyH_take (i := 15) (v := ?_) rfl (by kernel_rfl) (by kernel_rfl) (by kernel_rfl) (fun _ _ _ h => h) (Or.inl ⟨by kernel_rfl, ?_⟩) (by assumption) ?_
  rotate_left
  · (intro w hSw; (try dsimp only at hSw); go_simp; first | done | with_reducible rfl)
  try simp only [Act.put, List.setIfInBounds_toArray, List.set_cons_zero, List.set_cons_succ]
  refine wpAnyH_take (i := 16) (v := ?_) rfl (by kernel_rfl) (by kernel_rfl) (by kernel_rfl) (fun _ _ _ h => h) (Or.inl ⟨by kernel_rfl, ?_⟩) (by assumption) ?_
  rotate_left
  · (intro w hSw; (try dsimp only at hSw); go_simp; first | done | with_reducible rfl)
  try simp only [Act.put, List.setIfInBounds_toArray, List.set_cons_zero, List.set_cons_succ]
  refine wpAnyH_ready (rs := [17]) (by kernel_rfl) (by simp) ?_
  refine AllReadyH.cons rfl (fun K hK => ?_) AllReadyH.nil
  go_simp
  refine hK.out _ _ ?_ (fun hHeld => ?_)
  · first
      | assumption
      | exact two_keep bt rfl (by assumption)
      | exact two_set _ _ (by assumption)
      | exact two_keep (Below.drew (Below.refl _ _)) rfl ⟨d1, d2, d3, d4, ⟨_, d5⟩, ⟨_, d6⟩, d7, d8, d9, B5⟩
  clear hK K
  try simp only [Act.put, List.setIfInBounds_toArray, List.set_cons_zero, List.set_cons_succ]
  refine wpAnyH_ready (rs := [18]) (by kernel_rfl) (by simp) ?_
  refine AllReadyH.cons rfl (fun K hK => ?_) AllReadyH.nil
  go_simp
  refine hK.out _ _ ?_ (fun hHeld => ?_)
  · first
      | assumption
      | exact two_keep bt rfl (by assumption)
      | exact two_set _ _ (by assumption)
      | exact two_keep (Below.drew (Below.refl _ _)) rfl ⟨d1, d2, d3, d4, ⟨_, d5⟩, ⟨_, d6⟩, d7, d8, d9, B5⟩
  clear hK K
  try simp only [Act.put, List.setIfInBounds_toArray, List.set_cons_zero, List.set_cons_succ]
  refine wpAnyH_done (by kernel_rfl) ?_ _
  all_goals go_wp2_with fail
  all_goals refine bodyPost_ret (v := .tuple #[.agg #[.int .i64 v, .int .i64 u], .int .i64 er]) (by simp [results, Try.results17, go_sem, *]) rfl ⟨rfl, ?_⟩
  all_goals exact Below.setCell (Below.setCell k10 (by simp only; omega) _) (by simp only; omega) _

set_option linter.unusedSimpArgs false in
set_option maxHeartbeats 4000000 in
theorem radd_zero (a b : Q) (ma mb : Bool) (N : Nat) (v u er : Int) (w : World)
    (HA : Hid (∀ w, Calls Try.prog 15 #[.agg #[.int .i64 a.n, .int .i64 a.d]] w fun e w' => e = .returned (.bool true) ∧ Below w.heap.size w w'))
    (HB : Hid (∀ w, Calls Try.prog 15 #[.agg #[.int .i64 b.n, .int .i64 b.d]] w fun e w' => e = .returned (.bool true) ∧ Below w.heap.size w w'))
    (Qan : Hid (-9223372036854775808 ≤ a.n ∧ a.n ≤ 9223372036854775807)) (Qad : Hid (-9223372036854775808 ≤ a.d ∧ a.d ≤ 9223372036854775807)) (Qbn : Hid (-9223372036854775808 ≤ b.n ∧ b.n ≤ 9223372036854775807)) (Qbd : Hid (-9223372036854775808 ≤ b.d ∧ b.d ≤ 9223372036854775807))
    (P1 : Hid (a.n.natAbs * b.d.natAbs < 1073741824 ^ 5 ∧ a.n.natAbs < 1073741824 ^ 5))
    (P2 : Hid (b.n.natAbs * a.d.natAbs < 1073741824 ^ 5 ∧ b.n.natAbs < 1073741824 ^ 5))
    (P3 : Hid (a.d.natAbs * b.d.natAbs < 1073741824 ^ 5 ∧ a.d.natAbs < 1073741824 ^ 5))
    (HSum : Hid (∀ (g h : Nat) (w : World), Num w g (a.n.natAbs * b.d.natAbs) → Num w h (b.n.natAbs * a.d.natAbs) → Calls Try.prog 43 #[.slice (some ⟨g, 0, none⟩) 5 5, .bool ma, .slice (some ⟨h, 0, none⟩) 5 5, .bool mb] w fun e w' => ∃ k, e = .returned (.tuple #[.slice (some ⟨k, 0, none⟩) 5 5, .bool true]) ∧ w.heap.size ≤ k ∧ Num w' k N ∧ Below w.heap.size w w'))
    (HGive : Hid (∀ (g h : Nat) (w : World), Num w g (N) → Num w h (a.d.natAbs * b.d.natAbs) → Calls Try.prog 35 #[.bool false, .slice (some ⟨g, 0, none⟩) 5 5, .slice (some ⟨h, 0, none⟩) 5 5] w fun e w' => e = .returned (.tuple #[.agg #[.int .i64 v, .int .i64 u], .int .i64 er]) ∧ Below w.heap.size w w'))
    (ea : decide (a.n < 0) = ma) (eb : decide (b.n < 0) = mb)
    (LN : Hid (N < 1073741824 ^ 5)) (hz : decide (N = 0) = true)
    : Calls Try.prog 17 #[.agg #[.int .i64 a.n, .int .i64 a.d], .agg #[.int .i64 b.n, .int .i64 b.d]] w fun e w' => e = .returned (.tuple #[.agg #[.int .i64 v, .int .i64 u], .int .i64 er]) ∧ Below w.heap.size w w' := by
  obtain ⟨W, hW⟩ : ∃ W, W = Two a b w := ⟨_, rfl⟩
  have T0 : TwoAt a b w.heap.size W := by rw [hW]; exact two_at a b w
  have B0 : Below w.heap.size w W := by rw [hW]; exact two_below a b w
  unfold Two at hW
  have HW := Lib.hid hW
  clear hW
  go_enter Try.func17, Try.ntmps17
  go_wp2_with fail
  rw [← HW.out]
  refine (HA.out _).mono ?_
  rintro e w1 ⟨rfl, b1⟩
  have T1 := T0.below b1
  have B1 := Below.trans B0 (b1.mono B0.size)
  obtain ⟨c1, c2, c3, c4, c5, c6, c7, c8, c9⟩ := T1
  go_wp2_with fail
  refine (HB.out _).mono ?_
  rintro e w2 ⟨rfl, b2⟩
  have T2 := TwoAt.below ⟨c1, c2, c3, c4, c5, c6, c7, c8, c9⟩ b2
  have B2 := Below.trans B1 (b2.mono B1.size)
  clear c1 c2 c3 c4 c5 c6 c7 c8 c9
  obtain ⟨c1, c2, c3, c4, c5, c6, c7, c8, c9⟩ := T2
  go_wp2_with fail
  go_region_held3 (fun w' => w'.cell? ⟨w.heap.size, 0, none⟩ = some (.int .i64 a.n) ∧ w'.cell? ⟨w.heap.size, 1, none⟩ = some (.int .i64 a.d) ∧ w'.cell? ⟨w.heap.size + 1, 0, none⟩ = some (.int .i64 b.n) ∧ w'.cell? ⟨w.heap.size + 1, 1, none⟩ = some (.int .i64 b.d) ∧ (∃ v, w'.cell? ⟨w.heap.size + 1 + 1, 0, none⟩ = some v) ∧ (∃ v, w'.cell? ⟨w.heap.size + 1 + 1, 1, none⟩ = some v) ∧ w'.frozen? ⟨w.heap.size + 1 + 1, 0, none⟩ = false ∧ w'.frozen? ⟨w.heap.size + 1 + 1, 1, none⟩ = false ∧ w.heap.size + 3 ≤ w'.heap.size ∧ Below w.heap.size w w')
    (first
      | assumption
      | exact two_keep bt rfl (by assumption)
      | exact two_keep (Below.drew (Below.refl _ _)) rfl ⟨c1, c2, c3, c4, ⟨_, c5⟩, ⟨_, c6⟩, c7, c8, c9, B2⟩)
    (first
      | (go_at_call_of 36 (Value.int .i64 a.n); refine (of_num a.n _ Qan.out.1 Qan.out.2).mono ?_; rintro e wt ⟨kA, rfl, hkA, NA, bt⟩; have nA := Lib.hid NA; clear NA)
      | (go_at_call_of 36 (Value.int .i64 b.d); refine (of_num b.d _ Qbd.out.1 Qbd.out.2).mono ?_; rintro e wt ⟨kB, rfl, hkB, NB, bt⟩; have nB := Lib.hid NB; clear NB; have nA := Lib.hid (Num.below nA.out bt rfl))
      | (go_at_call_of 36 (Value.int .i64 b.n); refine (of_num b.n _ Qbn.out.1 Qbn.out.2).mono ?_; rintro e wt ⟨kC, rfl, hkC, NC, bt⟩; have nC := Lib.hid NC; clear NC; have nT := Lib.hid (Num.below nT.out bt rfl))
      | (go_at_call_of 36 (Value.int .i64 a.d); refine (of_num a.d _ Qad.out.1 Qad.out.2).mono ?_; rintro e wt ⟨kD, rfl, hkD, ND, bt⟩; have nD := Lib.hid ND; clear ND; have nT := Lib.hid (Num.below nT.out bt rfl); have nC := Lib.hid (Num.below nC.out bt rfl))
      | (go_at_call 44; refine (times_num kC kD _ _ _ nC.out nD.out P2.out.1 P2.out.2).mono ?_; rintro e wt ⟨kU, rfl, hkU, NU, bt⟩; have nU := Lib.hid NU; clear NU; have nT := Lib.hid (Num.below nT.out bt rfl))
      | (go_at_call 44; refine (times_num kA kB _ _ _ nA.out nB.out P1.out.1 P1.out.2).mono ?_; rintro e wt ⟨kT, rfl, hkT, NT, bt⟩; have nT := Lib.hid NT; clear NT)
      | (go_at_call 43; refine (HSum.out kT kU _ nT.out nU.out).mono ?_; rintro e wt ⟨kN, rfl, hkN, NN, bt⟩; have nN := Lib.hid NN; clear NN))
  have hold : Hold2 a b w.heap.size w wt := by assumption
  have ND := Lib.hid (Row5.drew1 nN.out)
  clear nN
  have nN := ND
  generalize wt = w5 at *
  obtain ⟨d1, d2, d3, d4, ⟨y5, d5⟩, ⟨y6, d6⟩, d7, d8, d9, B5⟩ := hold
  clear c1 c2 c3 c4 c5 c6 c7 c8 c9
  go_wp2_with fail
  refine wp_region_held_drew (S := fun w' => w'.cell? ⟨w.heap.size, 0, none⟩ = some (.int .i64 a.n) ∧ w'.cell? ⟨w.heap.size, 1, none⟩ = some (.int .i64 a.d) ∧ w'.cell? ⟨w.heap.size + 1, 0, none⟩ = some (.int .i64 b.n) ∧ w'.cell? ⟨w.heap.size + 1, 1, none⟩ = some (.int .i64 b.d) ∧ (∃ v, w'.cell? ⟨w.heap.size + 1 + 1, 0, none⟩ = some v) ∧ (∃ v, w'.cell? ⟨w.heap.size + 1 + 1, 1, none⟩ = some v) ∧ w'.frozen? ⟨w.heap.size + 1 + 1, 0, none⟩ = false ∧ w'.frozen? ⟨w.heap.size + 1 + 1, 1, none⟩ = false ∧ w.heap.size + 3 ≤ w'.heap.size ∧ Below w.heap.size w w') (by kernel_rfl) ?_ (fun hHeld => ?_)
  · first
      | assumption
      | exact two_keep bt rfl (by assumption)
      | exact two_set _ _ (by assumption)
      | exact two_keep (Below.drew (Below.refl _ _)) rfl ⟨d1, d2, d3, d4, ⟨_, d5⟩, ⟨_, d6⟩, d7, d8, d9, B5⟩
  refine wpAnyH_take (i := 0) (v := ?_) rfl (by kernel_rfl) (by kernel_rfl) (by kernel_rfl) (fun _ _ _ h => h) (Or.inl ⟨by kernel_rfl, ?_⟩) (by assumption) ?_
  rotate_left
  · (intro w hSw; (try dsimp only at hSw); go_simp; first | done | with_reducible rfl)
  try simp only [Act.put, List.setIfInBounds_toArray, List.set_cons_zero, List.set_cons_succ]
  refine wpAnyH_take (i := 1) (v := ?_) rfl (by kernel_rfl) (by kernel_rfl) (by kernel_rfl) (fun _ _ _ h => h) (Or.inl ⟨by kernel_rfl, ?_⟩) (by assumption) ?_
  rotate_left
  · (intro w hSw; (try dsimp only at hSw); go_simp; first | done | with_reducible rfl)
  try simp only [Act.put, List.setIfInBounds_toArray, List.set_cons_zero, List.set_cons_succ]
  refine wpAnyH_take (i := 2) (v := ?_) rfl (by kernel_rfl) (by kernel_rfl) (by kernel_rfl) (fun _ _ _ h => h) (Or.inl ⟨by kernel_rfl, ?_⟩) (by assumption) ?_
  rotate_left
  · (intro w hSw; (try dsimp only at hSw); go_simp; first | done | with_reducible rfl)
  try simp only [Act.put, List.setIfInBounds_toArray, List.set_cons_zero, List.set_cons_succ]
  refine wpAnyH_take (i := 6) (v := ?_) rfl (by kernel_rfl) (by kernel_rfl) (by kernel_rfl) (fun _ _ _ h => h) (Or.inl ⟨by kernel_rfl, ?_⟩) (by assumption) ?_
  rotate_left
  · (intro w hSw; (try dsimp only at hSw); go_simp; first | done | with_reducible rfl)
  try simp only [Act.put, List.setIfInBounds_toArray, List.set_cons_zero, List.set_cons_succ]
  refine wpAnyH_take (i := 7) (v := ?_) rfl (by kernel_rfl) (by kernel_rfl) (by kernel_rfl) (fun _ _ _ h => h) (Or.inl ⟨by kernel_rfl, ?_⟩) (by assumption) ?_
  rotate_left
  · (intro w hSw; (try dsimp only at hSw); go_simp; first | done | with_reducible rfl)
  try simp only [Act.put, List.setIfInBounds_toArray, List.set_cons_zero, List.set_cons_succ]
  refine wpAnyH_take (i := 8) (v := ?_) rfl (by kernel_rfl) (by kernel_rfl) (by kernel_rfl) (fun _ _ _ h => h) (Or.inl ⟨by kernel_rfl, ?_⟩) (by assumption) ?_
  rotate_left
  · (intro w hSw; (try dsimp only at hSw); go_simp; first | done | with_reducible rfl)
  try simp only [Act.put, List.setIfInBounds_toArray, List.set_cons_zero, List.set_cons_succ]
  refine wpAnyH_take (i := 10) (v := ?_) rfl (by kernel_rfl) (by kernel_rfl) (by kernel_rfl) (fun _ _ _ h => h) (Or.inl ⟨by kernel_rfl, ?_⟩) (by assumption) ?_
  rotate_left
  · (intro w hSw; (try dsimp only at hSw); go_simp; first | done | with_reducible rfl)
  try simp only [Act.put, List.setIfInBounds_toArray, List.set_cons_zero, List.set_cons_succ]
  refine wpAnyH_take (i := 11) (v := ?_) rfl (by kernel_rfl) (by kernel_rfl) (by kernel_rfl) (fun _ _ _ h => h) (Or.inl ⟨by kernel_rfl, ?_⟩) (by assumption) ?_
  rotate_left
  · (intro w hSw; (try dsimp only at hSw); go_simp; first | done | with_reducible rfl)
  try simp only [Act.put, List.setIfInBounds_toArray, List.set_cons_zero, List.set_cons_succ]
  refine wpAnyH_ready (rs := [3]) (by kernel_rfl) (by simp) ?_
  refine AllReadyH.cons rfl (fun K hK => ?_) AllReadyH.nil
  go_simp
  go_at_call 45; refine (zero_num kN _ _ nN.out LN.out).mono ?_; rintro e wt ⟨rfl, bt⟩; have nN := Lib.hid (Num.below nN.out bt rfl)
  (try go_wp2_with fail)
  refine hK.out _ _ ?_ (fun hHeld => ?_)
  · first
      | assumption
      | exact two_keep bt rfl (by assumption)
      | exact two_set _ _ (by assumption)
      | exact two_keep (Below.drew (Below.refl _ _)) rfl ⟨d1, d2, d3, d4, ⟨_, d5⟩, ⟨_, d6⟩, d7, d8, d9, B5⟩
  clear hK K
  try simp only [Act.put, List.setIfInBounds_toArray, List.set_cons_zero, List.set_cons_succ]
  refine wpAnyH_take (i := 4) (v := ?_) rfl (by kernel_rfl) (by kernel_rfl) (by kernel_rfl) (fun _ _ _ h => h) (Or.inl ⟨by kernel_rfl, ?_⟩) (by assumption) ?_
  rotate_left
  · (intro w hSw; (try dsimp only at hSw); go_simp; first | done | with_reducible rfl)
  try simp only [Act.put, List.setIfInBounds_toArray, List.set_cons_zero, List.set_cons_succ]
  refine wpAnyH_take (i := 5) (v := ?_) rfl (by kernel_rfl) (by kernel_rfl) (by kernel_rfl) (fun _ _ _ h => h) (Or.inl ⟨by kernel_rfl, ?_⟩) (by assumption) ?_
  rotate_left
  · (intro w hSw; (try dsimp only at hSw); go_simp; first | done | with_reducible rfl)
  try simp only [Act.put, List.setIfInBounds_toArray, List.set_cons_zero, List.set_cons_succ]
  refine wpAnyH_ready (rs := [9]) (by kernel_rfl) (by simp) ?_
  refine AllReadyH.cons rfl (fun K hK => ?_) AllReadyH.nil
  go_simp
  go_at_call_of 36 (Value.int .i64 a.d); refine (of_num a.d _ Qad.out.1 Qad.out.2).mono ?_; rintro e wt ⟨kA, rfl, hkA, NA, bt⟩; have nA := Lib.hid NA; clear NA; have nN := Lib.hid (Num.below nN.out bt rfl)
  (try go_wp2_with fail)
  refine hK.out _ _ ?_ (fun hHeld => ?_)
  · first
      | assumption
      | exact two_keep bt rfl (by assumption)
      | exact two_set _ _ (by assumption)
      | exact two_keep (Below.drew (Below.refl _ _)) rfl ⟨d1, d2, d3, d4, ⟨_, d5⟩, ⟨_, d6⟩, d7, d8, d9, B5⟩
  clear hK K
  try simp only [Act.put, List.setIfInBounds_toArray, List.set_cons_zero, List.set_cons_succ]
  refine wpAnyH_ready (rs := [12]) (by kernel_rfl) (by simp) ?_
  refine AllReadyH.cons rfl (fun K hK => ?_) AllReadyH.nil
  go_simp
  go_at_call_of 36 (Value.int .i64 b.d); refine (of_num b.d _ Qbd.out.1 Qbd.out.2).mono ?_; rintro e wt ⟨kB, rfl, hkB, NB, bt⟩; have nB := Lib.hid NB; clear NB; have nN := Lib.hid (Num.below nN.out bt rfl); have nA := Lib.hid (Num.below nA.out bt rfl)
  (try go_wp2_with fail)
  refine hK.out _ _ ?_ (fun hHeld => ?_)
  · first
      | assumption
      | exact two_keep bt rfl (by assumption)
      | exact two_set _ _ (by assumption)
      | exact two_keep (Below.drew (Below.refl _ _)) rfl ⟨d1, d2, d3, d4, ⟨_, d5⟩, ⟨_, d6⟩, d7, d8, d9, B5⟩
  clear hK K
  try simp only [Act.put, List.setIfInBounds_toArray, List.set_cons_zero, List.set_cons_succ]
  refine wpAnyH_ready (rs := [13]) (by kernel_rfl) (by simp) ?_
  refine AllReadyH.cons rfl (fun K hK => ?_) AllReadyH.nil
  go_simp
  go_at_call 44; refine (times_num kA kB _ _ _ nA.out nB.out P3.out.1 P3.out.2).mono ?_; rintro e wt ⟨kT, rfl, hkT, NT, bt⟩; have nT := Lib.hid NT; clear NT; have nN := Lib.hid (Num.below nN.out bt rfl)
  (try go_wp2_with fail)
  refine hK.out _ _ ?_ (fun hHeld => ?_)
  · first
      | assumption
      | exact two_keep bt rfl (by assumption)
      | exact two_set _ _ (by assumption)
      | exact two_keep (Below.drew (Below.refl _ _)) rfl ⟨d1, d2, d3, d4, ⟨_, d5⟩, ⟨_, d6⟩, d7, d8, d9, B5⟩
  clear hK K
  try simp only [Act.put, List.setIfInBounds_toArray, List.set_cons_zero, List.set_cons_succ]
  refine wpAnyH_ready (rs := [14]) (by kernel_rfl) (by simp) ?_
  refine AllReadyH.cons rfl (fun K hK => ?_) AllReadyH.nil
  go_simp
  go_at_call 35; refine (HGive.out kN kT _ nN.out nT.out).mono ?_; rintro e wt ⟨rfl, bt⟩; obtain ⟨k1, k2, k3, k4, ⟨z0, k5⟩, ⟨z1, k6⟩, k7, k8, k9, k10⟩ := two_keep bt rfl (by assumption)
  (try go_wp2_with fail)
  refine hK.out _ _ ?_ (fun hHeld => ?_)
  · first
      | assumption
      | exact two_keep bt rfl (by assumption)
      | exact two_set _ _ (by assumption)
      | exact two_keep (Below.drew (Below.refl _ _)) rfl ⟨d1, d2, d3, d4, ⟨_, d5⟩, ⟨_, d6⟩, d7, d8, d9, B5⟩
  clear hK K
  try simp only [Act.put, List.setIfInBounds_toArray, List.set_cons_zero, List.set_cons_succ]
  refine wpAnyH_take (i := 15) (v := ?_) rfl (by kernel_rfl) (by kernel_rfl) (by kernel_rfl) (fun _ _ _ h => h) (Or.inl ⟨by kernel_rfl, ?_⟩) (by assumption) ?_
  rotate_left
  · (intro w hSw; (try dsimp only at hSw); go_simp; first | done | with_reducible rfl)
  try simp only [Act.put, List.setIfInBounds_toArray, List.set_cons_zero, List.set_cons_succ]
  refine wpAnyH_take (i := 16) (v := ?_) rfl (by kernel_rfl) (by kernel_rfl) (by kernel_rfl) (fun _ _ _ h => h) (Or.inl ⟨by kernel_rfl, ?_⟩) (by assumption) ?_
  rotate_left
  · (intro w hSw; (try dsimp only at hSw); go_simp; first | done | with_reducible rfl)
  try simp only [Act.put, List.setIfInBounds_toArray, List.set_cons_zero, List.set_cons_succ]
  refine wpAnyH_ready (rs := [17]) (by kernel_rfl) (by simp) ?_
  refine AllReadyH.cons rfl (fun K hK => ?_) AllReadyH.nil
  go_simp
  refine hK.out _ _ ?_ (fun hHeld => ?_)
  · first
      | assumption
      | exact two_keep bt rfl (by assumption)
      | exact two_set _ _ (by assumption)
      | exact two_keep (Below.drew (Below.refl _ _)) rfl ⟨d1, d2, d3, d4, ⟨_, d5⟩, ⟨_, d6⟩, d7, d8, d9, B5⟩
  clear hK K
  try simp only [Act.put, List.setIfInBounds_toArray, List.set_cons_zero, List.set_cons_succ]
  refine wpAnyH_ready (rs := [18]) (by kernel_rfl) (by simp) ?_
  refine AllReadyH.cons rfl (fun K hK => ?_) AllReadyH.nil
  go_simp
  refine hK.out _ _ ?_ (fun hHeld => ?_)
  · first
      | assumption
      | exact two_keep bt rfl (by assumption)
      | exact two_set _ _ (by assumption)
      | exact two_keep (Below.drew (Below.refl _ _)) rfl ⟨d1, d2, d3, d4, ⟨_, d5⟩, ⟨_, d6⟩, d7, d8, d9, B5⟩
  clear hK K
  try simp only [Act.put, List.setIfInBounds_toArray, List.set_cons_zero, List.set_cons_succ]
  refine wpAnyH_done (by kernel_rfl) ?_ _
  all_goals go_wp2_with fail
  all_goals refine bodyPost_ret (v := .tuple #[.agg #[.int .i64 v, .int .i64 u], .int .i64 er]) (by simp [results, Try.results17, go_sem, *]) rfl ⟨rfl, ?_⟩
  all_goals exact Below.setCell (Below.setCell k10 (by simp only; omega) _) (by simp only; omega) _

end Go.Proofs.Ytfchbkhgoebagaa
