/- The reference's Mul, Div, Add, Compare (several texts in one). -/
import Derived.Test.YtfbijgbpipedoaaGreatDoorRDX1
import Derived.Test.YtfbijgbpipedoaaGreatDoorRt
namespace Go.Proofs.YtfbijgbpipedoaaGreatDoor
open Go.RowKit Ra
attribute [local go_sem ↓] Go.wp_at_zero Go.wp_at_succ

theorem rright_end {a : Q} (h : Q64 a) (b : Bool) (e : rightB a = b) : ∀ w, Calls Tryz.prog 63 #[.agg #[.int .i64 a.n, .int .i64 a.d]] w fun e w' => e = .returned (.bool b) ∧ Below w.heap.size w w' := by
  subst e
  exact fun w => rright_any a w h

set_option maxHeartbeats 2000000 in
theorem rmul_not1 (a b : Q) (w : World) (ha : Q64 a) (h : rightB a = false) :
    Calls Tryz.prog 46 #[.agg #[.int .i64 a.n, .int .i64 a.d], .agg #[.int .i64 b.n, .int .i64 b.d]] w fun e w' => e = .returned (.tuple #[.agg #[.int .i64 0, .int .i64 0], .int .i64 1]) ∧ Below w.heap.size w w' := by
  have HA := Lib.hid (rright_end ha false h)
  obtain ⟨W, hW⟩ : ∃ W, W = Two a b w := ⟨_, rfl⟩
  have T0 : TwoAt a b w.heap.size W := by rw [hW]; exact two_at a b w
  have B0 : Below w.heap.size w W := by rw [hW]; exact two_below a b w
  unfold Two at hW
  have HW := Lib.hid hW
  clear hW h ha
  go_enter Tryz.func46, Tryz.ntmps46
  go_wp2_with fail
  rw [← HW.out]
  refine (HA.out _).mono ?_
  rintro e w1 ⟨rfl, b1⟩
  obtain ⟨c1, c2, c3, c4, c5, c6, c7, c8, c9⟩ := T0.below b1
  go_wp2_with fail
  refine bodyPost_ret (v := .tuple #[.agg #[.int .i64 0, .int .i64 0], .int .i64 1]) (by simp [results, Tryz.results46, go_sem, *]) rfl ⟨rfl, ?_⟩
  exact Below.setCell (Below.setCell (Below.trans B0 (b1.mono B0.size)) (by simp only; omega) _) (by simp only; omega) _

set_option maxHeartbeats 2000000 in
theorem rmul_not2 (a b : Q) (w : World) (ha : Q64 a) (hb : Q64 b) (h : rightB a = true) (h2 : rightB b = false) :
    Calls Tryz.prog 46 #[.agg #[.int .i64 a.n, .int .i64 a.d], .agg #[.int .i64 b.n, .int .i64 b.d]] w fun e w' => e = .returned (.tuple #[.agg #[.int .i64 0, .int .i64 0], .int .i64 1]) ∧ Below w.heap.size w w' := by
  have HA := Lib.hid (rright_end ha true h)
  have HB := Lib.hid (rright_end hb false h2)
  obtain ⟨W, hW⟩ : ∃ W, W = Two a b w := ⟨_, rfl⟩
  have T0 : TwoAt a b w.heap.size W := by rw [hW]; exact two_at a b w
  have B0 : Below w.heap.size w W := by rw [hW]; exact two_below a b w
  unfold Two at hW
  have HW := Lib.hid hW
  clear hW h ha h2 hb
  go_enter Tryz.func46, Tryz.ntmps46
  go_wp2_with fail
  rw [← HW.out]
  refine (HA.out _).mono ?_
  rintro e w1 ⟨rfl, b1⟩
  have T1 := T0.below b1
  have B1 := Below.trans B0 (b1.mono B0.size)
  obtain ⟨c1, c2, c3, c4, c5, c6, c7, c8, c9⟩ := T1
  go_wp2_with fail
  refine (HB.out _).mono ?_
  rintro e w2 ⟨rfl, b2⟩
  have T2 := TwoAt.below ⟨c1, c2, c3, c4, c5, c6, c7, c8, c9⟩ b2
  have B2 := Below.trans B1 (b2.mono B1.size)
  clear c1 c2 c3 c4 c5 c6 c7 c8 c9
  obtain ⟨c1, c2, c3, c4, c5, c6, c7, c8, c9⟩ := T2
  go_wp2_with fail
  refine bodyPost_ret (v := .tuple #[.agg #[.int .i64 0, .int .i64 0], .int .i64 1]) (by simp [results, Tryz.results46, go_sem, *]) rfl ⟨rfl, ?_⟩
  exact Below.setCell (Below.setCell B2 (by simp only; omega) _) (by simp only; omega) _

set_option maxHeartbeats 2000000 in
theorem rdiv_not1 (a b : Q) (w : World) (ha : Q64 a) (h : rightB a = false) :
    Calls Tryz.prog 40 #[.agg #[.int .i64 a.n, .int .i64 a.d], .agg #[.int .i64 b.n, .int .i64 b.d]] w fun e w' => e = .returned (.tuple #[.agg #[.int .i64 0, .int .i64 0], .int .i64 1]) ∧ Below w.heap.size w w' := by
  have HA := Lib.hid (rright_end ha false h)
  obtain ⟨W, hW⟩ : ∃ W, W = Two a b w := ⟨_, rfl⟩
  have T0 : TwoAt a b w.heap.size W := by rw [hW]; exact two_at a b w
  have B0 : Below w.heap.size w W := by rw [hW]; exact two_below a b w
  unfold Two at hW
  have HW := Lib.hid hW
  clear hW h ha
  go_enter Tryz.func40, Tryz.ntmps40
  go_wp2_with fail
  rw [← HW.out]
  refine (HA.out _).mono ?_
  rintro e w1 ⟨rfl, b1⟩
  obtain ⟨c1, c2, c3, c4, c5, c6, c7, c8, c9⟩ := T0.below b1
  go_wp2_with fail
  refine bodyPost_ret (v := .tuple #[.agg #[.int .i64 0, .int .i64 0], .int .i64 1]) (by simp [results, Tryz.results40, go_sem, *]) rfl ⟨rfl, ?_⟩
  exact Below.setCell (Below.setCell (Below.trans B0 (b1.mono B0.size)) (by simp only; omega) _) (by simp only; omega) _

set_option maxHeartbeats 2000000 in
theorem rdiv_not2 (a b : Q) (w : World) (ha : Q64 a) (hb : Q64 b) (h : rightB a = true) (h2 : rightB b = false) :
    Calls Tryz.prog 40 #[.agg #[.int .i64 a.n, .int .i64 a.d], .agg #[.int .i64 b.n, .int .i64 b.d]] w fun e w' => e = .returned (.tuple #[.agg #[.int .i64 0, .int .i64 0], .int .i64 1]) ∧ Below w.heap.size w w' := by
  have HA := Lib.hid (rright_end ha true h)
  have HB := Lib.hid (rright_end hb false h2)
  obtain ⟨W, hW⟩ : ∃ W, W = Two a b w := ⟨_, rfl⟩
  have T0 : TwoAt a b w.heap.size W := by rw [hW]; exact two_at a b w
  have B0 : Below w.heap.size w W := by rw [hW]; exact two_below a b w
  unfold Two at hW
  have HW := Lib.hid hW
  clear hW h ha h2 hb
  go_enter Tryz.func40, Tryz.ntmps40
  go_wp2_with fail
  rw [← HW.out]
  refine (HA.out _).mono ?_
  rintro e w1 ⟨rfl, b1⟩
  have T1 := T0.below b1
  have B1 := Below.trans B0 (b1.mono B0.size)
  obtain ⟨c1, c2, c3, c4, c5, c6, c7, c8, c9⟩ := T1
  go_wp2_with fail
  refine (HB.out _).mono ?_
  rintro e w2 ⟨rfl, b2⟩
  have T2 := TwoAt.below ⟨c1, c2, c3, c4, c5, c6, c7, c8, c9⟩ b2
  have B2 := Below.trans B1 (b2.mono B1.size)
  clear c1 c2 c3 c4 c5 c6 c7 c8 c9
  obtain ⟨c1, c2, c3, c4, c5, c6, c7, c8, c9⟩ := T2
  go_wp2_with fail
  refine bodyPost_ret (v := .tuple #[.agg #[.int .i64 0, .int .i64 0], .int .i64 1]) (by simp [results, Tryz.results40, go_sem, *]) rfl ⟨rfl, ?_⟩
  exact Below.setCell (Below.setCell B2 (by simp only; omega) _) (by simp only; omega) _

set_option maxHeartbeats 2000000 in
theorem radd_not1 (a b : Q) (w : World) (ha : Q64 a) (h : rightB a = false) :
    Calls Tryz.prog 42 #[.agg #[.int .i64 a.n, .int .i64 a.d], .agg #[.int .i64 b.n, .int .i64 b.d]] w fun e w' => e = .returned (.tuple #[.agg #[.int .i64 0, .int .i64 0], .int .i64 1]) ∧ Below w.heap.size w w' := by
  have HA := Lib.hid (rright_end ha false h)
  obtain ⟨W, hW⟩ : ∃ W, W = Two a b w := ⟨_, rfl⟩
  have T0 : TwoAt a b w.heap.size W := by rw [hW]; exact two_at a b w
  have B0 : Below w.heap.size w W := by rw [hW]; exact two_below a b w
  unfold Two at hW
  have HW := Lib.hid hW
  clear hW h ha
  go_enter Tryz.func42, Tryz.ntmps42
  go_wp2_with fail
  rw [← HW.out]
  refine (HA.out _).mono ?_
  rintro e w1 ⟨rfl, b1⟩
  obtain ⟨c1, c2, c3, c4, c5, c6, c7, c8, c9⟩ := T0.below b1
  go_wp2_with fail
  refine bodyPost_ret (v := .tuple #[.agg #[.int .i64 0, .int .i64 0], .int .i64 1]) (by simp [results, Tryz.results42, go_sem, *]) rfl ⟨rfl, ?_⟩
  exact Below.setCell (Below.setCell (Below.trans B0 (b1.mono B0.size)) (by simp only; omega) _) (by simp only; omega) _

set_option maxHeartbeats 2000000 in
theorem radd_not2 (a b : Q) (w : World) (ha : Q64 a) (hb : Q64 b) (h : rightB a = true) (h2 : rightB b = false) :
    Calls Tryz.prog 42 #[.agg #[.int .i64 a.n, .int .i64 a.d], .agg #[.int .i64 b.n, .int .i64 b.d]] w fun e w' => e = .returned (.tuple #[.agg #[.int .i64 0, .int .i64 0], .int .i64 1]) ∧ Below w.heap.size w w' := by
  have HA := Lib.hid (rright_end ha true h)
  have HB := Lib.hid (rright_end hb false h2)
  obtain ⟨W, hW⟩ : ∃ W, W = Two a b w := ⟨_, rfl⟩
  have T0 : TwoAt a b w.heap.size W := by rw [hW]; exact two_at a b w
  have B0 : Below w.heap.size w W := by rw [hW]; exact two_below a b w
  unfold Two at hW
  have HW := Lib.hid hW
  clear hW h ha h2 hb
  go_enter Tryz.func42, Tryz.ntmps42
  go_wp2_with fail
  rw [← HW.out]
  refine (HA.out _).mono ?_
  rintro e w1 ⟨rfl, b1⟩
  have T1 := T0.below b1
  have B1 := Below.trans B0 (b1.mono B0.size)
  obtain ⟨c1, c2, c3, c4, c5, c6, c7, c8, c9⟩ := T1
  go_wp2_with fail
  refine (HB.out _).mono ?_
  rintro e w2 ⟨rfl, b2⟩
  have T2 := TwoAt.below ⟨c1, c2, c3, c4, c5, c6, c7, c8, c9⟩ b2
  have B2 := Below.trans B1 (b2.mono B1.size)
  clear c1 c2 c3 c4 c5 c6 c7 c8 c9
  obtain ⟨c1, c2, c3, c4, c5, c6, c7, c8, c9⟩ := T2
  go_wp2_with fail
  refine bodyPost_ret (v := .tuple #[.agg #[.int .i64 0, .int .i64 0], .int .i64 1]) (by simp [results, Tryz.results42, go_sem, *]) rfl ⟨rfl, ?_⟩
  exact Below.setCell (Below.setCell B2 (by simp only; omega) _) (by simp only; omega) _

set_option linter.unusedSimpArgs false in
set_option maxHeartbeats 4000000 in
theorem rmul_za (a b : Q) (v u er : Int) (w : World)
    (HA : Hid (∀ w, Calls Tryz.prog 63 #[.agg #[.int .i64 a.n, .int .i64 a.d]] w fun e w' => e = .returned (.bool true) ∧ Below w.heap.size w w'))
    (HB : Hid (∀ w, Calls Tryz.prog 63 #[.agg #[.int .i64 b.n, .int .i64 b.d]] w fun e w' => e = .returned (.bool true) ∧ Below w.heap.size w w'))
    (Qan : Hid (-9223372036854775808 ≤ a.n ∧ a.n ≤ 9223372036854775807)) (Qad : Hid (-9223372036854775808 ≤ a.d ∧ a.d ≤ 9223372036854775807)) (Qbn : Hid (-9223372036854775808 ≤ b.n ∧ b.n ≤ 9223372036854775807)) (Qbd : Hid (-9223372036854775808 ≤ b.d ∧ b.d ≤ 9223372036854775807))
    (P1 : Hid (a.n.natAbs * b.n.natAbs < 1073741824 ^ 5 ∧ a.n.natAbs < 1073741824 ^ 5))
    (P2 : Hid (a.d.natAbs * b.d.natAbs < 1073741824 ^ 5 ∧ a.d.natAbs < 1073741824 ^ 5))
    (HGive : Hid (∀ (g h : Nat) (w : World), Num w g (a.n.natAbs * b.n.natAbs) → Num w h (a.d.natAbs * b.d.natAbs) → Calls Tryz.prog 59 #[.bool false, .slice (some ⟨g, 0, none⟩) 5 5, .slice (some ⟨h, 0, none⟩) 5 5] w fun e w' => e = .returned (.tuple #[.agg #[.int .i64 v, .int .i64 u], .int .i64 er]) ∧ Below w.heap.size w w'))
    (za : (a.n != 0) = false)
    : Calls Tryz.prog 46 #[.agg #[.int .i64 a.n, .int .i64 a.d], .agg #[.int .i64 b.n, .int .i64 b.d]] w fun e w' => e = .returned (.tuple #[.agg #[.int .i64 v, .int .i64 u], .int .i64 er]) ∧ Below w.heap.size w w' := by
  obtain ⟨W, hW⟩ : ∃ W, W = Two a b w := ⟨_, rfl⟩
  have T0 : TwoAt a b w.heap.size W := by rw [hW]; exact two_at a b w
  have B0 : Below w.heap.size w W := by rw [hW]; exact two_below a b w
  unfold Two at hW
  have HW := Lib.hid hW
  clear hW
  go_enter Tryz.func46, Tryz.ntmps46
  go_wp2_with fail
  rw [← HW.out]
  refine (HA.out _).mono ?_
  rintro e w1 ⟨rfl, b1⟩
  have T1 := T0.below b1
  have B1 := Below.trans B0 (b1.mono B0.size)
  obtain ⟨c1, c2, c3, c4, c5, c6, c7, c8, c9⟩ := T1
  go_wp2_with fail
  refine (HB.out _).mono ?_
  rintro e w2 ⟨rfl, b2⟩
  have T2 := TwoAt.below ⟨c1, c2, c3, c4, c5, c6, c7, c8, c9⟩ b2
  have B2 := Below.trans B1 (b2.mono B1.size)
  clear c1 c2 c3 c4 c5 c6 c7 c8 c9
  obtain ⟨c1, c2, c3, c4, c5, c6, c7, c8, c9⟩ := T2
  go_wp2_with fail
  refine wp_region_held_drew (S := fun w' => w'.cell? ⟨w.heap.size, 0, none⟩ = some (.int .i64 a.n) ∧ w'.cell? ⟨w.heap.size, 1, none⟩ = some (.int .i64 a.d) ∧ w'.cell? ⟨w.heap.size + 1, 0, none⟩ = some (.int .i64 b.n) ∧ w'.cell? ⟨w.heap.size + 1, 1, none⟩ = some (.int .i64 b.d) ∧ (∃ v, w'.cell? ⟨w.heap.size + 1 + 1, 0, none⟩ = some v) ∧ (∃ v, w'.cell? ⟨w.heap.size + 1 + 1, 1, none⟩ = some v) ∧ w'.frozen? ⟨w.heap.size + 1 + 1, 0, none⟩ = false ∧ w'.frozen? ⟨w.heap.size + 1 + 1, 1, none⟩ = false ∧ w.heap.size + 3 ≤ w'.heap.size ∧ Below w.heap.size w w') (by kernel_rfl) ?_ (fun hHeld => ?_)
  · first
      | assumption
      | exact two_keep bt rfl (by assumption)
      | exact two_set _ _ (by assumption)
      | exact two_keep (Below.drew (Below.refl _ _)) rfl ⟨c1, c2, c3, c4, ⟨_, c5⟩, ⟨_, c6⟩, c7, c8, c9, B2⟩
  refine wpAnyH_take (i := 0) (v := ?_) rfl (by kernel_rfl) (by kernel_rfl) (by kernel_rfl) (fun _ _ _ h => h) (Or.inl ⟨by kernel_rfl, ?_⟩) (by assumption) ?_
  rotate_left
  · (intro w hSw; (try dsimp only at hSw); go_simp; first | done | with_reducible rfl)
  try simp only [Act.put, List.setIfInBounds_toArray, List.set_cons_zero, List.set_cons_succ]
  refine wpAnyH_take (i := 1) (v := ?_) rfl (by kernel_rfl) (by kernel_rfl) (by kernel_rfl) (fun _ _ _ h => h) (Or.inl ⟨by kernel_rfl, ?_⟩) (by assumption) ?_
  rotate_left
  · (intro w hSw; (try dsimp only at hSw); go_simp; first | done | with_reducible rfl)
  try simp only [Act.put, List.setIfInBounds_toArray, List.set_cons_zero, List.set_cons_succ]
  refine wpAnyH_take (i := 2) (v := ?_) rfl (by kernel_rfl) (by kernel_rfl) (by kernel_rfl) (fun _ _ _ h => h) (Or.inl ⟨by kernel_rfl, ?_⟩) (by assumption) ?_
  rotate_left
  · (intro w hSw; (try dsimp only at hSw); go_simp; first | done | with_reducible rfl)
  try simp only [Act.put, List.setIfInBounds_toArray, List.set_cons_zero, List.set_cons_succ]
  refine wpAnyH_take (i := 3) (v := ?_) rfl (by kernel_rfl) (by kernel_rfl) (by kernel_rfl) (fun _ _ _ h => h) (Or.inl ⟨by kernel_rfl, ?_⟩) (by assumption) ?_
  rotate_left
  · (intro w hSw; (try dsimp only at hSw); go_simp; first | done | with_reducible rfl)
  try simp only [Act.put, List.setIfInBounds_toArray, List.set_cons_zero, List.set_cons_succ]
  refine wpAnyH_take (i := 4) (v := undef) rfl (by kernel_rfl) (by kernel_rfl) (by kernel_rfl) (fun _ _ _ h => h) (Or.inr ⟨by kernel_rfl, rfl⟩) (by assumption) ?_
  try simp only [Act.put, List.setIfInBounds_toArray, List.set_cons_zero, List.set_cons_succ]
  refine wpAnyH_take (i := 5) (v := undef) rfl (by kernel_rfl) (by kernel_rfl) (by kernel_rfl) (fun _ _ _ h => h) (Or.inr ⟨by kernel_rfl, rfl⟩) (by assumption) ?_
  try simp only [Act.put, List.setIfInBounds_toArray, List.set_cons_zero, List.set_cons_succ]
  refine wpAnyH_take (i := 6) (v := undef) rfl (by kernel_rfl) (by kernel_rfl) (by kernel_rfl) (fun _ _ _ h => h) (Or.inr ⟨by kernel_rfl, rfl⟩) (by assumption) ?_
  try simp only [Act.put, List.setIfInBounds_toArray, List.set_cons_zero, List.set_cons_succ]
  refine wpAnyH_take (i := 7) (v := ?_) rfl (by kernel_rfl) (by kernel_rfl) (by kernel_rfl) (fun _ _ _ h => h) (Or.inl ⟨by kernel_rfl, ?_⟩) (by assumption) ?_
  rotate_left
  · (intro w hSw; (try dsimp only at hSw); go_simp; first | done | with_reducible rfl)
  try simp only [Act.put, List.setIfInBounds_toArray, List.set_cons_zero, List.set_cons_succ]
  refine wpAnyH_take (i := 8) (v := ?_) rfl (by kernel_rfl) (by kernel_rfl) (by kernel_rfl) (fun _ _ _ h => h) (Or.inl ⟨by kernel_rfl, ?_⟩) (by assumption) ?_
  rotate_left
  · (intro w hSw; (try dsimp only at hSw); go_simp; first | done | with_reducible rfl)
  try simp only [Act.put, List.setIfInBounds_toArray, List.set_cons_zero, List.set_cons_succ]
  refine wpAnyH_take (i := 9) (v := undef) rfl (by kernel_rfl) (by kernel_rfl) (by kernel_rfl) (fun _ _ _ h => h) (Or.inr ⟨by kernel_rfl, rfl⟩) (by assumption) ?_
  try simp only [Act.put, List.setIfInBounds_toArray, List.set_cons_zero, List.set_cons_succ]
  refine wpAnyH_take (i := 10) (v := undef) rfl (by kernel_rfl) (by kernel_rfl) (by kernel_rfl) (fun _ _ _ h => h) (Or.inr ⟨by kernel_rfl, rfl⟩) (by assumption) ?_
  try simp only [Act.put, List.setIfInBounds_toArray, List.set_cons_zero, List.set_cons_succ]
  refine wpAnyH_take (i := 11) (v := undef) rfl (by kernel_rfl) (by kernel_rfl) (by kernel_rfl) (fun _ _ _ h => h) (Or.inr ⟨by kernel_rfl, rfl⟩) (by assumption) ?_
  try simp only [Act.put, List.setIfInBounds_toArray, List.set_cons_zero, List.set_cons_succ]
  refine wpAnyH_take (i := 12) (v := undef) rfl (by kernel_rfl) (by kernel_rfl) (by kernel_rfl) (fun _ _ _ h => h) (Or.inr ⟨by kernel_rfl, rfl⟩) (by assumption) ?_
  try simp only [Act.put, List.setIfInBounds_toArray, List.set_cons_zero, List.set_cons_succ]
  refine wpAnyH_take (i := 13) (v := undef) rfl (by kernel_rfl) (by kernel_rfl) (by kernel_rfl) (fun _ _ _ h => h) (Or.inr ⟨by kernel_rfl, rfl⟩) (by assumption) ?_
  try simp only [Act.put, List.setIfInBounds_toArray, List.set_cons_zero, List.set_cons_succ]
  refine wpAnyH_take (i := 14) (v := undef) rfl (by kernel_rfl) (by kernel_rfl) (by kernel_rfl) (fun _ _ _ h => h) (Or.inr ⟨by kernel_rfl, rfl⟩) (by assumption) ?_
  try simp only [Act.put, List.setIfInBounds_toArray, List.set_cons_zero, List.set_cons_succ]
  refine wpAnyH_take (i := 15) (v := undef) rfl (by kernel_rfl) (by kernel_rfl) (by kernel_rfl) (fun _ _ _ h => h) (Or.inr ⟨by kernel_rfl, rfl⟩) (by assumption) ?_
  try simp only [Act.put, List.setIfInBounds_toArray, List.set_cons_zero, List.set_cons_succ]
  refine wpAnyH_take (i := 16) (v := ?_) rfl (by kernel_rfl) (by kernel_rfl) (by kernel_rfl) (fun _ _ _ h => h) (Or.inl ⟨by kernel_rfl, ?_⟩) (by assumption) ?_
  rotate_left
  · (intro w hSw; (try dsimp only at hSw); go_simp; first | done | with_reducible rfl)
  try simp only [Act.put, List.setIfInBounds_toArray, List.set_cons_zero, List.set_cons_succ]
  refine wpAnyH_take (i := 17) (v := ?_) rfl (by kernel_rfl) (by kernel_rfl) (by kernel_rfl) (fun _ _ _ h => h) (Or.inl ⟨by kernel_rfl, ?_⟩) (by assumption) ?_
  rotate_left
  · (intro w hSw; (try dsimp only at hSw); go_simp; first | done | with_reducible rfl)
  try simp only [Act.put, List.setIfInBounds_toArray, List.set_cons_zero, List.set_cons_succ]
  refine wpAnyH_take (i := 18) (v := ?_) rfl (by kernel_rfl) (by kernel_rfl) (by kernel_rfl) (fun _ _ _ h => h) (Or.inl ⟨by kernel_rfl, ?_⟩) (by assumption) ?_
  rotate_left
  · (intro w hSw; (try dsimp only at hSw); go_simp; first | done | with_reducible rfl)
  try simp only [Act.put, List.setIfInBounds_toArray, List.set_cons_zero, List.set_cons_succ]
  refine wpAnyH_take (i := 20) (v := ?_) rfl (by kernel_rfl) (by kernel_rfl) (by kernel_rfl) (fun _ _ _ h => h) (Or.inl ⟨by kernel_rfl, ?_⟩) (by assumption) ?_
  rotate_left
  · (intro w hSw; (try dsimp only at hSw); go_simp; first | done | with_reducible rfl)
  try simp only [Act.put, List.setIfInBounds_toArray, List.set_cons_zero, List.set_cons_succ]
  refine wpAnyH_take (i := 21) (v := ?_) rfl (by kernel_rfl) (by kernel_rfl) (by kernel_rfl) (fun _ _ _ h => h) (Or.inl ⟨by kernel_rfl, ?_⟩) (by assumption) ?_
  rotate_left
  · (intro w hSw; (try dsimp only at hSw); go_simp; first | done | with_reducible rfl)
  try simp only [Act.put, List.setIfInBounds_toArray, List.set_cons_zero, List.set_cons_succ]
  refine wpAnyH_take (i := 24) (v := ?_) rfl (by kernel_rfl) (by kernel_rfl) (by kernel_rfl) (fun _ _ _ h => h) (Or.inl ⟨by kernel_rfl, ?_⟩) (by assumption) ?_
  rotate_left
  · (intro w hSw; (try dsimp only at hSw); go_simp; first | done | with_reducible rfl)
  try simp only [Act.put, List.setIfInBounds_toArray, List.set_cons_zero, List.set_cons_succ]
  refine wpAnyH_take (i := 25) (v := ?_) rfl (by kernel_rfl) (by kernel_rfl) (by kernel_rfl) (fun _ _ _ h => h) (Or.inl ⟨by kernel_rfl, ?_⟩) (by assumption) ?_
  rotate_left
  · (intro w hSw; (try dsimp only at hSw); go_simp; first | done | with_reducible rfl)
  try simp only [Act.put, List.setIfInBounds_toArray, List.set_cons_zero, List.set_cons_succ]
  refine wpAnyH_take (i := 27) (v := ?_) rfl (by kernel_rfl) (by kernel_rfl) (by kernel_rfl) (fun _ _ _ h => h) (Or.inl ⟨by kernel_rfl, ?_⟩) (by assumption) ?_
  rotate_left
  · (intro w hSw; (try dsimp only at hSw); go_simp; first | done | with_reducible rfl)
  try simp only [Act.put, List.setIfInBounds_toArray, List.set_cons_zero, List.set_cons_succ]
  refine wpAnyH_take (i := 28) (v := ?_) rfl (by kernel_rfl) (by kernel_rfl) (by kernel_rfl) (fun _ _ _ h => h) (Or.inl ⟨by kernel_rfl, ?_⟩) (by assumption) ?_
  rotate_left
  · (intro w hSw; (try dsimp only at hSw); go_simp; first | done | with_reducible rfl)
  try simp only [Act.put, List.setIfInBounds_toArray, List.set_cons_zero, List.set_cons_succ]
  refine wpAnyH_ready (rs := [19]) (by kernel_rfl) (by simp) ?_
  refine AllReadyH.cons rfl (fun K hK => ?_) AllReadyH.nil
  go_simp
  go_at_call_of 60 (Value.int .i64 a.n); refine (of_num a.n _ Qan.out.1 Qan.out.2).mono ?_; rintro e wt ⟨kA, rfl, hkA, NA, bt⟩; have nA := Lib.hid NA; clear NA
  (try go_wp2_with fail)
  refine hK.out _ _ ?_ (fun hHeld => ?_)
  · first
      | assumption
      | exact two_keep bt rfl (by assumption)
      | exact two_set _ _ (by assumption)
      | exact two_keep (Below.drew (Below.refl _ _)) rfl ⟨c1, c2, c3, c4, ⟨_, c5⟩, ⟨_, c6⟩, c7, c8, c9, B2⟩
  clear hK K
  try simp only [Act.put, List.setIfInBounds_toArray, List.set_cons_zero, List.set_cons_succ]
  refine wpAnyH_ready (rs := [22]) (by kernel_rfl) (by simp) ?_
  refine AllReadyH.cons rfl (fun K hK => ?_) AllReadyH.nil
  go_simp
  go_at_call_of 60 (Value.int .i64 b.n); refine (of_num b.n _ Qbn.out.1 Qbn.out.2).mono ?_; rintro e wt ⟨kB, rfl, hkB, NB, bt⟩; have nB := Lib.hid NB; clear NB; have nA := Lib.hid (Num.below nA.out bt rfl)
  (try go_wp2_with fail)
  refine hK.out _ _ ?_ (fun hHeld => ?_)
  · first
      | assumption
      | exact two_keep bt rfl (by assumption)
      | exact two_set _ _ (by assumption)
      | exact two_keep (Below.drew (Below.refl _ _)) rfl ⟨c1, c2, c3, c4, ⟨_, c5⟩, ⟨_, c6⟩, c7, c8, c9, B2⟩
  clear hK K
  try simp only [Act.put, List.setIfInBounds_toArray, List.set_cons_zero, List.set_cons_succ]
  refine wpAnyH_ready (rs := [23]) (by kernel_rfl) (by simp) ?_
  refine AllReadyH.cons rfl (fun K hK => ?_) AllReadyH.nil
  go_simp
  go_at_call 64; refine (times_num kA kB _ _ _ nA.out nB.out P1.out.1 P1.out.2).mono ?_; rintro e wt ⟨kT, rfl, hkT, NT, bt⟩; have nT := Lib.hid NT; clear NT
  (try go_wp2_with fail)
  refine hK.out _ _ ?_ (fun hHeld => ?_)
  · first
      | assumption
      | exact two_keep bt rfl (by assumption)
      | exact two_set _ _ (by assumption)
      | exact two_keep (Below.drew (Below.refl _ _)) rfl ⟨c1, c2, c3, c4, ⟨_, c5⟩, ⟨_, c6⟩, c7, c8, c9, B2⟩
  clear hK K
  try simp only [Act.put, List.setIfInBounds_toArray, List.set_cons_zero, List.set_cons_succ]
  refine wpAnyH_ready (rs := [26]) (by kernel_rfl) (by simp) ?_
  refine AllReadyH.cons rfl (fun K hK => ?_) AllReadyH.nil
  go_simp
  go_at_call_of 60 (Value.int .i64 a.d); refine (of_num a.d _ Qad.out.1 Qad.out.2).mono ?_; rintro e wt ⟨kC, rfl, hkC, NC, bt⟩; have nC := Lib.hid NC; clear NC; have nT := Lib.hid (Num.below nT.out bt rfl)
  (try go_wp2_with fail)
  refine hK.out _ _ ?_ (fun hHeld => ?_)
  · first
      | assumption
      | exact two_keep bt rfl (by assumption)
      | exact two_set _ _ (by assumption)
      | exact two_keep (Below.drew (Below.refl _ _)) rfl ⟨c1, c2, c3, c4, ⟨_, c5⟩, ⟨_, c6⟩, c7, c8, c9, B2⟩
  clear hK K
  try simp only [Act.put, List.setIfInBounds_toArray, List.set_cons_zero, List.set_cons_succ]
  refine wpAnyH_ready (rs := [29]) (by kernel_rfl) (by simp) ?_
  refine AllReadyH.cons rfl (fun K hK => ?_) AllReadyH.nil
  go_simp
  go_at_call_of 60 (Value.int .i64 b.d); refine (of_num b.d _ Qbd.out.1 Qbd.out.2).mono ?_; rintro e wt ⟨kD, rfl, hkD, ND, bt⟩; have nD := Lib.hid ND; clear ND; have nT := Lib.hid (Num.below nT.out bt rfl); have nC := Lib.hid (Num.below nC.out bt rfl)
  (try go_wp2_with fail)
  refine hK.out _ _ ?_ (fun hHeld => ?_)
  · first
      | assumption
      | exact two_keep bt rfl (by assumption)
      | exact two_set _ _ (by assumption)
      | exact two_keep (Below.drew (Below.refl _ _)) rfl ⟨c1, c2, c3, c4, ⟨_, c5⟩, ⟨_, c6⟩, c7, c8, c9, B2⟩
  clear hK K
  try simp only [Act.put, List.setIfInBounds_toArray, List.set_cons_zero, List.set_cons_succ]
  refine wpAnyH_ready (rs := [30]) (by kernel_rfl) (by simp) ?_
  refine AllReadyH.cons rfl (fun K hK => ?_) AllReadyH.nil
  go_simp
  go_at_call 64; refine (times_num kC kD _ _ _ nC.out nD.out P2.out.1 P2.out.2).mono ?_; rintro e wt ⟨kU, rfl, hkU, NU, bt⟩; have nU := Lib.hid NU; clear NU; have nT := Lib.hid (Num.below nT.out bt rfl)
  (try go_wp2_with fail)
  refine hK.out _ _ ?_ (fun hHeld => ?_)
  · first
      | assumption
      | exact two_keep bt rfl (by assumption)
      | exact two_set _ _ (by assumption)
      | exact two_keep (Below.drew (Below.refl _ _)) rfl ⟨c1, c2, c3, c4, ⟨_, c5⟩, ⟨_, c6⟩, c7, c8, c9, B2⟩
  clear hK K
  try simp only [Act.put, List.setIfInBounds_toArray, List.set_cons_zero, List.set_cons_succ]
  refine wpAnyH_ready (rs := [31]) (by kernel_rfl) (by simp) ?_
  refine AllReadyH.cons rfl (fun K hK => ?_) AllReadyH.nil
  go_simp
  go_at_call 59; refine (HGive.out kT kU _ nT.out nU.out).mono ?_; rintro e wt ⟨rfl, bt⟩; obtain ⟨k1, k2, k3, k4, ⟨z0, k5⟩, ⟨z1, k6⟩, k7, k8, k9, k10⟩ := two_keep bt rfl (by assumption)
  (try go_wp2_with fail)
  refine hK.out _ _ ?_ (fun hHeld => ?_)
  · first
      | assumption
      | exact two_keep bt rfl (by assumption)
      | exact two_set _ _ (by assumption)
      | exact two_keep (Below.drew (Below.refl _ _)) rfl ⟨c1, c2, c3, c4, ⟨_, c5⟩, ⟨_, c6⟩, c7, c8, c9, B2⟩
  clear hK K
  try simp only [Act.put, List.setIfInBounds_toArray, List.set_cons_zero, List.set_cons_succ]
  refine wpAnyH_take (i := 32) (v := ?_) rfl (by kernel_rfl) (by kernel_rfl) (by kernel_rfl) (fun _ _ _ h => h) (Or.inl ⟨by kernel_rfl, ?_⟩) (by assumption) ?_
  rotate_left
  · (intro w hSw; (try dsimp only at hSw); go_simp; first | done | with_reducible rfl)
  try simp only [Act.put, List.setIfInBounds_toArray, List.set_cons_zero, List.set_cons_succ]
  refine wpAnyH_take (i := 33) (v := ?_) rfl (by kernel_rfl) (by kernel_rfl) (by kernel_rfl) (fun _ _ _ h => h) (Or.inl ⟨by kernel_rfl, ?_⟩) (by assumption) ?_
  rotate_left
  · (intro w hSw; (try dsimp only at hSw); go_simp; first | done | with_reducible rfl)
  try simp only [Act.put, List.setIfInBounds_toArray, List.set_cons_zero, List.set_cons_succ]
  refine wpAnyH_ready (rs := [34]) (by kernel_rfl) (by simp) ?_
  refine AllReadyH.cons rfl (fun K hK => ?_) AllReadyH.nil
  go_simp
  refine hK.out _ _ ?_ (fun hHeld => ?_)
  · first
      | assumption
      | exact two_keep bt rfl (by assumption)
      | exact two_set _ _ (by assumption)
      | exact two_keep (Below.drew (Below.refl _ _)) rfl ⟨c1, c2, c3, c4, ⟨_, c5⟩, ⟨_, c6⟩, c7, c8, c9, B2⟩
  clear hK K
  try simp only [Act.put, List.setIfInBounds_toArray, List.set_cons_zero, List.set_cons_succ]
  refine wpAnyH_ready (rs := [35]) (by kernel_rfl) (by simp) ?_
  refine AllReadyH.cons rfl (fun K hK => ?_) AllReadyH.nil
  go_simp
  refine hK.out _ _ ?_ (fun hHeld => ?_)
  · first
      | assumption
      | exact two_keep bt rfl (by assumption)
      | exact two_set _ _ (by assumption)
      | exact two_keep (Below.drew (Below.refl _ _)) rfl ⟨c1, c2, c3, c4, ⟨_, c5⟩, ⟨_, c6⟩, c7, c8, c9, B2⟩
  clear hK K
  try simp only [Act.put, List.setIfInBounds_toArray, List.set_cons_zero, List.set_cons_succ]
  refine wpAnyH_done (by kernel_rfl) ?_ _
  all_goals go_wp2_with fail
  all_goals refine bodyPost_ret (v := .tuple #[.agg #[.int .i64 v, .int .i64 u], .int .i64 er]) (by simp [results, Tryz.results46, go_sem, *]) rfl ⟨rfl, ?_⟩
  all_goals exact Below.setCell (Below.setCell k10 (by simp only; omega) _) (by simp only; omega) _

set_option linter.unusedSimpArgs false in
set_option maxHeartbeats 4000000 in
theorem rmul_zb (a b : Q) (v u er : Int) (w : World)
    (HA : Hid (∀ w, Calls Tryz.prog 63 #[.agg #[.int .i64 a.n, .int .i64 a.d]] w fun e w' => e = .returned (.bool true) ∧ Below w.heap.size w w'))
    (HB : Hid (∀ w, Calls Tryz.prog 63 #[.agg #[.int .i64 b.n, .int .i64 b.d]] w fun e w' => e = .returned (.bool true) ∧ Below w.heap.size w w'))
    (Qan : Hid (-9223372036854775808 ≤ a.n ∧ a.n ≤ 9223372036854775807)) (Qad : Hid (-9223372036854775808 ≤ a.d ∧ a.d ≤ 9223372036854775807)) (Qbn : Hid (-9223372036854775808 ≤ b.n ∧ b.n ≤ 9223372036854775807)) (Qbd : Hid (-9223372036854775808 ≤ b.d ∧ b.d ≤ 9223372036854775807))
    (P1 : Hid (a.n.natAbs * b.n.natAbs < 1073741824 ^ 5 ∧ a.n.natAbs < 1073741824 ^ 5))
    (P2 : Hid (a.d.natAbs * b.d.natAbs < 1073741824 ^ 5 ∧ a.d.natAbs < 1073741824 ^ 5))
    (HGive : Hid (∀ (g h : Nat) (w : World), Num w g (a.n.natAbs * b.n.natAbs) → Num w h (a.d.natAbs * b.d.natAbs) → Calls Tryz.prog 59 #[.bool false, .slice (some ⟨g, 0, none⟩) 5 5, .slice (some ⟨h, 0, none⟩) 5 5] w fun e w' => e = .returned (.tuple #[.agg #[.int .i64 v, .int .i64 u], .int .i64 er]) ∧ Below w.heap.size w w'))
    (za : (a.n != 0) = true) (zb : (b.n != 0) = false)
    : Calls Tryz.prog 46 #[.agg #[.int .i64 a.n, .int .i64 a.d], .agg #[.int .i64 b.n, .int .i64 b.d]] w fun e w' => e = .returned (.tuple #[.agg #[.int .i64 v, .int .i64 u], .int .i64 er]) ∧ Below w.heap.size w w' := by
  obtain ⟨W, hW⟩ : ∃ W, W = Two a b w := ⟨_, rfl⟩
  have T0 : TwoAt a b w.heap.size W := by rw [hW]; exact two_at a b w
  have B0 : Below w.heap.size w W := by rw [hW]; exact two_below a b w
  unfold Two at hW
  have HW := Lib.hid hW
  clear hW
  go_enter Tryz.func46, Tryz.ntmps46
  go_wp2_with fail
  rw [← HW.out]
  refine (HA.out _).mono ?_
  rintro e w1 ⟨rfl, b1⟩
  have T1 := T0.below b1
  have B1 := Below.trans B0 (b1.mono B0.size)
  obtain ⟨c1, c2, c3, c4, c5, c6, c7, c8, c9⟩ := T1
  go_wp2_with fail
  refine (HB.out _).mono ?_
  rintro e w2 ⟨rfl, b2⟩
  have T2 := TwoAt.below ⟨c1, c2, c3, c4, c5, c6, c7, c8, c9⟩ b2
  have B2 := Below.trans B1 (b2.mono B1.size)
  clear c1 c2 c3 c4 c5 c6 c7 c8 c9
  obtain ⟨c1, c2, c3, c4, c5, c6, c7, c8, c9⟩ := T2
  go_wp2_with fail
  refine wp_region_held_drew (S := fun w' => w'.cell? ⟨w.heap.size, 0, none⟩ = some (.int .i64 a.n) ∧ w'.cell? ⟨w.heap.size, 1, none⟩ = some (.int .i64 a.d) ∧ w'.cell? ⟨w.heap.size + 1, 0, none⟩ = some (.int .i64 b.n) ∧ w'.cell? ⟨w.heap.size + 1, 1, none⟩ = some (.int .i64 b.d) ∧ (∃ v, w'.cell? ⟨w.heap.size + 1 + 1, 0, none⟩ = some v) ∧ (∃ v, w'.cell? ⟨w.heap.size + 1 + 1, 1, none⟩ = some v) ∧ w'.frozen? ⟨w.heap.size + 1 + 1, 0, none⟩ = false ∧ w'.frozen? ⟨w.heap.size + 1 + 1, 1, none⟩ = false ∧ w.heap.size + 3 ≤ w'.heap.size ∧ Below w.heap.size w w') (by kernel_rfl) ?_ (fun hHeld => ?_)
  · first
      | assumption
      | exact two_keep bt rfl (by assumption)
      | exact two_set _ _ (by assumption)
      | exact two_keep (Below.drew (Below.refl _ _)) rfl ⟨c1, c2, c3, c4, ⟨_, c5⟩, ⟨_, c6⟩, c7, c8, c9, B2⟩
  refine wpAnyH_take (i := 0) (v := ?_) rfl (by kernel_rfl) (by kernel_rfl) (by kernel_rfl) (fun _ _ _ h => h) (Or.inl ⟨by kernel_rfl, ?_⟩) (by assumption) ?_
  rotate_left
  · (intro w hSw; (try dsimp only at hSw); go_simp; first | done | with_reducible rfl)
  try simp only [Act.put, List.setIfInBounds_toArray, List.set_cons_zero, List.set_cons_succ]
  refine wpAnyH_take (i := 1) (v := ?_) rfl (by kernel_rfl) (by kernel_rfl) (by kernel_rfl) (fun _ _ _ h => h) (Or.inl ⟨by kernel_rfl, ?_⟩) (by assumption) ?_
  rotate_left
  · (intro w hSw; (try dsimp only at hSw); go_simp; first | done | with_reducible rfl)
  try simp only [Act.put, List.setIfInBounds_toArray, List.set_cons_zero, List.set_cons_succ]
  refine wpAnyH_take (i := 2) (v := ?_) rfl (by kernel_rfl) (by kernel_rfl) (by kernel_rfl) (fun _ _ _ h => h) (Or.inl ⟨by kernel_rfl, ?_⟩) (by assumption) ?_
  rotate_left
  · (intro w hSw; (try dsimp only at hSw); go_simp; first | done | with_reducible rfl)
  try simp only [Act.put, List.setIfInBounds_toArray, List.set_cons_zero, List.set_cons_succ]
  refine wpAnyH_take (i := 3) (v := ?_) rfl (by kernel_rfl) (by kernel_rfl) (by kernel_rfl) (fun _ _ _ h => h) (Or.inl ⟨by kernel_rfl, ?_⟩) (by assumption) ?_
  rotate_left
  · (intro w hSw; (try dsimp only at hSw); go_simp; first | done | with_reducible rfl)
  try simp only [Act.put, List.setIfInBounds_toArray, List.set_cons_zero, List.set_cons_succ]
  refine wpAnyH_take (i := 4) (v := ?_) rfl (by kernel_rfl) (by kernel_rfl) (by kernel_rfl) (fun _ _ _ h => h) (Or.inl ⟨by kernel_rfl, ?_⟩) (by assumption) ?_
  rotate_left
  · (intro w hSw; (try dsimp only at hSw); go_simp; first | done | with_reducible rfl)
  try simp only [Act.put, List.setIfInBounds_toArray, List.set_cons_zero, List.set_cons_succ]
  refine wpAnyH_take (i := 5) (v := ?_) rfl (by kernel_rfl) (by kernel_rfl) (by kernel_rfl) (fun _ _ _ h => h) (Or.inl ⟨by kernel_rfl, ?_⟩) (by assumption) ?_
  rotate_left
  · (intro w hSw; (try dsimp only at hSw); go_simp; first | done | with_reducible rfl)
  try simp only [Act.put, List.setIfInBounds_toArray, List.set_cons_zero, List.set_cons_succ]
  refine wpAnyH_take (i := 6) (v := ?_) rfl (by kernel_rfl) (by kernel_rfl) (by kernel_rfl) (fun _ _ _ h => h) (Or.inl ⟨by kernel_rfl, ?_⟩) (by assumption) ?_
  rotate_left
  · (intro w hSw; (try dsimp only at hSw); go_simp; first | done | with_reducible rfl)
  try simp only [Act.put, List.setIfInBounds_toArray, List.set_cons_zero, List.set_cons_succ]
  refine wpAnyH_take (i := 7) (v := ?_) rfl (by kernel_rfl) (by kernel_rfl) (by kernel_rfl) (fun _ _ _ h => h) (Or.inl ⟨by kernel_rfl, ?_⟩) (by assumption) ?_
  rotate_left
  · (intro w hSw; (try dsimp only at hSw); go_simp; first | done | with_reducible rfl)
  try simp only [Act.put, List.setIfInBounds_toArray, List.set_cons_zero, List.set_cons_succ]
  refine wpAnyH_take (i := 8) (v := ?_) rfl (by kernel_rfl) (by kernel_rfl) (by kernel_rfl) (fun _ _ _ h => h) (Or.inl ⟨by kernel_rfl, ?_⟩) (by assumption) ?_
  rotate_left
  · (intro w hSw; (try dsimp only at hSw); go_simp; first | done | with_reducible rfl)
  try simp only [Act.put, List.setIfInBounds_toArray, List.set_cons_zero, List.set_cons_succ]
  refine wpAnyH_take (i := 9) (v := undef) rfl (by kernel_rfl) (by kernel_rfl) (by kernel_rfl) (fun _ _ _ h => h) (Or.inr ⟨by kernel_rfl, rfl⟩) (by assumption) ?_
  try simp only [Act.put, List.setIfInBounds_toArray, List.set_cons_zero, List.set_cons_succ]
  refine wpAnyH_take (i := 10) (v := undef) rfl (by kernel_rfl) (by kernel_rfl) (by kernel_rfl) (fun _ _ _ h => h) (Or.inr ⟨by kernel_rfl, rfl⟩) (by assumption) ?_
  try simp only [Act.put, List.setIfInBounds_toArray, List.set_cons_zero, List.set_cons_succ]
  refine wpAnyH_take (i := 11) (v := undef) rfl (by kernel_rfl) (by kernel_rfl) (by kernel_rfl) (fun _ _ _ h => h) (Or.inr ⟨by kernel_rfl, rfl⟩) (by assumption) ?_
  try simp only [Act.put, List.setIfInBounds_toArray, List.set_cons_zero, List.set_cons_succ]
  refine wpAnyH_take (i := 12) (v := undef) rfl (by kernel_rfl) (by kernel_rfl) (by kernel_rfl) (fun _ _ _ h => h) (Or.inr ⟨by kernel_rfl, rfl⟩) (by assumption) ?_
  try simp only [Act.put, List.setIfInBounds_toArray, List.set_cons_zero, List.set_cons_succ]
  refine wpAnyH_take (i := 13) (v := undef) rfl (by kernel_rfl) (by kernel_rfl) (by kernel_rfl) (fun _ _ _ h => h) (Or.inr ⟨by kernel_rfl, rfl⟩) (by assumption) ?_
  try simp only [Act.put, List.setIfInBounds_toArray, List.set_cons_zero, List.set_cons_succ]
  refine wpAnyH_take (i := 14) (v := undef) rfl (by kernel_rfl) (by kernel_rfl) (by kernel_rfl) (fun _ _ _ h => h) (Or.inr ⟨by kernel_rfl, rfl⟩) (by assumption) ?_
  try simp only [Act.put, List.setIfInBounds_toArray, List.set_cons_zero, List.set_cons_succ]
  refine wpAnyH_take (i := 15) (v := undef) rfl (by kernel_rfl) (by kernel_rfl) (by kernel_rfl) (fun _ _ _ h => h) (Or.inr ⟨by kernel_rfl, rfl⟩) (by assumption) ?_
  try simp only [Act.put, List.setIfInBounds_toArray, List.set_cons_zero, List.set_cons_succ]
  refine wpAnyH_take (i := 16) (v := ?_) rfl (by kernel_rfl) (by kernel_rfl) (by kernel_rfl) (fun _ _ _ h => h) (Or.inl ⟨by kernel_rfl, ?_⟩) (by assumption) ?_
  rotate_left
  · (intro w hSw; (try dsimp only at hSw); go_simp; first | done | with_reducible rfl)
  try simp only [Act.put, List.setIfInBounds_toArray, List.set_cons_zero, List.set_cons_succ]
  refine wpAnyH_take (i := 17) (v := ?_) rfl (by kernel_rfl) (by kernel_rfl) (by kernel_rfl) (fun _ _ _ h => h) (Or.inl ⟨by kernel_rfl, ?_⟩) (by assumption) ?_
  rotate_left
  · (intro w hSw; (try dsimp only at hSw); go_simp; first | done | with_reducible rfl)
  try simp only [Act.put, List.setIfInBounds_toArray, List.set_cons_zero, List.set_cons_succ]
  refine wpAnyH_take (i := 18) (v := ?_) rfl (by kernel_rfl) (by kernel_rfl) (by kernel_rfl) (fun _ _ _ h => h) (Or.inl ⟨by kernel_rfl, ?_⟩) (by assumption) ?_
  rotate_left
  · (intro w hSw; (try dsimp only at hSw); go_simp; first | done | with_reducible rfl)
  try simp only [Act.put, List.setIfInBounds_toArray, List.set_cons_zero, List.set_cons_succ]
  refine wpAnyH_take (i := 20) (v := ?_) rfl (by kernel_rfl) (by kernel_rfl) (by kernel_rfl) (fun _ _ _ h => h) (Or.inl ⟨by kernel_rfl, ?_⟩) (by assumption) ?_
  rotate_left
  · (intro w hSw; (try dsimp only at hSw); go_simp; first | done | with_reducible rfl)
  try simp only [Act.put, List.setIfInBounds_toArray, List.set_cons_zero, List.set_cons_succ]
  refine wpAnyH_take (i := 21) (v := ?_) rfl (by kernel_rfl) (by kernel_rfl) (by kernel_rfl) (fun _ _ _ h => h) (Or.inl ⟨by kernel_rfl, ?_⟩) (by assumption) ?_
  rotate_left
  · (intro w hSw; (try dsimp only at hSw); go_simp; first | done | with_reducible rfl)
  try simp only [Act.put, List.setIfInBounds_toArray, List.set_cons_zero, List.set_cons_succ]
  refine wpAnyH_take (i := 24) (v := ?_) rfl (by kernel_rfl) (by kernel_rfl) (by kernel_rfl) (fun _ _ _ h => h) (Or.inl ⟨by kernel_rfl, ?_⟩) (by assumption) ?_
  rotate_left
  · (intro w hSw; (try dsimp only at hSw); go_simp; first | done | with_reducible rfl)
  try simp only [Act.put, List.setIfInBounds_toArray, List.set_cons_zero, List.set_cons_succ]
  refine wpAnyH_take (i := 25) (v := ?_) rfl (by kernel_rfl) (by kernel_rfl) (by kernel_rfl) (fun _ _ _ h => h) (Or.inl ⟨by kernel_rfl, ?_⟩) (by assumption) ?_
  rotate_left
  · (intro w hSw; (try dsimp only at hSw); go_simp; first | done | with_reducible rfl)
  try simp only [Act.put, List.setIfInBounds_toArray, List.set_cons_zero, List.set_cons_succ]
  refine wpAnyH_take (i := 27) (v := ?_) rfl (by kernel_rfl) (by kernel_rfl) (by kernel_rfl) (fun _ _ _ h => h) (Or.inl ⟨by kernel_rfl, ?_⟩) (by assumption) ?_
  rotate_left
  · (intro w hSw; (try dsimp only at hSw); go_simp; first | done | with_reducible rfl)
  try simp only [Act.put, List.setIfInBounds_toArray, List.set_cons_zero, List.set_cons_succ]
  refine wpAnyH_take (i := 28) (v := ?_) rfl (by kernel_rfl) (by kernel_rfl) (by kernel_rfl) (fun _ _ _ h => h) (Or.inl ⟨by kernel_rfl, ?_⟩) (by assumption) ?_
  rotate_left
  · (intro w hSw; (try dsimp only at hSw); go_simp; first | done | with_reducible rfl)
  try simp only [Act.put, List.setIfInBounds_toArray, List.set_cons_zero, List.set_cons_succ]
  refine wpAnyH_ready (rs := [19]) (by kernel_rfl) (by simp) ?_
  refine AllReadyH.cons rfl (fun K hK => ?_) AllReadyH.nil
  go_simp
  go_at_call_of 60 (Value.int .i64 a.n); refine (of_num a.n _ Qan.out.1 Qan.out.2).mono ?_; rintro e wt ⟨kA, rfl, hkA, NA, bt⟩; have nA := Lib.hid NA; clear NA
  (try go_wp2_with fail)
  refine hK.out _ _ ?_ (fun hHeld => ?_)
  · first
      | assumption
      | exact two_keep bt rfl (by assumption)
      | exact two_set _ _ (by assumption)
      | exact two_keep (Below.drew (Below.refl _ _)) rfl ⟨c1, c2, c3, c4, ⟨_, c5⟩, ⟨_, c6⟩, c7, c8, c9, B2⟩
  clear hK K
  try simp only [Act.put, List.setIfInBounds_toArray, List.set_cons_zero, List.set_cons_succ]
  refine wpAnyH_ready (rs := [22]) (by kernel_rfl) (by simp) ?_
  refine AllReadyH.cons rfl (fun K hK => ?_) AllReadyH.nil
  go_simp
  go_at_call_of 60 (Value.int .i64 b.n); refine (of_num b.n _ Qbn.out.1 Qbn.out.2).mono ?_; rintro e wt ⟨kB, rfl, hkB, NB, bt⟩; have nB := Lib.hid NB; clear NB; have nA := Lib.hid (Num.below nA.out bt rfl)
  (try go_wp2_with fail)
  refine hK.out _ _ ?_ (fun hHeld => ?_)
  · first
      | assumption
      | exact two_keep bt rfl (by assumption)
      | exact two_set _ _ (by assumption)
      | exact two_keep (Below.drew (Below.refl _ _)) rfl ⟨c1, c2, c3, c4, ⟨_, c5⟩, ⟨_, c6⟩, c7, c8, c9, B2⟩
  clear hK K
  try simp only [Act.put, List.setIfInBounds_toArray, List.set_cons_zero, List.set_cons_succ]
  refine wpAnyH_ready (rs := [23]) (by kernel_rfl) (by simp) ?_
  refine AllReadyH.cons rfl (fun K hK => ?_) AllReadyH.nil
  go_simp
  go_at_call 64; refine (times_num kA kB _ _ _ nA.out nB.out P1.out.1 P1.out.2).mono ?_; rintro e wt ⟨kT, rfl, hkT, NT, bt⟩; have nT := Lib.hid NT; clear NT
  (try go_wp2_with fail)
  refine hK.out _ _ ?_ (fun hHeld => ?_)
  · first
      | assumption
      | exact two_keep bt rfl (by assumption)
      | exact two_set _ _ (by assumption)
      | exact two_keep (Below.drew (Below.refl _ _)) rfl ⟨c1, c2, c3, c4, ⟨_, c5⟩, ⟨_, c6⟩, c7, c8, c9, B2⟩
  clear hK K
  try simp only [Act.put, List.setIfInBounds_toArray, List.set_cons_zero, List.set_cons_succ]
  refine wpAnyH_ready (rs := [26]) (by kernel_rfl) (by simp) ?_
  refine AllReadyH.cons rfl (fun K hK => ?_) AllReadyH.nil
  go_simp
  go_at_call_of 60 (Value.int .i64 a.d); refine (of_num a.d _ Qad.out.1 Qad.out.2).mono ?_; rintro e wt ⟨kC, rfl, hkC, NC, bt⟩; have nC := Lib.hid NC; clear NC; have nT := Lib.hid (Num.below nT.out bt rfl)
  (try go_wp2_with fail)
  refine hK.out _ _ ?_ (fun hHeld => ?_)
  · first
      | assumption
      | exact two_keep bt rfl (by assumption)
      | exact two_set _ _ (by assumption)
      | exact two_keep (Below.drew (Below.refl _ _)) rfl ⟨c1, c2, c3, c4, ⟨_, c5⟩, ⟨_, c6⟩, c7, c8, c9, B2⟩
  clear hK K
  try simp only [Act.put, List.setIfInBounds_toArray, List.set_cons_zero, List.set_cons_succ]
  refine wpAnyH_ready (rs := [29]) (by kernel_rfl) (by simp) ?_
  refine AllReadyH.cons rfl (fun K hK => ?_) AllReadyH.nil
  go_simp
  go_at_call_of 60 (Value.int .i64 b.d); refine (of_num b.d _ Qbd.out.1 Qbd.out.2).mono ?_; rintro e wt ⟨kD, rfl, hkD, ND, bt⟩; have nD := Lib.hid ND; clear ND; have nT := Lib.hid (Num.below nT.out bt rfl); have nC := Lib.hid (Num.below nC.out bt rfl)
  (try go_wp2_with fail)
  refine hK.out _ _ ?_ (fun hHeld => ?_)
  · first
      | assumption
      | exact two_keep bt rfl (by assumption)
      | exact two_set _ _ (by assumption)
      | exact two_keep (Below.drew (Below.refl _ _)) rfl ⟨c1, c2, c3, c4, ⟨_, c5⟩, ⟨_, c6⟩, c7, c8, c9, B2⟩
  clear hK K
  try simp only [Act.put, List.setIfInBounds_toArray, List.set_cons_zero, List.set_cons_succ]
  refine wpAnyH_ready (rs := [30]) (by kernel_rfl) (by simp) ?_
  refine AllReadyH.cons rfl (fun K hK => ?_) AllReadyH.nil
  go_simp
  go_at_call 64; refine (times_num kC kD _ _ _ nC.out nD.out P2.out.1 P2.out.2).mono ?_; rintro e wt ⟨kU, rfl, hkU, NU, bt⟩; have nU := Lib.hid NU; clear NU; have nT := Lib.hid (Num.below nT.out bt rfl)
  (try go_wp2_with fail)
  refine hK.out _ _ ?_ (fun hHeld => ?_)
  · first
      | assumption
      | exact two_keep bt rfl (by assumption)
      | exact two_set _ _ (by assumption)
      | exact two_keep (Below.drew (Below.refl _ _)) rfl ⟨c1, c2, c3, c4, ⟨_, c5⟩, ⟨_, c6⟩, c7, c8, c9, B2⟩
  clear hK K
  try simp only [Act.put, List.setIfInBounds_toArray, List.set_cons_zero, List.set_cons_succ]
  refine wpAnyH_ready (rs := [31]) (by kernel_rfl) (by simp) ?_
  refine AllReadyH.cons rfl (fun K hK => ?_) AllReadyH.nil
  go_simp
  go_at_call 59; refine (HGive.out kT kU _ nT.out nU.out).mono ?_; rintro e wt ⟨rfl, bt⟩; obtain ⟨k1, k2, k3, k4, ⟨z0, k5⟩, ⟨z1, k6⟩, k7, k8, k9, k10⟩ := two_keep bt rfl (by assumption)
  (try go_wp2_with fail)
  refine hK.out _ _ ?_ (fun hHeld => ?_)
  · first
      | assumption
      | exact two_keep bt rfl (by assumption)
      | exact two_set _ _ (by assumption)
      | exact two_keep (Below.drew (Below.refl _ _)) rfl ⟨c1, c2, c3, c4, ⟨_, c5⟩, ⟨_, c6⟩, c7, c8, c9, B2⟩
  clear hK K
  try simp only [Act.put, List.setIfInBounds_toArray, List.set_cons_zero, List.set_cons_succ]
  refine wpAnyH_take (i := 32) (v := ?_) rfl (by kernel_rfl) (by kernel_rfl) (by kernel_rfl) (fun _ _ _ h => h) (Or.inl ⟨by kernel_rfl, ?_⟩) (by assumption) ?_
  rotate_left
  · (intro w hSw; (try dsimp only at hSw); go_simp; first | done | with_reducible rfl)
  try simp only [Act.put, List.setIfInBounds_toArray, List.set_cons_zero, List.set_cons_succ]
  refine wpAnyH_take (i := 33) (v := ?_) rfl (by kernel_rfl) (by kernel_rfl) (by kernel_rfl) (fun _ _ _ h => h) (Or.inl ⟨by kernel_rfl, ?_⟩) (by assumption) ?_
  rotate_left
  · (intro w hSw; (try dsimp only at hSw); go_simp; first | done | with_reducible rfl)
  try simp only [Act.put, List.setIfInBounds_toArray, List.set_cons_zero, List.set_cons_succ]
  refine wpAnyH_ready (rs := [34]) (by kernel_rfl) (by simp) ?_
  refine AllReadyH.cons rfl (fun K hK => ?_) AllReadyH.nil
  go_simp
  refine hK.out _ _ ?_ (fun hHeld => ?_)
  · first
      | assumption
      | exact two_keep bt rfl (by assumption)
      | exact two_set _ _ (by assumption)
      | exact two_keep (Below.drew (Below.refl _ _)) rfl ⟨c1, c2, c3, c4, ⟨_, c5⟩, ⟨_, c6⟩, c7, c8, c9, B2⟩
  clear hK K
  try simp only [Act.put, List.setIfInBounds_toArray, List.set_cons_zero, List.set_cons_succ]
  refine wpAnyH_ready (rs := [35]) (by kernel_rfl) (by simp) ?_
  refine AllReadyH.cons rfl (fun K hK => ?_) AllReadyH.nil
  go_simp
  refine hK.out _ _ ?_ (fun hHeld => ?_)
  · first
      | assumption
      | exact two_keep bt rfl (by assumption)
      | exact two_set _ _ (by assumption)
      | exact two_keep (Below.drew (Below.refl _ _)) rfl ⟨c1, c2, c3, c4, ⟨_, c5⟩, ⟨_, c6⟩, c7, c8, c9, B2⟩
  clear hK K
  try simp only [Act.put, List.setIfInBounds_toArray, List.set_cons_zero, List.set_cons_succ]
  refine wpAnyH_done (by kernel_rfl) ?_ _
  all_goals go_wp2_with fail
  all_goals refine bodyPost_ret (v := .tuple #[.agg #[.int .i64 v, .int .i64 u], .int .i64 er]) (by simp [results, Tryz.results46, go_sem, *]) rfl ⟨rfl, ?_⟩
  all_goals exact Below.setCell (Below.setCell k10 (by simp only; omega) _) (by simp only; omega) _

set_option linter.unusedSimpArgs false in
set_option maxHeartbeats 4000000 in
theorem rmul_nz (a b : Q) (neg : Bool) (v u er : Int) (w : World)
    (HA : Hid (∀ w, Calls Tryz.prog 63 #[.agg #[.int .i64 a.n, .int .i64 a.d]] w fun e w' => e = .returned (.bool true) ∧ Below w.heap.size w w'))
    (HB : Hid (∀ w, Calls Tryz.prog 63 #[.agg #[.int .i64 b.n, .int .i64 b.d]] w fun e w' => e = .returned (.bool true) ∧ Below w.heap.size w w'))
    (Qan : Hid (-9223372036854775808 ≤ a.n ∧ a.n ≤ 9223372036854775807)) (Qad : Hid (-9223372036854775808 ≤ a.d ∧ a.d ≤ 9223372036854775807)) (Qbn : Hid (-9223372036854775808 ≤ b.n ∧ b.n ≤ 9223372036854775807)) (Qbd : Hid (-9223372036854775808 ≤ b.d ∧ b.d ≤ 9223372036854775807))
    (P1 : Hid (a.n.natAbs * b.n.natAbs < 1073741824 ^ 5 ∧ a.n.natAbs < 1073741824 ^ 5))
    (P2 : Hid (a.d.natAbs * b.d.natAbs < 1073741824 ^ 5 ∧ a.d.natAbs < 1073741824 ^ 5))
    (HGive : Hid (∀ (g h : Nat) (w : World), Num w g (a.n.natAbs * b.n.natAbs) → Num w h (a.d.natAbs * b.d.natAbs) → Calls Tryz.prog 59 #[.bool neg, .slice (some ⟨g, 0, none⟩) 5 5, .slice (some ⟨h, 0, none⟩) 5 5] w fun e w' => e = .returned (.tuple #[.agg #[.int .i64 v, .int .i64 u], .int .i64 er]) ∧ Below w.heap.size w w'))
    (za : (a.n != 0) = true) (zb : (b.n != 0) = true)
    (en : (decide (a.n < 0) == decide (b.n < 0)) = !neg)
    : Calls Tryz.prog 46 #[.agg #[.int .i64 a.n, .int .i64 a.d], .agg #[.int .i64 b.n, .int .i64 b.d]] w fun e w' => e = .returned (.tuple #[.agg #[.int .i64 v, .int .i64 u], .int .i64 er]) ∧ Below w.heap.size w w' := by
  obtain ⟨W, hW⟩ : ∃ W, W = Two a b w := ⟨_, rfl⟩
  have T0 : TwoAt a b w.heap.size W := by rw [hW]; exact two_at a b w
  have B0 : Below w.heap.size w W := by rw [hW]; exact two_below a b w
  unfold Two at hW
  have HW := Lib.hid hW
  clear hW
  go_enter Tryz.func46, Tryz.ntmps46
  go_wp2_with fail
  rw [← HW.out]
  refine (HA.out _).mono ?_
  rintro e w1 ⟨rfl, b1⟩
  have T1 := T0.below b1
  have B1 := Below.trans B0 (b1.mono B0.size)
  obtain ⟨c1, c2, c3, c4, c5, c6, c7, c8, c9⟩ := T1
  go_wp2_with fail
  refine (HB.out _).mono ?_
  rintro e w2 ⟨rfl, b2⟩
  have T2 := TwoAt.below ⟨c1, c2, c3, c4, c5, c6, c7, c8, c9⟩ b2
  have B2 := Below.trans B1 (b2.mono B1.size)
  clear c1 c2 c3 c4 c5 c6 c7 c8 c9
  obtain ⟨c1, c2, c3, c4, c5, c6, c7, c8, c9⟩ := T2
  go_wp2_with fail
  refine wp_region_held_drew (S := fun w' => w'.cell? ⟨w.heap.size, 0, none⟩ = some (.int .i64 a.n) ∧ w'.cell? ⟨w.heap.size, 1, none⟩ = some (.int .i64 a.d) ∧ w'.cell? ⟨w.heap.size + 1, 0, none⟩ = some (.int .i64 b.n) ∧ w'.cell? ⟨w.heap.size + 1, 1, none⟩ = some (.int .i64 b.d) ∧ (∃ v, w'.cell? ⟨w.heap.size + 1 + 1, 0, none⟩ = some v) ∧ (∃ v, w'.cell? ⟨w.heap.size + 1 + 1, 1, none⟩ = some v) ∧ w'.frozen? ⟨w.heap.size + 1 + 1, 0, none⟩ = false ∧ w'.frozen? ⟨w.heap.size + 1 + 1, 1, none⟩ = false ∧ w.heap.size + 3 ≤ w'.heap.size ∧ Below w.heap.size w w') (by kernel_rfl) ?_ (fun hHeld => ?_)
  · first
      | assumption
      | exact two_keep bt rfl (by assumption)
      | exact two_set _ _ (by assumption)
      | exact two_keep (Below.drew (Below.refl _ _)) rfl ⟨c1, c2, c3, c4, ⟨_, c5⟩, ⟨_, c6⟩, c7, c8, c9, B2⟩
  refine wpAnyH_take (i := 0) (v := ?_) rfl (by kernel_rfl) (by kernel_rfl) (by kernel_rfl) (fun _ _ _ h => h) (Or.inl ⟨by kernel_rfl, ?_⟩) (by assumption) ?_
  rotate_left
  · (intro w hSw; (try dsimp only at hSw); go_simp; first | done | with_reducible rfl)
  try simp only [Act.put, List.setIfInBounds_toArray, List.set_cons_zero, List.set_cons_succ]
  refine wpAnyH_take (i := 1) (v := ?_) rfl (by kernel_rfl) (by kernel_rfl) (by kernel_rfl) (fun _ _ _ h => h) (Or.inl ⟨by kernel_rfl, ?_⟩) (by assumption) ?_
  rotate_left
  · (intro w hSw; (try dsimp only at hSw); go_simp; first | done | with_reducible rfl)
  try simp only [Act.put, List.setIfInBounds_toArray, List.set_cons_zero, List.set_cons_succ]
  refine wpAnyH_take (i := 2) (v := ?_) rfl (by kernel_rfl) (by kernel_rfl) (by kernel_rfl) (fun _ _ _ h => h) (Or.inl ⟨by kernel_rfl, ?_⟩) (by assumption) ?_
  rotate_left
  · (intro w hSw; (try dsimp only at hSw); go_simp; first | done | with_reducible rfl)
  try simp only [Act.put, List.setIfInBounds_toArray, List.set_cons_zero, List.set_cons_succ]
  refine wpAnyH_take (i := 3) (v := ?_) rfl (by kernel_rfl) (by kernel_rfl) (by kernel_rfl) (fun _ _ _ h => h) (Or.inl ⟨by kernel_rfl, ?_⟩) (by assumption) ?_
  rotate_left
  · (intro w hSw; (try dsimp only at hSw); go_simp; first | done | with_reducible rfl)
  try simp only [Act.put, List.setIfInBounds_toArray, List.set_cons_zero, List.set_cons_succ]
  refine wpAnyH_take (i := 4) (v := ?_) rfl (by kernel_rfl) (by kernel_rfl) (by kernel_rfl) (fun _ _ _ h => h) (Or.inl ⟨by kernel_rfl, ?_⟩) (by assumption) ?_
  rotate_left
  · (intro w hSw; (try dsimp only at hSw); go_simp; first | done | with_reducible rfl)
  try simp only [Act.put, List.setIfInBounds_toArray, List.set_cons_zero, List.set_cons_succ]
  refine wpAnyH_take (i := 5) (v := ?_) rfl (by kernel_rfl) (by kernel_rfl) (by kernel_rfl) (fun _ _ _ h => h) (Or.inl ⟨by kernel_rfl, ?_⟩) (by assumption) ?_
  rotate_left
  · (intro w hSw; (try dsimp only at hSw); go_simp; first | done | with_reducible rfl)
  try simp only [Act.put, List.setIfInBounds_toArray, List.set_cons_zero, List.set_cons_succ]
  refine wpAnyH_take (i := 6) (v := ?_) rfl (by kernel_rfl) (by kernel_rfl) (by kernel_rfl) (fun _ _ _ h => h) (Or.inl ⟨by kernel_rfl, ?_⟩) (by assumption) ?_
  rotate_left
  · (intro w hSw; (try dsimp only at hSw); go_simp; first | done | with_reducible rfl)
  try simp only [Act.put, List.setIfInBounds_toArray, List.set_cons_zero, List.set_cons_succ]
  refine wpAnyH_take (i := 7) (v := ?_) rfl (by kernel_rfl) (by kernel_rfl) (by kernel_rfl) (fun _ _ _ h => h) (Or.inl ⟨by kernel_rfl, ?_⟩) (by assumption) ?_
  rotate_left
  · (intro w hSw; (try dsimp only at hSw); go_simp; first | done | with_reducible rfl)
  try simp only [Act.put, List.setIfInBounds_toArray, List.set_cons_zero, List.set_cons_succ]
  refine wpAnyH_take (i := 8) (v := ?_) rfl (by kernel_rfl) (by kernel_rfl) (by kernel_rfl) (fun _ _ _ h => h) (Or.inl ⟨by kernel_rfl, ?_⟩) (by assumption) ?_
  rotate_left
  · (intro w hSw; (try dsimp only at hSw); go_simp; first | done | with_reducible rfl)
  try simp only [Act.put, List.setIfInBounds_toArray, List.set_cons_zero, List.set_cons_succ]
  refine wpAnyH_take (i := 9) (v := ?_) rfl (by kernel_rfl) (by kernel_rfl) (by kernel_rfl) (fun _ _ _ h => h) (Or.inl ⟨by kernel_rfl, ?_⟩) (by assumption) ?_
  rotate_left
  · (intro w hSw; (try dsimp only at hSw); go_simp; first | done | with_reducible rfl)
  try simp only [Act.put, List.setIfInBounds_toArray, List.set_cons_zero, List.set_cons_succ]
  refine wpAnyH_take (i := 10) (v := ?_) rfl (by kernel_rfl) (by kernel_rfl) (by kernel_rfl) (fun _ _ _ h => h) (Or.inl ⟨by kernel_rfl, ?_⟩) (by assumption) ?_
  rotate_left
  · (intro w hSw; (try dsimp only at hSw); go_simp; first | done | with_reducible rfl)
  try simp only [Act.put, List.setIfInBounds_toArray, List.set_cons_zero, List.set_cons_succ]
  refine wpAnyH_take (i := 11) (v := ?_) rfl (by kernel_rfl) (by kernel_rfl) (by kernel_rfl) (fun _ _ _ h => h) (Or.inl ⟨by kernel_rfl, ?_⟩) (by assumption) ?_
  rotate_left
  · (intro w hSw; (try dsimp only at hSw); go_simp; first | done | with_reducible rfl)
  try simp only [Act.put, List.setIfInBounds_toArray, List.set_cons_zero, List.set_cons_succ]
  refine wpAnyH_take (i := 12) (v := ?_) rfl (by kernel_rfl) (by kernel_rfl) (by kernel_rfl) (fun _ _ _ h => h) (Or.inl ⟨by kernel_rfl, ?_⟩) (by assumption) ?_
  rotate_left
  · (intro w hSw; (try dsimp only at hSw); go_simp; first | done | with_reducible rfl)
  try simp only [Act.put, List.setIfInBounds_toArray, List.set_cons_zero, List.set_cons_succ]
  refine wpAnyH_take (i := 13) (v := ?_) rfl (by kernel_rfl) (by kernel_rfl) (by kernel_rfl) (fun _ _ _ h => h) (Or.inl ⟨by kernel_rfl, ?_⟩) (by assumption) ?_
  rotate_left
  · (intro w hSw; (try dsimp only at hSw); go_simp; first | done | with_reducible rfl)
  try simp only [Act.put, List.setIfInBounds_toArray, List.set_cons_zero, List.set_cons_succ]
  refine wpAnyH_take (i := 14) (v := ?_) rfl (by kernel_rfl) (by kernel_rfl) (by kernel_rfl) (fun _ _ _ h => h) (Or.inl ⟨by kernel_rfl, ?_⟩) (by assumption) ?_
  rotate_left
  · (intro w hSw; (try dsimp only at hSw); go_simp; first | done | with_reducible rfl)
  try simp only [Act.put, List.setIfInBounds_toArray, List.set_cons_zero, List.set_cons_succ]
  refine wpAnyH_take (i := 15) (v := ?_) rfl (by kernel_rfl) (by kernel_rfl) (by kernel_rfl) (fun _ _ _ h => h) (Or.inl ⟨by kernel_rfl, ?_⟩) (by assumption) ?_
  rotate_left
  · (intro w hSw; (try dsimp only at hSw); go_simp; first | done | with_reducible rfl)
  try simp only [Act.put, List.setIfInBounds_toArray, List.set_cons_zero, List.set_cons_succ]
  refine wpAnyH_take (i := 16) (v := ?_) rfl (by kernel_rfl) (by kernel_rfl) (by kernel_rfl) (fun _ _ _ h => h) (Or.inl ⟨by kernel_rfl, ?_⟩) (by assumption) ?_
  rotate_left
  · (intro w hSw; (try dsimp only at hSw); go_simp; first | done | with_reducible rfl)
  try simp only [Act.put, List.setIfInBounds_toArray, List.set_cons_zero, List.set_cons_succ]
  refine wpAnyH_take (i := 17) (v := ?_) rfl (by kernel_rfl) (by kernel_rfl) (by kernel_rfl) (fun _ _ _ h => h) (Or.inl ⟨by kernel_rfl, ?_⟩) (by assumption) ?_
  rotate_left
  · (intro w hSw; (try dsimp only at hSw); go_simp; first | done | with_reducible rfl)
  try simp only [Act.put, List.setIfInBounds_toArray, List.set_cons_zero, List.set_cons_succ]
  refine wpAnyH_take (i := 18) (v := ?_) rfl (by kernel_rfl) (by kernel_rfl) (by kernel_rfl) (fun _ _ _ h => h) (Or.inl ⟨by kernel_rfl, ?_⟩) (by assumption) ?_
  rotate_left
  · (intro w hSw; (try dsimp only at hSw); go_simp; first | done | with_reducible rfl)
  try simp only [Act.put, List.setIfInBounds_toArray, List.set_cons_zero, List.set_cons_succ]
  refine wpAnyH_take (i := 20) (v := ?_) rfl (by kernel_rfl) (by kernel_rfl) (by kernel_rfl) (fun _ _ _ h => h) (Or.inl ⟨by kernel_rfl, ?_⟩) (by assumption) ?_
  rotate_left
  · (intro w hSw; (try dsimp only at hSw); go_simp; first | done | with_reducible rfl)
  try simp only [Act.put, List.setIfInBounds_toArray, List.set_cons_zero, List.set_cons_succ]
  refine wpAnyH_take (i := 21) (v := ?_) rfl (by kernel_rfl) (by kernel_rfl) (by kernel_rfl) (fun _ _ _ h => h) (Or.inl ⟨by kernel_rfl, ?_⟩) (by assumption) ?_
  rotate_left
  · (intro w hSw; (try dsimp only at hSw); go_simp; first | done | with_reducible rfl)
  try simp only [Act.put, List.setIfInBounds_toArray, List.set_cons_zero, List.set_cons_succ]
  refine wpAnyH_take (i := 24) (v := ?_) rfl (by kernel_rfl) (by kernel_rfl) (by kernel_rfl) (fun _ _ _ h => h) (Or.inl ⟨by kernel_rfl, ?_⟩) (by assumption) ?_
  rotate_left
  · (intro w hSw; (try dsimp only at hSw); go_simp; first | done | with_reducible rfl)
  try simp only [Act.put, List.setIfInBounds_toArray, List.set_cons_zero, List.set_cons_succ]
  refine wpAnyH_take (i := 25) (v := ?_) rfl (by kernel_rfl) (by kernel_rfl) (by kernel_rfl) (fun _ _ _ h => h) (Or.inl ⟨by kernel_rfl, ?_⟩) (by assumption) ?_
  rotate_left
  · (intro w hSw; (try dsimp only at hSw); go_simp; first | done | with_reducible rfl)
  try simp only [Act.put, List.setIfInBounds_toArray, List.set_cons_zero, List.set_cons_succ]
  refine wpAnyH_take (i := 27) (v := ?_) rfl (by kernel_rfl) (by kernel_rfl) (by kernel_rfl) (fun _ _ _ h => h) (Or.inl ⟨by kernel_rfl, ?_⟩) (by assumption) ?_
  rotate_left
  · (intro w hSw; (try dsimp only at hSw); go_simp; first | done | with_reducible rfl)
  try simp only [Act.put, List.setIfInBounds_toArray, List.set_cons_zero, List.set_cons_succ]
  refine wpAnyH_take (i := 28) (v := ?_) rfl (by kernel_rfl) (by kernel_rfl) (by kernel_rfl) (fun _ _ _ h => h) (Or.inl ⟨by kernel_rfl, ?_⟩) (by assumption) ?_
  rotate_left
  · (intro w hSw; (try dsimp only at hSw); go_simp; first | done | with_reducible rfl)
  try simp only [Act.put, List.setIfInBounds_toArray, List.set_cons_zero, List.set_cons_succ]
  refine wpAnyH_ready (rs := [19]) (by kernel_rfl) (by simp) ?_
  refine AllReadyH.cons rfl (fun K hK => ?_) AllReadyH.nil
  go_simp
  go_at_call_of 60 (Value.int .i64 a.n); refine (of_num a.n _ Qan.out.1 Qan.out.2).mono ?_; rintro e wt ⟨kA, rfl, hkA, NA, bt⟩; have nA := Lib.hid NA; clear NA
  (try go_wp2_with fail)
  refine hK.out _ _ ?_ (fun hHeld => ?_)
  · first
      | assumption
      | exact two_keep bt rfl (by assumption)
      | exact two_set _ _ (by assumption)
      | exact two_keep (Below.drew (Below.refl _ _)) rfl ⟨c1, c2, c3, c4, ⟨_, c5⟩, ⟨_, c6⟩, c7, c8, c9, B2⟩
  clear hK K
  try simp only [Act.put, List.setIfInBounds_toArray, List.set_cons_zero, List.set_cons_succ]
  refine wpAnyH_ready (rs := [22]) (by kernel_rfl) (by simp) ?_
  refine AllReadyH.cons rfl (fun K hK => ?_) AllReadyH.nil
  go_simp
  go_at_call_of 60 (Value.int .i64 b.n); refine (of_num b.n _ Qbn.out.1 Qbn.out.2).mono ?_; rintro e wt ⟨kB, rfl, hkB, NB, bt⟩; have nB := Lib.hid NB; clear NB; have nA := Lib.hid (Num.below nA.out bt rfl)
  (try go_wp2_with fail)
  refine hK.out _ _ ?_ (fun hHeld => ?_)
  · first
      | assumption
      | exact two_keep bt rfl (by assumption)
      | exact two_set _ _ (by assumption)
      | exact two_keep (Below.drew (Below.refl _ _)) rfl ⟨c1, c2, c3, c4, ⟨_, c5⟩, ⟨_, c6⟩, c7, c8, c9, B2⟩
  clear hK K
  try simp only [Act.put, List.setIfInBounds_toArray, List.set_cons_zero, List.set_cons_succ]
  refine wpAnyH_ready (rs := [23]) (by kernel_rfl) (by simp) ?_
  refine AllReadyH.cons rfl (fun K hK => ?_) AllReadyH.nil
  go_simp
  go_at_call 64; refine (times_num kA kB _ _ _ nA.out nB.out P1.out.1 P1.out.2).mono ?_; rintro e wt ⟨kT, rfl, hkT, NT, bt⟩; have nT := Lib.hid NT; clear NT
  (try go_wp2_with fail)
  refine hK.out _ _ ?_ (fun hHeld => ?_)
  · first
      | assumption
      | exact two_keep bt rfl (by assumption)
      | exact two_set _ _ (by assumption)
      | exact two_keep (Below.drew (Below.refl _ _)) rfl ⟨c1, c2, c3, c4, ⟨_, c5⟩, ⟨_, c6⟩, c7, c8, c9, B2⟩
  clear hK K
  try simp only [Act.put, List.setIfInBounds_toArray, List.set_cons_zero, List.set_cons_succ]
  refine wpAnyH_ready (rs := [26]) (by kernel_rfl) (by simp) ?_
  refine AllReadyH.cons rfl (fun K hK => ?_) AllReadyH.nil
  go_simp
  go_at_call_of 60 (Value.int .i64 a.d); refine (of_num a.d _ Qad.out.1 Qad.out.2).mono ?_; rintro e wt ⟨kC, rfl, hkC, NC, bt⟩; have nC := Lib.hid NC; clear NC; have nT := Lib.hid (Num.below nT.out bt rfl)
  (try go_wp2_with fail)
  refine hK.out _ _ ?_ (fun hHeld => ?_)
  · first
      | assumption
      | exact two_keep bt rfl (by assumption)
      | exact two_set _ _ (by assumption)
      | exact two_keep (Below.drew (Below.refl _ _)) rfl ⟨c1, c2, c3, c4, ⟨_, c5⟩, ⟨_, c6⟩, c7, c8, c9, B2⟩
  clear hK K
  try simp only [Act.put, List.setIfInBounds_toArray, List.set_cons_zero, List.set_cons_succ]
  refine wpAnyH_ready (rs := [29]) (by kernel_rfl) (by simp) ?_
  refine AllReadyH.cons rfl (fun K hK => ?_) AllReadyH.nil
  go_simp
  go_at_call_of 60 (Value.int .i64 b.d); refine (of_num b.d _ Qbd.out.1 Qbd.out.2).mono ?_; rintro e wt ⟨kD, rfl, hkD, ND, bt⟩; have nD := Lib.hid ND; clear ND; have nT := Lib.hid (Num.below nT.out bt rfl); have nC := Lib.hid (Num.below nC.out bt rfl)
  (try go_wp2_with fail)
  refine hK.out _ _ ?_ (fun hHeld => ?_)
  · first
      | assumption
      | exact two_keep bt rfl (by assumption)
      | exact two_set _ _ (by assumption)
      | exact two_keep (Below.drew (Below.refl _ _)) rfl ⟨c1, c2, c3, c4, ⟨_, c5⟩, ⟨_, c6⟩, c7, c8, c9, B2⟩
  clear hK K
  try simp only [Act.put, List.setIfInBounds_toArray, List.set_cons_zero, List.set_cons_succ]
  refine wpAnyH_ready (rs := [30]) (by kernel_rfl) (by simp) ?_
  refine AllReadyH.cons rfl (fun K hK => ?_) AllReadyH.nil
  go_simp
  go_at_call 64; refine (times_num kC kD _ _ _ nC.out nD.out P2.out.1 P2.out.2).mono ?_; rintro e wt ⟨kU, rfl, hkU, NU, bt⟩; have nU := Lib.hid NU; clear NU; have nT := Lib.hid (Num.below nT.out bt rfl)
  (try go_wp2_with fail)
  refine hK.out _ _ ?_ (fun hHeld => ?_)
  · first
      | assumption
      | exact two_keep bt rfl (by assumption)
      | exact two_set _ _ (by assumption)
      | exact two_keep (Below.drew (Below.refl _ _)) rfl ⟨c1, c2, c3, c4, ⟨_, c5⟩, ⟨_, c6⟩, c7, c8, c9, B2⟩
  clear hK K
  try simp only [Act.put, List.setIfInBounds_toArray, List.set_cons_zero, List.set_cons_succ]
  refine wpAnyH_ready (rs := [31]) (by kernel_rfl) (by simp) ?_
  refine AllReadyH.cons rfl (fun K hK => ?_) AllReadyH.nil
  go_simp
  go_at_call 59; refine (HGive.out kT kU _ nT.out nU.out).mono ?_; rintro e wt ⟨rfl, bt⟩; obtain ⟨k1, k2, k3, k4, ⟨z0, k5⟩, ⟨z1, k6⟩, k7, k8, k9, k10⟩ := two_keep bt rfl (by assumption)
  (try go_wp2_with fail)
  refine hK.out _ _ ?_ (fun hHeld => ?_)
  · first
      | assumption
      | exact two_keep bt rfl (by assumption)
      | exact two_set _ _ (by assumption)
      | exact two_keep (Below.drew (Below.refl _ _)) rfl ⟨c1, c2, c3, c4, ⟨_, c5⟩, ⟨_, c6⟩, c7, c8, c9, B2⟩
  clear hK K
  try simp only [Act.put, List.setIfInBounds_toArray, List.set_cons_zero, List.set_cons_succ]
  refine wpAnyH_take (i := 32) (v := ?_) rfl (by kernel_rfl) (by kernel_rfl) (by kernel_rfl) (fun _ _ _ h => h) (Or.inl ⟨by kernel_rfl, ?_⟩) (by assumption) ?_
  rotate_left
  · (intro w hSw; (try dsimp only at hSw); go_simp; first | done | with_reducible rfl)
  try simp only [Act.put, List.setIfInBounds_toArray, List.set_cons_zero, List.set_cons_succ]
  refine wpAnyH_take (i := 33) (v := ?_) rfl (by kernel_rfl) (by kernel_rfl) (by kernel_rfl) (fun _ _ _ h => h) (Or.inl ⟨by kernel_rfl, ?_⟩) (by assumption) ?_
  rotate_left
  · (intro w hSw; (try dsimp only at hSw); go_simp; first | done | with_reducible rfl)
  try simp only [Act.put, List.setIfInBounds_toArray, List.set_cons_zero, List.set_cons_succ]
  refine wpAnyH_ready (rs := [34]) (by kernel_rfl) (by simp) ?_
  refine AllReadyH.cons rfl (fun K hK => ?_) AllReadyH.nil
  go_simp
  refine hK.out _ _ ?_ (fun hHeld => ?_)
  · first
      | assumption
      | exact two_keep bt rfl (by assumption)
      | exact two_set _ _ (by assumption)
      | exact two_keep (Below.drew (Below.refl _ _)) rfl ⟨c1, c2, c3, c4, ⟨_, c5⟩, ⟨_, c6⟩, c7, c8, c9, B2⟩
  clear hK K
  try simp only [Act.put, List.setIfInBounds_toArray, List.set_cons_zero, List.set_cons_succ]
  refine wpAnyH_ready (rs := [35]) (by kernel_rfl) (by simp) ?_
  refine AllReadyH.cons rfl (fun K hK => ?_) AllReadyH.nil
  go_simp
  refine hK.out _ _ ?_ (fun hHeld => ?_)
  · first
      | assumption
      | exact two_keep bt rfl (by assumption)
      | exact two_set _ _ (by assumption)
      | exact two_keep (Below.drew (Below.refl _ _)) rfl ⟨c1, c2, c3, c4, ⟨_, c5⟩, ⟨_, c6⟩, c7, c8, c9, B2⟩
  clear hK K
  try simp only [Act.put, List.setIfInBounds_toArray, List.set_cons_zero, List.set_cons_succ]
  refine wpAnyH_done (by kernel_rfl) ?_ _
  all_goals go_wp2_with fail
  all_goals refine bodyPost_ret (v := .tuple #[.agg #[.int .i64 v, .int .i64 u], .int .i64 er]) (by simp [results, Tryz.results46, go_sem, *]) rfl ⟨rfl, ?_⟩
  all_goals exact Below.setCell (Below.setCell k10 (by simp only; omega) _) (by simp only; omega) _

end Go.Proofs.YtfbijgbpipedoaaGreatDoor

namespace Go.Proofs.YtfbijgbpipedoaaGreatDoor
open Go.RowKit Ra
attribute [local go_sem ↓] Go.wp_at_zero Go.wp_at_succ

set_option linter.unusedSimpArgs false in
set_option maxHeartbeats 4000000 in
theorem rdiv_za (a b : Q) (v u er : Int) (w : World)
    (HA : Hid (∀ w, Calls Tryz.prog 63 #[.agg #[.int .i64 a.n, .int .i64 a.d]] w fun e w' => e = .returned (.bool true) ∧ Below w.heap.size w w'))
    (HB : Hid (∀ w, Calls Tryz.prog 63 #[.agg #[.int .i64 b.n, .int .i64 b.d]] w fun e w' => e = .returned (.bool true) ∧ Below w.heap.size w w'))
    (Qan : Hid (-9223372036854775808 ≤ a.n ∧ a.n ≤ 9223372036854775807)) (Qad : Hid (-9223372036854775808 ≤ a.d ∧ a.d ≤ 9223372036854775807)) (Qbn : Hid (-9223372036854775808 ≤ b.n ∧ b.n ≤ 9223372036854775807)) (Qbd : Hid (-9223372036854775808 ≤ b.d ∧ b.d ≤ 9223372036854775807))
    (P1 : Hid (a.n.natAbs * b.d.natAbs < 1073741824 ^ 5 ∧ a.n.natAbs < 1073741824 ^ 5))
    (P2 : Hid (a.d.natAbs * b.n.natAbs < 1073741824 ^ 5 ∧ a.d.natAbs < 1073741824 ^ 5))
    (HGive : Hid (∀ (g h : Nat) (w : World), Num w g (a.n.natAbs * b.d.natAbs) → Num w h (a.d.natAbs * b.n.natAbs) → Calls Tryz.prog 59 #[.bool false, .slice (some ⟨g, 0, none⟩) 5 5, .slice (some ⟨h, 0, none⟩) 5 5] w fun e w' => e = .returned (.tuple #[.agg #[.int .i64 v, .int .i64 u], .int .i64 er]) ∧ Below w.heap.size w w'))
    (za : (a.n != 0) = false) (zb : (b.n == 0) = false)
    : Calls Tryz.prog 40 #[.agg #[.int .i64 a.n, .int .i64 a.d], .agg #[.int .i64 b.n, .int .i64 b.d]] w fun e w' => e = .returned (.tuple #[.agg #[.int .i64 v, .int .i64 u], .int .i64 er]) ∧ Below w.heap.size w w' := by
  obtain ⟨W, hW⟩ : ∃ W, W = Two a b w := ⟨_, rfl⟩
  have T0 : TwoAt a b w.heap.size W := by rw [hW]; exact two_at a b w
  have B0 : Below w.heap.size w W := by rw [hW]; exact two_below a b w
  unfold Two at hW
  have HW := Lib.hid hW
  clear hW
  go_enter Tryz.func40, Tryz.ntmps40
  go_wp2_with fail
  rw [← HW.out]
  refine (HA.out _).mono ?_
  rintro e w1 ⟨rfl, b1⟩
  have T1 := T0.below b1
  have B1 := Below.trans B0 (b1.mono B0.size)
  obtain ⟨c1, c2, c3, c4, c5, c6, c7, c8, c9⟩ := T1
  go_wp2_with fail
  refine (HB.out _).mono ?_
  rintro e w2 ⟨rfl, b2⟩
  have T2 := TwoAt.below ⟨c1, c2, c3, c4, c5, c6, c7, c8, c9⟩ b2
  have B2 := Below.trans B1 (b2.mono B1.size)
  clear c1 c2 c3 c4 c5 c6 c7 c8 c9
  obtain ⟨c1, c2, c3, c4, c5, c6, c7, c8, c9⟩ := T2
  go_wp2_with fail
  refine wp_region_held_drew (S := fun w' => w'.cell? ⟨w.heap.size, 0, none⟩ = some (.int .i64 a.n) ∧ w'.cell? ⟨w.heap.size, 1, none⟩ = some (.int .i64 a.d) ∧ w'.cell? ⟨w.heap.size + 1, 0, none⟩ = some (.int .i64 b.n) ∧ w'.cell? ⟨w.heap.size + 1, 1, none⟩ = some (.int .i64 b.d) ∧ (∃ v, w'.cell? ⟨w.heap.size + 1 + 1, 0, none⟩ = some v) ∧ (∃ v, w'.cell? ⟨w.heap.size + 1 + 1, 1, none⟩ = some v) ∧ w'.frozen? ⟨w.heap.size + 1 + 1, 0, none⟩ = false ∧ w'.frozen? ⟨w.heap.size + 1 + 1, 1, none⟩ = false ∧ w.heap.size + 3 ≤ w'.heap.size ∧ Below w.heap.size w w') (by kernel_rfl) ?_ (fun hHeld => ?_)
  · first
      | assumption
      | exact two_keep bt rfl (by assumption)
      | exact two_set _ _ (by assumption)
      | exact two_keep (Below.drew (Below.refl _ _)) rfl ⟨c1, c2, c3, c4, ⟨_, c5⟩, ⟨_, c6⟩, c7, c8, c9, B2⟩
  refine wpAnyH_take (i := 0) (v := ?_) rfl (by kernel_rfl) (by kernel_rfl) (by kernel_rfl) (fun _ _ _ h => h) (Or.inl ⟨by kernel_rfl, ?_⟩) (by assumption) ?_
  rotate_left
  · (intro w hSw; (try dsimp only at hSw); go_simp; first | done | with_reducible rfl)
  try simp only [Act.put, List.setIfInBounds_toArray, List.set_cons_zero, List.set_cons_succ]
  refine wpAnyH_take (i := 1) (v := ?_) rfl (by kernel_rfl) (by kernel_rfl) (by kernel_rfl) (fun _ _ _ h => h) (Or.inl ⟨by kernel_rfl, ?_⟩) (by assumption) ?_
  rotate_left
  · (intro w hSw; (try dsimp only at hSw); go_simp; first | done | with_reducible rfl)
  try simp only [Act.put, List.setIfInBounds_toArray, List.set_cons_zero, List.set_cons_succ]
  refine wpAnyH_take (i := 2) (v := ?_) rfl (by kernel_rfl) (by kernel_rfl) (by kernel_rfl) (fun _ _ _ h => h) (Or.inl ⟨by kernel_rfl, ?_⟩) (by assumption) ?_
  rotate_left
  · (intro w hSw; (try dsimp only at hSw); go_simp; first | done | with_reducible rfl)
  try simp only [Act.put, List.setIfInBounds_toArray, List.set_cons_zero, List.set_cons_succ]
  refine wpAnyH_take (i := 3) (v := ?_) rfl (by kernel_rfl) (by kernel_rfl) (by kernel_rfl) (fun _ _ _ h => h) (Or.inl ⟨by kernel_rfl, ?_⟩) (by assumption) ?_
  rotate_left
  · (intro w hSw; (try dsimp only at hSw); go_simp; first | done | with_reducible rfl)
  try simp only [Act.put, List.setIfInBounds_toArray, List.set_cons_zero, List.set_cons_succ]
  refine wpAnyH_take (i := 4) (v := undef) rfl (by kernel_rfl) (by kernel_rfl) (by kernel_rfl) (fun _ _ _ h => h) (Or.inr ⟨by kernel_rfl, rfl⟩) (by assumption) ?_
  try simp only [Act.put, List.setIfInBounds_toArray, List.set_cons_zero, List.set_cons_succ]
  refine wpAnyH_take (i := 5) (v := undef) rfl (by kernel_rfl) (by kernel_rfl) (by kernel_rfl) (fun _ _ _ h => h) (Or.inr ⟨by kernel_rfl, rfl⟩) (by assumption) ?_
  try simp only [Act.put, List.setIfInBounds_toArray, List.set_cons_zero, List.set_cons_succ]
  refine wpAnyH_take (i := 6) (v := undef) rfl (by kernel_rfl) (by kernel_rfl) (by kernel_rfl) (fun _ _ _ h => h) (Or.inr ⟨by kernel_rfl, rfl⟩) (by assumption) ?_
  try simp only [Act.put, List.setIfInBounds_toArray, List.set_cons_zero, List.set_cons_succ]
  refine wpAnyH_take (i := 7) (v := undef) rfl (by kernel_rfl) (by kernel_rfl) (by kernel_rfl) (fun _ _ _ h => h) (Or.inr ⟨by kernel_rfl, rfl⟩) (by assumption) ?_
  try simp only [Act.put, List.setIfInBounds_toArray, List.set_cons_zero, List.set_cons_succ]
  refine wpAnyH_take (i := 8) (v := undef) rfl (by kernel_rfl) (by kernel_rfl) (by kernel_rfl) (fun _ _ _ h => h) (Or.inr ⟨by kernel_rfl, rfl⟩) (by assumption) ?_
  try simp only [Act.put, List.setIfInBounds_toArray, List.set_cons_zero, List.set_cons_succ]
  refine wpAnyH_take (i := 9) (v := undef) rfl (by kernel_rfl) (by kernel_rfl) (by kernel_rfl) (fun _ _ _ h => h) (Or.inr ⟨by kernel_rfl, rfl⟩) (by assumption) ?_
  try simp only [Act.put, List.setIfInBounds_toArray, List.set_cons_zero, List.set_cons_succ]
  refine wpAnyH_take (i := 10) (v := undef) rfl (by kernel_rfl) (by kernel_rfl) (by kernel_rfl) (fun _ _ _ h => h) (Or.inr ⟨by kernel_rfl, rfl⟩) (by assumption) ?_
  try simp only [Act.put, List.setIfInBounds_toArray, List.set_cons_zero, List.set_cons_succ]
  refine wpAnyH_take (i := 11) (v := ?_) rfl (by kernel_rfl) (by kernel_rfl) (by kernel_rfl) (fun _ _ _ h => h) (Or.inl ⟨by kernel_rfl, ?_⟩) (by assumption) ?_
  rotate_left
  · (intro w hSw; (try dsimp only at hSw); go_simp; first | done | with_reducible rfl)
  try simp only [Act.put, List.setIfInBounds_toArray, List.set_cons_zero, List.set_cons_succ]
  refine wpAnyH_take (i := 12) (v := ?_) rfl (by kernel_rfl) (by kernel_rfl) (by kernel_rfl) (fun _ _ _ h => h) (Or.inl ⟨by kernel_rfl, ?_⟩) (by assumption) ?_
  rotate_left
  · (intro w hSw; (try dsimp only at hSw); go_simp; first | done | with_reducible rfl)
  try simp only [Act.put, List.setIfInBounds_toArray, List.set_cons_zero, List.set_cons_succ]
  refine wpAnyH_take (i := 13) (v := ?_) rfl (by kernel_rfl) (by kernel_rfl) (by kernel_rfl) (fun _ _ _ h => h) (Or.inl ⟨by kernel_rfl, ?_⟩) (by assumption) ?_
  rotate_left
  · (intro w hSw; (try dsimp only at hSw); go_simp; first | done | with_reducible rfl)
  try simp only [Act.put, List.setIfInBounds_toArray, List.set_cons_zero, List.set_cons_succ]
  refine wpAnyH_take (i := 15) (v := ?_) rfl (by kernel_rfl) (by kernel_rfl) (by kernel_rfl) (fun _ _ _ h => h) (Or.inl ⟨by kernel_rfl, ?_⟩) (by assumption) ?_
  rotate_left
  · (intro w hSw; (try dsimp only at hSw); go_simp; first | done | with_reducible rfl)
  try simp only [Act.put, List.setIfInBounds_toArray, List.set_cons_zero, List.set_cons_succ]
  refine wpAnyH_take (i := 16) (v := ?_) rfl (by kernel_rfl) (by kernel_rfl) (by kernel_rfl) (fun _ _ _ h => h) (Or.inl ⟨by kernel_rfl, ?_⟩) (by assumption) ?_
  rotate_left
  · (intro w hSw; (try dsimp only at hSw); go_simp; first | done | with_reducible rfl)
  try simp only [Act.put, List.setIfInBounds_toArray, List.set_cons_zero, List.set_cons_succ]
  refine wpAnyH_take (i := 19) (v := ?_) rfl (by kernel_rfl) (by kernel_rfl) (by kernel_rfl) (fun _ _ _ h => h) (Or.inl ⟨by kernel_rfl, ?_⟩) (by assumption) ?_
  rotate_left
  · (intro w hSw; (try dsimp only at hSw); go_simp; first | done | with_reducible rfl)
  try simp only [Act.put, List.setIfInBounds_toArray, List.set_cons_zero, List.set_cons_succ]
  refine wpAnyH_take (i := 20) (v := ?_) rfl (by kernel_rfl) (by kernel_rfl) (by kernel_rfl) (fun _ _ _ h => h) (Or.inl ⟨by kernel_rfl, ?_⟩) (by assumption) ?_
  rotate_left
  · (intro w hSw; (try dsimp only at hSw); go_simp; first | done | with_reducible rfl)
  try simp only [Act.put, List.setIfInBounds_toArray, List.set_cons_zero, List.set_cons_succ]
  refine wpAnyH_take (i := 22) (v := ?_) rfl (by kernel_rfl) (by kernel_rfl) (by kernel_rfl) (fun _ _ _ h => h) (Or.inl ⟨by kernel_rfl, ?_⟩) (by assumption) ?_
  rotate_left
  · (intro w hSw; (try dsimp only at hSw); go_simp; first | done | with_reducible rfl)
  try simp only [Act.put, List.setIfInBounds_toArray, List.set_cons_zero, List.set_cons_succ]
  refine wpAnyH_take (i := 23) (v := ?_) rfl (by kernel_rfl) (by kernel_rfl) (by kernel_rfl) (fun _ _ _ h => h) (Or.inl ⟨by kernel_rfl, ?_⟩) (by assumption) ?_
  rotate_left
  · (intro w hSw; (try dsimp only at hSw); go_simp; first | done | with_reducible rfl)
  try simp only [Act.put, List.setIfInBounds_toArray, List.set_cons_zero, List.set_cons_succ]
  refine wpAnyH_ready (rs := [14]) (by kernel_rfl) (by simp) ?_
  refine AllReadyH.cons rfl (fun K hK => ?_) AllReadyH.nil
  go_simp
  go_at_call_of 60 (Value.int .i64 a.n); refine (of_num a.n _ Qan.out.1 Qan.out.2).mono ?_; rintro e wt ⟨kA, rfl, hkA, NA, bt⟩; have nA := Lib.hid NA; clear NA
  (try go_wp2_with fail)
  refine hK.out _ _ ?_ (fun hHeld => ?_)
  · first
      | assumption
      | exact two_keep bt rfl (by assumption)
      | exact two_set _ _ (by assumption)
      | exact two_keep (Below.drew (Below.refl _ _)) rfl ⟨c1, c2, c3, c4, ⟨_, c5⟩, ⟨_, c6⟩, c7, c8, c9, B2⟩
  clear hK K
  try simp only [Act.put, List.setIfInBounds_toArray, List.set_cons_zero, List.set_cons_succ]
  refine wpAnyH_ready (rs := [17]) (by kernel_rfl) (by simp) ?_
  refine AllReadyH.cons rfl (fun K hK => ?_) AllReadyH.nil
  go_simp
  go_at_call_of 60 (Value.int .i64 b.d); refine (of_num b.d _ Qbd.out.1 Qbd.out.2).mono ?_; rintro e wt ⟨kB, rfl, hkB, NB, bt⟩; have nB := Lib.hid NB; clear NB; have nA := Lib.hid (Num.below nA.out bt rfl)
  (try go_wp2_with fail)
  refine hK.out _ _ ?_ (fun hHeld => ?_)
  · first
      | assumption
      | exact two_keep bt rfl (by assumption)
      | exact two_set _ _ (by assumption)
      | exact two_keep (Below.drew (Below.refl _ _)) rfl ⟨c1, c2, c3, c4, ⟨_, c5⟩, ⟨_, c6⟩, c7, c8, c9, B2⟩
  clear hK K
  try simp only [Act.put, List.setIfInBounds_toArray, List.set_cons_zero, List.set_cons_succ]
  refine wpAnyH_ready (rs := [18]) (by kernel_rfl) (by simp) ?_
  refine AllReadyH.cons rfl (fun K hK => ?_) AllReadyH.nil
  go_simp
  go_at_call 64; refine (times_num kA kB _ _ _ nA.out nB.out P1.out.1 P1.out.2).mono ?_; rintro e wt ⟨kT, rfl, hkT, NT, bt⟩; have nT := Lib.hid NT; clear NT
  (try go_wp2_with fail)
  refine hK.out _ _ ?_ (fun hHeld => ?_)
  · first
      | assumption
      | exact two_keep bt rfl (by assumption)
      | exact two_set _ _ (by assumption)
      | exact two_keep (Below.drew (Below.refl _ _)) rfl ⟨c1, c2, c3, c4, ⟨_, c5⟩, ⟨_, c6⟩, c7, c8, c9, B2⟩
  clear hK K
  try simp only [Act.put, List.setIfInBounds_toArray, List.set_cons_zero, List.set_cons_succ]
  refine wpAnyH_ready (rs := [21]) (by kernel_rfl) (by simp) ?_
  refine AllReadyH.cons rfl (fun K hK => ?_) AllReadyH.nil
  go_simp
  go_at_call_of 60 (Value.int .i64 a.d); refine (of_num a.d _ Qad.out.1 Qad.out.2).mono ?_; rintro e wt ⟨kC, rfl, hkC, NC, bt⟩; have nC := Lib.hid NC; clear NC; have nT := Lib.hid (Num.below nT.out bt rfl)
  (try go_wp2_with fail)
  refine hK.out _ _ ?_ (fun hHeld => ?_)
  · first
      | assumption
      | exact two_keep bt rfl (by assumption)
      | exact two_set _ _ (by assumption)
      | exact two_keep (Below.drew (Below.refl _ _)) rfl ⟨c1, c2, c3, c4, ⟨_, c5⟩, ⟨_, c6⟩, c7, c8, c9, B2⟩
  clear hK K
  try simp only [Act.put, List.setIfInBounds_toArray, List.set_cons_zero, List.set_cons_succ]
  refine wpAnyH_ready (rs := [24]) (by kernel_rfl) (by simp) ?_
  refine AllReadyH.cons rfl (fun K hK => ?_) AllReadyH.nil
  go_simp
  go_at_call_of 60 (Value.int .i64 b.n); refine (of_num b.n _ Qbn.out.1 Qbn.out.2).mono ?_; rintro e wt ⟨kD, rfl, hkD, ND, bt⟩; have nD := Lib.hid ND; clear ND; have nT := Lib.hid (Num.below nT.out bt rfl); have nC := Lib.hid (Num.below nC.out bt rfl)
  (try go_wp2_with fail)
  refine hK.out _ _ ?_ (fun hHeld => ?_)
  · first
      | assumption
      | exact two_keep bt rfl (by assumption)
      | exact two_set _ _ (by assumption)
      | exact two_keep (Below.drew (Below.refl _ _)) rfl ⟨c1, c2, c3, c4, ⟨_, c5⟩, ⟨_, c6⟩, c7, c8, c9, B2⟩
  clear hK K
  try simp only [Act.put, List.setIfInBounds_toArray, List.set_cons_zero, List.set_cons_succ]
  refine wpAnyH_ready (rs := [25]) (by kernel_rfl) (by simp) ?_
  refine AllReadyH.cons rfl (fun K hK => ?_) AllReadyH.nil
  go_simp
  go_at_call 64; refine (times_num kC kD _ _ _ nC.out nD.out P2.out.1 P2.out.2).mono ?_; rintro e wt ⟨kU, rfl, hkU, NU, bt⟩; have nU := Lib.hid NU; clear NU; have nT := Lib.hid (Num.below nT.out bt rfl)
  (try go_wp2_with fail)
  refine hK.out _ _ ?_ (fun hHeld => ?_)
  · first
      | assumption
      | exact two_keep bt rfl (by assumption)
      | exact two_set _ _ (by assumption)
      | exact two_keep (Below.drew (Below.refl _ _)) rfl ⟨c1, c2, c3, c4, ⟨_, c5⟩, ⟨_, c6⟩, c7, c8, c9, B2⟩
  clear hK K
  try simp only [Act.put, List.setIfInBounds_toArray, List.set_cons_zero, List.set_cons_succ]
  refine wpAnyH_ready (rs := [26]) (by kernel_rfl) (by simp) ?_
  refine AllReadyH.cons rfl (fun K hK => ?_) AllReadyH.nil
  go_simp
  go_at_call 59; refine (HGive.out kT kU _ nT.out nU.out).mono ?_; rintro e wt ⟨rfl, bt⟩; obtain ⟨k1, k2, k3, k4, ⟨z0, k5⟩, ⟨z1, k6⟩, k7, k8, k9, k10⟩ := two_keep bt rfl (by assumption)
  (try go_wp2_with fail)
  refine hK.out _ _ ?_ (fun hHeld => ?_)
  · first
      | assumption
      | exact two_keep bt rfl (by assumption)
      | exact two_set _ _ (by assumption)
      | exact two_keep (Below.drew (Below.refl _ _)) rfl ⟨c1, c2, c3, c4, ⟨_, c5⟩, ⟨_, c6⟩, c7, c8, c9, B2⟩
  clear hK K
  try simp only [Act.put, List.setIfInBounds_toArray, List.set_cons_zero, List.set_cons_succ]
  refine wpAnyH_take (i := 27) (v := ?_) rfl (by kernel_rfl) (by kernel_rfl) (by kernel_rfl) (fun _ _ _ h => h) (Or.inl ⟨by kernel_rfl, ?_⟩) (by assumption) ?_
  rotate_left
  · (intro w hSw; (try dsimp only at hSw); go_simp; first | done | with_reducible rfl)
  try simp only [Act.put, List.setIfInBounds_toArray, List.set_cons_zero, List.set_cons_succ]
  refine wpAnyH_take (i := 28) (v := ?_) rfl (by kernel_rfl) (by kernel_rfl) (by kernel_rfl) (fun _ _ _ h => h) (Or.inl ⟨by kernel_rfl, ?_⟩) (by assumption) ?_
  rotate_left
  · (intro w hSw; (try dsimp only at hSw); go_simp; first | done | with_reducible rfl)
  try simp only [Act.put, List.setIfInBounds_toArray, List.set_cons_zero, List.set_cons_succ]
  refine wpAnyH_ready (rs := [29]) (by kernel_rfl) (by simp) ?_
  refine AllReadyH.cons rfl (fun K hK => ?_) AllReadyH.nil
  go_simp
  refine hK.out _ _ ?_ (fun hHeld => ?_)
  · first
      | assumption
      | exact two_keep bt rfl (by assumption)
      | exact two_set _ _ (by assumption)
      | exact two_keep (Below.drew (Below.refl _ _)) rfl ⟨c1, c2, c3, c4, ⟨_, c5⟩, ⟨_, c6⟩, c7, c8, c9, B2⟩
  clear hK K
  try simp only [Act.put, List.setIfInBounds_toArray, List.set_cons_zero, List.set_cons_succ]
  refine wpAnyH_ready (rs := [30]) (by kernel_rfl) (by simp) ?_
  refine AllReadyH.cons rfl (fun K hK => ?_) AllReadyH.nil
  go_simp
  refine hK.out _ _ ?_ (fun hHeld => ?_)
  · first
      | assumption
      | exact two_keep bt rfl (by assumption)
      | exact two_set _ _ (by assumption)
      | exact two_keep (Below.drew (Below.refl _ _)) rfl ⟨c1, c2, c3, c4, ⟨_, c5⟩, ⟨_, c6⟩, c7, c8, c9, B2⟩
  clear hK K
  try simp only [Act.put, List.setIfInBounds_toArray, List.set_cons_zero, List.set_cons_succ]
  refine wpAnyH_done (by kernel_rfl) ?_ _
  all_goals go_wp2_with fail
  all_goals refine bodyPost_ret (v := .tuple #[.agg #[.int .i64 v, .int .i64 u], .int .i64 er]) (by simp [results, Tryz.results40, go_sem, *]) rfl ⟨rfl, ?_⟩
  all_goals exact Below.setCell (Below.setCell k10 (by simp only; omega) _) (by simp only; omega) _

set_option linter.unusedSimpArgs false in
set_option maxHeartbeats 4000000 in
theorem rdiv_nz (a b : Q) (neg : Bool) (v u er : Int) (w : World)
    (HA : Hid (∀ w, Calls Tryz.prog 63 #[.agg #[.int .i64 a.n, .int .i64 a.d]] w fun e w' => e = .returned (.bool true) ∧ Below w.heap.size w w'))
    (HB : Hid (∀ w, Calls Tryz.prog 63 #[.agg #[.int .i64 b.n, .int .i64 b.d]] w fun e w' => e = .returned (.bool true) ∧ Below w.heap.size w w'))
    (Qan : Hid (-9223372036854775808 ≤ a.n ∧ a.n ≤ 9223372036854775807)) (Qad : Hid (-9223372036854775808 ≤ a.d ∧ a.d ≤ 9223372036854775807)) (Qbn : Hid (-9223372036854775808 ≤ b.n ∧ b.n ≤ 9223372036854775807)) (Qbd : Hid (-9223372036854775808 ≤ b.d ∧ b.d ≤ 9223372036854775807))
    (P1 : Hid (a.n.natAbs * b.d.natAbs < 1073741824 ^ 5 ∧ a.n.natAbs < 1073741824 ^ 5))
    (P2 : Hid (a.d.natAbs * b.n.natAbs < 1073741824 ^ 5 ∧ a.d.natAbs < 1073741824 ^ 5))
    (HGive : Hid (∀ (g h : Nat) (w : World), Num w g (a.n.natAbs * b.d.natAbs) → Num w h (a.d.natAbs * b.n.natAbs) → Calls Tryz.prog 59 #[.bool neg, .slice (some ⟨g, 0, none⟩) 5 5, .slice (some ⟨h, 0, none⟩) 5 5] w fun e w' => e = .returned (.tuple #[.agg #[.int .i64 v, .int .i64 u], .int .i64 er]) ∧ Below w.heap.size w w'))
    (za : (a.n != 0) = true) (zb : (b.n == 0) = false)
    (en : (decide (a.n < 0) == decide (b.n < 0)) = !neg)
    : Calls Tryz.prog 40 #[.agg #[.int .i64 a.n, .int .i64 a.d], .agg #[.int .i64 b.n, .int .i64 b.d]] w fun e w' => e = .returned (.tuple #[.agg #[.int .i64 v, .int .i64 u], .int .i64 er]) ∧ Below w.heap.size w w' := by
  obtain ⟨W, hW⟩ : ∃ W, W = Two a b w := ⟨_, rfl⟩
  have T0 : TwoAt a b w.heap.size W := by rw [hW]; exact two_at a b w
  have B0 : Below w.heap.size w W := by rw [hW]; exact two_below a b w
  unfold Two at hW
  have HW := Lib.hid hW
  clear hW
  go_enter Tryz.func40, Tryz.ntmps40
  go_wp2_with fail
  rw [← HW.out]
  refine (HA.out _).mono ?_
  rintro e w1 ⟨rfl, b1⟩
  have T1 := T0.below b1
  have B1 := Below.trans B0 (b1.mono B0.size)
  obtain ⟨c1, c2, c3, c4, c5, c6, c7, c8, c9⟩ := T1
  go_wp2_with fail
  refine (HB.out _).mono ?_
  rintro e w2 ⟨rfl, b2⟩
  have T2 := TwoAt.below ⟨c1, c2, c3, c4, c5, c6, c7, c8, c9⟩ b2
  have B2 := Below.trans B1 (b2.mono B1.size)
  clear c1 c2 c3 c4 c5 c6 c7 c8 c9
  obtain ⟨c1, c2, c3, c4, c5, c6, c7, c8, c9⟩ := T2
  go_wp2_with fail
  refine wp_region_held_drew (S := fun w' => w'.cell? ⟨w.heap.size, 0, none⟩ = some (.int .i64 a.n) ∧ w'.cell? ⟨w.heap.size, 1, none⟩ = some (.int .i64 a.d) ∧ w'.cell? ⟨w.heap.size + 1, 0, none⟩ = some (.int .i64 b.n) ∧ w'.cell? ⟨w.heap.size + 1, 1, none⟩ = some (.int .i64 b.d) ∧ (∃ v, w'.cell? ⟨w.heap.size + 1 + 1, 0, none⟩ = some v) ∧ (∃ v, w'.cell? ⟨w.heap.size + 1 + 1, 1, none⟩ = some v) ∧ w'.frozen? ⟨w.heap.size + 1 + 1, 0, none⟩ = false ∧ w'.frozen? ⟨w.heap.size + 1 + 1, 1, none⟩ = false ∧ w.heap.size + 3 ≤ w'.heap.size ∧ Below w.heap.size w w') (by kernel_rfl) ?_ (fun hHeld => ?_)
  · first
      | assumption
      | exact two_keep bt rfl (by assumption)
      | exact two_set _ _ (by assumption)
      | exact two_keep (Below.drew (Below.refl _ _)) rfl ⟨c1, c2, c3, c4, ⟨_, c5⟩, ⟨_, c6⟩, c7, c8, c9, B2⟩
  refine wpAnyH_take (i := 0) (v := ?_) rfl (by kernel_rfl) (by kernel_rfl) (by kernel_rfl) (fun _ _ _ h => h) (Or.inl ⟨by kernel_rfl, ?_⟩) (by assumption) ?_
  rotate_left
  · (intro w hSw; (try dsimp only at hSw); go_simp; first | done | with_reducible rfl)
  try simp only [Act.put, List.setIfInBounds_toArray, List.set_cons_zero, List.set_cons_succ]
  refine wpAnyH_take (i := 1) (v := ?_) rfl (by kernel_rfl) (by kernel_rfl) (by kernel_rfl) (fun _ _ _ h => h) (Or.inl ⟨by kernel_rfl, ?_⟩) (by assumption) ?_
  rotate_left
  · (intro w hSw; (try dsimp only at hSw); go_simp; first | done | with_reducible rfl)
  try simp only [Act.put, List.setIfInBounds_toArray, List.set_cons_zero, List.set_cons_succ]
  refine wpAnyH_take (i := 2) (v := ?_) rfl (by kernel_rfl) (by kernel_rfl) (by kernel_rfl) (fun _ _ _ h => h) (Or.inl ⟨by kernel_rfl, ?_⟩) (by assumption) ?_
  rotate_left
  · (intro w hSw; (try dsimp only at hSw); go_simp; first | done | with_reducible rfl)
  try simp only [Act.put, List.setIfInBounds_toArray, List.set_cons_zero, List.set_cons_succ]
  refine wpAnyH_take (i := 3) (v := ?_) rfl (by kernel_rfl) (by kernel_rfl) (by kernel_rfl) (fun _ _ _ h => h) (Or.inl ⟨by kernel_rfl, ?_⟩) (by assumption) ?_
  rotate_left
  · (intro w hSw; (try dsimp only at hSw); go_simp; first | done | with_reducible rfl)
  try simp only [Act.put, List.setIfInBounds_toArray, List.set_cons_zero, List.set_cons_succ]
  refine wpAnyH_take (i := 4) (v := ?_) rfl (by kernel_rfl) (by kernel_rfl) (by kernel_rfl) (fun _ _ _ h => h) (Or.inl ⟨by kernel_rfl, ?_⟩) (by assumption) ?_
  rotate_left
  · (intro w hSw; (try dsimp only at hSw); go_simp; first | done | with_reducible rfl)
  try simp only [Act.put, List.setIfInBounds_toArray, List.set_cons_zero, List.set_cons_succ]
  refine wpAnyH_take (i := 5) (v := ?_) rfl (by kernel_rfl) (by kernel_rfl) (by kernel_rfl) (fun _ _ _ h => h) (Or.inl ⟨by kernel_rfl, ?_⟩) (by assumption) ?_
  rotate_left
  · (intro w hSw; (try dsimp only at hSw); go_simp; first | done | with_reducible rfl)
  try simp only [Act.put, List.setIfInBounds_toArray, List.set_cons_zero, List.set_cons_succ]
  refine wpAnyH_take (i := 6) (v := ?_) rfl (by kernel_rfl) (by kernel_rfl) (by kernel_rfl) (fun _ _ _ h => h) (Or.inl ⟨by kernel_rfl, ?_⟩) (by assumption) ?_
  rotate_left
  · (intro w hSw; (try dsimp only at hSw); go_simp; first | done | with_reducible rfl)
  try simp only [Act.put, List.setIfInBounds_toArray, List.set_cons_zero, List.set_cons_succ]
  refine wpAnyH_take (i := 7) (v := ?_) rfl (by kernel_rfl) (by kernel_rfl) (by kernel_rfl) (fun _ _ _ h => h) (Or.inl ⟨by kernel_rfl, ?_⟩) (by assumption) ?_
  rotate_left
  · (intro w hSw; (try dsimp only at hSw); go_simp; first | done | with_reducible rfl)
  try simp only [Act.put, List.setIfInBounds_toArray, List.set_cons_zero, List.set_cons_succ]
  refine wpAnyH_take (i := 8) (v := ?_) rfl (by kernel_rfl) (by kernel_rfl) (by kernel_rfl) (fun _ _ _ h => h) (Or.inl ⟨by kernel_rfl, ?_⟩) (by assumption) ?_
  rotate_left
  · (intro w hSw; (try dsimp only at hSw); go_simp; first | done | with_reducible rfl)
  try simp only [Act.put, List.setIfInBounds_toArray, List.set_cons_zero, List.set_cons_succ]
  refine wpAnyH_take (i := 9) (v := ?_) rfl (by kernel_rfl) (by kernel_rfl) (by kernel_rfl) (fun _ _ _ h => h) (Or.inl ⟨by kernel_rfl, ?_⟩) (by assumption) ?_
  rotate_left
  · (intro w hSw; (try dsimp only at hSw); go_simp; first | done | with_reducible rfl)
  try simp only [Act.put, List.setIfInBounds_toArray, List.set_cons_zero, List.set_cons_succ]
  refine wpAnyH_take (i := 10) (v := ?_) rfl (by kernel_rfl) (by kernel_rfl) (by kernel_rfl) (fun _ _ _ h => h) (Or.inl ⟨by kernel_rfl, ?_⟩) (by assumption) ?_
  rotate_left
  · (intro w hSw; (try dsimp only at hSw); go_simp; first | done | with_reducible rfl)
  try simp only [Act.put, List.setIfInBounds_toArray, List.set_cons_zero, List.set_cons_succ]
  refine wpAnyH_take (i := 11) (v := ?_) rfl (by kernel_rfl) (by kernel_rfl) (by kernel_rfl) (fun _ _ _ h => h) (Or.inl ⟨by kernel_rfl, ?_⟩) (by assumption) ?_
  rotate_left
  · (intro w hSw; (try dsimp only at hSw); go_simp; first | done | with_reducible rfl)
  try simp only [Act.put, List.setIfInBounds_toArray, List.set_cons_zero, List.set_cons_succ]
  refine wpAnyH_take (i := 12) (v := ?_) rfl (by kernel_rfl) (by kernel_rfl) (by kernel_rfl) (fun _ _ _ h => h) (Or.inl ⟨by kernel_rfl, ?_⟩) (by assumption) ?_
  rotate_left
  · (intro w hSw; (try dsimp only at hSw); go_simp; first | done | with_reducible rfl)
  try simp only [Act.put, List.setIfInBounds_toArray, List.set_cons_zero, List.set_cons_succ]
  refine wpAnyH_take (i := 13) (v := ?_) rfl (by kernel_rfl) (by kernel_rfl) (by kernel_rfl) (fun _ _ _ h => h) (Or.inl ⟨by kernel_rfl, ?_⟩) (by assumption) ?_
  rotate_left
  · (intro w hSw; (try dsimp only at hSw); go_simp; first | done | with_reducible rfl)
  try simp only [Act.put, List.setIfInBounds_toArray, List.set_cons_zero, List.set_cons_succ]
  refine wpAnyH_take (i := 15) (v := ?_) rfl (by kernel_rfl) (by kernel_rfl) (by kernel_rfl) (fun _ _ _ h => h) (Or.inl ⟨by kernel_rfl, ?_⟩) (by assumption) ?_
  rotate_left
  · (intro w hSw; (try dsimp only at hSw); go_simp; first | done | with_reducible rfl)
  try simp only [Act.put, List.setIfInBounds_toArray, List.set_cons_zero, List.set_cons_succ]
  refine wpAnyH_take (i := 16) (v := ?_) rfl (by kernel_rfl) (by kernel_rfl) (by kernel_rfl) (fun _ _ _ h => h) (Or.inl ⟨by kernel_rfl, ?_⟩) (by assumption) ?_
  rotate_left
  · (intro w hSw; (try dsimp only at hSw); go_simp; first | done | with_reducible rfl)
  try simp only [Act.put, List.setIfInBounds_toArray, List.set_cons_zero, List.set_cons_succ]
  refine wpAnyH_take (i := 19) (v := ?_) rfl (by kernel_rfl) (by kernel_rfl) (by kernel_rfl) (fun _ _ _ h => h) (Or.inl ⟨by kernel_rfl, ?_⟩) (by assumption) ?_
  rotate_left
  · (intro w hSw; (try dsimp only at hSw); go_simp; first | done | with_reducible rfl)
  try simp only [Act.put, List.setIfInBounds_toArray, List.set_cons_zero, List.set_cons_succ]
  refine wpAnyH_take (i := 20) (v := ?_) rfl (by kernel_rfl) (by kernel_rfl) (by kernel_rfl) (fun _ _ _ h => h) (Or.inl ⟨by kernel_rfl, ?_⟩) (by assumption) ?_
  rotate_left
  · (intro w hSw; (try dsimp only at hSw); go_simp; first | done | with_reducible rfl)
  try simp only [Act.put, List.setIfInBounds_toArray, List.set_cons_zero, List.set_cons_succ]
  refine wpAnyH_take (i := 22) (v := ?_) rfl (by kernel_rfl) (by kernel_rfl) (by kernel_rfl) (fun _ _ _ h => h) (Or.inl ⟨by kernel_rfl, ?_⟩) (by assumption) ?_
  rotate_left
  · (intro w hSw; (try dsimp only at hSw); go_simp; first | done | with_reducible rfl)
  try simp only [Act.put, List.setIfInBounds_toArray, List.set_cons_zero, List.set_cons_succ]
  refine wpAnyH_take (i := 23) (v := ?_) rfl (by kernel_rfl) (by kernel_rfl) (by kernel_rfl) (fun _ _ _ h => h) (Or.inl ⟨by kernel_rfl, ?_⟩) (by assumption) ?_
  rotate_left
  · (intro w hSw; (try dsimp only at hSw); go_simp; first | done | with_reducible rfl)
  try simp only [Act.put, List.setIfInBounds_toArray, List.set_cons_zero, List.set_cons_succ]
  refine wpAnyH_ready (rs := [14]) (by kernel_rfl) (by simp) ?_
  refine AllReadyH.cons rfl (fun K hK => ?_) AllReadyH.nil
  go_simp
  go_at_call_of 60 (Value.int .i64 a.n); refine (of_num a.n _ Qan.out.1 Qan.out.2).mono ?_; rintro e wt ⟨kA, rfl, hkA, NA, bt⟩; have nA := Lib.hid NA; clear NA
  (try go_wp2_with fail)
  refine hK.out _ _ ?_ (fun hHeld => ?_)
  · first
      | assumption
      | exact two_keep bt rfl (by assumption)
      | exact two_set _ _ (by assumption)
      | exact two_keep (Below.drew (Below.refl _ _)) rfl ⟨c1, c2, c3, c4, ⟨_, c5⟩, ⟨_, c6⟩, c7, c8, c9, B2⟩
  clear hK K
  try simp only [Act.put, List.setIfInBounds_toArray, List.set_cons_zero, List.set_cons_succ]
  refine wpAnyH_ready (rs := [17]) (by kernel_rfl) (by simp) ?_
  refine AllReadyH.cons rfl (fun K hK => ?_) AllReadyH.nil
  go_simp
  go_at_call_of 60 (Value.int .i64 b.d); refine (of_num b.d _ Qbd.out.1 Qbd.out.2).mono ?_; rintro e wt ⟨kB, rfl, hkB, NB, bt⟩; have nB := Lib.hid NB; clear NB; have nA := Lib.hid (Num.below nA.out bt rfl)
  (try go_wp2_with fail)
  refine hK.out _ _ ?_ (fun hHeld => ?_)
  · first
      | assumption
      | exact two_keep bt rfl (by assumption)
      | exact two_set _ _ (by assumption)
      | exact two_keep (Below.drew (Below.refl _ _)) rfl ⟨c1, c2, c3, c4, ⟨_, c5⟩, ⟨_, c6⟩, c7, c8, c9, B2⟩
  clear hK K
  try simp only [Act.put, List.setIfInBounds_toArray, List.set_cons_zero, List.set_cons_succ]
  refine wpAnyH_ready (rs := [18]) (by kernel_rfl) (by simp) ?_
  refine AllReadyH.cons rfl (fun K hK => ?_) AllReadyH.nil
  go_simp
  go_at_call 64; refine (times_num kA kB _ _ _ nA.out nB.out P1.out.1 P1.out.2).mono ?_; rintro e wt ⟨kT, rfl, hkT, NT, bt⟩; have nT := Lib.hid NT; clear NT
  (try go_wp2_with fail)
  refine hK.out _ _ ?_ (fun hHeld => ?_)
  · first
      | assumption
      | exact two_keep bt rfl (by assumption)
      | exact two_set _ _ (by assumption)
      | exact two_keep (Below.drew (Below.refl _ _)) rfl ⟨c1, c2, c3, c4, ⟨_, c5⟩, ⟨_, c6⟩, c7, c8, c9, B2⟩
  clear hK K
  try simp only [Act.put, List.setIfInBounds_toArray, List.set_cons_zero, List.set_cons_succ]
  refine wpAnyH_ready (rs := [21]) (by kernel_rfl) (by simp) ?_
  refine AllReadyH.cons rfl (fun K hK => ?_) AllReadyH.nil
  go_simp
  go_at_call_of 60 (Value.int .i64 a.d); refine (of_num a.d _ Qad.out.1 Qad.out.2).mono ?_; rintro e wt ⟨kC, rfl, hkC, NC, bt⟩; have nC := Lib.hid NC; clear NC; have nT := Lib.hid (Num.below nT.out bt rfl)
  (try go_wp2_with fail)
  refine hK.out _ _ ?_ (fun hHeld => ?_)
  · first
      | assumption
      | exact two_keep bt rfl (by assumption)
      | exact two_set _ _ (by assumption)
      | exact two_keep (Below.drew (Below.refl _ _)) rfl ⟨c1, c2, c3, c4, ⟨_, c5⟩, ⟨_, c6⟩, c7, c8, c9, B2⟩
  clear hK K
  try simp only [Act.put, List.setIfInBounds_toArray, List.set_cons_zero, List.set_cons_succ]
  refine wpAnyH_ready (rs := [24]) (by kernel_rfl) (by simp) ?_
  refine AllReadyH.cons rfl (fun K hK => ?_) AllReadyH.nil
  go_simp
  go_at_call_of 60 (Value.int .i64 b.n); refine (of_num b.n _ Qbn.out.1 Qbn.out.2).mono ?_; rintro e wt ⟨kD, rfl, hkD, ND, bt⟩; have nD := Lib.hid ND; clear ND; have nT := Lib.hid (Num.below nT.out bt rfl); have nC := Lib.hid (Num.below nC.out bt rfl)
  (try go_wp2_with fail)
  refine hK.out _ _ ?_ (fun hHeld => ?_)
  · first
      | assumption
      | exact two_keep bt rfl (by assumption)
      | exact two_set _ _ (by assumption)
      | exact two_keep (Below.drew (Below.refl _ _)) rfl ⟨c1, c2, c3, c4, ⟨_, c5⟩, ⟨_, c6⟩, c7, c8, c9, B2⟩
  clear hK K
  try simp only [Act.put, List.setIfInBounds_toArray, List.set_cons_zero, List.set_cons_succ]
  refine wpAnyH_ready (rs := [25]) (by kernel_rfl) (by simp) ?_
  refine AllReadyH.cons rfl (fun K hK => ?_) AllReadyH.nil
  go_simp
  go_at_call 64; refine (times_num kC kD _ _ _ nC.out nD.out P2.out.1 P2.out.2).mono ?_; rintro e wt ⟨kU, rfl, hkU, NU, bt⟩; have nU := Lib.hid NU; clear NU; have nT := Lib.hid (Num.below nT.out bt rfl)
  (try go_wp2_with fail)
  refine hK.out _ _ ?_ (fun hHeld => ?_)
  · first
      | assumption
      | exact two_keep bt rfl (by assumption)
      | exact two_set _ _ (by assumption)
      | exact two_keep (Below.drew (Below.refl _ _)) rfl ⟨c1, c2, c3, c4, ⟨_, c5⟩, ⟨_, c6⟩, c7, c8, c9, B2⟩
  clear hK K
  try simp only [Act.put, List.setIfInBounds_toArray, List.set_cons_zero, List.set_cons_succ]
  refine wpAnyH_ready (rs := [26]) (by kernel_rfl) (by simp) ?_
  refine AllReadyH.cons rfl (fun K hK => ?_) AllReadyH.nil
  go_simp
  go_at_call 59; refine (HGive.out kT kU _ nT.out nU.out).mono ?_; rintro e wt ⟨rfl, bt⟩; obtain ⟨k1, k2, k3, k4, ⟨z0, k5⟩, ⟨z1, k6⟩, k7, k8, k9, k10⟩ := two_keep bt rfl (by assumption)
  (try go_wp2_with fail)
  refine hK.out _ _ ?_ (fun hHeld => ?_)
  · first
      | assumption
      | exact two_keep bt rfl (by assumption)
      | exact two_set _ _ (by assumption)
      | exact two_keep (Below.drew (Below.refl _ _)) rfl ⟨c1, c2, c3, c4, ⟨_, c5⟩, ⟨_, c6⟩, c7, c8, c9, B2⟩
  clear hK K
  try simp only [Act.put, List.setIfInBounds_toArray, List.set_cons_zero, List.set_cons_succ]
  refine wpAnyH_take (i := 27) (v := ?_) rfl (by kernel_rfl) (by kernel_rfl) (by kernel_rfl) (fun _ _ _ h => h) (Or.inl ⟨by kernel_rfl, ?_⟩) (by assumption) ?_
  rotate_left
  · (intro w hSw; (try dsimp only at hSw); go_simp; first | done | with_reducible rfl)
  try simp only [Act.put, List.setIfInBounds_toArray, List.set_cons_zero, List.set_cons_succ]
  refine wpAnyH_take (i := 28) (v := ?_) rfl (by kernel_rfl) (by kernel_rfl) (by kernel_rfl) (fun _ _ _ h => h) (Or.inl ⟨by kernel_rfl, ?_⟩) (by assumption) ?_
  rotate_left
  · (intro w hSw; (try dsimp only at hSw); go_simp; first | done | with_reducible rfl)
  try simp only [Act.put, List.setIfInBounds_toArray, List.set_cons_zero, List.set_cons_succ]
  refine wpAnyH_ready (rs := [29]) (by kernel_rfl) (by simp) ?_
  refine AllReadyH.cons rfl (fun K hK => ?_) AllReadyH.nil
  go_simp
  refine hK.out _ _ ?_ (fun hHeld => ?_)
  · first
      | assumption
      | exact two_keep bt rfl (by assumption)
      | exact two_set _ _ (by assumption)
      | exact two_keep (Below.drew (Below.refl _ _)) rfl ⟨c1, c2, c3, c4, ⟨_, c5⟩, ⟨_, c6⟩, c7, c8, c9, B2⟩
  clear hK K
  try simp only [Act.put, List.setIfInBounds_toArray, List.set_cons_zero, List.set_cons_succ]
  refine wpAnyH_ready (rs := [30]) (by kernel_rfl) (by simp) ?_
  refine AllReadyH.cons rfl (fun K hK => ?_) AllReadyH.nil
  go_simp
  refine hK.out _ _ ?_ (fun hHeld => ?_)
  · first
      | assumption
      | exact two_keep bt rfl (by assumption)
      | exact two_set _ _ (by assumption)
      | exact two_keep (Below.drew (Below.refl _ _)) rfl ⟨c1, c2, c3, c4, ⟨_, c5⟩, ⟨_, c6⟩, c7, c8, c9, B2⟩
  clear hK K
  try simp only [Act.put, List.setIfInBounds_toArray, List.set_cons_zero, List.set_cons_succ]
  refine wpAnyH_done (by kernel_rfl) ?_ _
  all_goals go_wp2_with fail
  all_goals refine bodyPost_ret (v := .tuple #[.agg #[.int .i64 v, .int .i64 u], .int .i64 er]) (by simp [results, Tryz.results40, go_sem, *]) rfl ⟨rfl, ?_⟩
  all_goals exact Below.setCell (Below.setCell k10 (by simp only; omega) _) (by simp only; omega) _

end Go.Proofs.YtfbijgbpipedoaaGreatDoor

namespace Go.Proofs.YtfbijgbpipedoaaGreatDoor
open Go.RowKit Ra

theorem tdiv_parts {n d : Int} (h : 0 < d) (n0 : -1152921504606846976 ≤ n) (n1 : n ≤ 1152921504606846976) : (n.tdiv d).natAbs ≤ 1152921504606846976 ∧ -1152921504606846976 ≤ n.tdiv d * d ∧ n.tdiv d * d ≤ 1152921504606846976 ∧ (n < n.tdiv d * d ∧ n / d = n.tdiv d - 1 ∨ ¬ n < n.tdiv d * d ∧ n / d = n.tdiv d) := by
  have h1 := Int.mul_tdiv_add_tmod n d
  have h0 := Int.mul_comm d (n.tdiv d)
  have h2 := tdiv_floor (n := n) h
  have h3 : (n.tmod d).natAbs ≤ n.natAbs := by rw [Int.natAbs_tmod]; exact Nat.mod_le _ _
  have h4 : (n.tdiv d).natAbs ≤ n.natAbs := by rw [Int.natAbs_tdiv]; exact Nat.div_le_self _ _
  have h5 : 0 ≤ n → 0 ≤ n.tmod d := fun hh => Int.tmod_nonneg _ hh
  have h6 : n ≤ 0 → n.tmod d ≤ 0 := fun hh => by
    have := Int.tmod_nonneg d (show 0 ≤ -n by omega)
    rw [Int.neg_tmod] at this
    omega
  by_cases hr : n.tmod d < 0
  · rw [if_pos hr] at h2
    omega
  · rw [if_neg hr] at h2
    omega

end Go.Proofs.YtfbijgbpipedoaaGreatDoor

namespace Go.Proofs.YtfbijgbpipedoaaGreatDoor
open Go.RowKit Ra

end Go.Proofs.YtfbijgbpipedoaaGreatDoor

namespace Go.Proofs.YtfbijgbpipedoaaGreatDoor
open Go.RowKit Ra
attribute [local go_sem ↓] Go.wp_at_zero Go.wp_at_succ

set_option maxHeartbeats 2000000 in
theorem rdiv_zero (a b : Q) (w : World) (HA : Hid (∀ w, Calls Tryz.prog 63 #[.agg #[.int .i64 a.n, .int .i64 a.d]] w fun e w' => e = .returned (.bool true) ∧ Below w.heap.size w w')) (HB : Hid (∀ w, Calls Tryz.prog 63 #[.agg #[.int .i64 b.n, .int .i64 b.d]] w fun e w' => e = .returned (.bool true) ∧ Below w.heap.size w w')) (Hz : Hid (b.n = 0)) :
    Calls Tryz.prog 40 #[.agg #[.int .i64 a.n, .int .i64 a.d], .agg #[.int .i64 b.n, .int .i64 b.d]] w fun e w' => e = .returned (.tuple #[.agg #[.int .i64 0, .int .i64 0], .int .i64 1]) ∧ Below w.heap.size w w' := by
  obtain ⟨W, hW⟩ : ∃ W, W = Two a b w := ⟨_, rfl⟩
  have T0 : TwoAt a b w.heap.size W := by rw [hW]; exact two_at a b w
  have B0 : Below w.heap.size w W := by rw [hW]; exact two_below a b w
  unfold Two at hW
  have HW := Lib.hid hW
  clear hW
  go_enter Tryz.func40, Tryz.ntmps40
  go_wp2_with fail
  rw [← HW.out]
  refine (HA.out _).mono ?_
  rintro e w1 ⟨rfl, b1⟩
  have T1 := T0.below b1
  have B1 := Below.trans B0 (b1.mono B0.size)
  obtain ⟨c1, c2, c3, c4, c5, c6, c7, c8, c9⟩ := T1
  go_wp2_with fail
  refine (HB.out _).mono ?_
  rintro e w2 ⟨rfl, b2⟩
  have T2 := TwoAt.below ⟨c1, c2, c3, c4, c5, c6, c7, c8, c9⟩ b2
  have B2 := Below.trans B1 (b2.mono B1.size)
  clear c1 c2 c3 c4 c5 c6 c7 c8 c9
  obtain ⟨c1, c2, c3, c4, c5, c6, c7, c8, c9⟩ := T2
  have hz := Hz.out
  rw [hz] at c3
  go_wp2_with fail
  refine bodyPost_ret (v := .tuple #[.agg #[.int .i64 0, .int .i64 0], .int .i64 1]) (by simp [results, Tryz.results40, go_sem, *]) rfl ⟨rfl, ?_⟩
  exact Below.setCell (Below.setCell B2 (by simp only; omega) _) (by simp only; omega) _

theorem rcmp_not1 (a b : Q) (w : World) (HA : Hid (∀ w, Calls Tryz.prog 63 #[.agg #[.int .i64 a.n, .int .i64 a.d]] w fun e w' => e = .returned (.bool false) ∧ Below w.heap.size w w')) :
    Calls Tryz.prog 44 #[.agg #[.int .i64 a.n, .int .i64 a.d], .agg #[.int .i64 b.n, .int .i64 b.d]] w fun e w' => e = .returned (.int .i64 0) ∧ Below w.heap.size w w' := by
  obtain ⟨W, hW⟩ : ∃ W, W = Par a b w := ⟨_, rfl⟩
  have P0 : HoldP a b w.heap.size w W := by rw [hW]; exact par_at a b w
  unfold Par at hW
  have HW := Lib.hid hW
  clear hW
  go_enter Tryz.func44, Tryz.ntmps44
  go_wp2_with fail
  rw [← HW.out]
  refine (HA.out _).mono ?_
  rintro e w1 ⟨rfl, b1⟩
  obtain ⟨c1, c2, c3, c4, c9, B1⟩ := par_keep b1 rfl P0
  go_wp2_with fail
  go_ret
  exact ⟨rfl, B1⟩
theorem rcmp_not2 (a b : Q) (w : World) (HA : Hid (∀ w, Calls Tryz.prog 63 #[.agg #[.int .i64 a.n, .int .i64 a.d]] w fun e w' => e = .returned (.bool true) ∧ Below w.heap.size w w'))
    (HB : Hid (∀ w, Calls Tryz.prog 63 #[.agg #[.int .i64 b.n, .int .i64 b.d]] w fun e w' => e = .returned (.bool false) ∧ Below w.heap.size w w')) :
    Calls Tryz.prog 44 #[.agg #[.int .i64 a.n, .int .i64 a.d], .agg #[.int .i64 b.n, .int .i64 b.d]] w fun e w' => e = .returned (.int .i64 0) ∧ Below w.heap.size w w' := by
  obtain ⟨W, hW⟩ : ∃ W, W = Par a b w := ⟨_, rfl⟩
  have P0 : HoldP a b w.heap.size w W := by rw [hW]; exact par_at a b w
  unfold Par at hW
  have HW := Lib.hid hW
  clear hW
  go_enter Tryz.func44, Tryz.ntmps44
  go_wp2_with fail
  rw [← HW.out]
  refine (HA.out _).mono ?_
  rintro e w1 ⟨rfl, b1⟩
  obtain ⟨c1, c2, c3, c4, c9, B1⟩ := par_keep b1 rfl P0
  go_wp2_with fail
  refine (HB.out _).mono ?_
  rintro e w2 ⟨rfl, b2⟩
  have P2 := par_keep b2 rfl ⟨c1, c2, c3, c4, c9, B1⟩
  clear c1 c2 c3 c4 c9 B1
  obtain ⟨c1, c2, c3, c4, c9, B2⟩ := P2
  go_wp2_with fail
  go_ret
  exact ⟨rfl, B2⟩

set_option maxHeartbeats 4000000 in
theorem rcmp_z (a b : Q) (ma mb mn : Bool) (N : Nat) (c : Int) (w : World)
    (HA : Hid (∀ w, Calls Tryz.prog 63 #[.agg #[.int .i64 a.n, .int .i64 a.d]] w fun e w' => e = .returned (.bool true) ∧ Below w.heap.size w w'))
    (HB : Hid (∀ w, Calls Tryz.prog 63 #[.agg #[.int .i64 b.n, .int .i64 b.d]] w fun e w' => e = .returned (.bool true) ∧ Below w.heap.size w w'))
    (Qan : Hid (-9223372036854775808 ≤ a.n ∧ a.n ≤ 9223372036854775807)) (Qad : Hid (-9223372036854775808 ≤ a.d ∧ a.d ≤ 9223372036854775807)) (Qbn : Hid (-9223372036854775808 ≤ b.n ∧ b.n ≤ 9223372036854775807)) (Qbd : Hid (-9223372036854775808 ≤ b.d ∧ b.d ≤ 9223372036854775807))
    (P1 : Hid (a.n.natAbs * b.d.natAbs < 1073741824 ^ 5 ∧ a.n.natAbs < 1073741824 ^ 5))
    (P2 : Hid (b.n.natAbs * a.d.natAbs < 1073741824 ^ 5 ∧ b.n.natAbs < 1073741824 ^ 5))
    (HSum : Hid (∀ (g h : Nat) (w : World), Num w g (a.n.natAbs * b.d.natAbs) → Num w h (b.n.natAbs * a.d.natAbs) → Calls Tryz.prog 72 #[.slice (some ⟨g, 0, none⟩) 5 5, .bool ma, .slice (some ⟨h, 0, none⟩) 5 5, .bool mb] w fun e w' => ∃ k, e = .returned (.tuple #[.slice (some ⟨k, 0, none⟩) 5 5, .bool mn]) ∧ w.heap.size ≤ k ∧ Num w' k N ∧ Below w.heap.size w w'))
    (LN : Hid (N < 1073741824 ^ 5)) (ea : decide (a.n < 0) = ma) (eb : decide (0 ≤ b.n) = mb)
    (hz : decide (N = 0) = true) (hc : c = 0)
    : Calls Tryz.prog 44 #[.agg #[.int .i64 a.n, .int .i64 a.d], .agg #[.int .i64 b.n, .int .i64 b.d]] w fun e w' => e = .returned (.int .i64 c) ∧ Below w.heap.size w w' := by
  subst hc
  obtain ⟨W, hW⟩ : ∃ W, W = Par a b w := ⟨_, rfl⟩
  have P0 : HoldP a b w.heap.size w W := by rw [hW]; exact par_at a b w
  unfold Par at hW
  have HW := Lib.hid hW
  clear hW
  go_enter Tryz.func44, Tryz.ntmps44
  go_wp2_with fail
  rw [← HW.out]
  refine (HA.out _).mono ?_
  rintro e w1 ⟨rfl, b1⟩
  obtain ⟨c1, c2, c3, c4, c9, B1⟩ := par_keep b1 rfl P0
  go_wp2_with fail
  refine (HB.out _).mono ?_
  rintro e w2 ⟨rfl, b2⟩
  have P2' := par_keep b2 rfl ⟨c1, c2, c3, c4, c9, B1⟩
  clear c1 c2 c3 c4 c9 B1
  obtain ⟨c1, c2, c3, c4, c9, B2⟩ := P2'
  go_wp2_with fail
  go_region_held3 (fun w' => w'.cell? ⟨w.heap.size, 0, none⟩ = some (.int .i64 a.n) ∧ w'.cell? ⟨w.heap.size, 1, none⟩ = some (.int .i64 a.d) ∧ w'.cell? ⟨w.heap.size + 1, 0, none⟩ = some (.int .i64 b.n) ∧ w'.cell? ⟨w.heap.size + 1, 1, none⟩ = some (.int .i64 b.d) ∧ w.heap.size + 2 ≤ w'.heap.size ∧ Below w.heap.size w w')
    (first
      | assumption
      | exact par_keep bt rfl (by assumption)
      | exact par_keep (Below.drew (Below.refl _ _)) rfl ⟨c1, c2, c3, c4, c9, B2⟩)
    (first
      | (go_at_call_of 60 (Value.int .i64 a.n); refine (of_num a.n _ Qan.out.1 Qan.out.2).mono ?_; rintro e wt ⟨kA, rfl, hkA, NA, bt⟩; have nA := Lib.hid NA; clear NA)
      | (go_at_call_of 60 (Value.int .i64 b.d); refine (of_num b.d _ Qbd.out.1 Qbd.out.2).mono ?_; rintro e wt ⟨kB, rfl, hkB, NB, bt⟩; have nB := Lib.hid NB; clear NB; have nA := Lib.hid (Num.below nA.out bt rfl))
      | (go_at_call_of 60 (Value.int .i64 b.n); refine (of_num b.n _ Qbn.out.1 Qbn.out.2).mono ?_; rintro e wt ⟨kC, rfl, hkC, NC, bt⟩; have nC := Lib.hid NC; clear NC; have nT := Lib.hid (Num.below nT.out bt rfl))
      | (go_at_call_of 60 (Value.int .i64 a.d); refine (of_num a.d _ Qad.out.1 Qad.out.2).mono ?_; rintro e wt ⟨kD, rfl, hkD, ND, bt⟩; have nD := Lib.hid ND; clear ND; have nT := Lib.hid (Num.below nT.out bt rfl); have nC := Lib.hid (Num.below nC.out bt rfl))
      | (go_at_call 64; refine (times_num kC kD _ _ _ nC.out nD.out P2.out.1 P2.out.2).mono ?_; rintro e wt ⟨kU, rfl, hkU, NU, bt⟩; have nU := Lib.hid NU; clear NU; have nT := Lib.hid (Num.below nT.out bt rfl))
      | (go_at_call 64; refine (times_num kA kB _ _ _ nA.out nB.out P1.out.1 P1.out.2).mono ?_; rintro e wt ⟨kT, rfl, hkT, NT, bt⟩; have nT := Lib.hid NT; clear NT)
      | (go_at_call 72; refine (HSum.out kT kU _ nT.out nU.out).mono ?_; rintro e wt ⟨kN, rfl, hkN, NN, bt⟩; have nN := Lib.hid NN; clear NN))
  have hold : HoldP a b w.heap.size w wt := by assumption
  obtain ⟨d1, d2, d3, d4, d9, B5⟩ := hold
  clear c1 c2 c3 c4 c9
  have ZZ := Lib.hid (zero_num kN _ wt nN.out LN.out)
  go_wp2_with fail
  refine ZZ.out.mono ?_
  rintro e w6 ⟨rfl, b6⟩
  rw [hz]
  go_wp2_with fail
  all_goals go_ret
  all_goals exact ⟨rfl, Below.trans B5 (b6.mono B5.size)⟩

set_option maxHeartbeats 4000000 in
theorem rcmp_neg (a b : Q) (ma mb : Bool) (N : Nat) (c : Int) (w : World)
    (HA : Hid (∀ w, Calls Tryz.prog 63 #[.agg #[.int .i64 a.n, .int .i64 a.d]] w fun e w' => e = .returned (.bool true) ∧ Below w.heap.size w w'))
    (HB : Hid (∀ w, Calls Tryz.prog 63 #[.agg #[.int .i64 b.n, .int .i64 b.d]] w fun e w' => e = .returned (.bool true) ∧ Below w.heap.size w w'))
    (Qan : Hid (-9223372036854775808 ≤ a.n ∧ a.n ≤ 9223372036854775807)) (Qad : Hid (-9223372036854775808 ≤ a.d ∧ a.d ≤ 9223372036854775807)) (Qbn : Hid (-9223372036854775808 ≤ b.n ∧ b.n ≤ 9223372036854775807)) (Qbd : Hid (-9223372036854775808 ≤ b.d ∧ b.d ≤ 9223372036854775807))
    (P1 : Hid (a.n.natAbs * b.d.natAbs < 1073741824 ^ 5 ∧ a.n.natAbs < 1073741824 ^ 5))
    (P2 : Hid (b.n.natAbs * a.d.natAbs < 1073741824 ^ 5 ∧ b.n.natAbs < 1073741824 ^ 5))
    (HSum : Hid (∀ (g h : Nat) (w : World), Num w g (a.n.natAbs * b.d.natAbs) → Num w h (b.n.natAbs * a.d.natAbs) → Calls Tryz.prog 72 #[.slice (some ⟨g, 0, none⟩) 5 5, .bool ma, .slice (some ⟨h, 0, none⟩) 5 5, .bool mb] w fun e w' => ∃ k, e = .returned (.tuple #[.slice (some ⟨k, 0, none⟩) 5 5, .bool true]) ∧ w.heap.size ≤ k ∧ Num w' k N ∧ Below w.heap.size w w'))
    (LN : Hid (N < 1073741824 ^ 5)) (ea : decide (a.n < 0) = ma) (eb : decide (0 ≤ b.n) = mb)
    (hz : decide (N = 0) = false) (hc : c = -1)
    : Calls Tryz.prog 44 #[.agg #[.int .i64 a.n, .int .i64 a.d], .agg #[.int .i64 b.n, .int .i64 b.d]] w fun e w' => e = .returned (.int .i64 c) ∧ Below w.heap.size w w' := by
  subst hc
  obtain ⟨W, hW⟩ : ∃ W, W = Par a b w := ⟨_, rfl⟩
  have P0 : HoldP a b w.heap.size w W := by rw [hW]; exact par_at a b w
  unfold Par at hW
  have HW := Lib.hid hW
  clear hW
  go_enter Tryz.func44, Tryz.ntmps44
  go_wp2_with fail
  rw [← HW.out]
  refine (HA.out _).mono ?_
  rintro e w1 ⟨rfl, b1⟩
  obtain ⟨c1, c2, c3, c4, c9, B1⟩ := par_keep b1 rfl P0
  go_wp2_with fail
  refine (HB.out _).mono ?_
  rintro e w2 ⟨rfl, b2⟩
  have P2' := par_keep b2 rfl ⟨c1, c2, c3, c4, c9, B1⟩
  clear c1 c2 c3 c4 c9 B1
  obtain ⟨c1, c2, c3, c4, c9, B2⟩ := P2'
  go_wp2_with fail
  go_region_held3 (fun w' => w'.cell? ⟨w.heap.size, 0, none⟩ = some (.int .i64 a.n) ∧ w'.cell? ⟨w.heap.size, 1, none⟩ = some (.int .i64 a.d) ∧ w'.cell? ⟨w.heap.size + 1, 0, none⟩ = some (.int .i64 b.n) ∧ w'.cell? ⟨w.heap.size + 1, 1, none⟩ = some (.int .i64 b.d) ∧ w.heap.size + 2 ≤ w'.heap.size ∧ Below w.heap.size w w')
    (first
      | assumption
      | exact par_keep bt rfl (by assumption)
      | exact par_keep (Below.drew (Below.refl _ _)) rfl ⟨c1, c2, c3, c4, c9, B2⟩)
    (first
      | (go_at_call_of 60 (Value.int .i64 a.n); refine (of_num a.n _ Qan.out.1 Qan.out.2).mono ?_; rintro e wt ⟨kA, rfl, hkA, NA, bt⟩; have nA := Lib.hid NA; clear NA)
      | (go_at_call_of 60 (Value.int .i64 b.d); refine (of_num b.d _ Qbd.out.1 Qbd.out.2).mono ?_; rintro e wt ⟨kB, rfl, hkB, NB, bt⟩; have nB := Lib.hid NB; clear NB; have nA := Lib.hid (Num.below nA.out bt rfl))
      | (go_at_call_of 60 (Value.int .i64 b.n); refine (of_num b.n _ Qbn.out.1 Qbn.out.2).mono ?_; rintro e wt ⟨kC, rfl, hkC, NC, bt⟩; have nC := Lib.hid NC; clear NC; have nT := Lib.hid (Num.below nT.out bt rfl))
      | (go_at_call_of 60 (Value.int .i64 a.d); refine (of_num a.d _ Qad.out.1 Qad.out.2).mono ?_; rintro e wt ⟨kD, rfl, hkD, ND, bt⟩; have nD := Lib.hid ND; clear ND; have nT := Lib.hid (Num.below nT.out bt rfl); have nC := Lib.hid (Num.below nC.out bt rfl))
      | (go_at_call 64; refine (times_num kC kD _ _ _ nC.out nD.out P2.out.1 P2.out.2).mono ?_; rintro e wt ⟨kU, rfl, hkU, NU, bt⟩; have nU := Lib.hid NU; clear NU; have nT := Lib.hid (Num.below nT.out bt rfl))
      | (go_at_call 64; refine (times_num kA kB _ _ _ nA.out nB.out P1.out.1 P1.out.2).mono ?_; rintro e wt ⟨kT, rfl, hkT, NT, bt⟩; have nT := Lib.hid NT; clear NT)
      | (go_at_call 72; refine (HSum.out kT kU _ nT.out nU.out).mono ?_; rintro e wt ⟨kN, rfl, hkN, NN, bt⟩; have nN := Lib.hid NN; clear NN))
  have hold : HoldP a b w.heap.size w wt := by assumption
  obtain ⟨d1, d2, d3, d4, d9, B5⟩ := hold
  clear c1 c2 c3 c4 c9
  have ZZ := Lib.hid (zero_num kN _ wt nN.out LN.out)
  go_wp2_with fail
  refine ZZ.out.mono ?_
  rintro e w6 ⟨rfl, b6⟩
  rw [hz]
  go_wp2_with fail
  all_goals go_ret
  all_goals exact ⟨rfl, Below.trans B5 (b6.mono B5.size)⟩

set_option maxHeartbeats 4000000 in
theorem rcmp_pos (a b : Q) (ma mb : Bool) (N : Nat) (c : Int) (w : World)
    (HA : Hid (∀ w, Calls Tryz.prog 63 #[.agg #[.int .i64 a.n, .int .i64 a.d]] w fun e w' => e = .returned (.bool true) ∧ Below w.heap.size w w'))
    (HB : Hid (∀ w, Calls Tryz.prog 63 #[.agg #[.int .i64 b.n, .int .i64 b.d]] w fun e w' => e = .returned (.bool true) ∧ Below w.heap.size w w'))
    (Qan : Hid (-9223372036854775808 ≤ a.n ∧ a.n ≤ 9223372036854775807)) (Qad : Hid (-9223372036854775808 ≤ a.d ∧ a.d ≤ 9223372036854775807)) (Qbn : Hid (-9223372036854775808 ≤ b.n ∧ b.n ≤ 9223372036854775807)) (Qbd : Hid (-9223372036854775808 ≤ b.d ∧ b.d ≤ 9223372036854775807))
    (P1 : Hid (a.n.natAbs * b.d.natAbs < 1073741824 ^ 5 ∧ a.n.natAbs < 1073741824 ^ 5))
    (P2 : Hid (b.n.natAbs * a.d.natAbs < 1073741824 ^ 5 ∧ b.n.natAbs < 1073741824 ^ 5))
    (HSum : Hid (∀ (g h : Nat) (w : World), Num w g (a.n.natAbs * b.d.natAbs) → Num w h (b.n.natAbs * a.d.natAbs) → Calls Tryz.prog 72 #[.slice (some ⟨g, 0, none⟩) 5 5, .bool ma, .slice (some ⟨h, 0, none⟩) 5 5, .bool mb] w fun e w' => ∃ k, e = .returned (.tuple #[.slice (some ⟨k, 0, none⟩) 5 5, .bool false]) ∧ w.heap.size ≤ k ∧ Num w' k N ∧ Below w.heap.size w w'))
    (LN : Hid (N < 1073741824 ^ 5)) (ea : decide (a.n < 0) = ma) (eb : decide (0 ≤ b.n) = mb)
    (hz : decide (N = 0) = false) (hc : c = 1)
    : Calls Tryz.prog 44 #[.agg #[.int .i64 a.n, .int .i64 a.d], .agg #[.int .i64 b.n, .int .i64 b.d]] w fun e w' => e = .returned (.int .i64 c) ∧ Below w.heap.size w w' := by
  subst hc
  obtain ⟨W, hW⟩ : ∃ W, W = Par a b w := ⟨_, rfl⟩
  have P0 : HoldP a b w.heap.size w W := by rw [hW]; exact par_at a b w
  unfold Par at hW
  have HW := Lib.hid hW
  clear hW
  go_enter Tryz.func44, Tryz.ntmps44
  go_wp2_with fail
  rw [← HW.out]
  refine (HA.out _).mono ?_
  rintro e w1 ⟨rfl, b1⟩
  obtain ⟨c1, c2, c3, c4, c9, B1⟩ := par_keep b1 rfl P0
  go_wp2_with fail
  refine (HB.out _).mono ?_
  rintro e w2 ⟨rfl, b2⟩
  have P2' := par_keep b2 rfl ⟨c1, c2, c3, c4, c9, B1⟩
  clear c1 c2 c3 c4 c9 B1
  obtain ⟨c1, c2, c3, c4, c9, B2⟩ := P2'
  go_wp2_with fail
  go_region_held3 (fun w' => w'.cell? ⟨w.heap.size, 0, none⟩ = some (.int .i64 a.n) ∧ w'.cell? ⟨w.heap.size, 1, none⟩ = some (.int .i64 a.d) ∧ w'.cell? ⟨w.heap.size + 1, 0, none⟩ = some (.int .i64 b.n) ∧ w'.cell? ⟨w.heap.size + 1, 1, none⟩ = some (.int .i64 b.d) ∧ w.heap.size + 2 ≤ w'.heap.size ∧ Below w.heap.size w w')
    (first
      | assumption
      | exact par_keep bt rfl (by assumption)
      | exact par_keep (Below.drew (Below.refl _ _)) rfl ⟨c1, c2, c3, c4, c9, B2⟩)
    (first
      | (go_at_call_of 60 (Value.int .i64 a.n); refine (of_num a.n _ Qan.out.1 Qan.out.2).mono ?_; rintro e wt ⟨kA, rfl, hkA, NA, bt⟩; have nA := Lib.hid NA; clear NA)
      | (go_at_call_of 60 (Value.int .i64 b.d); refine (of_num b.d _ Qbd.out.1 Qbd.out.2).mono ?_; rintro e wt ⟨kB, rfl, hkB, NB, bt⟩; have nB := Lib.hid NB; clear NB; have nA := Lib.hid (Num.below nA.out bt rfl))
      | (go_at_call_of 60 (Value.int .i64 b.n); refine (of_num b.n _ Qbn.out.1 Qbn.out.2).mono ?_; rintro e wt ⟨kC, rfl, hkC, NC, bt⟩; have nC := Lib.hid NC; clear NC; have nT := Lib.hid (Num.below nT.out bt rfl))
      | (go_at_call_of 60 (Value.int .i64 a.d); refine (of_num a.d _ Qad.out.1 Qad.out.2).mono ?_; rintro e wt ⟨kD, rfl, hkD, ND, bt⟩; have nD := Lib.hid ND; clear ND; have nT := Lib.hid (Num.below nT.out bt rfl); have nC := Lib.hid (Num.below nC.out bt rfl))
      | (go_at_call 64; refine (times_num kC kD _ _ _ nC.out nD.out P2.out.1 P2.out.2).mono ?_; rintro e wt ⟨kU, rfl, hkU, NU, bt⟩; have nU := Lib.hid NU; clear NU; have nT := Lib.hid (Num.below nT.out bt rfl))
      | (go_at_call 64; refine (times_num kA kB _ _ _ nA.out nB.out P1.out.1 P1.out.2).mono ?_; rintro e wt ⟨kT, rfl, hkT, NT, bt⟩; have nT := Lib.hid NT; clear NT)
      | (go_at_call 72; refine (HSum.out kT kU _ nT.out nU.out).mono ?_; rintro e wt ⟨kN, rfl, hkN, NN, bt⟩; have nN := Lib.hid NN; clear NN))
  have hold : HoldP a b w.heap.size w wt := by assumption
  obtain ⟨d1, d2, d3, d4, d9, B5⟩ := hold
  clear c1 c2 c3 c4 c9
  have ZZ := Lib.hid (zero_num kN _ wt nN.out LN.out)
  go_wp2_with fail
  refine ZZ.out.mono ?_
  rintro e w6 ⟨rfl, b6⟩
  rw [hz]
  go_wp2_with fail
  all_goals go_ret
  all_goals exact ⟨rfl, Below.trans B5 (b6.mono B5.size)⟩

end Go.Proofs.YtfbijgbpipedoaaGreatDoor

namespace Go.Proofs.YtfbijgbpipedoaaGreatDoor
open Go.RowKit Ra
attribute [local go_sem ↓] Go.wp_at_zero Go.wp_at_succ

set_option linter.unusedSimpArgs false in
set_option maxHeartbeats 4000000 in
theorem radd_pos (a b : Q) (ma mb : Bool) (N : Nat) (v u er : Int) (w : World)
    (HA : Hid (∀ w, Calls Tryz.prog 63 #[.agg #[.int .i64 a.n, .int .i64 a.d]] w fun e w' => e = .returned (.bool true) ∧ Below w.heap.size w w'))
    (HB : Hid (∀ w, Calls Tryz.prog 63 #[.agg #[.int .i64 b.n, .int .i64 b.d]] w fun e w' => e = .returned (.bool true) ∧ Below w.heap.size w w'))
    (Qan : Hid (-9223372036854775808 ≤ a.n ∧ a.n ≤ 9223372036854775807)) (Qad : Hid (-9223372036854775808 ≤ a.d ∧ a.d ≤ 9223372036854775807)) (Qbn : Hid (-9223372036854775808 ≤ b.n ∧ b.n ≤ 9223372036854775807)) (Qbd : Hid (-9223372036854775808 ≤ b.d ∧ b.d ≤ 9223372036854775807))
    (P1 : Hid (a.n.natAbs * b.d.natAbs < 1073741824 ^ 5 ∧ a.n.natAbs < 1073741824 ^ 5))
    (P2 : Hid (b.n.natAbs * a.d.natAbs < 1073741824 ^ 5 ∧ b.n.natAbs < 1073741824 ^ 5))
    (P3 : Hid (a.d.natAbs * b.d.natAbs < 1073741824 ^ 5 ∧ a.d.natAbs < 1073741824 ^ 5))
    (HSum : Hid (∀ (g h : Nat) (w : World), Num w g (a.n.natAbs * b.d.natAbs) → Num w h (b.n.natAbs * a.d.natAbs) → Calls Tryz.prog 72 #[.slice (some ⟨g, 0, none⟩) 5 5, .bool ma, .slice (some ⟨h, 0, none⟩) 5 5, .bool mb] w fun e w' => ∃ k, e = .returned (.tuple #[.slice (some ⟨k, 0, none⟩) 5 5, .bool false]) ∧ w.heap.size ≤ k ∧ Num w' k N ∧ Below w.heap.size w w'))
    (HGive : Hid (∀ (g h : Nat) (w : World), Num w g (N) → Num w h (a.d.natAbs * b.d.natAbs) → Calls Tryz.prog 59 #[.bool false, .slice (some ⟨g, 0, none⟩) 5 5, .slice (some ⟨h, 0, none⟩) 5 5] w fun e w' => e = .returned (.tuple #[.agg #[.int .i64 v, .int .i64 u], .int .i64 er]) ∧ Below w.heap.size w w'))
    (ea : decide (a.n < 0) = ma) (eb : decide (b.n < 0) = mb)
    : Calls Tryz.prog 42 #[.agg #[.int .i64 a.n, .int .i64 a.d], .agg #[.int .i64 b.n, .int .i64 b.d]] w fun e w' => e = .returned (.tuple #[.agg #[.int .i64 v, .int .i64 u], .int .i64 er]) ∧ Below w.heap.size w w' := by
  obtain ⟨W, hW⟩ : ∃ W, W = Two a b w := ⟨_, rfl⟩
  have T0 : TwoAt a b w.heap.size W := by rw [hW]; exact two_at a b w
  have B0 : Below w.heap.size w W := by rw [hW]; exact two_below a b w
  unfold Two at hW
  have HW := Lib.hid hW
  clear hW
  go_enter Tryz.func42, Tryz.ntmps42
  go_wp2_with fail
  rw [← HW.out]
  refine (HA.out _).mono ?_
  rintro e w1 ⟨rfl, b1⟩
  have T1 := T0.below b1
  have B1 := Below.trans B0 (b1.mono B0.size)
  obtain ⟨c1, c2, c3, c4, c5, c6, c7, c8, c9⟩ := T1
  go_wp2_with fail
  refine (HB.out _).mono ?_
  rintro e w2 ⟨rfl, b2⟩
  have T2 := TwoAt.below ⟨c1, c2, c3, c4, c5, c6, c7, c8, c9⟩ b2
  have B2 := Below.trans B1 (b2.mono B1.size)
  clear c1 c2 c3 c4 c5 c6 c7 c8 c9
  obtain ⟨c1, c2, c3, c4, c5, c6, c7, c8, c9⟩ := T2
  go_wp2_with fail
  go_region_held3 (fun w' => w'.cell? ⟨w.heap.size, 0, none⟩ = some (.int .i64 a.n) ∧ w'.cell? ⟨w.heap.size, 1, none⟩ = some (.int .i64 a.d) ∧ w'.cell? ⟨w.heap.size + 1, 0, none⟩ = some (.int .i64 b.n) ∧ w'.cell? ⟨w.heap.size + 1, 1, none⟩ = some (.int .i64 b.d) ∧ (∃ v, w'.cell? ⟨w.heap.size + 1 + 1, 0, none⟩ = some v) ∧ (∃ v, w'.cell? ⟨w.heap.size + 1 + 1, 1, none⟩ = some v) ∧ w'.frozen? ⟨w.heap.size + 1 + 1, 0, none⟩ = false ∧ w'.frozen? ⟨w.heap.size + 1 + 1, 1, none⟩ = false ∧ w.heap.size + 3 ≤ w'.heap.size ∧ Below w.heap.size w w')
    (first
      | assumption
      | exact two_keep bt rfl (by assumption)
      | exact two_keep (Below.drew (Below.refl _ _)) rfl ⟨c1, c2, c3, c4, ⟨_, c5⟩, ⟨_, c6⟩, c7, c8, c9, B2⟩)
    (first
      | (go_at_call_of 60 (Value.int .i64 a.n); refine (of_num a.n _ Qan.out.1 Qan.out.2).mono ?_; rintro e wt ⟨kA, rfl, hkA, NA, bt⟩; have nA := Lib.hid NA; clear NA)
      | (go_at_call_of 60 (Value.int .i64 b.d); refine (of_num b.d _ Qbd.out.1 Qbd.out.2).mono ?_; rintro e wt ⟨kB, rfl, hkB, NB, bt⟩; have nB := Lib.hid NB; clear NB; have nA := Lib.hid (Num.below nA.out bt rfl))
      | (go_at_call_of 60 (Value.int .i64 b.n); refine (of_num b.n _ Qbn.out.1 Qbn.out.2).mono ?_; rintro e wt ⟨kC, rfl, hkC, NC, bt⟩; have nC := Lib.hid NC; clear NC; have nT := Lib.hid (Num.below nT.out bt rfl))
      | (go_at_call_of 60 (Value.int .i64 a.d); refine (of_num a.d _ Qad.out.1 Qad.out.2).mono ?_; rintro e wt ⟨kD, rfl, hkD, ND, bt⟩; have nD := Lib.hid ND; clear ND; have nT := Lib.hid (Num.below nT.out bt rfl); have nC := Lib.hid (Num.below nC.out bt rfl))
      | (go_at_call 64; refine (times_num kC kD _ _ _ nC.out nD.out P2.out.1 P2.out.2).mono ?_; rintro e wt ⟨kU, rfl, hkU, NU, bt⟩; have nU := Lib.hid NU; clear NU; have nT := Lib.hid (Num.below nT.out bt rfl))
      | (go_at_call 64; refine (times_num kA kB _ _ _ nA.out nB.out P1.out.1 P1.out.2).mono ?_; rintro e wt ⟨kT, rfl, hkT, NT, bt⟩; have nT := Lib.hid NT; clear NT)
      | (go_at_call 72; refine (HSum.out kT kU _ nT.out nU.out).mono ?_; rintro e wt ⟨kN, rfl, hkN, NN, bt⟩; have nN := Lib.hid NN; clear NN))
  have hold : Hold2 a b w.heap.size w wt := by assumption
  have ND := Lib.hid (Row5.drew1 nN.out)
  clear nN
  have nN := ND
  generalize wt = w5 at *
  obtain ⟨d1, d2, d3, d4, ⟨y5, d5⟩, ⟨y6, d6⟩, d7, d8, d9, B5⟩ := hold
  clear c1 c2 c3 c4 c5 c6 c7 c8 c9
  go_wp2_with fail
  refine wp_region_held_drew (S := fun w' => w'.cell? ⟨w.heap.size, 0, none⟩ = some (.int .i64 a.n) ∧ w'.cell? ⟨w.heap.size, 1, none⟩ = some (.int .i64 a.d) ∧ w'.cell? ⟨w.heap.size + 1, 0, none⟩ = some (.int .i64 b.n) ∧ w'.cell? ⟨w.heap.size + 1, 1, none⟩ = some (.int .i64 b.d) ∧ (∃ v, w'.cell? ⟨w.heap.size + 1 + 1, 0, none⟩ = some v) ∧ (∃ v, w'.cell? ⟨w.heap.size + 1 + 1, 1, none⟩ = some v) ∧ w'.frozen? ⟨w.heap.size + 1 + 1, 0, none⟩ = false ∧ w'.frozen? ⟨w.heap.size + 1 + 1, 1, none⟩ = false ∧ w.heap.size + 3 ≤ w'.heap.size ∧ Below w.heap.size w w') (by kernel_rfl) ?_ (fun hHeld => ?_)
  · first
      | assumption
      | exact two_keep bt rfl (by assumption)
      | exact two_set _ _ (by assumption)
      | exact two_keep (Below.drew (Below.refl _ _)) rfl ⟨d1, d2, d3, d4, ⟨_, d5⟩, ⟨_, d6⟩, d7, d8, d9, B5⟩
  refine wpAnyH_take (i := 0) (v := ?_) rfl (by kernel_rfl) (by kernel_rfl) (by kernel_rfl) (fun _ _ _ h => h) (Or.inl ⟨by kernel_rfl, ?_⟩) (by assumption) ?_
  rotate_left
  · (intro w hSw; (try dsimp only at hSw); go_simp; first | done | with_reducible rfl)
  try simp only [Act.put, List.setIfInBounds_toArray, List.set_cons_zero, List.set_cons_succ]
  refine wpAnyH_take (i := 1) (v := ?_) rfl (by kernel_rfl) (by kernel_rfl) (by kernel_rfl) (fun _ _ _ h => h) (Or.inl ⟨by kernel_rfl, ?_⟩) (by assumption) ?_
  rotate_left
  · (intro w hSw; (try dsimp only at hSw); go_simp; first | done | with_reducible rfl)
  try simp only [Act.put, List.setIfInBounds_toArray, List.set_cons_zero, List.set_cons_succ]
  refine wpAnyH_take (i := 2) (v := undef) rfl (by kernel_rfl) (by kernel_rfl) (by kernel_rfl) (fun _ _ _ h => h) (Or.inr ⟨by kernel_rfl, rfl⟩) (by assumption) ?_
  try simp only [Act.put, List.setIfInBounds_toArray, List.set_cons_zero, List.set_cons_succ]
  refine wpAnyH_take (i := 3) (v := undef) rfl (by kernel_rfl) (by kernel_rfl) (by kernel_rfl) (fun _ _ _ h => h) (Or.inr ⟨by kernel_rfl, rfl⟩) (by assumption) ?_
  try simp only [Act.put, List.setIfInBounds_toArray, List.set_cons_zero, List.set_cons_succ]
  refine wpAnyH_take (i := 4) (v := undef) rfl (by kernel_rfl) (by kernel_rfl) (by kernel_rfl) (fun _ _ _ h => h) (Or.inr ⟨by kernel_rfl, rfl⟩) (by assumption) ?_
  try simp only [Act.put, List.setIfInBounds_toArray, List.set_cons_zero, List.set_cons_succ]
  refine wpAnyH_take (i := 5) (v := ?_) rfl (by kernel_rfl) (by kernel_rfl) (by kernel_rfl) (fun _ _ _ h => h) (Or.inl ⟨by kernel_rfl, ?_⟩) (by assumption) ?_
  rotate_left
  · (intro w hSw; (try dsimp only at hSw); go_simp; first | done | with_reducible rfl)
  try simp only [Act.put, List.setIfInBounds_toArray, List.set_cons_zero, List.set_cons_succ]
  refine wpAnyH_take (i := 6) (v := ?_) rfl (by kernel_rfl) (by kernel_rfl) (by kernel_rfl) (fun _ _ _ h => h) (Or.inl ⟨by kernel_rfl, ?_⟩) (by assumption) ?_
  rotate_left
  · (intro w hSw; (try dsimp only at hSw); go_simp; first | done | with_reducible rfl)
  try simp only [Act.put, List.setIfInBounds_toArray, List.set_cons_zero, List.set_cons_succ]
  refine wpAnyH_take (i := 7) (v := ?_) rfl (by kernel_rfl) (by kernel_rfl) (by kernel_rfl) (fun _ _ _ h => h) (Or.inl ⟨by kernel_rfl, ?_⟩) (by assumption) ?_
  rotate_left
  · (intro w hSw; (try dsimp only at hSw); go_simp; first | done | with_reducible rfl)
  try simp only [Act.put, List.setIfInBounds_toArray, List.set_cons_zero, List.set_cons_succ]
  refine wpAnyH_take (i := 8) (v := ?_) rfl (by kernel_rfl) (by kernel_rfl) (by kernel_rfl) (fun _ _ _ h => h) (Or.inl ⟨by kernel_rfl, ?_⟩) (by assumption) ?_
  rotate_left
  · (intro w hSw; (try dsimp only at hSw); go_simp; first | done | with_reducible rfl)
  try simp only [Act.put, List.setIfInBounds_toArray, List.set_cons_zero, List.set_cons_succ]
  refine wpAnyH_take (i := 10) (v := ?_) rfl (by kernel_rfl) (by kernel_rfl) (by kernel_rfl) (fun _ _ _ h => h) (Or.inl ⟨by kernel_rfl, ?_⟩) (by assumption) ?_
  rotate_left
  · (intro w hSw; (try dsimp only at hSw); go_simp; first | done | with_reducible rfl)
  try simp only [Act.put, List.setIfInBounds_toArray, List.set_cons_zero, List.set_cons_succ]
  refine wpAnyH_take (i := 11) (v := ?_) rfl (by kernel_rfl) (by kernel_rfl) (by kernel_rfl) (fun _ _ _ h => h) (Or.inl ⟨by kernel_rfl, ?_⟩) (by assumption) ?_
  rotate_left
  · (intro w hSw; (try dsimp only at hSw); go_simp; first | done | with_reducible rfl)
  try simp only [Act.put, List.setIfInBounds_toArray, List.set_cons_zero, List.set_cons_succ]
  refine wpAnyH_ready (rs := [9]) (by kernel_rfl) (by simp) ?_
  refine AllReadyH.cons rfl (fun K hK => ?_) AllReadyH.nil
  go_simp
  go_at_call_of 60 (Value.int .i64 a.d); refine (of_num a.d _ Qad.out.1 Qad.out.2).mono ?_; rintro e wt ⟨kA, rfl, hkA, NA, bt⟩; have nA := Lib.hid NA; clear NA; have nN := Lib.hid (Num.below nN.out bt rfl)
  (try go_wp2_with fail)
  refine hK.out _ _ ?_ (fun hHeld => ?_)
  · first
      | assumption
      | exact two_keep bt rfl (by assumption)
      | exact two_set _ _ (by assumption)
      | exact two_keep (Below.drew (Below.refl _ _)) rfl ⟨d1, d2, d3, d4, ⟨_, d5⟩, ⟨_, d6⟩, d7, d8, d9, B5⟩
  clear hK K
  try simp only [Act.put, List.setIfInBounds_toArray, List.set_cons_zero, List.set_cons_succ]
  refine wpAnyH_ready (rs := [12]) (by kernel_rfl) (by simp) ?_
  refine AllReadyH.cons rfl (fun K hK => ?_) AllReadyH.nil
  go_simp
  go_at_call_of 60 (Value.int .i64 b.d); refine (of_num b.d _ Qbd.out.1 Qbd.out.2).mono ?_; rintro e wt ⟨kB, rfl, hkB, NB, bt⟩; have nB := Lib.hid NB; clear NB; have nN := Lib.hid (Num.below nN.out bt rfl); have nA := Lib.hid (Num.below nA.out bt rfl)
  (try go_wp2_with fail)
  refine hK.out _ _ ?_ (fun hHeld => ?_)
  · first
      | assumption
      | exact two_keep bt rfl (by assumption)
      | exact two_set _ _ (by assumption)
      | exact two_keep (Below.drew (Below.refl _ _)) rfl ⟨d1, d2, d3, d4, ⟨_, d5⟩, ⟨_, d6⟩, d7, d8, d9, B5⟩
  clear hK K
  try simp only [Act.put, List.setIfInBounds_toArray, List.set_cons_zero, List.set_cons_succ]
  refine wpAnyH_ready (rs := [13]) (by kernel_rfl) (by simp) ?_
  refine AllReadyH.cons rfl (fun K hK => ?_) AllReadyH.nil
  go_simp
  go_at_call 64; refine (times_num kA kB _ _ _ nA.out nB.out P3.out.1 P3.out.2).mono ?_; rintro e wt ⟨kT, rfl, hkT, NT, bt⟩; have nT := Lib.hid NT; clear NT; have nN := Lib.hid (Num.below nN.out bt rfl)
  (try go_wp2_with fail)
  refine hK.out _ _ ?_ (fun hHeld => ?_)
  · first
      | assumption
      | exact two_keep bt rfl (by assumption)
      | exact two_set _ _ (by assumption)
      | exact two_keep (Below.drew (Below.refl _ _)) rfl ⟨d1, d2, d3, d4, ⟨_, d5⟩, ⟨_, d6⟩, d7, d8, d9, B5⟩
  clear hK K
  try simp only [Act.put, List.setIfInBounds_toArray, List.set_cons_zero, List.set_cons_succ]
  refine wpAnyH_ready (rs := [14]) (by kernel_rfl) (by simp) ?_
  refine AllReadyH.cons rfl (fun K hK => ?_) AllReadyH.nil
  go_simp
  go_at_call 59; refine (HGive.out kN kT _ nN.out nT.out).mono ?_; rintro e wt ⟨rfl, bt⟩; obtain ⟨k1, k2, k3, k4, ⟨z0, k5⟩, ⟨z1, k6⟩, k7, k8, k9, k10⟩ := two_keep bt rfl (by assumption)
  (try go_wp2_with fail)
  refine hK.out _ _ ?_ (fun hHeld => ?_)
  · first
      | assumption
      | exact two_keep bt rfl (by assumption)
      | exact two_set _ _ (by assumption)
      | exact two_keep (Below.drew (Below.refl _ _)) rfl ⟨d1, d2, d3, d4, ⟨_, d5⟩, ⟨_, d6⟩, d7, d8, d9, B5⟩
  clear hK K
  try simp only [Act.put, List.setIfInBounds_toArray, List.set_cons_zero, List.set_cons_succ]
  refine wpAnyH_take (i := 15) (v := ?_) rfl (by kernel_rfl) (by kernel_rfl) (by kernel_rfl) (fun _ _ _ h => h) (Or.inl ⟨by kernel_rfl, ?_⟩) (by assumption) ?_
  rotate_left
  · (intro w hSw; (try dsimp only at hSw); go_simp; first | done | with_reducible rfl)
  try simp only [Act.put, List.setIfInBounds_toArray, List.set_cons_zero, List.set_cons_succ]
  refine wpAnyH_take (i := 16) (v := ?_) rfl (by kernel_rfl) (by kernel_rfl) (by kernel_rfl) (fun _ _ _ h => h) (Or.inl ⟨by kernel_rfl, ?_⟩) (by assumption) ?_
  rotate_left
  · (intro w hSw; (try dsimp only at hSw); go_simp; first | done | with_reducible rfl)
  try simp only [Act.put, List.setIfInBounds_toArray, List.set_cons_zero, List.set_cons_succ]
  refine wpAnyH_ready (rs := [17]) (by kernel_rfl) (by simp) ?_
  refine AllReadyH.cons rfl (fun K hK => ?_) AllReadyH.nil
  go_simp
  refine hK.out _ _ ?_ (fun hHeld => ?_)
  · first
      | assumption
      | exact two_keep bt rfl (by assumption)
      | exact two_set _ _ (by assumption)
      | exact two_keep (Below.drew (Below.refl _ _)) rfl ⟨d1, d2, d3, d4, ⟨_, d5⟩, ⟨_, d6⟩, d7, d8, d9, B5⟩
  clear hK K
  try simp only [Act.put, List.setIfInBounds_toArray, List.set_cons_zero, List.set_cons_succ]
  refine wpAnyH_ready (rs := [18]) (by kernel_rfl) (by simp) ?_
  refine AllReadyH.cons rfl (fun K hK => ?_) AllReadyH.nil
  go_simp
  refine hK.out _ _ ?_ (fun hHeld => ?_)
  · first
      | assumption
      | exact two_keep bt rfl (by assumption)
      | exact two_set _ _ (by assumption)
      | exact two_keep (Below.drew (Below.refl _ _)) rfl ⟨d1, d2, d3, d4, ⟨_, d5⟩, ⟨_, d6⟩, d7, d8, d9, B5⟩
  clear hK K
  try simp only [Act.put, List.setIfInBounds_toArray, List.set_cons_zero, List.set_cons_succ]
  refine wpAnyH_done (by kernel_rfl) ?_ _
  all_goals go_wp2_with fail
  all_goals refine bodyPost_ret (v := .tuple #[.agg #[.int .i64 v, .int .i64 u], .int .i64 er]) (by simp [results, Tryz.results42, go_sem, *]) rfl ⟨rfl, ?_⟩
  all_goals exact Below.setCell (Below.setCell k10 (by simp only; omega) _) (by simp only; omega) _

set_option linter.unusedSimpArgs false in
set_option maxHeartbeats 4000000 in
theorem radd_neg (a b : Q) (ma mb : Bool) (N : Nat) (v u er : Int) (w : World)
    (HA : Hid (∀ w, Calls Tryz.prog 63 #[.agg #[.int .i64 a.n, .int .i64 a.d]] w fun e w' => e = .returned (.bool true) ∧ Below w.heap.size w w'))
    (HB : Hid (∀ w, Calls Tryz.prog 63 #[.agg #[.int .i64 b.n, .int .i64 b.d]] w fun e w' => e = .returned (.bool true) ∧ Below w.heap.size w w'))
    (Qan : Hid (-9223372036854775808 ≤ a.n ∧ a.n ≤ 9223372036854775807)) (Qad : Hid (-9223372036854775808 ≤ a.d ∧ a.d ≤ 9223372036854775807)) (Qbn : Hid (-9223372036854775808 ≤ b.n ∧ b.n ≤ 9223372036854775807)) (Qbd : Hid (-9223372036854775808 ≤ b.d ∧ b.d ≤ 9223372036854775807))
    (P1 : Hid (a.n.natAbs * b.d.natAbs < 1073741824 ^ 5 ∧ a.n.natAbs < 1073741824 ^ 5))
    (P2 : Hid (b.n.natAbs * a.d.natAbs < 1073741824 ^ 5 ∧ b.n.natAbs < 1073741824 ^ 5))
    (P3 : Hid (a.d.natAbs * b.d.natAbs < 1073741824 ^ 5 ∧ a.d.natAbs < 1073741824 ^ 5))
    (HSum : Hid (∀ (g h : Nat) (w : World), Num w g (a.n.natAbs * b.d.natAbs) → Num w h (b.n.natAbs * a.d.natAbs) → Calls Tryz.prog 72 #[.slice (some ⟨g, 0, none⟩) 5 5, .bool ma, .slice (some ⟨h, 0, none⟩) 5 5, .bool mb] w fun e w' => ∃ k, e = .returned (.tuple #[.slice (some ⟨k, 0, none⟩) 5 5, .bool true]) ∧ w.heap.size ≤ k ∧ Num w' k N ∧ Below w.heap.size w w'))
    (HGive : Hid (∀ (g h : Nat) (w : World), Num w g (N) → Num w h (a.d.natAbs * b.d.natAbs) → Calls Tryz.prog 59 #[.bool true, .slice (some ⟨g, 0, none⟩) 5 5, .slice (some ⟨h, 0, none⟩) 5 5] w fun e w' => e = .returned (.tuple #[.agg #[.int .i64 v, .int .i64 u], .int .i64 er]) ∧ Below w.heap.size w w'))
    (ea : decide (a.n < 0) = ma) (eb : decide (b.n < 0) = mb)
    (LN : Hid (N < 1073741824 ^ 5)) (hz : decide (N = 0) = false)
    : Calls Tryz.prog 42 #[.agg #[.int .i64 a.n, .int .i64 a.d], .agg #[.int .i64 b.n, .int .i64 b.d]] w fun e w' => e = .returned (.tuple #[.agg #[.int .i64 v, .int .i64 u], .int .i64 er]) ∧ Below w.heap.size w w' := by
  obtain ⟨W, hW⟩ : ∃ W, W = Two a b w := ⟨_, rfl⟩
  have T0 : TwoAt a b w.heap.size W := by rw [hW]; exact two_at a b w
  have B0 : Below w.heap.size w W := by rw [hW]; exact two_below a b w
  unfold Two at hW
  have HW := Lib.hid hW
  clear hW
  go_enter Tryz.func42, Tryz.ntmps42
  go_wp2_with fail
  rw [← HW.out]
  refine (HA.out _).mono ?_
  rintro e w1 ⟨rfl, b1⟩
  have T1 := T0.below b1
  have B1 := Below.trans B0 (b1.mono B0.size)
  obtain ⟨c1, c2, c3, c4, c5, c6, c7, c8, c9⟩ := T1
  go_wp2_with fail
  refine (HB.out _).mono ?_
  rintro e w2 ⟨rfl, b2⟩
  have T2 := TwoAt.below ⟨c1, c2, c3, c4, c5, c6, c7, c8, c9⟩ b2
  have B2 := Below.trans B1 (b2.mono B1.size)
  clear c1 c2 c3 c4 c5 c6 c7 c8 c9
  obtain ⟨c1, c2, c3, c4, c5, c6, c7, c8, c9⟩ := T2
  go_wp2_with fail
  go_region_held3 (fun w' => w'.cell? ⟨w.heap.size, 0, none⟩ = some (.int .i64 a.n) ∧ w'.cell? ⟨w.heap.size, 1, none⟩ = some (.int .i64 a.d) ∧ w'.cell? ⟨w.heap.size + 1, 0, none⟩ = some (.int .i64 b.n) ∧ w'.cell? ⟨w.heap.size + 1, 1, none⟩ = some (.int .i64 b.d) ∧ (∃ v, w'.cell? ⟨w.heap.size + 1 + 1, 0, none⟩ = some v) ∧ (∃ v, w'.cell? ⟨w.heap.size + 1 + 1, 1, none⟩ = some v) ∧ w'.frozen? ⟨w.heap.size + 1 + 1, 0, none⟩ = false ∧ w'.frozen? ⟨w.heap.size + 1 + 1, 1, none⟩ = false ∧ w.heap.size + 3 ≤ w'.heap.size ∧ Below w.heap.size w w')
    (first
      | assumption
      | exact two_keep bt rfl (by assumption)
      | exact two_keep (Below.drew (Below.refl _ _)) rfl ⟨c1, c2, c3, c4, ⟨_, c5⟩, ⟨_, c6⟩, c7, c8, c9, B2⟩)
    (first
      | (go_at_call_of 60 (Value.int .i64 a.n); refine (of_num a.n _ Qan.out.1 Qan.out.2).mono ?_; rintro e wt ⟨kA, rfl, hkA, NA, bt⟩; have nA := Lib.hid NA; clear NA)
      | (go_at_call_of 60 (Value.int .i64 b.d); refine (of_num b.d _ Qbd.out.1 Qbd.out.2).mono ?_; rintro e wt ⟨kB, rfl, hkB, NB, bt⟩; have nB := Lib.hid NB; clear NB; have nA := Lib.hid (Num.below nA.out bt rfl))
      | (go_at_call_of 60 (Value.int .i64 b.n); refine (of_num b.n _ Qbn.out.1 Qbn.out.2).mono ?_; rintro e wt ⟨kC, rfl, hkC, NC, bt⟩; have nC := Lib.hid NC; clear NC; have nT := Lib.hid (Num.below nT.out bt rfl))
      | (go_at_call_of 60 (Value.int .i64 a.d); refine (of_num a.d _ Qad.out.1 Qad.out.2).mono ?_; rintro e wt ⟨kD, rfl, hkD, ND, bt⟩; have nD := Lib.hid ND; clear ND; have nT := Lib.hid (Num.below nT.out bt rfl); have nC := Lib.hid (Num.below nC.out bt rfl))
      | (go_at_call 64; refine (times_num kC kD _ _ _ nC.out nD.out P2.out.1 P2.out.2).mono ?_; rintro e wt ⟨kU, rfl, hkU, NU, bt⟩; have nU := Lib.hid NU; clear NU; have nT := Lib.hid (Num.below nT.out bt rfl))
      | (go_at_call 64; refine (times_num kA kB _ _ _ nA.out nB.out P1.out.1 P1.out.2).mono ?_; rintro e wt ⟨kT, rfl, hkT, NT, bt⟩; have nT := Lib.hid NT; clear NT)
      | (go_at_call 72; refine (HSum.out kT kU _ nT.out nU.out).mono ?_; rintro e wt ⟨kN, rfl, hkN, NN, bt⟩; have nN := Lib.hid NN; clear NN))
  have hold : Hold2 a b w.heap.size w wt := by assumption
  have ND := Lib.hid (Row5.drew1 nN.out)
  clear nN
  have nN := ND
  generalize wt = w5 at *
  obtain ⟨d1, d2, d3, d4, ⟨y5, d5⟩, ⟨y6, d6⟩, d7, d8, d9, B5⟩ := hold
  clear c1 c2 c3 c4 c5 c6 c7 c8 c9
  go_wp2_with fail
  refine wp_region_held_drew (S := fun w' => w'.cell? ⟨w.heap.size, 0, none⟩ = some (.int .i64 a.n) ∧ w'.cell? ⟨w.heap.size, 1, none⟩ = some (.int .i64 a.d) ∧ w'.cell? ⟨w.heap.size + 1, 0, none⟩ = some (.int .i64 b.n) ∧ w'.cell? ⟨w.heap.size + 1, 1, none⟩ = some (.int .i64 b.d) ∧ (∃ v, w'.cell? ⟨w.heap.size + 1 + 1, 0, none⟩ = some v) ∧ (∃ v, w'.cell? ⟨w.heap.size + 1 + 1, 1, none⟩ = some v) ∧ w'.frozen? ⟨w.heap.size + 1 + 1, 0, none⟩ = false ∧ w'.frozen? ⟨w.heap.size + 1 + 1, 1, none⟩ = false ∧ w.heap.size + 3 ≤ w'.heap.size ∧ Below w.heap.size w w') (by kernel_rfl) ?_ (fun hHeld => ?_)
  · first
      | assumption
      | exact two_keep bt rfl (by assumption)
      | exact two_set _ _ (by assumption)
      | exact two_keep (Below.drew (Below.refl _ _)) rfl ⟨d1, d2, d3, d4, ⟨_, d5⟩, ⟨_, d6⟩, d7, d8, d9, B5⟩
  refine wpAnyH_take (i := 0) (v := ?_) rfl (by kernel_rfl) (by kernel_rfl) (by kernel_rfl) (fun _ _ _ h => h) (Or.inl ⟨by kernel_rfl, ?_⟩) (by assumption) ?_
  rotate_left
  · (intro w hSw; (try dsimp only at hSw); go_simp; first | done | with_reducible rfl)
  try simp only [Act.put, List.setIfInBounds_toArray, List.set_cons_zero, List.set_cons_succ]
  refine wpAnyH_take (i := 1) (v := ?_) rfl (by kernel_rfl) (by kernel_rfl) (by kernel_rfl) (fun _ _ _ h => h) (Or.inl ⟨by kernel_rfl, ?_⟩) (by assumption) ?_
  rotate_left
  · (intro w hSw; (try dsimp only at hSw); go_simp; first | done | with_reducible rfl)
  try simp only [Act.put, List.setIfInBounds_toArray, List.set_cons_zero, List.set_cons_succ]
  refine wpAnyH_take (i := 2) (v := ?_) rfl (by kernel_rfl) (by kernel_rfl) (by kernel_rfl) (fun _ _ _ h => h) (Or.inl ⟨by kernel_rfl, ?_⟩) (by assumption) ?_
  rotate_left
  · (intro w hSw; (try dsimp only at hSw); go_simp; first | done | with_reducible rfl)
  try simp only [Act.put, List.setIfInBounds_toArray, List.set_cons_zero, List.set_cons_succ]
  refine wpAnyH_take (i := 6) (v := ?_) rfl (by kernel_rfl) (by kernel_rfl) (by kernel_rfl) (fun _ _ _ h => h) (Or.inl ⟨by kernel_rfl, ?_⟩) (by assumption) ?_
  rotate_left
  · (intro w hSw; (try dsimp only at hSw); go_simp; first | done | with_reducible rfl)
  try simp only [Act.put, List.setIfInBounds_toArray, List.set_cons_zero, List.set_cons_succ]
  refine wpAnyH_take (i := 7) (v := ?_) rfl (by kernel_rfl) (by kernel_rfl) (by kernel_rfl) (fun _ _ _ h => h) (Or.inl ⟨by kernel_rfl, ?_⟩) (by assumption) ?_
  rotate_left
  · (intro w hSw; (try dsimp only at hSw); go_simp; first | done | with_reducible rfl)
  try simp only [Act.put, List.setIfInBounds_toArray, List.set_cons_zero, List.set_cons_succ]
  refine wpAnyH_take (i := 8) (v := ?_) rfl (by kernel_rfl) (by kernel_rfl) (by kernel_rfl) (fun _ _ _ h => h) (Or.inl ⟨by kernel_rfl, ?_⟩) (by assumption) ?_
  rotate_left
  · (intro w hSw; (try dsimp only at hSw); go_simp; first | done | with_reducible rfl)
  try simp only [Act.put, List.setIfInBounds_toArray, List.set_cons_zero, List.set_cons_succ]
  refine wpAnyH_take (i := 10) (v := ?_) rfl (by kernel_rfl) (by kernel_rfl) (by kernel_rfl) (fun _ _ _ h => h) (Or.inl ⟨by kernel_rfl, ?_⟩) (by assumption) ?_
  rotate_left
  · (intro w hSw; (try dsimp only at hSw); go_simp; first | done | with_reducible rfl)
  try simp only [Act.put, List.setIfInBounds_toArray, List.set_cons_zero, List.set_cons_succ]
  refine wpAnyH_take (i := 11) (v := ?_) rfl (by kernel_rfl) (by kernel_rfl) (by kernel_rfl) (fun _ _ _ h => h) (Or.inl ⟨by kernel_rfl, ?_⟩) (by assumption) ?_
  rotate_left
  · (intro w hSw; (try dsimp only at hSw); go_simp; first | done | with_reducible rfl)
  try simp only [Act.put, List.setIfInBounds_toArray, List.set_cons_zero, List.set_cons_succ]
  refine wpAnyH_ready (rs := [3]) (by kernel_rfl) (by simp) ?_
  refine AllReadyH.cons rfl (fun K hK => ?_) AllReadyH.nil
  go_simp
  go_at_call 73; refine (zero_num kN _ _ nN.out LN.out).mono ?_; rintro e wt ⟨rfl, bt⟩; have nN := Lib.hid (Num.below nN.out bt rfl)
  (try go_wp2_with fail)
  refine hK.out _ _ ?_ (fun hHeld => ?_)
  · first
      | assumption
      | exact two_keep bt rfl (by assumption)
      | exact two_set _ _ (by assumption)
      | exact two_keep (Below.drew (Below.refl _ _)) rfl ⟨d1, d2, d3, d4, ⟨_, d5⟩, ⟨_, d6⟩, d7, d8, d9, B5⟩
  clear hK K
  try simp only [Act.put, List.setIfInBounds_toArray, List.set_cons_zero, List.set_cons_succ]
  refine wpAnyH_take (i := 4) (v := ?_) rfl (by kernel_rfl) (by kernel_rfl) (by kernel_rfl) (fun _ _ _ h => h) (Or.inl ⟨by kernel_rfl, ?_⟩) (by assumption) ?_
  rotate_left
  · (intro w hSw; (try dsimp only at hSw); go_simp; first | done | with_reducible rfl)
  try simp only [Act.put, List.setIfInBounds_toArray, List.set_cons_zero, List.set_cons_succ]
  refine wpAnyH_take (i := 5) (v := ?_) rfl (by kernel_rfl) (by kernel_rfl) (by kernel_rfl) (fun _ _ _ h => h) (Or.inl ⟨by kernel_rfl, ?_⟩) (by assumption) ?_
  rotate_left
  · (intro w hSw; (try dsimp only at hSw); go_simp; first | done | with_reducible rfl)
  try simp only [Act.put, List.setIfInBounds_toArray, List.set_cons_zero, List.set_cons_succ]
  refine wpAnyH_ready (rs := [9]) (by kernel_rfl) (by simp) ?_
  refine AllReadyH.cons rfl (fun K hK => ?_) AllReadyH.nil
  go_simp
  go_at_call_of 60 (Value.int .i64 a.d); refine (of_num a.d _ Qad.out.1 Qad.out.2).mono ?_; rintro e wt ⟨kA, rfl, hkA, NA, bt⟩; have nA := Lib.hid NA; clear NA; have nN := Lib.hid (Num.below nN.out bt rfl)
  (try go_wp2_with fail)
  refine hK.out _ _ ?_ (fun hHeld => ?_)
  · first
      | assumption
      | exact two_keep bt rfl (by assumption)
      | exact two_set _ _ (by assumption)
      | exact two_keep (Below.drew (Below.refl _ _)) rfl ⟨d1, d2, d3, d4, ⟨_, d5⟩, ⟨_, d6⟩, d7, d8, d9, B5⟩
  clear hK K
  try simp only [Act.put, List.setIfInBounds_toArray, List.set_cons_zero, List.set_cons_succ]
  refine wpAnyH_ready (rs := [12]) (by kernel_rfl) (by simp) ?_
  refine AllReadyH.cons rfl (fun K hK => ?_) AllReadyH.nil
  go_simp
  go_at_call_of 60 (Value.int .i64 b.d); refine (of_num b.d _ Qbd.out.1 Qbd.out.2).mono ?_; rintro e wt ⟨kB, rfl, hkB, NB, bt⟩; have nB := Lib.hid NB; clear NB; have nN := Lib.hid (Num.below nN.out bt rfl); have nA := Lib.hid (Num.below nA.out bt rfl)
  (try go_wp2_with fail)
  refine hK.out _ _ ?_ (fun hHeld => ?_)
  · first
      | assumption
      | exact two_keep bt rfl (by assumption)
      | exact two_set _ _ (by assumption)
      | exact two_keep (Below.drew (Below.refl _ _)) rfl ⟨d1, d2, d3, d4, ⟨_, d5⟩, ⟨_, d6⟩, d7, d8, d9, B5⟩
  clear hK K
  try simp only [Act.put, List.setIfInBounds_toArray, List.set_cons_zero, List.set_cons_succ]
  refine wpAnyH_ready (rs := [13]) (by kernel_rfl) (by simp) ?_
  refine AllReadyH.cons rfl (fun K hK => ?_) AllReadyH.nil
  go_simp
  go_at_call 64; refine (times_num kA kB _ _ _ nA.out nB.out P3.out.1 P3.out.2).mono ?_; rintro e wt ⟨kT, rfl, hkT, NT, bt⟩; have nT := Lib.hid NT; clear NT; have nN := Lib.hid (Num.below nN.out bt rfl)
  (try go_wp2_with fail)
  refine hK.out _ _ ?_ (fun hHeld => ?_)
  · first
      | assumption
      | exact two_keep bt rfl (by assumption)
      | exact two_set _ _ (by assumption)
      | exact two_keep (Below.drew (Below.refl _ _)) rfl ⟨d1, d2, d3, d4, ⟨_, d5⟩, ⟨_, d6⟩, d7, d8, d9, B5⟩
  clear hK K
  try simp only [Act.put, List.setIfInBounds_toArray, List.set_cons_zero, List.set_cons_succ]
  refine wpAnyH_ready (rs := [14]) (by kernel_rfl) (by simp) ?_
  refine AllReadyH.cons rfl (fun K hK => ?_) AllReadyH.nil
  go_simp
  go_at_call 59; refine (HGive.out kN kT _ nN.out nT.out).mono ?_; rintro e wt ⟨rfl, bt⟩; obtain ⟨k1, k2, k3, k4, ⟨z0, k5⟩, ⟨z1, k6⟩, k7, k8, k9, k10⟩ := two_keep bt rfl (by assumption)
  (try go_wp2_with fail)
  refine hK.out _ _ ?_ (fun hHeld => ?_)
  · first
      | assumption
      | exact two_keep bt rfl (by assumption)
      | exact two_set _ _ (by assumption)
      | exact two_keep (Below.drew (Below.refl _ _)) rfl ⟨d1, d2, d3, d4, ⟨_, d5⟩, ⟨_, d6⟩, d7, d8, d9, B5⟩
  clear hK K
  try simp only [Act.put, List.setIfInBounds_toArray, List.set_cons_zero, List.set_cons_succ]
  refine wpAnyH_take (i := 15) (v := ?_) rfl (by kernel_rfl) (by kernel_rfl) (by kernel_rfl) (fun _ _ _ h => h) (Or.inl ⟨by kernel_rfl, ?_⟩) (by assumption) ?_
  rotate_left
  · (intro w hSw; (try dsimp only at hSw); go_simp; first | done | with_reducible rfl)
  try simp only [Act.put, List.setIfInBounds_toArray, List.set_cons_zero, List.set_cons_succ]
  refine wpAnyH_take (i := 16) (v := ?_) rfl (by kernel_rfl) (by kernel_rfl) (by kernel_rfl) (fun _ _ _ h => h) (Or.inl ⟨by kernel_rfl, ?_⟩) (by assumption) ?_
  rotate_left
  · (intro w hSw; (try dsimp only at hSw); go_simp; first | done | with_reducible rfl)
  try simp only [Act.put, List.setIfInBounds_toArray, List.set_cons_zero, List.set_cons_succ]
  refine wpAnyH_ready (rs := [17]) (by kernel_rfl) (by simp) ?_
  refine AllReadyH.cons rfl (fun K hK => ?_) AllReadyH.nil
  go_simp
  refine hK.out _ _ ?_ (fun hHeld => ?_)
  · first
      | assumption
      | exact two_keep bt rfl (by assumption)
      | exact two_set _ _ (by assumption)
      | exact two_keep (Below.drew (Below.refl _ _)) rfl ⟨d1, d2, d3, d4, ⟨_, d5⟩, ⟨_, d6⟩, d7, d8, d9, B5⟩
  clear hK K
  try simp only [Act.put, List.setIfInBounds_toArray, List.set_cons_zero, List.set_cons_succ]
  refine wpAnyH_ready (rs := [18]) (by kernel_rfl) (by simp) ?_
  refine AllReadyH.cons rfl (fun K hK => ?_) AllReadyH.nil
  go_simp
  refine hK.out _ _ ?_ (fun hHeld => ?_)
  · first
      | assumption
      | exact two_keep bt rfl (by assumption)
      | exact two_set _ _ (by assumption)
      | exact two_keep (Below.drew (Below.refl _ _)) rfl ⟨d1, d2, d3, d4, ⟨_, d5⟩, ⟨_, d6⟩, d7, d8, d9, B5⟩
  clear hK K
  try simp only [Act.put, List.setIfInBounds_toArray, List.set_cons_zero, List.set_cons_succ]
  refine wpAnyH_done (by kernel_rfl) ?_ _
  all_goals go_wp2_with fail
  all_goals refine bodyPost_ret (v := .tuple #[.agg #[.int .i64 v, .int .i64 u], .int .i64 er]) (by simp [results, Tryz.results42, go_sem, *]) rfl ⟨rfl, ?_⟩
  all_goals exact Below.setCell (Below.setCell k10 (by simp only; omega) _) (by simp only; omega) _

set_option linter.unusedSimpArgs false in
set_option maxHeartbeats 4000000 in
theorem radd_zero (a b : Q) (ma mb : Bool) (N : Nat) (v u er : Int) (w : World)
    (HA : Hid (∀ w, Calls Tryz.prog 63 #[.agg #[.int .i64 a.n, .int .i64 a.d]] w fun e w' => e = .returned (.bool true) ∧ Below w.heap.size w w'))
    (HB : Hid (∀ w, Calls Tryz.prog 63 #[.agg #[.int .i64 b.n, .int .i64 b.d]] w fun e w' => e = .returned (.bool true) ∧ Below w.heap.size w w'))
    (Qan : Hid (-9223372036854775808 ≤ a.n ∧ a.n ≤ 9223372036854775807)) (Qad : Hid (-9223372036854775808 ≤ a.d ∧ a.d ≤ 9223372036854775807)) (Qbn : Hid (-9223372036854775808 ≤ b.n ∧ b.n ≤ 9223372036854775807)) (Qbd : Hid (-9223372036854775808 ≤ b.d ∧ b.d ≤ 9223372036854775807))
    (P1 : Hid (a.n.natAbs * b.d.natAbs < 1073741824 ^ 5 ∧ a.n.natAbs < 1073741824 ^ 5))
    (P2 : Hid (b.n.natAbs * a.d.natAbs < 1073741824 ^ 5 ∧ b.n.natAbs < 1073741824 ^ 5))
    (P3 : Hid (a.d.natAbs * b.d.natAbs < 1073741824 ^ 5 ∧ a.d.natAbs < 1073741824 ^ 5))
    (HSum : Hid (∀ (g h : Nat) (w : World), Num w g (a.n.natAbs * b.d.natAbs) → Num w h (b.n.natAbs * a.d.natAbs) → Calls Tryz.prog 72 #[.slice (some ⟨g, 0, none⟩) 5 5, .bool ma, .slice (some ⟨h, 0, none⟩) 5 5, .bool mb] w fun e w' => ∃ k, e = .returned (.tuple #[.slice (some ⟨k, 0, none⟩) 5 5, .bool true]) ∧ w.heap.size ≤ k ∧ Num w' k N ∧ Below w.heap.size w w'))
    (HGive : Hid (∀ (g h : Nat) (w : World), Num w g (N) → Num w h (a.d.natAbs * b.d.natAbs) → Calls Tryz.prog 59 #[.bool false, .slice (some ⟨g, 0, none⟩) 5 5, .slice (some ⟨h, 0, none⟩) 5 5] w fun e w' => e = .returned (.tuple #[.agg #[.int .i64 v, .int .i64 u], .int .i64 er]) ∧ Below w.heap.size w w'))
    (ea : decide (a.n < 0) = ma) (eb : decide (b.n < 0) = mb)
    (LN : Hid (N < 1073741824 ^ 5)) (hz : decide (N = 0) = true)
    : Calls Tryz.prog 42 #[.agg #[.int .i64 a.n, .int .i64 a.d], .agg #[.int .i64 b.n, .int .i64 b.d]] w fun e w' => e = .returned (.tuple #[.agg #[.int .i64 v, .int .i64 u], .int .i64 er]) ∧ Below w.heap.size w w' := by
  obtain ⟨W, hW⟩ : ∃ W, W = Two a b w := ⟨_, rfl⟩
  have T0 : TwoAt a b w.heap.size W := by rw [hW]; exact two_at a b w
  have B0 : Below w.heap.size w W := by rw [hW]; exact two_below a b w
  unfold Two at hW
  have HW := Lib.hid hW
  clear hW
  go_enter Tryz.func42, Tryz.ntmps42
  go_wp2_with fail
  rw [← HW.out]
  refine (HA.out _).mono ?_
  rintro e w1 ⟨rfl, b1⟩
  have T1 := T0.below b1
  have B1 := Below.trans B0 (b1.mono B0.size)
  obtain ⟨c1, c2, c3, c4, c5, c6, c7, c8, c9⟩ := T1
  go_wp2_with fail
  refine (HB.out _).mono ?_
  rintro e w2 ⟨rfl, b2⟩
  have T2 := TwoAt.below ⟨c1, c2, c3, c4, c5, c6, c7, c8, c9⟩ b2
  have B2 := Below.trans B1 (b2.mono B1.size)
  clear c1 c2 c3 c4 c5 c6 c7 c8 c9
  obtain ⟨c1, c2, c3, c4, c5, c6, c7, c8, c9⟩ := T2
  go_wp2_with fail
  go_region_held3 (fun w' => w'.cell? ⟨w.heap.size, 0, none⟩ = some (.int .i64 a.n) ∧ w'.cell? ⟨w.heap.size, 1, none⟩ = some (.int .i64 a.d) ∧ w'.cell? ⟨w.heap.size + 1, 0, none⟩ = some (.int .i64 b.n) ∧ w'.cell? ⟨w.heap.size + 1, 1, none⟩ = some (.int .i64 b.d) ∧ (∃ v, w'.cell? ⟨w.heap.size + 1 + 1, 0, none⟩ = some v) ∧ (∃ v, w'.cell? ⟨w.heap.size + 1 + 1, 1, none⟩ = some v) ∧ w'.frozen? ⟨w.heap.size + 1 + 1, 0, none⟩ = false ∧ w'.frozen? ⟨w.heap.size + 1 + 1, 1, none⟩ = false ∧ w.heap.size + 3 ≤ w'.heap.size ∧ Below w.heap.size w w')
    (first
      | assumption
      | exact two_keep bt rfl (by assumption)
      | exact two_keep (Below.drew (Below.refl _ _)) rfl ⟨c1, c2, c3, c4, ⟨_, c5⟩, ⟨_, c6⟩, c7, c8, c9, B2⟩)
    (first
      | (go_at_call_of 60 (Value.int .i64 a.n); refine (of_num a.n _ Qan.out.1 Qan.out.2).mono ?_; rintro e wt ⟨kA, rfl, hkA, NA, bt⟩; have nA := Lib.hid NA; clear NA)
      | (go_at_call_of 60 (Value.int .i64 b.d); refine (of_num b.d _ Qbd.out.1 Qbd.out.2).mono ?_; rintro e wt ⟨kB, rfl, hkB, NB, bt⟩; have nB := Lib.hid NB; clear NB; have nA := Lib.hid (Num.below nA.out bt rfl))
      | (go_at_call_of 60 (Value.int .i64 b.n); refine (of_num b.n _ Qbn.out.1 Qbn.out.2).mono ?_; rintro e wt ⟨kC, rfl, hkC, NC, bt⟩; have nC := Lib.hid NC; clear NC; have nT := Lib.hid (Num.below nT.out bt rfl))
      | (go_at_call_of 60 (Value.int .i64 a.d); refine (of_num a.d _ Qad.out.1 Qad.out.2).mono ?_; rintro e wt ⟨kD, rfl, hkD, ND, bt⟩; have nD := Lib.hid ND; clear ND; have nT := Lib.hid (Num.below nT.out bt rfl); have nC := Lib.hid (Num.below nC.out bt rfl))
      | (go_at_call 64; refine (times_num kC kD _ _ _ nC.out nD.out P2.out.1 P2.out.2).mono ?_; rintro e wt ⟨kU, rfl, hkU, NU, bt⟩; have nU := Lib.hid NU; clear NU; have nT := Lib.hid (Num.below nT.out bt rfl))
      | (go_at_call 64; refine (times_num kA kB _ _ _ nA.out nB.out P1.out.1 P1.out.2).mono ?_; rintro e wt ⟨kT, rfl, hkT, NT, bt⟩; have nT := Lib.hid NT; clear NT)
      | (go_at_call 72; refine (HSum.out kT kU _ nT.out nU.out).mono ?_; rintro e wt ⟨kN, rfl, hkN, NN, bt⟩; have nN := Lib.hid NN; clear NN))
  have hold : Hold2 a b w.heap.size w wt := by assumption
  have ND := Lib.hid (Row5.drew1 nN.out)
  clear nN
  have nN := ND
  generalize wt = w5 at *
  obtain ⟨d1, d2, d3, d4, ⟨y5, d5⟩, ⟨y6, d6⟩, d7, d8, d9, B5⟩ := hold
  clear c1 c2 c3 c4 c5 c6 c7 c8 c9
  go_wp2_with fail
  refine wp_region_held_drew (S := fun w' => w'.cell? ⟨w.heap.size, 0, none⟩ = some (.int .i64 a.n) ∧ w'.cell? ⟨w.heap.size, 1, none⟩ = some (.int .i64 a.d) ∧ w'.cell? ⟨w.heap.size + 1, 0, none⟩ = some (.int .i64 b.n) ∧ w'.cell? ⟨w.heap.size + 1, 1, none⟩ = some (.int .i64 b.d) ∧ (∃ v, w'.cell? ⟨w.heap.size + 1 + 1, 0, none⟩ = some v) ∧ (∃ v, w'.cell? ⟨w.heap.size + 1 + 1, 1, none⟩ = some v) ∧ w'.frozen? ⟨w.heap.size + 1 + 1, 0, none⟩ = false ∧ w'.frozen? ⟨w.heap.size + 1 + 1, 1, none⟩ = false ∧ w.heap.size + 3 ≤ w'.heap.size ∧ Below w.heap.size w w') (by kernel_rfl) ?_ (fun hHeld => ?_)
  · first
      | assumption
      | exact two_keep bt rfl (by assumption)
      | exact two_set _ _ (by assumption)
      | exact two_keep (Below.drew (Below.refl _ _)) rfl ⟨d1, d2, d3, d4, ⟨_, d5⟩, ⟨_, d6⟩, d7, d8, d9, B5⟩
  refine wpAnyH_take (i := 0) (v := ?_) rfl (by kernel_rfl) (by kernel_rfl) (by kernel_rfl) (fun _ _ _ h => h) (Or.inl ⟨by kernel_rfl, ?_⟩) (by assumption) ?_
  rotate_left
  · (intro w hSw; (try dsimp only at hSw); go_simp; first | done | with_reducible rfl)
  try simp only [Act.put, List.setIfInBounds_toArray, List.set_cons_zero, List.set_cons_succ]
  refine wpAnyH_take (i := 1) (v := ?_) rfl (by kernel_rfl) (by kernel_rfl) (by kernel_rfl) (fun _ _ _ h => h) (Or.inl ⟨by kernel_rfl, ?_⟩) (by assumption) ?_
  rotate_left
  · (intro w hSw; (try dsimp only at hSw); go_simp; first | done | with_reducible rfl)
  try simp only [Act.put, List.setIfInBounds_toArray, List.set_cons_zero, List.set_cons_succ]
  refine wpAnyH_take (i := 2) (v := ?_) rfl (by kernel_rfl) (by kernel_rfl) (by kernel_rfl) (fun _ _ _ h => h) (Or.inl ⟨by kernel_rfl, ?_⟩) (by assumption) ?_
  rotate_left
  · (intro w hSw; (try dsimp only at hSw); go_simp; first | done | with_reducible rfl)
  try simp only [Act.put, List.setIfInBounds_toArray, List.set_cons_zero, List.set_cons_succ]
  refine wpAnyH_take (i := 6) (v := ?_) rfl (by kernel_rfl) (by kernel_rfl) (by kernel_rfl) (fun _ _ _ h => h) (Or.inl ⟨by kernel_rfl, ?_⟩) (by assumption) ?_
  rotate_left
  · (intro w hSw; (try dsimp only at hSw); go_simp; first | done | with_reducible rfl)
  try simp only [Act.put, List.setIfInBounds_toArray, List.set_cons_zero, List.set_cons_succ]
  refine wpAnyH_take (i := 7) (v := ?_) rfl (by kernel_rfl) (by kernel_rfl) (by kernel_rfl) (fun _ _ _ h => h) (Or.inl ⟨by kernel_rfl, ?_⟩) (by assumption) ?_
  rotate_left
  · (intro w hSw; (try dsimp only at hSw); go_simp; first | done | with_reducible rfl)
  try simp only [Act.put, List.setIfInBounds_toArray, List.set_cons_zero, List.set_cons_succ]
  refine wpAnyH_take (i := 8) (v := ?_) rfl (by kernel_rfl) (by kernel_rfl) (by kernel_rfl) (fun _ _ _ h => h) (Or.inl ⟨by kernel_rfl, ?_⟩) (by assumption) ?_
  rotate_left
  · (intro w hSw; (try dsimp only at hSw); go_simp; first | done | with_reducible rfl)
  try simp only [Act.put, List.setIfInBounds_toArray, List.set_cons_zero, List.set_cons_succ]
  refine wpAnyH_take (i := 10) (v := ?_) rfl (by kernel_rfl) (by kernel_rfl) (by kernel_rfl) (fun _ _ _ h => h) (Or.inl ⟨by kernel_rfl, ?_⟩) (by assumption) ?_
  rotate_left
  · (intro w hSw; (try dsimp only at hSw); go_simp; first | done | with_reducible rfl)
  try simp only [Act.put, List.setIfInBounds_toArray, List.set_cons_zero, List.set_cons_succ]
  refine wpAnyH_take (i := 11) (v := ?_) rfl (by kernel_rfl) (by kernel_rfl) (by kernel_rfl) (fun _ _ _ h => h) (Or.inl ⟨by kernel_rfl, ?_⟩) (by assumption) ?_
  rotate_left
  · (intro w hSw; (try dsimp only at hSw); go_simp; first | done | with_reducible rfl)
  try simp only [Act.put, List.setIfInBounds_toArray, List.set_cons_zero, List.set_cons_succ]
  refine wpAnyH_ready (rs := [3]) (by kernel_rfl) (by simp) ?_
  refine AllReadyH.cons rfl (fun K hK => ?_) AllReadyH.nil
  go_simp
  go_at_call 73; refine (zero_num kN _ _ nN.out LN.out).mono ?_; rintro e wt ⟨rfl, bt⟩; have nN := Lib.hid (Num.below nN.out bt rfl)
  (try go_wp2_with fail)
  refine hK.out _ _ ?_ (fun hHeld => ?_)
  · first
      | assumption
      | exact two_keep bt rfl (by assumption)
      | exact two_set _ _ (by assumption)
      | exact two_keep (Below.drew (Below.refl _ _)) rfl ⟨d1, d2, d3, d4, ⟨_, d5⟩, ⟨_, d6⟩, d7, d8, d9, B5⟩
  clear hK K
  try simp only [Act.put, List.setIfInBounds_toArray, List.set_cons_zero, List.set_cons_succ]
  refine wpAnyH_take (i := 4) (v := ?_) rfl (by kernel_rfl) (by kernel_rfl) (by kernel_rfl) (fun _ _ _ h => h) (Or.inl ⟨by kernel_rfl, ?_⟩) (by assumption) ?_
  rotate_left
  · (intro w hSw; (try dsimp only at hSw); go_simp; first | done | with_reducible rfl)
  try simp only [Act.put, List.setIfInBounds_toArray, List.set_cons_zero, List.set_cons_succ]
  refine wpAnyH_take (i := 5) (v := ?_) rfl (by kernel_rfl) (by kernel_rfl) (by kernel_rfl) (fun _ _ _ h => h) (Or.inl ⟨by kernel_rfl, ?_⟩) (by assumption) ?_
  rotate_left
  · (intro w hSw; (try dsimp only at hSw); go_simp; first | done | with_reducible rfl)
  try simp only [Act.put, List.setIfInBounds_toArray, List.set_cons_zero, List.set_cons_succ]
  refine wpAnyH_ready (rs := [9]) (by kernel_rfl) (by simp) ?_
  refine AllReadyH.cons rfl (fun K hK => ?_) AllReadyH.nil
  go_simp
  go_at_call_of 60 (Value.int .i64 a.d); refine (of_num a.d _ Qad.out.1 Qad.out.2).mono ?_; rintro e wt ⟨kA, rfl, hkA, NA, bt⟩; have nA := Lib.hid NA; clear NA; have nN := Lib.hid (Num.below nN.out bt rfl)
  (try go_wp2_with fail)
  refine hK.out _ _ ?_ (fun hHeld => ?_)
  · first
      | assumption
      | exact two_keep bt rfl (by assumption)
      | exact two_set _ _ (by assumption)
      | exact two_keep (Below.drew (Below.refl _ _)) rfl ⟨d1, d2, d3, d4, ⟨_, d5⟩, ⟨_, d6⟩, d7, d8, d9, B5⟩
  clear hK K
  try simp only [Act.put, List.setIfInBounds_toArray, List.set_cons_zero, List.set_cons_succ]
  refine wpAnyH_ready (rs := [12]) (by kernel_rfl) (by simp) ?_
  refine AllReadyH.cons rfl (fun K hK => ?_) AllReadyH.nil
  go_simp
  go_at_call_of 60 (Value.int .i64 b.d); refine (of_num b.d _ Qbd.out.1 Qbd.out.2).mono ?_; rintro e wt ⟨kB, rfl, hkB, NB, bt⟩; have nB := Lib.hid NB; clear NB; have nN := Lib.hid (Num.below nN.out bt rfl); have nA := Lib.hid (Num.below nA.out bt rfl)
  (try go_wp2_with fail)
  refine hK.out _ _ ?_ (fun hHeld => ?_)
  · first
      | assumption
      | exact two_keep bt rfl (by assumption)
      | exact two_set _ _ (by assumption)
      | exact two_keep (Below.drew (Below.refl _ _)) rfl ⟨d1, d2, d3, d4, ⟨_, d5⟩, ⟨_, d6⟩, d7, d8, d9, B5⟩
  clear hK K
  try simp only [Act.put, List.setIfInBounds_toArray, List.set_cons_zero, List.set_cons_succ]
  refine wpAnyH_ready (rs := [13]) (by kernel_rfl) (by simp) ?_
  refine AllReadyH.cons rfl (fun K hK => ?_) AllReadyH.nil
  go_simp
  go_at_call 64; refine (times_num kA kB _ _ _ nA.out nB.out P3.out.1 P3.out.2).mono ?_; rintro e wt ⟨kT, rfl, hkT, NT, bt⟩; have nT := Lib.hid NT; clear NT; have nN := Lib.hid (Num.below nN.out bt rfl)
  (try go_wp2_with fail)
  refine hK.out _ _ ?_ (fun hHeld => ?_)
  · first
      | assumption
      | exact two_keep bt rfl (by assumption)
      | exact two_set _ _ (by assumption)
      | exact two_keep (Below.drew (Below.refl _ _)) rfl ⟨d1, d2, d3, d4, ⟨_, d5⟩, ⟨_, d6⟩, d7, d8, d9, B5⟩
  clear hK K
  try simp only [Act.put, List.setIfInBounds_toArray, List.set_cons_zero, List.set_cons_succ]
  refine wpAnyH_ready (rs := [14]) (by kernel_rfl) (by simp) ?_
  refine AllReadyH.cons rfl (fun K hK => ?_) AllReadyH.nil
  go_simp
  go_at_call 59; refine (HGive.out kN kT _ nN.out nT.out).mono ?_; rintro e wt ⟨rfl, bt⟩; obtain ⟨k1, k2, k3, k4, ⟨z0, k5⟩, ⟨z1, k6⟩, k7, k8, k9, k10⟩ := two_keep bt rfl (by assumption)
  (try go_wp2_with fail)
  refine hK.out _ _ ?_ (fun hHeld => ?_)
  · first
      | assumption
      | exact two_keep bt rfl (by assumption)
      | exact two_set _ _ (by assumption)
      | exact two_keep (Below.drew (Below.refl _ _)) rfl ⟨d1, d2, d3, d4, ⟨_, d5⟩, ⟨_, d6⟩, d7, d8, d9, B5⟩
  clear hK K
  try simp only [Act.put, List.setIfInBounds_toArray, List.set_cons_zero, List.set_cons_succ]
  refine wpAnyH_take (i := 15) (v := ?_) rfl (by kernel_rfl) (by kernel_rfl) (by kernel_rfl) (fun _ _ _ h => h) (Or.inl ⟨by kernel_rfl, ?_⟩) (by assumption) ?_
  rotate_left
  · (intro w hSw; (try dsimp only at hSw); go_simp; first | done | with_reducible rfl)
  try simp only [Act.put, List.setIfInBounds_toArray, List.set_cons_zero, List.set_cons_succ]
  refine wpAnyH_take (i := 16) (v := ?_) rfl (by kernel_rfl) (by kernel_rfl) (by kernel_rfl) (fun _ _ _ h => h) (Or.inl ⟨by kernel_rfl, ?_⟩) (by assumption) ?_
  rotate_left
  · (intro w hSw; (try dsimp only at hSw); go_simp; first | done | with_reducible rfl)
  try simp only [Act.put, List.setIfInBounds_toArray, List.set_cons_zero, List.set_cons_succ]
  refine wpAnyH_ready (rs := [17]) (by kernel_rfl) (by simp) ?_
  refine AllReadyH.cons rfl (fun K hK => ?_) AllReadyH.nil
  go_simp
  refine hK.out _ _ ?_ (fun hHeld => ?_)
  · first
      | assumption
      | exact two_keep bt rfl (by assumption)
      | exact two_set _ _ (by assumption)
      | exact two_keep (Below.drew (Below.refl _ _)) rfl ⟨d1, d2, d3, d4, ⟨_, d5⟩, ⟨_, d6⟩, d7, d8, d9, B5⟩
  clear hK K
  try simp only [Act.put, List.setIfInBounds_toArray, List.set_cons_zero, List.set_cons_succ]
  refine wpAnyH_ready (rs := [18]) (by kernel_rfl) (by simp) ?_
  refine AllReadyH.cons rfl (fun K hK => ?_) AllReadyH.nil
  go_simp
  refine hK.out _ _ ?_ (fun hHeld => ?_)
  · first
      | assumption
      | exact two_keep bt rfl (by assumption)
      | exact two_set _ _ (by assumption)
      | exact two_keep (Below.drew (Below.refl _ _)) rfl ⟨d1, d2, d3, d4, ⟨_, d5⟩, ⟨_, d6⟩, d7, d8, d9, B5⟩
  clear hK K
  try simp only [Act.put, List.setIfInBounds_toArray, List.set_cons_zero, List.set_cons_succ]
  refine wpAnyH_done (by kernel_rfl) ?_ _
  all_goals go_wp2_with fail
  all_goals refine bodyPost_ret (v := .tuple #[.agg #[.int .i64 v, .int .i64 u], .int .i64 er]) (by simp [results, Tryz.results42, go_sem, *]) rfl ⟨rfl, ?_⟩
  all_goals exact Below.setCell (Below.setCell k10 (by simp only; omega) _) (by simp only; omega) _

end Go.Proofs.YtfbijgbpipedoaaGreatDoor

namespace Go.Proofs.YtfbijgbpipedoaaGreatDoor
open Go.RowKit Ra
attribute [local go_sem ↓] Go.wp_at_zero Go.wp_at_succ

end Go.Proofs.YtfbijgbpipedoaaGreatDoor

namespace Go.Proofs.YtfbijgbpipedoaaGreatDoor
open Go.RowKit Ra

theorem prod5 {x y : Nat} (hx : x ≤ 1152921504606846976) (hy : y ≤ 1152921504606846976) : x * y < 1073741824 ^ 5 ∧ 2 * (x * y) ≤ 1073741824 ^ 5 := by
  have h := Nat.mul_le_mul hx hy
  simp only [Nat.reducePow, Nat.reduceMul] at *
  omega
theorem sum5 {x y : Nat} (m l : Bool) (hx : x ≤ 1329227995784915872903807060280344576) (hy : y ≤ 1329227995784915872903807060280344576) : sumT m l x y < 1073741824 ^ 5 := by
  unfold sumT
  simp only [Nat.reducePow]
  split
  · omega
  · split <;> omega
/-- what Give gives, of a signed number -/
theorem give_of {ng : Bool} {X Y : Nat} {N : Int} {D : Nat} (hN : signed ng X = N) (hD : Y = D) (lx : X < 1073741824 ^ 5) (ly : 2 * Y ≤ 1073741824 ^ 5) (y0 : 0 < Y) : ∀ (g h : Nat) (w : World), Num w g X → Num w h Y →
    Calls Tryz.prog 59 #[.bool ng, .slice (some ⟨g, 0, none⟩) 5 5, .slice (some ⟨h, 0, none⟩) 5 5] w fun e w' => e = .returned (.tuple #[Qv (limV (norm N D)), .int .i64 (limE (norm N D))]) ∧ Below w.heap.size w w' := by
  subst hN hD
  exact fun g h w hx hy => give_num ng g h X Y w hx hy lx ly y0

structure Rp (a : Q) : Prop where
  r : Right a
  n : a.n.natAbs ≤ 1152921504606846976
  d : a.d.natAbs ≤ 1152921504606846976
  p : 0 < a.d.natAbs
  q : Hid (-9223372036854775808 ≤ a.n ∧ a.n ≤ 9223372036854775807)
  s : Hid (-9223372036854775808 ≤ a.d ∧ a.d ≤ 9223372036854775807)
theorem rp_of {a : Q} (h : rightB a = true) : Rp a := by
  have r := (right_iff a).1 h
  have l1 := r.lo; have l2 := r.hi; have l3 := r.den; have l4 := r.pos
  exact ⟨r, by omega, by omega, by omega, Lib.hid (by omega), Lib.hid (by omega)⟩
theorem pair5 {x y : Int} (hx : x.natAbs ≤ 1152921504606846976) (hy : y.natAbs ≤ 1152921504606846976) : Hid (x.natAbs * y.natAbs < 1073741824 ^ 5 ∧ x.natAbs < 1073741824 ^ 5) :=
  Lib.hid ⟨(prod5 hx hy).1, Nat.lt_of_le_of_lt hx (by decide)⟩

theorem rmul_any (a b : Q) (w : World) (ha : Q64 a) (hb : Q64 b) :
    Calls Tryz.prog 46 #[Qv a, Qv b] w fun e w' => e = .returned (.tuple #[Qv (mulV a b), .int .i64 (mulE a b)]) ∧ Below w.heap.size w w' := by
  unfold mulV mulE
  cases ra : rightB a
  · exact rmul_not1 a b w ha ra
  cases rb : rightB b
  · exact rmul_not2 a b w ha hb ra rb
  have A1 := rp_of ra
  have B1 := rp_of rb
  have hA := Lib.hid (rright_end ha _ ra)
  have hB := Lib.hid (rright_end hb _ rb)
  have hD : a.d.natAbs * b.d.natAbs = (a.d * b.d).natAbs := (Int.natAbs_mul _ _).symm
  have hp : 0 < a.d.natAbs * b.d.natAbs := Nat.mul_pos A1.p B1.p
  have l1 := prod5 A1.n B1.n
  have l2 := prod5 A1.d B1.d
  by_cases za : a.n = 0
  · exact rmul_za a b _ _ _ w hA hB A1.q A1.s B1.q B1.s (pair5 A1.n B1.n) (pair5 A1.d B1.d) (Lib.hid (give_of (by rw [za]; simp [signed]) hD l1.1 l2.2 hp)) (by simp [za])
  by_cases zb : b.n = 0
  · exact rmul_zb a b _ _ _ w hA hB A1.q A1.s B1.q B1.s (pair5 A1.n B1.n) (pair5 A1.d B1.d) (Lib.hid (give_of (by rw [zb]; simp [signed]) hD l1.1 l2.2 hp)) (by simp [za]) (by simp [zb])
  exact rmul_nz a b _ _ _ _ w hA hB A1.q A1.s B1.q B1.s (pair5 A1.n B1.n) (pair5 A1.d B1.d) (Lib.hid (give_of (ng := decide (a.n < 0) != decide (b.n < 0)) (by rw [← signed_signed, ← signed_natAbs, ← signed_natAbs]) hD l1.1 l2.2 hp)) (by simp [za]) (by simp [zb]) (by simp [bne])

theorem rdiv_any (a b : Q) (w : World) (ha : Q64 a) (hb : Q64 b) :
    Calls Tryz.prog 40 #[Qv a, Qv b] w fun e w' => e = .returned (.tuple #[Qv (divV a b), .int .i64 (divE a b)]) ∧ Below w.heap.size w w' := by
  cases ra : rightB a
  · have e1 : divV a b = ⟨0, 0⟩ ∧ divE a b = 1 := by
      unfold divV divE mulV mulE
      rw [ra]
      simp
    rw [e1.1, e1.2]
    exact rdiv_not1 a b w ha ra
  cases rb : rightB b
  · have e1 : divV a b = ⟨0, 0⟩ ∧ divE a b = 1 := by
      unfold divV divE
      rw [rb]
      simp
    rw [e1.1, e1.2]
    exact rdiv_not2 a b w ha hb ra rb
  have A1 := rp_of ra
  have B1 := rp_of rb
  have hA := Lib.hid (rright_end ha _ ra)
  have hB := Lib.hid (rright_end hb _ rb)
  by_cases zb : b.n = 0
  · have e1 : divV a b = ⟨0, 0⟩ ∧ divE a b = 1 := by
      unfold divV divE
      rw [rb, zb]
      simp
    rw [e1.1, e1.2]
    exact rdiv_zero a b w hA hB (Lib.hid zb)
  have e1 := div_vals A1.r B1.r zb
  rw [e1.1, e1.2]
  have bp := B1.r.pos
  have hi : (inv b).d.natAbs = b.n.natAbs ∧ (inv b).n = signed (decide (b.n < 0)) b.d.natAbs := by
    unfold inv signed
    by_cases h : b.n < 0
    · rw [if_pos h, decide_eq_true h]; refine ⟨by simp only [Int.natAbs_neg], ?_⟩; simp only [if_true]; omega
    · rw [if_neg h, decide_eq_false h]; refine ⟨rfl, ?_⟩; rw [if_neg (by decide)]; simp only; omega
  have hD : a.d.natAbs * b.n.natAbs = (a.d * (inv b).d).natAbs := by rw [Int.natAbs_mul, hi.1]
  have hp : 0 < a.d.natAbs * b.n.natAbs := Nat.mul_pos A1.p (by omega)
  have l1 := prod5 A1.n B1.d
  have l2 := prod5 A1.d B1.n
  by_cases za : a.n = 0
  · exact rdiv_za a b _ _ _ w hA hB A1.q A1.s B1.q B1.s (pair5 A1.n B1.d) (pair5 A1.d B1.n) (Lib.hid (give_of (by rw [za]; simp [signed]) hD l1.1 l2.2 hp)) (by simp [za]) (by simp [zb])
  exact rdiv_nz a b _ _ _ _ w hA hB A1.q A1.s B1.q B1.s (pair5 A1.n B1.d) (pair5 A1.d B1.n) (Lib.hid (give_of (ng := decide (a.n < 0) != decide (b.n < 0)) (by rw [hi.2, ← signed_signed, ← signed_natAbs]) hD l1.1 l2.2 hp)) (by simp [za]) (by simp [zb]) (by simp [bne])

theorem sum_of' (m l : Bool) (X Y : Nat) (lx : X < 1073741824 ^ 5) (ly : Y < 1073741824 ^ 5) {mn : Bool} {N : Nat} (h1 : sumM m l X Y = mn) (h2 : sumT m l X Y = N) : ∀ (g h : Nat) (w : World), Num w g X → Num w h Y →
    Calls Tryz.prog 72 #[.slice (some ⟨g, 0, none⟩) 5 5, .bool m, .slice (some ⟨h, 0, none⟩) 5 5, .bool l] w fun e w' => ∃ k, e = .returned (.tuple #[.slice (some ⟨k, 0, none⟩) 5 5, .bool mn]) ∧ w.heap.size ≤ k ∧ Num w' k N ∧ Below w.heap.size w w' := by
  subst h1 h2
  exact fun g h w hx hy => sum_num m l g h X Y w hx hy lx ly
theorem mul60 {x y : Nat} (hx : x ≤ 1152921504606846976) (hy : y ≤ 1152921504606846976) : x * y ≤ 1329227995784915872903807060280344576 := Nat.mul_le_mul hx hy
theorem d_signed {a b : Q} (hb : Right b) : a.n * b.d = signed (decide (a.n < 0)) (a.n.natAbs * b.d.natAbs) := by
  have := hb.pos
  rw [← signed_mul, ← signed_natAbs]
  congr 1
  omega

theorem radd_any (a b : Q) (w : World) (ha : Q64 a) (hb : Q64 b) :
    Calls Tryz.prog 42 #[Qv a, Qv b] w fun e w' => e = .returned (.tuple #[Qv (addV a b), .int .i64 (addE a b)]) ∧ Below w.heap.size w w' := by
  cases ra : rightB a
  · unfold addV addE; rw [ra]; exact radd_not1 a b w ha ra
  cases rb : rightB b
  · unfold addV addE; rw [ra, rb]; exact radd_not2 a b w ha hb ra rb
  have A1 := rp_of ra
  have B1 := rp_of rb
  have hA := Lib.hid (rright_end ha _ ra)
  have hB := Lib.hid (rright_end hb _ rb)
  rw [(add_vals A1.r B1.r).1, (add_vals A1.r B1.r).2]
  have hD : a.d.natAbs * b.d.natAbs = (a.d * b.d).natAbs := (Int.natAbs_mul _ _).symm
  have hp : 0 < a.d.natAbs * b.d.natAbs := Nat.mul_pos A1.p B1.p
  have l2 := prod5 A1.d B1.d
  have hs := sum_signed (decide (a.n < 0)) (decide (b.n < 0)) (a.n.natAbs * b.d.natAbs) (b.n.natAbs * a.d.natAbs)
  rw [← d_signed B1.r, ← d_signed A1.r] at hs
  have lN := sum5 (decide (a.n < 0)) (decide (b.n < 0)) (mul60 A1.n B1.d) (mul60 B1.n A1.d)
  have SM := @sum_of' (decide (a.n < 0)) (decide (b.n < 0)) _ _ (prod5 A1.n B1.d).1 (prod5 B1.n A1.d).1
  unfold addN
  generalize sumT (decide (a.n < 0)) (decide (b.n < 0)) (a.n.natAbs * b.d.natAbs) (b.n.natAbs * a.d.natAbs) = N at *
  cases hm : sumM (decide (a.n < 0)) (decide (b.n < 0)) (a.n.natAbs * b.d.natAbs) (b.n.natAbs * a.d.natAbs)
  · rw [hm] at hs
    exact radd_pos a b _ _ N _ _ _ w hA hB A1.q A1.s B1.q B1.s (pair5 A1.n B1.d) (pair5 B1.n A1.d) (pair5 A1.d B1.d) (Lib.hid (SM hm rfl)) (Lib.hid (give_of hs hD lN l2.2 hp)) rfl rfl
  · rw [hm] at hs
    by_cases hz : N = 0
    · refine radd_zero a b _ _ N _ _ _ w hA hB A1.q A1.s B1.q B1.s (pair5 A1.n B1.d) (pair5 B1.n A1.d) (pair5 A1.d B1.d) (Lib.hid (SM hm rfl)) (Lib.hid (give_of (ng := false) ?_ hD lN l2.2 hp)) rfl rfl (Lib.hid lN) (by simp [hz])
      rw [← hs, hz, signed_zero, signed_zero]
    · exact radd_neg a b _ _ N _ _ _ w hA hB A1.q A1.s B1.q B1.s (pair5 A1.n B1.d) (pair5 B1.n A1.d) (pair5 A1.d B1.d) (Lib.hid (SM hm rfl)) (Lib.hid (give_of hs hD lN l2.2 hp)) rfl rfl (Lib.hid lN) (by simp [hz])

theorem m_signed {a b : Q} (ha : Right a) : -(b.n * a.d) = signed (decide (0 ≤ b.n)) (b.n.natAbs * a.d.natAbs) := by
  have := ha.pos
  rw [← signed_mul, ← Int.neg_mul]
  congr 1
  · unfold signed
    by_cases h : 0 ≤ b.n <;> simp [h] <;> omega
  · omega

theorem rcmp_any (a b : Q) (w : World) (ha : Q64 a) (hb : Q64 b) :
    Calls Tryz.prog 44 #[Qv a, Qv b] w fun e w' => e = .returned (.int .i64 (cmpV a b)) ∧ Below w.heap.size w w' := by
  unfold cmpV
  cases ra : rightB a
  · exact rcmp_not1 a b w (Lib.hid (rright_end ha _ ra))
  cases rb : rightB b
  · exact rcmp_not2 a b w (Lib.hid (rright_end ha _ ra)) (Lib.hid (rright_end hb _ rb))
  simp only [Bool.and_self, if_true]
  have A1 := rp_of ra
  have B1 := rp_of rb
  have hA := Lib.hid (rright_end ha _ ra)
  have hB := Lib.hid (rright_end hb _ rb)
  have hs := sum_signed (decide (a.n < 0)) (decide (0 ≤ b.n)) (a.n.natAbs * b.d.natAbs) (b.n.natAbs * a.d.natAbs)
  rw [← d_signed B1.r, ← m_signed A1.r, ← Int.sub_eq_add_neg] at hs
  have lN := sum5 (decide (a.n < 0)) (decide (0 ≤ b.n)) (mul60 A1.n B1.d) (mul60 B1.n A1.d)
  have SM := @sum_of' (decide (a.n < 0)) (decide (0 ≤ b.n)) _ _ (prod5 A1.n B1.d).1 (prod5 B1.n A1.d).1
  unfold cmpN
  rw [← hs]
  generalize sumT (decide (a.n < 0)) (decide (0 ≤ b.n)) (a.n.natAbs * b.d.natAbs) (b.n.natAbs * a.d.natAbs) = N at *
  by_cases hz : N = 0
  · exact rcmp_z a b _ _ _ N _ w hA hB A1.q A1.s B1.q B1.s (pair5 A1.n B1.d) (pair5 B1.n A1.d) (Lib.hid (SM rfl rfl)) (Lib.hid lN) rfl rfl (by simp [hz]) (by rw [hz, signed_zero, if_pos rfl])
  cases hm : sumM (decide (a.n < 0)) (decide (0 ≤ b.n)) (a.n.natAbs * b.d.natAbs) (b.n.natAbs * a.d.natAbs)
  · exact rcmp_pos a b _ _ N _ w hA hB A1.q A1.s B1.q B1.s (pair5 A1.n B1.d) (pair5 B1.n A1.d) (Lib.hid (SM hm rfl)) (Lib.hid lN) rfl rfl (by simp [hz]) (by unfold signed; simp only [Bool.false_eq_true, if_false]; rw [if_neg (by omega), if_neg (by omega)])
  · exact rcmp_neg a b _ _ N _ w hA hB A1.q A1.s B1.q B1.s (pair5 A1.n B1.d) (pair5 B1.n A1.d) (Lib.hid (SM hm rfl)) (Lib.hid lN) rfl rfl (by simp [hz]) (by unfold signed; simp only [if_true]; rw [if_neg (by omega), if_pos (by omega)])

end Go.Proofs.YtfbijgbpipedoaaGreatDoor

