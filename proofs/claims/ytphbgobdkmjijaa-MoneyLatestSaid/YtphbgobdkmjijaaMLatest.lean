/- The statement MoneyLatest, walked. -/
import Derived.Test.YtphbgobdkmjijaaMFrom
import Derived.Test.YtphbgobdkmjijaaMLatPure
import Derived.Test.YtphbgobdkmjijaaMFlat
import Derived.Deep.RegionHeld3
import Derived.Deep.AppendLies
import Derived.Deep.RegionLaw
import Derived.Test.YtphbgobdkmjijaaStep
import Derived.Outline
import Derived.Deep.DeepCutAuto
namespace Go.Proofs.Ytphbgobdkmjijaa
open Go.RowKit Mo

theorem rate_info : (Try.prog.info? 36).map (fun i => (i.zero, i.size, i.bytes)) = some (some (.agg #[.int .i64 0, .int .i64 0, .int .i64 0, .int .i64 0, .int .i64 0]), 5, 40) := by kernel_rfl
theorem flat_oneCell : ∀ (rs : List Rate), ∀ u ∈ flat rs, u.oneCell' = true := by
  intro rs
  induction rs with
  | nil => intro u hu; simp [flat] at hu
  | cons r rs ih =>
    intro u hu
    rw [flat, List.mem_append] at hu
    rcases hu with hu | hu
    · simp [rcl] at hu; rcases hu with rfl | rfl | rfl | rfl | rfl <;> rfl
    · exact ih u hu

theorem own_empty_1 (w1 : World) : Own w1 (w1.alloc (.cells #[] 36)).drew 36 5 (.slice (some ⟨w1.heap.size, 0, none⟩) 0 0) 0 [] :=
  own_empty (wx := (w1.alloc (.cells #[] 36)).drew) (heap_alloc_new w1 _) (Nat.le_refl _) ((Below.refl _ _).alloc (Nat.le_refl _) _).drew
theorem own_empty_2 (w1 : World) (cs : Array Value) : Own w1 ((w1.alloc (.cells #[] 36)).alloc (.cells cs 36)).drew 36 5 (.slice (some ⟨w1.heap.size, 0, none⟩) 0 0) 0 [] :=
  own_empty ((Below.heap_alloc _ _ _ (by simp)).trans (heap_alloc_new w1 _)) (Nat.le_refl _) (((Below.refl _ _).alloc (Nat.le_refl _) _).alloc (by simp) _).drew
theorem own_empty_3 (w1 : World) (cs : Array Value) : Own w1 ((w1.alloc (.cells cs 36)).alloc (.cells #[] 36)).drew 36 5 (.slice (some ⟨w1.heap.size + 1, 0, none⟩) 0 0) 0 [] := by
  have h := heap_alloc_new (w1.alloc (.cells cs 36)) (.cells #[] 36)
  rw [World.size_alloc] at h
  exact own_empty h (by omega) (((Below.refl _ _).alloc (Nat.le_refl _) _).alloc (by simp) _).drew
theorem box_later {w1 w2 : World} {g : Nat} {r : Rate} {e : TypeId} {size n : Nat} {v : Value} {xs : List Value} (h : Hid (Own w1 w2 e size v n xs)) (hb : Hid (RB w1 g r)) :
    w2.cell? ⟨g, 0, none⟩ = some (.int .i64 r.f) ∧ w2.cell? ⟨g, 1, none⟩ = some (.int .i64 r.t) ∧ w2.cell? ⟨g, 2, none⟩ = some (.int .i64 r.n) ∧ w2.cell? ⟨g, 3, none⟩ = some (.int .i64 r.d) ∧ w2.cell? ⟨g, 4, none⟩ = some (.int .i64 r.s) := by
  have h1 : RB w2 g r := (h.out.2.1.block g hb.out.lt).trans hb.out
  obtain ⟨c0, c1, c2, c3, c4⟩ := h1.cells
  simp only [Nat.zero_add] at c1 c2 c3 c4
  exact ⟨c0, c1, c2, c3, c4⟩
theorem blk_2 {w1 w2 : World} {cs : Array Value} (h : Hid (∀ g, g < (((w1.alloc (.cells #[] 36)).alloc (.cells cs 36)).drew).heap.size → (Value.slice (some ⟨w1.heap.size, 0, none⟩) 0 0).ownBlock ≠ some g → w2.heap[g]? = (((w1.alloc (.cells #[] 36)).alloc (.cells cs 36)).drew).heap[g]?)) :
    w2.heap[w1.heap.size + 1]? = some (.cells cs 36 (0, 0)) := by
  have h1 := h.out (w1.heap.size + 1) (by show _ < ((w1.alloc _).alloc _).heap.size; simp) (by simp [Value.ownBlock])
  have h2 := heap_alloc_new (w1.alloc (.cells #[] 36)) (.cells cs 36)
  rw [World.size_alloc] at h2
  exact h1.trans h2
theorem blk_3 {w1 w2 : World} {cs : Array Value} (h : Hid (∀ g, g < (((w1.alloc (.cells cs 36)).alloc (.cells #[] 36)).drew).heap.size → (Value.slice (some ⟨w1.heap.size + 1, 0, none⟩) 0 0).ownBlock ≠ some g → w2.heap[g]? = (((w1.alloc (.cells cs 36)).alloc (.cells #[] 36)).drew).heap[g]?)) :
    w2.heap[w1.heap.size]? = some (.cells cs 36 (0, 0)) := by
  have h1 := h.out w1.heap.size (by show _ < ((w1.alloc _).alloc _).heap.size; simp; omega) (by simp [Value.ownBlock])
  exact h1.trans ((Below.heap_alloc _ _ _ (by simp)).trans (heap_alloc_new w1 _))

theorem rates_met {w1 w4 : World} {v : Value} {k m : Nat} {rs : List Rate} {one : Rate} (h : Hid (Own w1 w4 36 5 v (0 + k + 1 + m) (([] ++ flat (rs.take k)) ++ (#[.int .i64 one.f, .int .i64 one.t, .int .i64 one.n, .int .i64 one.d, .int .i64 one.s] : Array Value).toList ++ flat (rs.drop k)))) (hn : 0 + k + 1 + m = rs.length + 1) :
    ∃ A' c', v = .slice A' (rs.length + 1) c' ∧ Hid (Own w1 w4 36 5 v (rs.length + 1) (flat (rs.take k ++ one :: rs.drop k))) := by
  have h1 := h.out
  rw [hn] at h1
  have e : ([] ++ flat (rs.take k)) ++ (#[.int .i64 one.f, .int .i64 one.t, .int .i64 one.n, .int .i64 one.d, .int .i64 one.s] : Array Value).toList ++ flat (rs.drop k) = flat (rs.take k ++ one :: rs.drop k) := by
    rw [flat_append, List.nil_append, List.append_assoc]; rfl
  rw [e] at h1
  obtain ⟨A, c, rfl⟩ := h1.form
  exact ⟨A, c, rfl, h1⟩
theorem box_lat {w1 w2 : World} {g : Nat} {r : Rate} (h : Lat w1 w2) (hb : RB w1 g r) : w2.cell? ⟨g, 0, none⟩ = some (.int .i64 r.f) ∧ w2.cell? ⟨g, 1, none⟩ = some (.int .i64 r.t) ∧ w2.cell? ⟨g, 2, none⟩ = some (.int .i64 r.n) ∧ w2.cell? ⟨g, 3, none⟩ = some (.int .i64 r.d) ∧ w2.cell? ⟨g, 4, none⟩ = some (.int .i64 r.s) := by
  have h1 : RB w2 g r := (Below.block h g hb.lt).trans hb
  obtain ⟨c0, c1, c2, c3, c4⟩ := h1.cells
  simp only [Nat.zero_add] at c1 c2 c3 c4
  exact ⟨c0, c1, c2, c3, c4⟩

theorem rates_own {w1 w4 : World} {A : Option Addr} {k c : Nat} {rs : List Rate} {one : Rate} (h : Hid (Own w1 w4 36 5 (.slice A (rs.length + 1) c) (rs.length + 1) (flat (rs.take k ++ one :: rs.drop k)))) (hw : ∀ r ∈ rs, RWf r) (ho : RWf one) :
    RR w4 w4.heap.size A (rs.take k ++ one :: rs.drop k) := by
  have hl : (rs.take k ++ one :: rs.drop k).length = rs.length + 1 := by
    have := congrArg List.length (List.take_append_drop k rs)
    simp at this ⊢; omega
  have h1 := h.out.1
  rw [← hl] at h1
  have hle : (rs.take k ++ one :: rs.drop k).length ≤ 9223372036854775807 := by
    rw [hl]
    rcases h.out.1.2 with ⟨_, h0⟩ | ⟨g, cap, cur, hv, _, _, hc, hm, _⟩
    · omega
    · unfold maxLen at hm; omega
  refine own_rates h1 hle fun r hr => ?_
  rw [List.mem_append, List.mem_cons] at hr
  rcases hr with hr | rfl | hr
  · exact hw r (List.mem_of_mem_take hr)
  · exact ho
  · exact hw r (List.mem_of_mem_drop hr)

theorem pair_is {p q f t : Int} {a b c d : Bool} (h1 : (p == f) = a) (h2 : (q == t) = b) (h3 : (p == t) = c) (h4 : (q == f) = d) :
    Hid ((a && b || c && d) = true ↔ (p = f ∧ q = t ∨ p = t ∧ q = f)) := by
  show ((a && b || c && d) = true ↔ (p = f ∧ q = t ∨ p = t ∧ q = f))
  subst h1; subst h2; subst h3; subst h4
  simp
theorem row_single {w : World} {q : Rate} (hq : RWf q) : RR (w.alloc (.cells (rcs q) 36)) (w.alloc (.cells (rcs q) 36)).heap.size (some ⟨w.heap.size, 0, none⟩) [q] := by
  refine ⟨⟨by simp, fun r hr => by rw [List.mem_singleton] at hr; subst hr; exact hq⟩, fun _ => ⟨w.heap.size, 0, rfl, by simp, fun i r hr => ?_⟩⟩
  have h0 : i = 0 := by have := (List.getElem?_eq_some_iff.1 hr).1; simp at this; omega
  subst h0
  simp at hr
  subst hr
  have h : RB (w.alloc (.cells (rcs q) 36)) w.heap.size q := heap_alloc_new w _
  rw [Nat.zero_mul, Nat.add_zero]
  exact h.cells
theorem rates_more {W w : World} {v : Value} {q : Rate} {rs : List Rate} (h : Hid (Own W w 36 5 v (1 + rs.length) ((rcs q).toList ++ flat rs))) (hl : rs.length ≤ 99) (hw : ∀ r ∈ rs, RWf r) (ho : RWf q) :
    ∃ A c, v = .slice A (1 + rs.length) c ∧ RR w w.heap.size A (q :: rs) := by
  obtain ⟨A, c, rfl⟩ := h.out.form
  refine ⟨A, c, rfl, ?_⟩
  have h1 := h.out.1
  have e : 1 + rs.length = (q :: rs).length := by simp; omega
  rw [e] at h1
  exact own_rates h1 (by simp; omega) fun r hr => by
    rw [List.mem_cons] at hr
    rcases hr with rfl | hr
    · exact ho
    · exact hw r hr

set_option maxRecDepth 100000 in
set_option maxHeartbeats 8000000 in
theorem latest_law (A : Option Addr) (cp : Nat) (rs : List Rate) (one : Rate) (at_ s f t day : Int) (w : World) (hr : RR w w.heap.size A rs) (hone : RWf one) (hcp : rs.length ≤ cp) :
    Calls Try.prog 7 #[.slice A rs.length cp, .agg #[.int .i64 one.f, .int .i64 one.t, .int .i64 one.n, .int .i64 one.d, .int .i64 one.s], .int .i64 at_, .int .i64 s, .int .i64 f, .int .i64 t, .int .i64 day] w fun e w' => e = .returned (.bool true) ∧ Below w.heap.size w w' := by
  have hlen := hr.1.1
  obtain ⟨W, hW⟩ : ∃ W, W = w.alloc (.cells #[.int .i64 one.f, .int .i64 one.t, .int .i64 one.n, .int .i64 one.d, .int .i64 one.s] 36) := ⟨_, rfl⟩
  have HRB : Hid (RB W w.heap.size one) := by subst hW; exact heap_alloc_new w _
  have HR : Hid (RR W W.heap.size A rs) := by
    subst hW; exact (hr.below ((Below.refl _ _).alloc (Nat.le_refl _) _)).more (by simp)
  have HBW : Hid (Below w.heap.size w W) := by subst hW; exact (Below.refl _ _).alloc (Nat.le_refl _) _
  have HL : Lat W W := Lat.refl W
  have HONE := Lib.hid hone
  clear hone
  have HW := Lib.hid hW
  clear hr hW
  by_cases hd : rs.length ≤ 99 ∧ rOk one
  · obtain ⟨h99, n0, n1, d0, d1⟩ := hd
    obtain ⟨k, HK, hkl⟩ : ∃ k : Nat, Hid (max 0 (min at_ (rs.length : Int)) = k) ∧ k ≤ rs.length := ⟨(max 0 (min at_ (rs.length : Int))).toNat, by show _ = _; omega, by omega⟩
    go_enter Try.func7, Try.ntmps7
    go_wp2_with fail
    rw [← HW.out]
    refine (sane_from W _ HL).mono ?_
    rintro e w1 ⟨rfl, L1⟩
    have hrb1 : RB w1 w.heap.size one := (L1.block w.heap.size (HRB.out.lt)).trans HRB.out
    obtain ⟨c1, c2, c3, c4, c5⟩ := hrb1.cells
    simp only [Nat.zero_add] at c2 c3 c4 c5
    have HRB1 := Lib.hid hrb1
    clear hrb1
    go_upto_region 5 with fail
    rw [HK.out]
    have hR1 := (L1.rates HR).reads
    have HT := Lib.hid (reads_take hR1 hkl rfl)
    have HD := Lib.hid (hR1.cut (cap := cp) hkl hcp)
    rw [← flat_drop] at HD
    clear hR1
    have o1 : ∀ u ∈ flat (rs.take k), u.oneCell' = true := flat_oneCell _
    have o3 : ∀ u ∈ flat (rs.drop k), u.oneCell' = true := flat_oneCell _
    have o2 : ∀ u ∈ (#[.int .i64 one.f, .int .i64 one.t, .int .i64 one.n, .int .i64 one.d, .int .i64 one.s] : Array Value).toList, u.oneCell' = true := by intro u hu; simp at hu; rcases hu with rfl | rfl | rfl | rfl | rfl <;> rfl
    have k0 : (0 : Int) ≤ (k : Int) := by omega
    have k1 : (k : Int) ≤ (cp : Int) := by omega
    have k2 : (k : Int) ≤ (rs.length : Int) := by omega
    have O1 := Lib.hid o1
    have O2 := Lib.hid o2
    have O3 := Lib.hid o3
    clear o1 o2 o3
    have hwl : w.heap.size < w1.heap.size := HRB1.out.lt
    have HE1 := Lib.hid (own_empty_1 w1)
    have HE2 := Lib.hid (own_empty_2 w1 #[.int .i64 one.f, .int .i64 one.t, .int .i64 one.n, .int .i64 one.d, .int .i64 one.s])
    have HE3 := Lib.hid (own_empty_3 w1 #[.int .i64 one.f, .int .i64 one.t, .int .i64 one.n, .int .i64 one.d, .int .i64 one.s])
    have HL1 := Lib.hid L1
    have hm1 : k ≤ 99 := by omega
    have hz1 : 0 + k ≤ maxLen := by unfold maxLen; omega
    have hz2 : (0 + k) * 40 ≤ 140737488355328 := by omega
    have hz3 : 0 + k + 1 ≤ maxLen := by unfold maxLen; omega
    have hz4 : (0 + k + 1) * 40 ≤ 140737488355328 := by omega
    have hz5 : 0 + k + 1 + (rs.length - k) ≤ maxLen := by unfold maxLen; omega
    have hz6 : (0 + k + 1 + (rs.length - k)) * 40 ≤ 140737488355328 := by omega
    clear hm1
    go_cut [17] (fun v wr => ∃ A' c', v = .slice A' (rs.length + 1) c' ∧ Hid (Own w1 wr 36 5 v (rs.length + 1) (flat (rs.take k ++ one :: rs.drop k))))
    case first =>
      by_cases hck : cp = k
      · subst hck
        have hdx := HD.out
        rw [if_pos rfl, show rs.length - cp = 0 by omega] at hdx
        have hz5 : 0 + cp + 1 + 0 ≤ maxLen := by unfold maxLen; omega
        have hz6 : (0 + cp + 1 + 0) * 40 ≤ 140737488355328 := by omega
        have HDX := Lib.hid hdx
        clear hdx
        go_region_law (first
          | (refine step_own_old HE1 HT O1 cp 22 _ 40 Try.underlying22 rate_info rfl (by decide) hz1 hz2 rfl (.tmp 58) (.tmp 61) rfl rfl rfl ?_
             intro v2 w2 HO2 HK2
             obtain ⟨d1, d2, d3, d4, d5⟩ := box_later HO2 HRB1)
          | (refine step_own_old HE2 HT O1 cp 22 _ 40 Try.underlying22 rate_info rfl (by decide) hz1 hz2 rfl (.tmp 58) (.tmp 61) rfl rfl rfl ?_
             intro v2 w2 HO2 HK2
             have HRb := Lib.hid (blk_2 HK2))
          | (refine step_own_old HE3 HT O1 cp 22 _ 40 Try.underlying22 rate_info rfl (by decide) hz1 hz2 rfl (.tmp 58) (.tmp 61) rfl rfl rfl ?_
             intro v2 w2 HO2 HK2
             have HRb := Lib.hid (blk_3 HK2))
          | (refine step_own_blk HO2 HRb rfl O2 22 _ 40 Try.underlying22 rate_info rfl (by decide) hz3 hz4 rfl (.tmp 62) (.tmp 64) rfl rfl rfl ?_
             intro v3 w3 HO3 _)
          | (refine step_own_blk (Lib.hid (HO2.out.alloc _)) (Lib.hid (heap_alloc_new _ _)) rfl O2 22 _ 40 Try.underlying22 rate_info rfl (by decide) hz3 hz4 rfl (.tmp 62) (.tmp 64) rfl rfl rfl ?_
             intro v3 w3 HO3 _)
          | (refine step_own_old HO3 HDX O3 0 22 _ 40 Try.underlying22 rate_info rfl (by decide) hz5 hz6 rfl (.tmp 65) (.tmp 68) rfl rfl rfl ?_
             intro v4 w4 HO4 _))
        all_goals
          go_wp2_with fail
          go_meet
          exact rates_met HO4 (by omega)
      · have hdx := HD.out
        rw [if_neg hck] at hdx
        have HDX := Lib.hid hdx
        clear hdx
        go_region_law (first
          | (refine step_own_old HE1 HT O1 cp 22 _ 40 Try.underlying22 rate_info rfl (by decide) hz1 hz2 rfl (.tmp 58) (.tmp 61) rfl rfl rfl ?_
             intro v2 w2 HO2 HK2
             obtain ⟨d1, d2, d3, d4, d5⟩ := box_later HO2 HRB1)
          | (refine step_own_old HE2 HT O1 cp 22 _ 40 Try.underlying22 rate_info rfl (by decide) hz1 hz2 rfl (.tmp 58) (.tmp 61) rfl rfl rfl ?_
             intro v2 w2 HO2 HK2
             have HRb := Lib.hid (blk_2 HK2))
          | (refine step_own_old HE3 HT O1 cp 22 _ 40 Try.underlying22 rate_info rfl (by decide) hz1 hz2 rfl (.tmp 58) (.tmp 61) rfl rfl rfl ?_
             intro v2 w2 HO2 HK2
             have HRb := Lib.hid (blk_3 HK2))
          | (refine step_own_blk HO2 HRb rfl O2 22 _ 40 Try.underlying22 rate_info rfl (by decide) hz3 hz4 rfl (.tmp 62) (.tmp 64) rfl rfl rfl ?_
             intro v3 w3 HO3 _)
          | (refine step_own_blk (Lib.hid (HO2.out.alloc _)) (Lib.hid (heap_alloc_new _ _)) rfl O2 22 _ 40 Try.underlying22 rate_info rfl (by decide) hz3 hz4 rfl (.tmp 62) (.tmp 64) rfl rfl rfl ?_
             intro v3 w3 HO3 _)
          | (refine step_own_old HO3 HDX O3 (cp - k) 22 _ 40 Try.underlying22 rate_info rfl (by decide) hz5 hz6 rfl (.tmp 65) (.tmp 68) rfl rfl rfl ?_
             intro v4 w4 HO4 _))
        all_goals
          go_wp2_with fail
          go_meet
          exact rates_met HO4 (by omega)
    case rest =>
      obtain ⟨A', c', rfl, HM⟩ := hcut
      have hlen2 : (rs.take k ++ one :: rs.drop k).length = rs.length + 1 := by simp; omega
      have hrm := rates_own HM HR.out.1.2 HONE.out
      have hL2 := Lat.step L1 HM.out.2.1
      have HL2 := Lib.hid hL2
      have HRM := Lib.hid hrm
      have HLEN2 := Lib.hid hlen2
      have hsame := fun h => same_insert (rs := rs) (s := s) (f := f) (t := t) (day := day) k (q := one) ⟨n0, n1, d0, d1⟩ h99 h
      have hown := fun he => own_alone (rs := rs) (s := s) (f := f) (t := t) (day := day) (q := ⟨f, t, one.n, one.d, day⟩) ⟨n0, n1, d0, d1⟩ h99 rfl rfl rfl he
      have hoarg := fun he => own_arg (rs := rs) (s := s) (f := f) (t := t) (day := day) (q := ⟨f, t, one.n, one.d, day⟩) he h99
      have HOWN := Lib.hid hown
      have HOARG := Lib.hid hoarg
      clear hlen2 hrm hL2 hown hoarg
      go_wp2_with fail
      refine (conv_at A rs.length cp rs s f t day _ (HL2.out.rates HR) rfl).mono ?_
      rintro e w5 ⟨rfl, hb⟩
      have HL5 := Lib.hid (HL2.out.step hb)
      have HRM5 := Lib.hid (HRM.out.below hb |>.more hb.size)
      clear hb HL2 HRM
      go_wp2_with fail
      refine (conv_at A' (rs.length + 1) c' _ s f t day _ HRM5.out HLEN2.out).mono ?_
      rintro e w6 ⟨rfl, hb⟩
      have HL6 := Lib.hid (HL5.out.step hb)
      clear hb HL5 HRM5
      obtain ⟨b1, b2, b3, b4, b5⟩ := box_lat HL6.out HRB.out
      generalize hv1 : cVal rs s f t day = v1 at *
      generalize he1 : cErr rs s f t day = e1 at *
      generalize hv2 : cVal (rs.take k ++ one :: rs.drop k) s f t day = v2 at *
      generalize he2 : cErr (rs.take k ++ one :: rs.drop k) s f t day = e2 at *
      have HSAME := Lib.hid hsame
      clear hsame
      have HV1 := Lib.hid hv1
      have HE1' := Lib.hid he1
      clear hv1 he1 hv2 he2
      go_upto_region 8 with fail
      go_cut [22] (fun v wr => w6 = wr ∧ ∃ pb : Bool, v = .bool pb ∧ Hid (pb = true ↔ (one.f = f ∧ one.t = t ∨ one.f = t ∧ one.t = f)))
      case first =>
        cases p1 : (one.f == f) <;> cases p2 : (one.t == t) <;> cases p3 : (one.f == t) <;> cases p4 : (one.t == f)
        all_goals
          go_wp2_with fail
          go_meet
          exact ⟨rfl, _, rfl, pair_is p1 p2 p3 p4⟩
      case rest =>
        obtain ⟨hwr, pb, rfl, HPB⟩ := hcut
        subst hwr
        have hx : (pb = true ∧ ¬ day < one.s) ∨ (v1 = v2 ∧ e1 = e2) := by
          by_cases hp : pb = true ∧ ¬ day < one.s
          · exact .inl hp
          · right
            have h := HSAME.out (by
              by_cases h1 : pb = true
              · right; exact Classical.byContradiction fun h => hp ⟨h1, h⟩
              · left; exact fun h => h1 (HPB.out.2 h))
            exact ⟨h.1.symm, h.2.symm⟩
        have HX := Lib.hid hx
        clear hx
        have hqw : RWf (⟨f, t, one.n, one.d, day⟩ : Rate) := HONE.out
        have hbox : RB (w6.alloc (.cells #[.int .i64 f, .int .i64 t, .int .i64 one.n, .int .i64 one.d, .int .i64 day] 36)) w6.heap.size (⟨f, t, one.n, one.d, day⟩ : Rate) := heap_alloc_new w6 _
        have hall6 : Lat W (w6.alloc (.cells #[.int .i64 f, .int .i64 t, .int .i64 one.n, .int .i64 one.d, .int .i64 day] 36)) := HL6.out.step ((Below.refl _ _).alloc (Nat.le_refl _) _)
        have hsing := own_single (W := w6.alloc (.cells #[.int .i64 f, .int .i64 t, .int .i64 one.n, .int .i64 one.d, .int .i64 day] 36)) (e := 36) #[.int .i64 f, .int .i64 t, .int .i64 one.n, .int .i64 one.d, .int .i64 day] (size := 5) rfl
        have hrd := (hall6.rates HR).reads
        have hgn : w6.heap.size + 1 = (w6.alloc (.cells #[.int .i64 f, .int .i64 t, .int .i64 one.n, .int .i64 one.d, .int .i64 day] 36)).heap.size := by simp
        rw [← hgn] at hsing
        have hown := HOWN.out
        have hoarg := HOARG.out
        generalize hv3 : cVal ((⟨f, t, one.n, one.d, day⟩ : Rate) :: rs) s f t day = v3 at *
        generalize he3 : cErr ((⟨f, t, one.n, one.d, day⟩ : Rate) :: rs) s f t day = e3 at *
        generalize hv4 : cVal [(⟨f, t, one.n, one.d, day⟩ : Rate)] s f t day = v4 at *
        generalize he4 : cErr [(⟨f, t, one.n, one.d, day⟩ : Rate)] s f t day = e4 at *
        have HV3 := Lib.hid hv3
        have HE3 := Lib.hid he3
        have HV4 := Lib.hid hv4
        have HE4 := Lib.hid he4
        have HSING := Lib.hid hsing
        have HRD := Lib.hid hrd
        have HBOX := Lib.hid hbox
        have HALL6 := Lib.hid hall6
        have HO1 := Lib.hid (flat_oneCell rs)
        have HQW := Lib.hid hqw
        have HOW := Lib.hid hown
        have HOA := Lib.hid hoarg
        have hz7 : 1 + rs.length ≤ maxLen := by unfold maxLen; omega
        have hz8 : (1 + rs.length) * 40 ≤ 140737488355328 := by omega
        clear hbox hall6 hsing hrd hgn hqw hown hoarg hv3 he3 hv4 he4
        have hways : (pb = true ∧ decide (day < one.s) = false) ∨ (v1 = v2 ∧ e1 = e2) := by
          rcases HX.out with h | h
          · exact .inl ⟨h.1, decide_eq_false h.2⟩
          · exact .inr h
        rcases hways with ⟨hp, hs'⟩ | ⟨hv, he⟩
        · subst hp
          go_wp2_with (at_builtin; refine append_own_old HSING HRD HO1 cp 22 _ 40 Try.underlying22 rate_info rfl (by decide) hz7 hz8 rfl _ _ rfl rfl rfl ?_; intro v7 w7 HO7)
          obtain ⟨A7, c7, hv7, hr7⟩ := rates_more (q := (⟨f, t, one.n, one.d, day⟩ : Rate)) HO7 h99 HR.out.1.2 HQW.out
          subst hv7
          have HL7 := Lib.hid (HALL6.out.step HO7.out.2.1)
          have HLB7 := Lib.hid (show Lat (w6.alloc (.cells #[.int .i64 f, .int .i64 t, .int .i64 one.n, .int .i64 one.d, .int .i64 day] 36)) w7 from HO7.out.2.1)
          have hc7 := conv_at A7 (1 + rs.length) c7 ((⟨f, t, one.n, one.d, day⟩ : Rate) :: rs) s f t day w7 hr7 (by simp; omega)
          rw [HV3.out, HE3.out] at hc7
          have HC7 := Lib.hid hc7
          clear hr7 hc7 HO7
          refine HC7.out.mono ?_
          rintro e w8 ⟨rfl, hb⟩
          have HL8 := Lib.hid (HL7.out.step hb)
          obtain ⟨x1, x2, x3, x4, x5⟩ := box_lat (HLB7.out.step hb) HBOX.out
          simp only at x1 x2 x3 x4 x5
          clear hb HC7
          go_wp2_with fail
          have hc8 := conv_at (some ⟨w8.heap.size, 0, none⟩) 1 1 [(⟨f, t, one.n, one.d, day⟩ : Rate)] s f t day _ (row_single (w := w8) HQW.out) rfl
          rw [HV4.out, HE4.out] at hc8
          have HC8 := Lib.hid hc8
          clear hc8
          refine HC8.out.mono ?_
          rintro e w9 ⟨rfl, hb⟩
          have HL9 := Lib.hid ((HL8.out.step ((Below.refl _ _).alloc (Nat.le_refl _) _)).step hb)
          clear hb HC8
          by_cases hE : e1 = 1
          · obtain ⟨g1, g2⟩ := HOA.out hE
            subst g1; subst g2; subst hE
            go_wp2_with fail
            go_ret
            exact ⟨rfl, HBW.out.trans (Below.mono HL9.out HBW.out.size)⟩
          · obtain ⟨g1, g2⟩ := HOW.out hE
            subst g1; subst g2
            have hE' : (e1 == 1) = false := by simpa using hE
            clear hE
            go_wp2_with fail
            go_ret
            exact ⟨rfl, HBW.out.trans (Below.mono HL9.out HBW.out.size)⟩
        · subst hv; subst he
          cases pb <;> cases hs' : decide (day < one.s)
          all_goals
            go_wp2_with (at_builtin; refine append_own_old HSING HRD HO1 cp 22 _ 40 Try.underlying22 rate_info rfl (by decide) hz7 hz8 rfl _ _ rfl rfl rfl ?_; intro v7 w7 HO7)
            obtain ⟨A7, c7, hv7, hr7⟩ := rates_more (q := (⟨f, t, one.n, one.d, day⟩ : Rate)) HO7 h99 HR.out.1.2 HQW.out
            subst hv7
            have HL7 := Lib.hid (HALL6.out.step HO7.out.2.1)
            have HLB7 := Lib.hid (show Lat (w6.alloc (.cells #[.int .i64 f, .int .i64 t, .int .i64 one.n, .int .i64 one.d, .int .i64 day] 36)) w7 from HO7.out.2.1)
            have hc7 := conv_at A7 (1 + rs.length) c7 ((⟨f, t, one.n, one.d, day⟩ : Rate) :: rs) s f t day w7 hr7 (by simp; omega)
            rw [HV3.out, HE3.out] at hc7
            have HC7 := Lib.hid hc7
            clear hr7 hc7 HO7
            refine HC7.out.mono ?_
            rintro e w8 ⟨rfl, hb⟩
            have HL8 := Lib.hid (HL7.out.step hb)
            obtain ⟨x1, x2, x3, x4, x5⟩ := box_lat (HLB7.out.step hb) HBOX.out
            simp only at x1 x2 x3 x4 x5
            clear hb HC7
            go_wp2_with fail
            have hc8 := conv_at (some ⟨w8.heap.size, 0, none⟩) 1 1 [(⟨f, t, one.n, one.d, day⟩ : Rate)] s f t day _ (row_single (w := w8) HQW.out) rfl
            rw [HV4.out, HE4.out] at hc8
            have HC8 := Lib.hid hc8
            clear hc8
            refine HC8.out.mono ?_
            rintro e w9 ⟨rfl, hb⟩
            have HL9 := Lib.hid ((HL8.out.step ((Below.refl _ _).alloc (Nat.le_refl _) _)).step hb)
            clear hb HC8
            by_cases hE : e1 = 1
            · obtain ⟨g1, g2⟩ := HOA.out hE
              subst g1; subst g2; subst hE
              go_wp2_with fail
              go_ret
              exact ⟨rfl, HBW.out.trans (Below.mono HL9.out HBW.out.size)⟩
            · obtain ⟨g1, g2⟩ := HOW.out hE
              subst g1; subst g2
              have hE' : (e1 == 1) = false := by simpa using hE
              clear hE
              go_wp2_with fail
              go_ret
              exact ⟨rfl, HBW.out.trans (Below.mono HL9.out HBW.out.size)⟩
  · unfold rOk at hd
    have h5 : 99 < rs.length ∨ (rs.length ≤ 99 ∧ one.n < 1) ∨ (rs.length ≤ 99 ∧ 1 ≤ one.n ∧ 1073741824 < one.n) ∨ (rs.length ≤ 99 ∧ 1 ≤ one.n ∧ one.n ≤ 1073741824 ∧ one.d < 1) ∨ (rs.length ≤ 99 ∧ 1 ≤ one.n ∧ one.n ≤ 1073741824 ∧ 1 ≤ one.d ∧ 1073741824 < one.d) := by omega
    clear hd
    rcases h5 with h | ⟨h, h1⟩ | ⟨h, h1, h2⟩ | ⟨h, h1, h2, h3⟩ | ⟨h, h1, h2, h3, h4⟩
    all_goals
      go_enter Try.func7, Try.ntmps7
      go_wp2_with fail
      rw [← HW.out]
      refine (sane_from W _ HL).mono ?_
      rintro e w1 ⟨rfl, L1⟩
      obtain ⟨c1, c2, c3, c4, c5⟩ := box_lat L1 HRB.out
      have HL1 := Lib.hid L1
      clear L1
      go_wp2_with fail
      go_ret
      exact ⟨rfl, HBW.out.trans (Below.mono HL1.out HBW.out.size)⟩

end Go.Proofs.Ytphbgobdkmjijaa
