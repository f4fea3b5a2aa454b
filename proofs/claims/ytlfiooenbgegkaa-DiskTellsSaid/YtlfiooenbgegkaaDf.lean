/- Read, walked. -/
import Derived.Test.YtlfiooenbgegkaaDe
namespace Go.Proofs.Ytlfiooenbgegkaa
open Go.RowKit Go.Shelf Ds
set_option linter.unusedSimpArgs false
set_option linter.unusedVariables false
attribute [local go_sem] Oper.semAt_some

theorem blk_own {β : Type} (B g : Nat) (cs : Array Value) (t : TypeId) (fr : Nat × Nat) : OwnFrom B (fun (_ : β) W => W.heap[g]? = some (.cells cs t fr)) :=
  fun s W W' row h hg hr => (grownBy_keeps_cells hg (fun r e => (hr r e).2) h rfl).trans h
/-- what the last write at a sector is: the first of those that come from behind -/
theorem lastAt_find (k : Int) (s : ByteArray) (p : List Wr) : lastAt k s p = ((p.reverse.find? fun w => decide (w.at_ = k)).map (·.text)).getD s := by
  have key : ∀ r : List Wr, lastAt k s r.reverse = ((r.find? fun w => decide (w.at_ = k)).map (·.text)).getD s := by
    intro r
    induction r with
    | nil => rfl
    | cons x r ih =>
      rw [List.reverse_cons, lastAt_snoc, ih, List.find?_cons]
      by_cases h : x.at_ = k
      · simp [h]
      · simp [h]
  have := key p.reverse
  rwa [List.reverse_reverse] at this
theorem lastAt_none {k : Int} {s : ByteArray} {p : List Wr} {l : List (Nat × Wr)} (hl : l.map (·.2) = p.reverse) (h : ∀ x ∈ l, x.2.at_ ≠ k) : lastAt k s p = s := by
  rw [lastAt_find, ← hl]
  have : (l.map (·.2)).find? (fun w => decide (w.at_ = k)) = none := by
    rw [List.find?_eq_none]
    intro x hx
    obtain ⟨y, hy, rfl⟩ := List.mem_map.1 hx
    simpa using h y hy
  rw [this]; rfl
theorem lastAt_some {k : Int} {s : ByteArray} {p : List Wr} {ini : List (Nat × Wr)} {x : Nat × Wr} (hl : (ini ++ [x]).map (·.2) <+: p.reverse) (h : ∀ y ∈ ini, y.2.at_ ≠ k) (hx : x.2.at_ = k) : lastAt k s p = x.2.text := by
  obtain ⟨r, hr⟩ := hl
  rw [lastAt_find, ← hr]
  have : ((ini ++ [x]).map (·.2) ++ r).find? (fun w => decide (w.at_ = k)) = some x.2 := by
    rw [List.map_append, List.append_assoc, List.find?_append]
    have e : (ini.map (·.2)).find? (fun w => decide (w.at_ = k)) = none := by
      rw [List.find?_eq_none]
      intro y hy
      obtain ⟨z, hz, rfl⟩ := List.mem_map.1 hy
      simpa using h z hz
    rw [e]
    simp [hx]
  rw [this]; rfl

set_option maxRecDepth 100000 in
set_option maxHeartbeats 4000000 in
theorem read_core (A : Option Addr) (c : Nat) (A' : Option Addr) (c' : Nat) (d : Dk) (k : Nat) (w : World) (h : DiskAt w w.heap.size A c A' c' d) (hu : upE d = 0) (h1 : k < d.secs.length) :
    Calls Try.prog 15 #[dv A c A' c' d, .int .i64 (k : Nat)] w fun e w' => e = .returned (.tuple #[.string (lastAt k (d.secs.getD k ByteArray.empty) d.pend), .int .i64 0]) ∧ Below w.heap.size w w' := by
  have HU := Lib.hid (fun wx (hx : Below w.heap.size w wx) => by have := up_any A c A' c' d wx (h.step hx); rw [hu] at this; exact this)
  have HD := Lib.hid h
  have hl2 := (right_head (upE_zero.1 hu).1).2.2.1
  have hl1 := (right_head (upE_zero.1 hu).1).2.1
  have hro : Fence.wide.round = none := rfl
  clear h hu
  unfold dv dcells at *
  refine (callsIn_wide (n := 4)).1 ?_
  refine callsIn_of_wp_marks Try.func15 rfl trivial ?_ hro
  simp only [Try.ntmps15, List.size_toArray, List.length_cons, List.length_nil, Nat.reduceAdd, Nat.reduceSub, Array.replicate_succ, Array.replicate_zero, List.push_toArray, List.append_toArray, List.nil_append, List.cons_append]
  obtain ⟨W0, hW0⟩ : ∃ W0, W0 = (((w.alloc (.cells #[.slice A d.secs.length c, .slice A' d.pend.length c', .int .i64 d.left, .bool d.down] 25)).alloc (.cells #[.int .i64 k] 3)).alloc (.cells #[.string ⟨#[]⟩] 9)).alloc (.cells #[.int .i64 0] 28) := ⟨_, rfl⟩
  have hs0 : W0.heap.size = w.heap.size + 1 + 1 + 1 + 1 := by rw [hW0]; simp
  have hb0 : Below w.heap.size w W0 := by rw [hW0]; exact ((((Below.refl _ _).alloc (Nat.le_refl _) _).alloc (by simp) _).alloc (by simp <;> omega) _).alloc (by simp <;> omega) _
  have K1 : W0.heap[w.heap.size]? = some (.cells #[.slice A d.secs.length c, .slice A' d.pend.length c', .int .i64 d.left, .bool d.down] 25 (0, 0)) := by rw [hW0]; exact blk_old (blk_old (blk_old (blk_new _ _)))
  have K2 : W0.heap[w.heap.size + 1]? = some (.cells #[.int .i64 k] 3 (0, 0)) := by rw [hW0]; have := blk_new (w.alloc (.cells #[.slice A d.secs.length c, .slice A' d.pend.length c', .int .i64 d.left, .bool d.down] 25)) (.cells #[.int .i64 k] 3); rw [World.size_alloc] at this; exact blk_old (blk_old this)
  have K3 : W0.heap[w.heap.size + 1 + 1]? = some (.cells #[.string ⟨#[]⟩] 9 (0, 0)) := by rw [hW0]; have := blk_new ((w.alloc (.cells #[.slice A d.secs.length c, .slice A' d.pend.length c', .int .i64 d.left, .bool d.down] 25)).alloc (.cells #[.int .i64 k] 3)) (.cells #[.string ⟨#[]⟩] 9); rw [World.size_alloc, World.size_alloc] at this; exact blk_old this
  have K4 : W0.heap[w.heap.size + 1 + 1 + 1]? = some (.cells #[.int .i64 0] 28 (0, 0)) := by rw [hW0]; have := blk_new (((w.alloc (.cells #[.slice A d.secs.length c, .slice A' d.pend.length c', .int .i64 d.left, .bool d.down] 25)).alloc (.cells #[.int .i64 k] 3)).alloc (.cells #[.string ⟨#[]⟩] 9)) (.cells #[.int .i64 0] 28); rw [World.size_alloc, World.size_alloc, World.size_alloc] at this; exact this
  have HW := Lib.hid hW0
  have HS := Lib.hid hs0
  have HB0 := Lib.hid hb0
  have HK1 := Lib.hid K1
  have HK2 := Lib.hid K2
  have HK3 := Lib.hid K3
  have HK4 := Lib.hid K4
  clear hW0 hs0 hb0 K1 K2 K3 K4
  gi_wp2_with fail
  rw [← HW.out]
  refine ⟨trivial, callsIn_wide.2 ((HU.out _ HB0.out).mono ?_)⟩
  rintro e w1 ⟨rfl, b1⟩
  have HB1 := Lib.hid (HB0.out.trans (b1.mono HB0.out.size))
  have L1 := Lib.hid (blk_call HK1.out b1)
  have L2 := Lib.hid (blk_call HK2.out b1)
  have L3 := Lib.hid (blk_call HK3.out b1)
  have L4 := Lib.hid (blk_call HK4.out b1)
  have HL1 := Lib.hid (show w.heap.size + 1 + 1 + 1 < w1.heap.size by have := b1.size; rw [HS.out] at this; omega)
  clear b1
  obtain ⟨⟨a0, a1, a2, a3⟩, f0, f1, f2, f3⟩ := blk4 L1.out
  obtain ⟨a4, f4⟩ := blk1 L2.out
  obtain ⟨a5, f5⟩ := blk1 L3.out
  obtain ⟨a6, f6⟩ := blk1 L4.out
  gi_wp2_with fail
  refine ⟨trivial, (back_in Fence.wide 3 trivial hro A' d.pend.length c' w1).mono ?_⟩
  obtain ⟨W2, hW2⟩ : ∃ W2, W2 = w1.alloc (.cells #[.slice A' d.pend.length c'] 23) := ⟨_, rfl⟩
  have hs2 : W2.heap.size = w1.heap.size + 1 := by rw [hW2]; simp
  have K5 : W2.heap[w1.heap.size]? = some (.cells #[.slice A' d.pend.length c'] 23 (0, 0)) := by rw [hW2]; exact blk_new _ _
  have hb2 : Below w1.heap.size w1 W2 := by rw [hW2]; exact (Below.refl _ _).alloc (Nat.le_refl _) _
  rintro e w2 ⟨rfl, hw2⟩
  rw [← hW2] at hw2
  subst hw2
  have HS2 := Lib.hid hs2
  have HB2 := Lib.hid (HB1.out.trans (hb2.mono HB1.out.size))
  have M1 := Lib.hid (blk_call L1.out hb2)
  have M2 := Lib.hid (blk_call L2.out hb2)
  have M3 := Lib.hid (blk_call L3.out hb2)
  have M4 := Lib.hid (blk_call L4.out hb2)
  have M5 := Lib.hid K5
  have HP := Lib.hid ((HD.out.step HB2.out).pend)
  have HSec := Lib.hid ((HD.out.step HB2.out).secs)
  clear hW2 hs2 K5 hb2 a0 a1 a2 a3 f0 f1 f2 f3 a4 f4 a5 f5 a6 f6
  gi_wp2_with fail
  refine wpIn_rangeFunc_ownH hro (by omega) (gf := 46) (lb := #[.pointer (some ⟨w1.heap.size, 0, none⟩)]) rfl trivial (enters_of Try.func46 (by kernel_rfl) rfl)
    (back_stops Fence.wide (4 - 1) trivial hro (by omega) w1.heap.size w2.heap.size c' A' d.pend hl2 w2 (by rw [HS2.out]; omega) (Nat.le_refl _) (blk_cell M5.out rfl) HP.out) belowK_t (belowK_b (Nat.le_refl _)) (Below.refl _ _) (fun _ => rfl)
    (fun pre W => (∀ x ∈ pre, x.2.at_ ≠ (k : Int)) ∧ Below w2.heap.size w2 W)
    (fun c pre W => (c = .ret ∧ ∃ (ini : List (Nat × Wr)) (x : Nat × Wr), pre = ini ++ [x] ∧ (∀ y ∈ ini, y.2.at_ ≠ (k : Int)) ∧ x.2.at_ = (k : Int) ∧ W.heap[w.heap.size + 1 + 1]? = some (.cells #[.string x.2.text] 9 (0, 0)) ∧ W.heap[w.heap.size + 1 + 1 + 1]? = some (.cells #[.int .i64 0] 28 (0, 0))) ∧ Below w.heap.size w W)
    (OwnFrom.and (ownFrom_pure _ _) (ownFrom_below (Nat.le_refl _) (Nat.le_refl _)))
    (fun c => OwnFrom.and (fun s W W' row ⟨hc, ini, x, e1, e2, e3, e4, e5⟩ hg hr => ⟨hc, ini, x, e1, e2, e3, blk_own (β := Unit) w2.heap.size _ _ _ _ () W W' row e4 hg hr, blk_own (β := Unit) w2.heap.size _ _ _ _ () W W' row e5 hg hr⟩) (ownFrom_below (Nat.le_refl _) HB2.out.size))
    ⟨by simp, Below.refl _ _⟩
    (fun x a' W => ∃ Bx, w2.heap.size ≤ Bx ∧ W.heap[Bx]? = some (.cells #[.int .i64 x.2.at_, .string x.2.text] 44 (0, 0)) ∧ a' = { tmps := #[.agg #[.slice A d.secs.length c, .slice A' d.pend.length c', .int .i64 d.left, .bool d.down], .int .i64 k, .pointer (some ⟨w.heap.size, 0, none⟩), .pointer (some ⟨w.heap.size + 1, 0, none⟩), .pointer (some ⟨w.heap.size + 1 + 1, 0, none⟩), .pointer (some ⟨w.heap.size + 1 + 1 + 1, 0, none⟩), .int .i64 0, undef, .pointer (some ⟨Bx, 0, none⟩),
      .agg #[.slice A d.secs.length c, .slice A' d.pend.length c', .int .i64 d.left, .bool d.down], .int .i64 0, .int .i64 0, .bool false, undef, .int .i64 k, .bool (decide ((k : Int) < 0)), .bool (decide ((k : Int) < 0)), .int .i64 k, .pointer (some ⟨w.heap.size, 0, none⟩), .slice A d.secs.length c, .int .i64 d.secs.length, .bool false, .bool (decide ((k : Int) < 0)),
      .pointer (some ⟨w.heap.size, 1, none⟩), .slice A' d.pend.length c', .func (.func 46) #[] #[.pointer (some ⟨w1.heap.size, 0, none⟩)], .int .i64 (x.1 : Int), .agg #[.int .i64 x.2.at_, .string x.2.text], undef, undef, undef, undef, undef, undef, undef, undef, undef, undef, undef], defers := [] })
    (fun x a' s W W' row ⟨Bx, e1, e2, e3⟩ hg hr => ⟨Bx, e1, blk_own (β := Unit) w2.heap.size _ _ _ _ () W W' row e2 hg hr, e3⟩) ?assign ?body ?done ?stop
  case assign =>
    rintro l pre x W K ⟨hi1, hi2⟩ hK
    gi_wp2
    exact hK _ _ ((KeepsOthers.alloc _ _).from _) ((Below.refl _ W).alloc hi2.size _) ⟨hi1, hi2.alloc hi2.size _⟩ ⟨W.heap.size, hi2.size, blk_new _ _, rfl⟩
  case body =>
    rintro l pre x a' W hl _ ⟨hi1, hi2⟩ ⟨Bx, hx1, hx2, rfl⟩ hlt
    have N2 := Lib.hid (blk_call M2.out hi2)
    have N3 := Lib.hid (blk_call M3.out hi2)
    have N4 := Lib.hid (blk_call M4.out hi2)
    obtain ⟨a4, f4⟩ := blk1 N2.out
    obtain ⟨a5, f5⟩ := blk1 N3.out
    obtain ⟨a6, f6⟩ := blk1 N4.out
    obtain ⟨⟨a7, a8⟩, f7, f8⟩ := blk2 hx2
    have HI := Lib.hid hi1
    have HB3 := Lib.hid hi2
    clear hi1 hx2
    by_cases he : x.2.at_ = (k : Int)
    · have t1 : (x.2.at_ == (k : Int)) = true := by simpa using he
      have HE := Lib.hid he
      clear he
      gi_wp2
      exact ⟨((KeepsOthers.setCell _ _ _).trans (KeepsOthers.setCell _ _ _)).from _, ⟨rfl, pre, x, rfl, HI.out, HE.out, blk_other (blk_set N3.out) (by simp only; omega), blk_set (blk_other N4.out (by simp only; omega))⟩,
        ((HB2.out.trans (HB3.out.mono HB2.out.size)).setCell (by simp only; omega) _).setCell (by simp only; omega) _⟩
    · have t1 : (x.2.at_ == (k : Int)) = false := by simpa using he
      have HE := Lib.hid he
      clear he
      gi_wp2
      exact ⟨KeepsFrom.refl _ _, Below.refl _ _, fun y hy => (List.mem_append.1 hy).elim (HI.out y) (fun e => by simp at e; subst e; exact HE.out), HB3.out⟩
  case done =>
    rintro D ys W hD rfl ⟨hi1, hi2⟩ hK
    have N1 := Lib.hid (blk_call M1.out hi2)
    have N2 := Lib.hid (blk_call M2.out hi2)
    have N3 := Lib.hid (blk_call M3.out hi2)
    have N4 := Lib.hid (blk_call M4.out hi2)
    obtain ⟨⟨b0, b1, b2, b3⟩, g0, g1, g2, g3⟩ := blk4 N1.out
    obtain ⟨a4, f4⟩ := blk1 N2.out
    obtain ⟨a5, f5⟩ := blk1 N3.out
    obtain ⟨a6, f6⟩ := blk1 N4.out
    obtain ⟨s, hs⟩ : ∃ s, d.secs[k]? = some s := ⟨_, List.getElem?_eq_getElem h1⟩
    obtain ⟨b, off, rfl, hb, hcell⟩ := HSec.out.open_ (by omega)
    have c1 := (hi2.cell (p := ⟨b, off + k, none⟩) hb).trans (secs_at hcell hs)
    have hres : lastAt k (d.secs.getD k ByteArray.empty) d.pend = s := by
      rw [lastAt_none (backs_snd d.pend (Nat.le_refl _) |>.trans (by rw [← List.length_reverse, List.take_length])) hi1]
      simp [List.getD, hs]
    have HR := Lib.hid hres
    have HB3 := Lib.hid (HB2.out.trans (hi2.mono HB2.out.size))
    have HK := Lib.hid hK
    clear hres hcell hs hi1 hi2 hK
    gi_wp2
    have hK' := ((KeepsOthers.setCell W ⟨w.heap.size + 1 + 1, 0, none⟩ (.string s)).trans (KeepsOthers.setCell _ ⟨w.heap.size + 1 + 1 + 1, 0, none⟩ (.int .i64 0))).same D _ HK.out rfl
    refine ⟨by simp, .inl ⟨_, _, rfl, run_takeDeferred hK', ?_⟩⟩
    have q1 := cell_kept (blk_cell (blk_other (p := ⟨w.heap.size + 1 + 1 + 1, 0, none⟩) (u := .int .i64 0) (blk_set (j := 0) (u := .string s) N3.out) (by simp only; omega)) (j := 0) rfl) (grownBy_putObj' _ D (.deferred none)) (fun r e => by cases e; exact ⟨_, hK', rfl⟩)
    have q2 := cell_kept (blk_cell (blk_set (j := 0) (u := .int .i64 0) (blk_other (p := ⟨w.heap.size + 1 + 1, 0, none⟩) (u := .string s) N4.out (by simp only; omega))) (j := 0) rfl) (grownBy_putObj' _ D (.deferred none)) (fun r e => by cases e; exact ⟨_, hK', rfl⟩)
    have hwd : w.heap.size ≤ D := Nat.le_trans HB2.out.size hD
    refine ⟨.tuple #[.string s, .int .i64 0], by simp [results, Try.f15, go_sem, q1, q2], by rw [HR.out], ((HB3.out.setCell (by simp only; omega) _).setCell (by simp only; omega) _).trans (belowK_b (w := w) (Nat.le_refl _) _ D _ _ hwd hK' rfl rfl)⟩
  case stop =>
    rintro D cc pre W hD ⟨j, hj, rfl⟩ ⟨⟨rfl, ini, x, e1, e2, e3, e4, e5⟩, hB⟩ hK
    have hres : lastAt k (d.secs.getD k ByteArray.empty) d.pend = x.2.text := by
      refine lastAt_some (ini := ini) ?_ e2 e3
      rw [← e1, backs_snd d.pend hj]
      exact List.take_prefix _ _
    have HR := Lib.hid hres
    clear hres
    gi_wp2
    refine ⟨by simp, .inl ⟨_, _, rfl, run_takeDeferred hK, ?_⟩⟩
    have q1 := cell_kept (blk_cell e4 (j := 0) rfl) (grownBy_putObj' _ D (.deferred none)) (fun r e => by cases e; exact ⟨_, hK, rfl⟩)
    have q2 := cell_kept (blk_cell e5 (j := 0) rfl) (grownBy_putObj' _ D (.deferred none)) (fun r e => by cases e; exact ⟨_, hK, rfl⟩)
    have hwd : w.heap.size ≤ D := Nat.le_trans HB2.out.size hD
    refine ⟨.tuple #[.string x.2.text, .int .i64 0], by simp [results, Try.f15, go_sem, q1, q2], by rw [HR.out], hB.trans (belowK_b (w := w) (Nat.le_refl _) _ D _ _ hwd hK rfl rfl)⟩

theorem read_bad (A : Option Addr) (n c : Nat) (A' : Option Addr) (n' c' : Nat) (left : Int) (down : Bool) (k er : Int) (w : World)
    (HU : Hid (∀ wx, Below w.heap.size w wx → Calls Try.prog 34 #[.agg #[.slice A n c, .slice A' n' c', .int .i64 left, .bool down]] wx fun e w' => e = .returned (.int .i64 er) ∧ Below wx.heap.size wx w'))
    (h : er ≠ 0) :
    Calls Try.prog 15 #[.agg #[.slice A n c, .slice A' n' c', .int .i64 left, .bool down], .int .i64 k] w fun e w' => e = .returned (.tuple #[.string ⟨#[]⟩, .int .i64 er]) ∧ Below w.heap.size w w' := by
  have t1 : (er != 0) = true := by simpa using h
  clear h
  go_enter Try.func15, Try.ntmps15
  go_wp2_with fail
  refine (HU.out _ (by repeat first | with_reducible exact Below.refl _ _ | refine Below.alloc ?_ (by simp <;> omega) _)).mono ?_
  rintro e w1 ⟨rfl, b1⟩
  obtain ⟨⟨k1, k2, k3, k4⟩, hb, hz⟩ := boxes4 b1 (by simp)
  obtain ⟨a0, f0⟩ := blk1 k3
  obtain ⟨a1, f1⟩ := blk1 k4
  have HB := Lib.hid hb
  clear k1 k2 k3 k4 b1 hb
  go_wp2_with fail
  refine bodyPost_ret (v := .tuple #[.string ⟨#[]⟩, .int .i64 er]) (by simp [results, Try.results15, go_sem, *]) rfl ⟨rfl, ?_⟩
  repeat first | with_reducible exact HB.out | refine Below.setCell ?_ (by simp only; omega) _

theorem read_out (A : Option Addr) (n c : Nat) (A' : Option Addr) (n' c' : Nat) (left : Int) (down : Bool) (k : Int) (w : World)
    (HU : Hid (∀ wx, Below w.heap.size w wx → Calls Try.prog 34 #[.agg #[.slice A n c, .slice A' n' c', .int .i64 left, .bool down]] wx fun e w' => e = .returned (.int .i64 0) ∧ Below wx.heap.size wx w'))
    (h : k < 0 ∨ (0 ≤ k ∧ (n : Int) ≤ k)) :
    Calls Try.prog 15 #[.agg #[.slice A n c, .slice A' n' c', .int .i64 left, .bool down], .int .i64 k] w fun e w' => e = .returned (.tuple #[.string ⟨#[]⟩, .int .i64 1]) ∧ Below w.heap.size w w' := by
  rcases h with h | ⟨h, h2⟩
  all_goals
    go_enter Try.func15, Try.ntmps15
    go_wp2_with fail
    refine (HU.out _ (by repeat first | with_reducible exact Below.refl _ _ | refine Below.alloc ?_ (by simp <;> omega) _)).mono ?_
    rintro e w1 ⟨rfl, b1⟩
    obtain ⟨⟨k1, k2, k3, k4⟩, hb, hz⟩ := boxes4 b1 (by simp)
    obtain ⟨a0, f0⟩ := blk1 k3
    obtain ⟨a1, f1⟩ := blk1 k4
    obtain ⟨a2, f2⟩ := blk1 k2
    obtain ⟨⟨a3, a4, a5, a6⟩, f3⟩ := blk4 k1
    have HB := Lib.hid hb
    clear k1 k2 k3 k4 b1 hb f3
    go_wp2_with fail
    refine bodyPost_ret (v := .tuple #[.string ⟨#[]⟩, .int .i64 1]) (by simp [results, Try.results15, go_sem, *]) rfl ⟨rfl, ?_⟩
    repeat first | with_reducible exact HB.out | refine Below.setCell ?_ (by simp only; omega) _

theorem read_any (A : Option Addr) (c : Nat) (A' : Option Addr) (c' : Nat) (d : Dk) (k : Int) (w : World) (h : DiskAt w w.heap.size A c A' c' d) :
    Calls Try.prog 15 #[dv A c A' c' d, .int .i64 k] w fun e w' => e = .returned (.tuple #[.string (readV d k), .int .i64 (readE d k)]) ∧ Below w.heap.size w w' := by
  have HU := Lib.hid (fun wx (hx : Below w.heap.size w wx) => up_any A c A' c' d wx (h.step hx))
  by_cases hu : upE d = 0
  · cases hin : inB d k with
    | true =>
      have e1 : readE d k = 0 := by unfold readE; rw [if_pos hu, if_pos hin]
      have e2 : readV d k = lastAt k (d.secs.getD k.toNat ByteArray.empty) d.pend := by unfold readV; rw [if_pos e1]
      rw [e1, e2]
      simp only [inB, Bool.and_eq_true, decide_eq_true_eq] at hin
      obtain ⟨j, rfl⟩ : ∃ j : Nat, k = j := ⟨k.toNat, by omega⟩
      exact read_core A c A' c' d j w h hu (by omega)
    | false =>
      have e1 : readE d k = 1 := by unfold readE; rw [if_pos hu, if_neg (by simp [hin])]
      have e2 : readV d k = ByteArray.empty := by unfold readV; rw [if_neg (by rw [e1]; decide)]
      rw [e1, e2]
      rw [hu] at HU
      simp only [inB, Bool.and_eq_false_iff, decide_eq_false_iff_not] at hin
      exact read_out A _ c A' _ c' d.left d.down k w HU (by omega)
  · have e1 : readE d k = upE d := by unfold readE; rw [if_neg hu]
    have e2 : readV d k = ByteArray.empty := by unfold readV; rw [if_neg (by rw [e1]; exact hu)]
    rw [e1, e2]
    exact read_bad A _ c A' _ c' d.left d.down k _ w HU hu

end Go.Proofs.Ytlfiooenbgegkaa
