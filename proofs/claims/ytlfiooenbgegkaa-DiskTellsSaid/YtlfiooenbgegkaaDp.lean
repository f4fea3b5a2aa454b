/- The reference's Read and sectors, walked. -/
import Derived.Test.YtlfiooenbgegkaaDo
namespace Go.Proofs.Ytlfiooenbgegkaa
open Go.RowKit Ds
set_option linter.unusedSimpArgs false
set_option linter.unusedVariables false

theorem lastAt_next {k : Int} {s : ByteArray} {p : List Wr} {j : Nat} {x : Wr} (hx : p[j]? = some x) : lastAt k s (p.take (j + 1)) = if x.at_ = k then x.text else lastAt k s (p.take j) := by
  rw [List.take_add_one, hx]
  exact lastAt_snoc k s (p.take j) x

set_option maxHeartbeats 8000000 in
theorem rread_core (A : Option Addr) (c : Nat) (A' : Option Addr) (c' : Nat) (d : Dk) (k : Nat) (w : World) (h : DiskAt w w.heap.size A c A' c' d) (hu : upE d = 0) (h1 : k < d.secs.length) :
    Calls Try.prog 16 #[dv A c A' c' d, .int .i64 (k : Nat)] w fun e w' => e = .returned (.tuple #[.string (lastAt k (d.secs.getD k ByteArray.empty) d.pend), .int .i64 0]) ∧ Below w.heap.size w w' := by
  have HU := Lib.hid (fun wx (hx : Below w.heap.size w wx) => by have := rup_any A c A' c' d wx (h.step hx); rw [hu] at this; exact this)
  have hl2 := (right_head (upE_zero.1 hu).1).2.2.1
  have HD := Lib.hid h
  obtain ⟨s, hs⟩ : ∃ s, d.secs[k]? = some s := ⟨_, List.getElem?_eq_getElem h1⟩
  rw [getD_of hs]
  have HS := Lib.hid hs
  clear h hu hs
  unfold dv dcells at *
  go_enter Try.func16, Try.ntmps16
  go_wp2_with fail
  refine (HU.out _ (by repeat first | with_reducible exact Below.refl _ _ | refine Below.alloc ?_ (by simp <;> omega) _)).mono ?_
  rintro e w1 ⟨rfl, b1⟩
  obtain ⟨k1, hb, hz⟩ := boxes1 b1 (by simp)
  obtain ⟨⟨a0, a1, a2, a3⟩, f0⟩ := blk4 k1
  have HB := Lib.hid hb
  have HP := Lib.hid ((HD.out.step hb).pend)
  obtain ⟨b, off, rfl, hb0, hc0⟩ := (HD.out.step hb).secs.open_ (by omega)
  have c1 := secs_at hc0 HS.out
  clear k1 b1 hb f0 hc0
  go_wp2_with fail
  go_loop [7, 8] (fun v i => ∃ (j : Nat) (t : ByteArray), i = .int .i64 j ∧ v = .string t ∧ j ≤ d.pend.length ∧ Hid (t = lastAt k s (d.pend.take j))) (fun _ i => d.pend.length - (intOf i).toNat)
  case atStart => exact ⟨0, s, rfl, rfl, by omega, Lib.hid rfl⟩
  case round =>
    obtain ⟨j, t, rfl, rfl, hj, HT⟩ := hrel
    by_cases hlt : j < d.pend.length
    · obtain ⟨x, hx⟩ : ∃ x, d.pend[j]? = some x := ⟨_, List.getElem?_eq_getElem hlt⟩
      obtain ⟨b', off', rfl, hb', hc'⟩ := HP.out.open_ (by omega)
      obtain ⟨p1, p2⟩ := pend_at hc' hx
      have hn := lastAt_next (k := (k : Int)) (s := s) hx
      have HX := Lib.hid hn
      clear hc' hx hn
      by_cases he : x.at_ = (k : Int)
      · have t1 : (x.at_ == (k : Int)) = true := by simpa using he
        have HE := Lib.hid he
        clear he
        go_wp2_with fail
        go_round
        case rel => exact ⟨j + 1, x.text, by go_num, rfl, by omega, Lib.hid (by rw [HX.out, if_pos HE.out])⟩
        case measure => simp [intOf]; omega
      · have t1 : (x.at_ == (k : Int)) = false := by simpa using he
        have HE := Lib.hid he
        clear he
        go_wp2_with fail
        go_round
        case rel => exact ⟨j + 1, t, by go_num, rfl, by omega, Lib.hid (by rw [HX.out, if_neg HE.out]; exact HT.out)⟩
        case measure => simp [intOf]; omega
    · obtain rfl : j = d.pend.length := by omega
      have hv := HT.out
      rw [List.take_length] at hv
      have HV := Lib.hid hv
      clear hv
      go_wp2_with fail
      go_ret2
      exact ⟨by rw [← HV.out]; rfl, HB.out⟩

theorem rread_bad (A : Option Addr) (n c : Nat) (A' : Option Addr) (n' c' : Nat) (left : Int) (down : Bool) (k er : Int) (w : World) (HU : Hid (RUp A n c A' n' c' left down er w)) (h : er ≠ 0) :
    Calls Try.prog 16 #[.agg #[.slice A n c, .slice A' n' c', .int .i64 left, .bool down], .int .i64 k] w fun e w' => e = .returned (.tuple #[.string ⟨#[]⟩, .int .i64 er]) ∧ Below w.heap.size w w' := by
  have t1 : (er != 0) = true := by simpa using h
  clear h
  go_enter Try.func16, Try.ntmps16
  go_wp2_with fail
  refine (HU.out _ (by repeat first | with_reducible exact Below.refl _ _ | refine Below.alloc ?_ (by simp <;> omega) _)).mono ?_
  rintro e w1 ⟨rfl, b1⟩
  obtain ⟨k1, hb, hz⟩ := boxes1 b1 (by simp)
  have HB := Lib.hid hb
  clear k1 b1 hb
  go_wp2_with fail
  go_ret2
  exact ⟨rfl, HB.out⟩
theorem rread_out (A : Option Addr) (n c : Nat) (A' : Option Addr) (n' c' : Nat) (left : Int) (down : Bool) (k : Int) (w : World) (HU : Hid (RUp A n c A' n' c' left down 0 w)) (h : k < 0 ∨ (0 ≤ k ∧ (n : Int) ≤ k)) :
    Calls Try.prog 16 #[.agg #[.slice A n c, .slice A' n' c', .int .i64 left, .bool down], .int .i64 k] w fun e w' => e = .returned (.tuple #[.string ⟨#[]⟩, .int .i64 1]) ∧ Below w.heap.size w w' := by
  rcases h with h | ⟨h, h2⟩
  all_goals
    go_enter Try.func16, Try.ntmps16
    go_wp2_with fail
    refine (HU.out _ (by repeat first | with_reducible exact Below.refl _ _ | refine Below.alloc ?_ (by simp <;> omega) _)).mono ?_
    rintro e w1 ⟨rfl, b1⟩
    obtain ⟨k1, hb, hz⟩ := boxes1 b1 (by simp)
    obtain ⟨⟨a0, a1, a2, a3⟩, f0⟩ := blk4 k1
    have HB := Lib.hid hb
    clear k1 b1 hb f0
    go_wp2_with fail
    go_ret2
    exact ⟨rfl, HB.out⟩
theorem rread_any (A : Option Addr) (c : Nat) (A' : Option Addr) (c' : Nat) (d : Dk) (k : Int) (w : World) (h : DiskAt w w.heap.size A c A' c' d) :
    Calls Try.prog 16 #[dv A c A' c' d, .int .i64 k] w fun e w' => e = .returned (.tuple #[.string (readV d k), .int .i64 (readE d k)]) ∧ Below w.heap.size w w' := by
  have HU := Lib.hid (fun wx (hx : Below w.heap.size w wx) => rup_any A c A' c' d wx (h.step hx))
  by_cases hu : upE d = 0
  · cases hin : inB d k with
    | true =>
      have e1 : readE d k = 0 := by unfold readE; rw [if_pos hu, if_pos hin]
      have e2 : readV d k = lastAt k (d.secs.getD k.toNat ByteArray.empty) d.pend := by unfold readV; rw [if_pos e1]
      rw [e1, e2]
      simp only [inB, Bool.and_eq_true, decide_eq_true_eq] at hin
      obtain ⟨j, rfl⟩ : ∃ j : Nat, k = j := ⟨k.toNat, by omega⟩
      exact rread_core A c A' c' d j w h hu (by omega)
    | false =>
      have e1 : readE d k = 1 := by unfold readE; rw [if_pos hu, if_neg (by simp [hin])]
      have e2 : readV d k = ByteArray.empty := by unfold readV; rw [if_neg (by rw [e1]; decide)]
      rw [e1, e2]
      rw [hu] at HU
      simp only [inB, Bool.and_eq_false_iff, decide_eq_false_iff_not] at hin
      exact rread_out A _ c A' _ c' d.left d.down k w HU (by omega)
  · have e1 : readE d k = upE d := by unfold readE; rw [if_neg hu]
    have e2 : readV d k = ByteArray.empty := by unfold readV; rw [if_neg (by rw [e1]; exact hu)]
    rw [e1, e2]
    exact rread_bad A _ c A' _ c' d.left d.down k _ w HU hu

theorem owns_at {w wr : World} {g n c : Nat} {l : List ByteArray} (h : OwnS w wr (.slice (some ⟨g, 0, none⟩) n c) l) {i : Nat} (hi : i < l.length) : (∃ s, wr.cell? ⟨g, i, none⟩ = some (.string s)) ∧ wr.frozen? ⟨g, i, none⟩ = false := by
  have hn : l.length = n := by
    rcases h.1.2 with ⟨e, _⟩ | ⟨g', cap, cur, e, _⟩
    · cases e
    · injection e with _ e _; exact e.symm
  unfold OwnS at h
  rw [hn] at h
  refine ⟨⟨l[i], ?_⟩, h.1.frozenAt i⟩
  rw [h.1.cellAt i (by omega), List.getElem?_map, List.getElem?_eq_getElem hi]; rfl
theorem owns_put {w wr : World} {g n c : Nat} {l : List ByteArray} (h : OwnS w wr (.slice (some ⟨g, 0, none⟩) n c) l) (i : Nat) (s : ByteArray) : OwnS w (wr.setCell ⟨g, i, none⟩ (.string s)) (.slice (some ⟨g, 0, none⟩) n c) (l.set i s) := by
  have hn : l.length = n := by
    rcases h.1.2 with ⟨e, _⟩ | ⟨g', cap, cur, e, _⟩
    · cases e
    · injection e with _ e _; exact e.symm
  have hg : w.heap.size ≤ g := own_ge' h.1 rfl
  unfold OwnS at *
  rw [List.length_set, List.map_set]
  rw [hn] at h ⊢
  exact ⟨(h.1.stored i _).1, h.2.1.setCell hg _, by simp; exact h.2.2⟩
theorem OwnS.drew {w wr : World} {v : Value} {l : List ByteArray} (h : OwnS w wr v l) : OwnS w wr.drew v l := Own.below h ((Below.refl _ _).drew)
theorem puts_next {l : List ByteArray} {p : List Wr} {j q : Nat} {x : Wr} (hx : p[j]? = some x) (hq : x.at_ = q) : puts l (p.take (j + 1)) = (puts l (p.take j)).set q x.text := by
  rw [List.take_add_one, hx]
  show puts l (p.take j ++ [x]) = _
  rw [puts_snoc]; unfold Ds.put; rw [hq]; rfl
set_option maxHeartbeats 8000000 in
theorem rsectors_any (A : Option Addr) (c : Nat) (A' : Option Addr) (c' : Nat) (d : Dk) (n : Nat) (w : World) (h : DiskAt w w.heap.size A c A' c' d) (hr : rightB d = true) (hn : n ≤ d.pend.length) :
    Calls Try.prog 39 #[dv A c A' c' d, .int .i64 n] w fun e w' => ∃ g c2, e = .returned (.slice (some ⟨g, 0, none⟩) d.secs.length c2) ∧ OwnS w w' (.slice (some ⟨g, 0, none⟩) d.secs.length c2) (puts d.secs (d.pend.take n)) := by
  have hs1 := (right_head hr).1
  have hl1 := (right_head hr).2.1
  have hl2 := (right_head hr).2.2.1
  have HW0 := Lib.hid (fun (x : Wr) (hx : x ∈ d.pend) => right_wr hr hx)
  have HD := Lib.hid h
  clear h hr
  have HO : Hid (OwnS w ((w.alloc (.cells (dcells A c A' c' d) 25)).alloc (.cells #[] 9)) (.slice (some ⟨w.heap.size + 1, 0, none⟩) 0 0) []) :=
    Lib.hid (own_empty (by have := blk_new (w.alloc (.cells (dcells A c A' c' d) 25)) (.cells #[] 9); rw [World.size_alloc] at this; exact this) (by omega) (((Below.refl _ _).alloc (Nat.le_refl _) _).alloc (by simp) _))
  have HK := Lib.hid (show ((w.alloc (.cells (dcells A c A' c' d) 25)).alloc (.cells #[] 9)).heap[w.heap.size]? = some (.cells (dcells A c A' c' d) 25 (0, 0)) from blk_old (blk_new _ _))
  unfold dv dcells at *
  go_enter Try.func39, Try.ntmps39
  go_wp2_with fail
  go_loopw [5, 6] (fun v i wr => ∃ k : Nat, i = .int .i64 k ∧ k ≤ d.secs.length ∧ Hid (OwnS w wr v (d.secs.take k)) ∧ Hid (wr.heap[w.heap.size]? = some (.cells #[.slice A d.secs.length c, .slice A' d.pend.length c', .int .i64 d.left, .bool d.down] 25 (0, 0)))) (fun _ i _ => d.secs.length - (intOf i).toNat)
  case atStart => exact ⟨0, rfl, by omega, HO, HK⟩
  case round =>
    obtain ⟨k, rfl, hk, HV, HK2⟩ := hrel
    obtain ⟨⟨x0, x1, x2, x3⟩, x4⟩ := blk4 HK2.out
    by_cases hlt : k < d.secs.length
    · obtain ⟨s, hs⟩ : ∃ s, d.secs[k]? = some s := ⟨_, List.getElem?_eq_getElem hlt⟩
      obtain ⟨b, off, rfl, hb, hc⟩ := HD.out.secs.open_ (by omega)
      have c1 := (HV.out.2.1.cell (p := ⟨b, off + k, none⟩) hb).trans (secs_at hc hs)
      have HST := Lib.hid (show d.secs.take (k + 1) = d.secs.take k ++ [s] by rw [List.take_add_one, hs]; rfl)
      have hll : (d.secs.take k).length ≤ 1000000 := by simp; omega
      clear hc hs
      go_upto_region 5 with fail
      go_wp2_with (at_builtin; refine append_str HV s hll rfl _ _ rfl rfl _ (Lib.hid rfl) rfl ?_; intro v' w3 HV3 HKP)
      have HK4 := Lib.hid (HKP.out _ _ HK2.out (own_ne HV.out HK2.out (by decide)))
      go_roundw
      case rel => exact ⟨k + 1, by go_num, by omega, by rw [HST.out]; exact HV3, HK4⟩
      case measure => simp [intOf]; omega
    · have hkl : k = d.secs.length := by omega
      have hv := HV.out
      rw [hkl, List.take_length] at hv
      obtain ⟨A2, c2, rfl⟩ := hv.form
      obtain ⟨g, rfl, hg0, hg1, hg2, _⟩ := hv.cells hs1
      have HV0 := Lib.hid hv
      subst hkl
      clear hv HV
      go_wp2_with fail
      go_loopw [7] (fun i wr => ∃ j : Nat, i = .int .i64 j ∧ j ≤ n ∧ Hid (OwnS w wr (.slice (some ⟨g, 0, none⟩) d.secs.length c2) (puts d.secs (d.pend.take j))) ∧ Hid (wr.heap[w.heap.size]? = some (.cells #[.slice A d.secs.length c, .slice A' d.pend.length c', .int .i64 d.left, .bool d.down] 25 (0, 0)))) (fun i _ => n - (intOf i).toNat)
      case atStart => exact ⟨0, rfl, by omega, HV0, HK2⟩
      case round =>
        obtain ⟨j, rfl, hj, HJ, HK3⟩ := hrel
        clear x0 x1 x2 x3 x4
        by_cases hlt2 : j < n
        · obtain ⟨x, hx⟩ : ∃ x, d.pend[j]? = some x := ⟨_, List.getElem?_eq_getElem (by omega)⟩
          obtain ⟨w0, w1', w2'⟩ := HW0.out x (List.mem_of_getElem? hx)
          obtain ⟨q, hq⟩ : ∃ q : Nat, x.at_ = q := ⟨x.at_.toNat, by omega⟩
          have hql : q < d.secs.length := by omega
          obtain ⟨b, off, rfl, hb, hc⟩ := HD.out.pend.open_ (by omega)
          have hc' := fun i x hx jj u hu => (HJ.out.2.1.cell (p := ⟨b, off + i * 2 + jj, none⟩) hb).trans (hc i x hx jj u hu)
          obtain ⟨d1, d2⟩ := pend_at hc' hx
          obtain ⟨⟨sq, d3⟩, d4⟩ := owns_at HJ.out (i := q) (by rw [puts_len]; exact hql)
          have HN := Lib.hid (owns_put HJ.out q x.text)
          have HE := Lib.hid (puts_next (l := d.secs) hx hq)
          obtain ⟨⟨y0, y1, y2, y3⟩, y4⟩ := blk4 HK3.out
          have hne : w.heap.size ≠ g := fun e => own_ne HJ.out HK3.out (by decide) (by rw [← e]; rfl)
          have hjp : (j : Int) < (d.pend.length : Int) := by omega
          have hjp2 : j < d.pend.length := by omega
          rw [hq] at d1
          clear hc hc' hx w0 w1' w2' hq y4
          go_wp2_with fail
          go_region
          all_goals
            go_wp2_with fail
            go_roundw
            case rel => exact ⟨j + 1, by go_num, by omega, Lib.hid (by rw [HE.out]; exact HN.out.drew), Lib.hid (blk_other HK3.out hne)⟩
            case measure => simp [intOf]; omega
        · obtain rfl : j = n := by omega
          go_wp2_with fail
          go_ret
          exact ⟨g, c2, rfl, HJ.out⟩

end Go.Proofs.Ytlfiooenbgegkaa
