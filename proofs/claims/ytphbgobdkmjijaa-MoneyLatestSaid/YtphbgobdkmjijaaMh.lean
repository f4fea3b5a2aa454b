/- The program's conversion: what it returns for all lists of rates. -/
import Derived.Test.YtphbgobdkmjijaaMg
import Derived.Deep.Cut
namespace Go.Proofs.Ytphbgobdkmjijaa
open Go.RowKit Mo

theorem find_mem_aux (f t day : Int) : ∀ (rs : List Rate) (o : Option Rate) (r : Rate), rs.foldl (pick f t day) o = some r → r ∈ rs ∨ o = some r := by
  intro rs
  induction rs with
  | nil => intro o r h; exact .inr h
  | cons q l ih =>
    intro o r h
    rcases ih _ _ h with h1 | h1
    · exact .inl (List.mem_cons_of_mem _ h1)
    · unfold pick at h1
      split at h1
      · split at h1
        · injection h1 with h1; subst h1; exact .inl (by simp)
        · split at h1
          · injection h1 with h1; subst h1; exact .inl (by simp)
          · exact .inr h1
      · exact .inr h1
theorem find_mem {rs : List Rate} {f t day : Int} {r : Rate} (h : find rs f t day = some r) : r ∈ rs := by
  rcases find_mem_aux f t day rs none r h with h | h
  · exact h
  · cases h

theorem keep_new {w w' : World} {o : Obj} (h : Below (w.alloc o).heap.size (w.alloc o) w') :
    w'.heap[w.heap.size]? = some o ∧ w.heap.size < w'.heap.size := by
  have := h.size
  rw [World.size_alloc] at this h
  exact ⟨(h.block _ (by omega)).trans (heap_alloc_new w o), by omega⟩

theorem RB.swap {w : World} {g : Nat} {r : Rate} (h : RB w g r) : RB ((w.setCell ⟨g, 2, none⟩ (.int .i64 r.d)).setCell ⟨g, 3, none⟩ (.int .i64 r.n)) g ⟨r.f, r.t, r.d, r.n, r.s⟩ := by
  unfold RB at h ⊢
  simp [World.setCell, Array.getElem?_modify, h, rcs]

theorem ans_same {rs : List Rate} (s : Int) {f t day : Int} (h : cOk rs s day) (e : f = t) : cVal rs s f t day = s ∧ cErr rs s f t day = 0 := by
  unfold cVal cErr; rw [if_pos h, if_pos h, if_pos e, if_pos e]; exact ⟨rfl, rfl⟩
theorem ans_none {rs : List Rate} {s f t day : Int} (h : cOk rs s day) (e : f ≠ t) (hw : which rs f t day = none) : cVal rs s f t day = 0 ∧ cErr rs s f t day = 4 := by
  unfold cVal cErr; rw [if_pos h, if_pos h, if_neg e, if_neg e, hw]; exact ⟨rfl, rfl⟩
theorem ans_big {rs : List Rate} {s f t day n d : Int} (h : cOk rs s day) (e : f ≠ t) (hw : which rs f t day = some (n, d)) (hg : conv s n d) : cVal rs s f t day = 0 ∧ cErr rs s f t day = 3 := by
  unfold cVal cErr; rw [if_pos h, if_pos h, if_neg e, if_neg e, hw]; exact ⟨capV_no hg, capE_no hg⟩
theorem ans_fits {rs : List Rate} {s f t day n d : Int} (h : cOk rs s day) (e : f ≠ t) (hw : which rs f t day = some (n, d)) (hg : ¬ conv s n d) : cVal rs s f t day = s * n / d ∧ cErr rs s f t day = 0 := by
  unfold cVal cErr; rw [if_pos h, if_pos h, if_neg e, if_neg e, hw]; exact ⟨capV_yes (Int.not_lt.1 hg), capE_yes (Int.not_lt.1 hg)⟩

set_option maxHeartbeats 8000000 in
theorem convert_any (A : Option Addr) (c : Nat) (rs : List Rate) (s f t day : Int) (w : World) (hr : RR w w.heap.size A rs) :
    Calls Try.prog 13 #[.slice A rs.length c, .int .i64 s, .int .i64 f, .int .i64 t, .int .i64 day] w fun e w' =>
      e = .returned (.tuple #[.int .i64 (cVal rs s f t day), .int .i64 (cErr rs s f t day)]) ∧ Below w.heap.size w w' := by
  by_cases hh : headOk rs s day
  case neg => exact convert_head A c rs s f t day w hr hh
  have hlen := hr.1.1
  have Hr := Lib.hid hr
  clear hr
  obtain ⟨h100, ⟨s0, s1⟩, d0, d1⟩ := id hh
  have hw1 := within_yes s0 s1
  have hw2 := within_yes d0 d1
  have hl0 : decide ((100 : Int) < rs.length) = false := by simp; omega
  have Hh := Lib.hid hh
  clear hh
  go_enter Try.func13, Try.ntmps13
  go_wp2_with (go_at_call 17; refine (within_any _ _ _).mono ?_; rintro e w' ⟨rfl, rfl⟩)
  go_loopw [12, 14, 34] (fun x _ i wr => ∃ (k : Nat) (bd : Bool), k ≤ rs.length ∧ i = .int .i64 k ∧ x = .bool bd ∧ Hid (bd = false ↔ ∀ r ∈ rs.take k, rOk r) ∧ Hid (Below w.heap.size w wr)) (fun _ _ i _ => rs.length - (intOf i).toNat)
  case atStart => exact ⟨0, false, Nat.zero_le _, rfl, rfl, by simp [Hid], Below.refl _ _⟩
  case round =>
    obtain ⟨k, bd, hk, rfl, rfl, HO, HB⟩ := hrel
    by_cases hlt : k < rs.length
    · obtain ⟨r, hrk⟩ : ∃ r, rs[k]? = some r := ⟨_, List.getElem?_eq_getElem hlt⟩
      obtain ⟨b, off, rfl, c1, c2, c3, c4, c5⟩ := Hr.out.at_ HB.out hrk
      have hS : (∀ q ∈ rs.take (k + 1), rOk q) ↔ (∀ q ∈ rs.take k, rOk q) ∧ rOk r := by
        rw [List.take_add_one, hrk]
        simp only [Option.toList, List.mem_append, List.mem_singleton]
        exact ⟨fun h => ⟨fun q hq => h q (.inl hq), h r (.inr rfl)⟩, fun ⟨a, c⟩ q hq => by rcases hq with hq | rfl; exact a q hq; exact c⟩
      have HS := Lib.hid hS
      have HF := Lib.hid (Hr.out.1.2 r (List.mem_of_getElem? hrk))
      clear hrk hS
      have size := HB.out.size
      cases bd with
      | true =>
        go_wp2
        go_roundw
        case rel =>
          refine ⟨k + 1, true, by omega, by go_num, rfl, ?_, HB.out.alloc HB.out.size _⟩
          show true = false ↔ _
          rw [HS.out, ← HO.out]; simp
        case measure => simp [intOf]; omega
      | false =>
        by_cases ho : rOk r
        · obtain ⟨i1, i2⟩ := rOk_within ho
          obtain ⟨o1, o2, o3, o4⟩ := id ho
          have Ho := Lib.hid ho
          clear ho
          go_wp2_with (go_at_call 17; refine (within_any _ _ _).mono ?_; rintro e w' ⟨rfl, rfl⟩)
          go_roundw
          case rel =>
            refine ⟨k + 1, false, by omega, by go_num, rfl, ?_, HB.out.alloc HB.out.size _⟩
            show false = false ↔ _
            rw [HS.out, ← HO.out]; simp [Ho.out]
          case measure => simp [intOf]; omega
        · have hi := rBad_within HF.out ho
          have Ho := Lib.hid ho
          clear ho
          rcases hi with i1 | ⟨i0, i00, i1, i2⟩
          all_goals
            go_wp2_with (go_at_call 17; refine (within_any _ _ _).mono ?_; rintro e w' ⟨rfl, rfl⟩)
            go_roundw
            case rel =>
              refine ⟨k + 1, true, by omega, by go_num, rfl, ?_, HB.out.alloc HB.out.size _⟩
              show true = false ↔ _
              rw [HS.out, ← HO.out]; simp [Ho.out]
            case measure => simp [intOf]; omega
    · obtain rfl : k = rs.length := by omega
      rw [List.take_length] at HO
      have size := HB.out.size
      have Hr1 := Lib.hid ((Hr.out.below HB.out).more size)
      cases bd with
      | true =>
        have hbad : ¬ cOk rs s day := fun h => by have := HO.out.2 h.2.2.2; simp at this
        have Hv := Lib.hid (cVal_bad (f := f) (t := t) hbad).symm
        have He := Lib.hid (cErr_bad (f := f) (t := t) hbad).symm
        clear hbad
        go_wp2
        go_ret2
        exact ⟨ret_two Hv.out He.out, HB.out⟩
      | false =>
        have hok : cOk rs s day := ⟨Hh.out.1, Hh.out.2.1, Hh.out.2.2, HO.out.1 rfl⟩
        have Hok := Lib.hid hok
        clear hok HO
        by_cases hft : f = t
        · have Hv := Lib.hid (ans_same s Hok.out hft).1.symm
          have He := Lib.hid (ans_same s Hok.out hft).2.symm
          have b1 : (f == t) = true := by simp [hft]
          clear hft
          go_wp2
          go_ret2
          exact ⟨ret_two Hv.out He.out, HB.out⟩
        · have b1 : (f == t) = false := by simp [hft]
          have Hft := Lib.hid hft
          clear hft
          cases hf1 : find rs f t day with
          | some r =>
            have hwh : which rs f t day = some (r.n, r.d) := by unfold which; rw [hf1]
            obtain ⟨o1, o2, o3, o4⟩ := Hok.out.2.2.2 r (find_mem hf1)
            have Hf1 := Lib.hid hf1
            clear hf1
            by_cases hg : conv s r.n r.d
            · have Hv := Lib.hid (ans_big Hok.out Hft.out hwh hg).1.symm
              have He := Lib.hid (ans_big Hok.out Hft.out hwh hg).2.symm
              have Hg := Lib.hid hg
              clear hg hwh
              go_wp2_with (first | (go_at_call 21; refine (latest_yes A c rs f t day r _ Hr1.out Hf1.out).mono ?_; rintro e w3 ⟨rfl, hb3⟩; have size3 := hb3.size; have HB3 := Lib.hid hb3; clear hb3) | (go_at_call 18; refine (part_big _ _ _ _ s0 s1 o1 o2 o3 o4 Hg.out).mono ?_; rintro e w4 ⟨rfl, hb4⟩; have HB4 := Lib.hid hb4; clear hb4))
              go_ret2
              exact ⟨ret_two Hv.out He.out, ((HB.out.trans (HB3.out.mono size)).alloc (by omega) _).trans (HB4.out.mono (by simp; omega))⟩
            · have Hv := Lib.hid (ans_fits Hok.out Hft.out hwh hg).1.symm
              have He := Lib.hid (ans_fits Hok.out Hft.out hwh hg).2.symm
              have Hg := Lib.hid hg
              clear hg hwh
              go_wp2_with (first | (go_at_call 21; refine (latest_yes A c rs f t day r _ Hr1.out Hf1.out).mono ?_; rintro e w3 ⟨rfl, hb3⟩; have size3 := hb3.size; have HB3 := Lib.hid hb3; clear hb3) | (go_at_call 18; refine (part_fits _ _ _ _ s0 s1 o1 o2 o3 o4 Hg.out).mono ?_; rintro e w4 ⟨rfl, hb4⟩; have HB4 := Lib.hid hb4; clear hb4))
              go_ret2
              exact ⟨ret_two Hv.out He.out, ((HB.out.trans (HB3.out.mono size)).alloc (by omega) _).trans (HB4.out.mono (by simp; omega))⟩
          | none =>
            have Hf1 := Lib.hid hf1
            clear hf1
            cases hf2 : find rs t f day with
            | none =>
              have hwh : which rs f t day = none := by unfold which; rw [Hf1.out, hf2]
              have Hv := Lib.hid (ans_none Hok.out Hft.out hwh).1.symm
              have He := Lib.hid (ans_none Hok.out Hft.out hwh).2.symm
              have Hf2 := Lib.hid hf2
              clear hf2 hwh
              go_wp2_with fail
              refine (latest_no A c rs f t day _ Hr1.out Hf1.out).mono ?_
              rintro e w3 ⟨rfl, hb3⟩
              have size3 := hb3.size
              have HB3 := Lib.hid hb3
              clear hb3
              have HR3 := Lib.hid (((Hr1.out.below HB3.out).more size3))
              go_wp2_with fail
              refine (latest_no A c rs t f day _ (((HR3.out.below ((Below.refl _ _).alloc (Nat.le_refl _) _))).more (by simp)) Hf2.out).mono ?_
              rintro e w4 ⟨rfl, hb4⟩
              have hb4' : Below w3.heap.size w3 w4 := ((Below.refl _ _).alloc (Nat.le_refl _) _).trans (hb4.mono (by simp))
              obtain ⟨hc4, size4⟩ := keep_new hb4
              have hrb4 : RB w4 w3.heap.size zeroRate := hc4
              obtain ⟨g1, g2, g3, g4, g5⟩ := hrb4.cells
              simp only [Nat.zero_add] at g2 g3 g4 g5
              have fz := hrb4.frozen
              have hbA := (HB.out.trans (HB3.out.mono size)).trans (hb4'.mono (show w.heap.size ≤ w3.heap.size by omega))
              have HB4 := Lib.hid hbA
              have hrb4x := Lib.hid hrb4
              clear hb4 hb4' hc4 hrb4 hbA
              go_wp2
              go_ret2
              exact ⟨ret_two Hv.out He.out, ((below_put5 HB4.out (by omega) zeroRate).setCell (p := ⟨_, _, none⟩) (by simp; omega) _).setCell (p := ⟨_, _, none⟩) (by simp; omega) _⟩
            | some r =>
              have hwh : which rs f t day = some (r.d, r.n) := by unfold which; rw [Hf1.out, hf2]
              obtain ⟨o1, o2, o3, o4⟩ := Hok.out.2.2.2 r (find_mem hf2)
              have Hf2 := Lib.hid hf2
              clear hf2
              by_cases hg : conv s r.d r.n
              · have Hv := Lib.hid (ans_big Hok.out Hft.out hwh hg).1.symm
                have He := Lib.hid (ans_big Hok.out Hft.out hwh hg).2.symm
                have Hg := Lib.hid hg
                clear hg hwh
                go_wp2_with fail
                refine (latest_no A c rs f t day _ Hr1.out Hf1.out).mono ?_
                rintro e w3 ⟨rfl, hb3⟩
                have size3 := hb3.size
                have HB3 := Lib.hid hb3
                clear hb3
                have HR3 := Lib.hid (((Hr1.out.below HB3.out).more size3))
                go_wp2_with fail
                refine (latest_yes A c rs t f day r _ (((HR3.out.below ((Below.refl _ _).alloc (Nat.le_refl _) _))).more (by simp)) Hf2.out).mono ?_
                rintro e w4 ⟨rfl, hb4⟩
                have hb4' : Below w3.heap.size w3 w4 := ((Below.refl _ _).alloc (Nat.le_refl _) _).trans (hb4.mono (by simp))
                obtain ⟨hc4, size4⟩ := keep_new hb4
                have hrb4 : RB w4 w3.heap.size zeroRate := hc4
                obtain ⟨g1, g2, g3, g4, g5⟩ := hrb4.cells
                simp only [Nat.zero_add] at g2 g3 g4 g5
                have fz := hrb4.frozen
                have hbA := (HB.out.trans (HB3.out.mono size)).trans (hb4'.mono (show w.heap.size ≤ w3.heap.size by omega))
                have HB4 := Lib.hid hbA
                have hrb4x := Lib.hid hrb4
                clear hb4 hb4' hc4 hrb4 hbA
                have HRB := Lib.hid hrb4x.out
                clear hrb4x
                go_upto_region 17 with (fail)
                have hrb7 : RB (((put5 w4 w3.heap.size r).setCell ⟨w3.heap.size, 2, none⟩ (.int .i64 r.d)).setCell ⟨w3.heap.size, 3, none⟩ (.int .i64 r.n)) w3.heap.size ⟨r.f, r.t, r.d, r.n, r.s⟩ := (HRB.out.put r).swap
                have hb7 : Below w.heap.size w (((put5 w4 w3.heap.size r).setCell ⟨w3.heap.size, 2, none⟩ (.int .i64 r.d)).setCell ⟨w3.heap.size, 3, none⟩ (.int .i64 r.n)) := ((below_put5 HB4.out (by omega) r).setCell (p := ⟨_, _, none⟩) (by simp; omega) _).setCell (p := ⟨_, _, none⟩) (by simp; omega) _
                clear g1 g2 g3 g4 g5 fz
                change Code.wp _ _ _ _ (((put5 w4 w3.heap.size r).setCell ⟨w3.heap.size, 2, none⟩ (.int .i64 r.d)).setCell ⟨w3.heap.size, 3, none⟩ (.int .i64 r.n))
                generalize (((put5 w4 w3.heap.size r).setCell ⟨w3.heap.size, 2, none⟩ (.int .i64 r.d)).setCell ⟨w3.heap.size, 3, none⟩ (.int .i64 r.n)) = w7 at hrb7 hb7 ⊢
                obtain ⟨g1, g2, g3, g4, g5⟩ := hrb7.cells
                simp only [Nat.zero_add] at g2 g3 g4 g5
                have HB7 := Lib.hid hb7
                clear hb7 hrb7
                go_wp2_with (go_at_call 18; refine (part_big _ _ _ _ s0 s1 o3 o4 o1 o2 Hg.out).mono ?_; rintro e w5 ⟨rfl, hb5⟩; have HB5 := Lib.hid hb5; clear hb5)
                go_ret2
                exact ⟨ret_two Hv.out He.out, HB7.out.trans (HB5.out.mono HB7.out.size)⟩
              · have Hv := Lib.hid (ans_fits Hok.out Hft.out hwh hg).1.symm
                have He := Lib.hid (ans_fits Hok.out Hft.out hwh hg).2.symm
                have Hg := Lib.hid hg
                clear hg hwh
                go_wp2_with fail
                refine (latest_no A c rs f t day _ Hr1.out Hf1.out).mono ?_
                rintro e w3 ⟨rfl, hb3⟩
                have size3 := hb3.size
                have HB3 := Lib.hid hb3
                clear hb3
                have HR3 := Lib.hid (((Hr1.out.below HB3.out).more size3))
                go_wp2_with fail
                refine (latest_yes A c rs t f day r _ (((HR3.out.below ((Below.refl _ _).alloc (Nat.le_refl _) _))).more (by simp)) Hf2.out).mono ?_
                rintro e w4 ⟨rfl, hb4⟩
                have hb4' : Below w3.heap.size w3 w4 := ((Below.refl _ _).alloc (Nat.le_refl _) _).trans (hb4.mono (by simp))
                obtain ⟨hc4, size4⟩ := keep_new hb4
                have hrb4 : RB w4 w3.heap.size zeroRate := hc4
                obtain ⟨g1, g2, g3, g4, g5⟩ := hrb4.cells
                simp only [Nat.zero_add] at g2 g3 g4 g5
                have fz := hrb4.frozen
                have hbA := (HB.out.trans (HB3.out.mono size)).trans (hb4'.mono (show w.heap.size ≤ w3.heap.size by omega))
                have HB4 := Lib.hid hbA
                have hrb4x := Lib.hid hrb4
                clear hb4 hb4' hc4 hrb4 hbA
                have HRB := Lib.hid hrb4x.out
                clear hrb4x
                go_upto_region 17 with (fail)
                have hrb7 : RB (((put5 w4 w3.heap.size r).setCell ⟨w3.heap.size, 2, none⟩ (.int .i64 r.d)).setCell ⟨w3.heap.size, 3, none⟩ (.int .i64 r.n)) w3.heap.size ⟨r.f, r.t, r.d, r.n, r.s⟩ := (HRB.out.put r).swap
                have hb7 : Below w.heap.size w (((put5 w4 w3.heap.size r).setCell ⟨w3.heap.size, 2, none⟩ (.int .i64 r.d)).setCell ⟨w3.heap.size, 3, none⟩ (.int .i64 r.n)) := ((below_put5 HB4.out (by omega) r).setCell (p := ⟨_, _, none⟩) (by simp; omega) _).setCell (p := ⟨_, _, none⟩) (by simp; omega) _
                clear g1 g2 g3 g4 g5 fz
                change Code.wp _ _ _ _ (((put5 w4 w3.heap.size r).setCell ⟨w3.heap.size, 2, none⟩ (.int .i64 r.d)).setCell ⟨w3.heap.size, 3, none⟩ (.int .i64 r.n))
                generalize (((put5 w4 w3.heap.size r).setCell ⟨w3.heap.size, 2, none⟩ (.int .i64 r.d)).setCell ⟨w3.heap.size, 3, none⟩ (.int .i64 r.n)) = w7 at hrb7 hb7 ⊢
                obtain ⟨g1, g2, g3, g4, g5⟩ := hrb7.cells
                simp only [Nat.zero_add] at g2 g3 g4 g5
                have HB7 := Lib.hid hb7
                clear hb7 hrb7
                go_wp2_with (go_at_call 18; refine (part_fits _ _ _ _ s0 s1 o3 o4 o1 o2 Hg.out).mono ?_; rintro e w5 ⟨rfl, hb5⟩; have HB5 := Lib.hid hb5; clear hb5)
                go_ret2
                exact ⟨ret_two Hv.out He.out, HB7.out.trans (HB5.out.mono HB7.out.size)⟩

end Go.Proofs.Ytphbgobdkmjijaa
