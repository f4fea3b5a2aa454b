/- The reference's Check, walked. -/
import Derived.Test.YtlfiooenbgegkaaDj
namespace Go.Proofs.Ytlfiooenbgegkaa
open Go.RowKit Ds
set_option linter.unusedSimpArgs false
set_option linter.unusedVariables false

set_option maxHeartbeats 4000000 in
theorem rcheck_no (A : Option Addr) (c : Nat) (A' : Option Addr) (c' n m : Nat) (left : Int) (down : Bool) (w : World)
    (h : (n < 1) ∨ (1 ≤ n ∧ 512 < n) ∨ (1 ≤ n ∧ n ≤ 512 ∧ 512 < m) ∨ (1 ≤ n ∧ n ≤ 512 ∧ m ≤ 512 ∧ left < -1) ∨ (1 ≤ n ∧ n ≤ 512 ∧ m ≤ 512 ∧ -1 ≤ left ∧ 512 < left)) :
    Calls Try.prog 14 #[.agg #[.slice A n c, .slice A' m c', .int .i64 left, .bool down]] w fun e w' => e = .returned (.int .i64 1) ∧ Below w.heap.size w w' := by
  rcases h with h | ⟨h1, h2⟩ | ⟨h1, h2, h3⟩ | ⟨h1, h2, h3, h4⟩ | ⟨h1, h2, h3, h4, h5⟩
  all_goals
    go_enter Try.func14, Try.ntmps14
    go_wp2_with fail
    go_ret
    exact ⟨rfl, (Below.refl _ _).alloc (Nat.le_refl _) _⟩

/-- the state at the head of the second loop -/
def CheckAt (w wr : World) (x0 x1 x2 x3 : Value) (l : List ByteArray) (p : List Wr) (k : Nat) : Prop :=
  Below w.heap.size w wr ∧ wr.heap[w.heap.size]? = some (.cells #[x0, x1, x2, x3] 25 (0, 0)) ∧ (p.take k).all (okW l.length) = true
theorem CheckAt.alloc {w wr : World} {x0 x1 x2 x3 : Value} {l : List ByteArray} {p : List Wr} {k : Nat} (h : CheckAt w wr x0 x1 x2 x3 l p k) {t : Wr} (ht : p[k]? = some t) (hk : okW l.length t = true) (o : Obj) : CheckAt w (wr.alloc o) x0 x1 x2 x3 l p (k + 1) :=
  ⟨h.1.alloc h.1.size _, blk_old h.2.1, take_all ht h.2.2 hk⟩

theorem downB_pos {l : List ByteArray} {p : List Wr} {left : Int} (h : 0 < p.length) : downB ⟨l, p, left, true⟩ = false := by
  show (!true || (decide (p.length = 0) && decide (left = -1))) = false
  rw [decide_eq_false (by omega)]; rfl
theorem downB_nil {l : List ByteArray} {p : List Wr} (h : p.length = 0) : downB ⟨l, p, -1, true⟩ = true := by
  show (!true || (decide (p.length = 0) && decide ((-1 : Int) = -1))) = true
  rw [decide_eq_true h]; rfl
theorem check_one {d : Dk} (h : rightB d = false) : checkE d = 1 := by unfold checkE; rw [if_neg (by simp [h])]

set_option maxHeartbeats 8000000 in
theorem rcheck_yes (A : Option Addr) (c : Nat) (A' : Option Addr) (c' : Nat) (l : List ByteArray) (p : List Wr) (left : Int) (down : Bool) (w : World) (n m : Nat) (hn : Hid (l.length = n)) (hm : Hid (p.length = m))
    (HS : Hid (RowOf scell 1 w w.heap.size A l)) (HP : Hid (RowOf wcell 2 w w.heap.size A' p)) (h1 : 1 ≤ n) (h2 : n ≤ 512) (h3 : m ≤ 512) (h4 : -1 ≤ left) (h5 : left ≤ 512) (HH : Hid (headB ⟨l, p, left, down⟩ = true)) :
    Calls Try.prog 14 #[.agg #[.slice A n c, .slice A' m c', .int .i64 left, .bool down]] w fun e w' => e = .returned (.int .i64 (checkE ⟨l, p, left, down⟩)) ∧ Below w.heap.size w w' := by
  go_enter Try.func14, Try.ntmps14
  go_wp2_with fail
  go_loop [3] (fun i => ∃ k : Nat, i = .int .i64 k ∧ k ≤ n ∧ Hid ((l.take k).all okS = true)) (fun i => n - (intOf i).toNat)
  case atStart => exact ⟨0, rfl, by omega, Lib.hid rfl⟩
  case round =>
    obtain ⟨k, rfl, hk, HK⟩ := hrel
    by_cases hlt : k < n
    · obtain ⟨s, hs⟩ : ∃ s, l[k]? = some s := ⟨_, List.getElem?_eq_getElem (by rw [hn.out]; exact hlt)⟩
      obtain ⟨b, off, rfl, hb, hcell⟩ := HS.out.open_ (by rw [hn.out]; omega)
      have c1 := secs_at hcell hs
      have HX := Lib.hid hs
      clear hs hcell
      by_cases h16 : s.size = 16
      · have t1 : ((s.size : Int) != 16) = false := by simp; omega
        have HH := Lib.hid h16
        clear h16
        go_wp2_with fail
        go_round
        case rel => exact ⟨k + 1, by go_num, by omega, Lib.hid (take_all HX.out HK.out (by simp [okS, HH.out]))⟩
        case measure => simp [intOf]; omega
      · have t1 : ((s.size : Int) != 16) = true := by simp; omega
        have HR := Lib.hid (show checkE ⟨l, p, left, down⟩ = 1 from check_one (by unfold rightB; rw [show (⟨l, p, left, down⟩ : Dk).secs.all okS = false from not_all HX.out (by simp [okS, h16])]; simp))
        clear h16
        go_wp2_with fail
        go_ret
        exact ⟨by rw [HR.out]; rfl, (Below.refl _ _).alloc (Nat.le_refl _) _⟩
    · obtain rfl : n = k := by omega
      have HA := Lib.hid (show l.all okS = true by have := HK.out; rwa [← hn.out, List.take_length] at this)
      clear HK
      go_wp2_with fail
      go_loopw [4] (fun i wr => ∃ j : Nat, i = .int .i64 j ∧ j ≤ p.length ∧ Hid (CheckAt w wr (.slice A n c) (.slice A' m c') (.int .i64 left) (.bool down) l p j)) (fun i _ => p.length - (intOf i).toNat)
      case atStart =>
        exact ⟨0, rfl, by omega, Lib.hid ⟨(Below.refl _ _).alloc (Nat.le_refl _) _, blk_new _ _, rfl⟩⟩
      case round =>
        obtain ⟨j, rfl, hj, HJ⟩ := hrel
        have hmo := hm.out
        have hno := hn.out
        obtain ⟨⟨x0, x1, x2, x3⟩, x4⟩ := blk4 HJ.out.2.1
        have hsz := blk_lt HJ.out.2.1
        by_cases hlt2 : j < p.length
        · obtain ⟨t, ht⟩ : ∃ t, p[j]? = some t := ⟨_, List.getElem?_eq_getElem hlt2⟩
          obtain ⟨b, off, rfl, hb, hcell⟩ := HP.out.open_ (by omega)
          have hcell' := fun i x hx jj u hu => (HJ.out.1.cell (p := ⟨b, off + i * 2 + jj, none⟩) hb).trans (hcell i x hx jj u hu)
          obtain ⟨c1, c2⟩ := pend_at hcell' ht
          have hjm : (j : Int) < (m : Int) := by omega
          have hjm2 : j < m := by omega
          clear hcell hcell'
          have HB := Lib.hid (HJ.out.1.alloc HJ.out.1.size (.cells #[.int .i64 t.at_, .string t.text] 44))
          have hbad : okW l.length t = false → checkE ⟨l, p, left, down⟩ = 1 := fun hb => check_one (by unfold rightB; rw [show (⟨l, p, left, down⟩ : Dk).pend.all (okW (⟨l, p, left, down⟩ : Dk).secs.length) = false from not_all ht hb]; simp)
          by_cases g1 : 0 ≤ t.at_
          · by_cases g2 : t.at_ < (n : Int)
            · by_cases g3 : t.text.size = 16
              · have HN := Lib.hid (HJ.out.alloc ht (show okW l.length t = true by simp [okW, g1, g3]; omega) (.cells #[.int .i64 t.at_, .string t.text] 44))
                have t1 : ((t.text.size : Int) != 16) = false := by simp; omega
                clear ht g3 hmo hno hbad
                go_wp2_with fail
                go_roundw
                case rel => exact ⟨j + 1, by go_num, by omega, HN⟩
                case measure => simp [intOf]; omega
              · have HR := Lib.hid (hbad (by simp [okW, g3]))
                have t1 : ((t.text.size : Int) != 16) = true := by simp; omega
                clear ht g3 hmo hno hbad
                go_wp2_with fail
                go_ret
                exact ⟨by rw [HR.out]; rfl, HB.out⟩
            · have HR := Lib.hid (hbad (by simp [okW]; omega))
              have t1 : (n : Int) ≤ t.at_ := by omega
              clear ht g2 hmo hno hbad
              go_wp2_with fail
              go_ret
              exact ⟨by rw [HR.out]; rfl, HB.out⟩
          · have HR := Lib.hid (hbad (by simp [okW]; omega))
            have t1 : t.at_ < 0 := by omega
            clear ht g1 hmo hno hbad
            go_wp2_with fail
            go_ret
            exact ⟨by rw [HR.out]; rfl, HB.out⟩
        · obtain rfl : j = p.length := by omega
          have hpp := HJ.out.2.2
          rw [List.take_length] at hpp
          have hval : rightB ⟨l, p, left, down⟩ = downB ⟨l, p, left, down⟩ := by unfold rightB; rw [HH.out, HA.out, hpp]; simp
          have HV := Lib.hid (show checkE ⟨l, p, left, down⟩ = if downB ⟨l, p, left, down⟩ = true then 0 else 1 by unfold checkE; rw [hval])
          have HB := Lib.hid HJ.out.1
          have hjm : ¬ (p.length : Int) < (m : Int) := by omega
          have hjm2 : decide (p.length < m) = false := by simp; omega
          clear hmo hno HJ hval hpp
          cases hdn : down with
          | false =>
            subst hdn
            have HW := Lib.hid (show checkE ⟨l, p, left, false⟩ = 0 by rw [HV.out]; rfl)
            go_wp2_with fail
            go_ret
            exact ⟨by rw [HW.out]; rfl, HB.out⟩
          | true =>
            subst hdn
            by_cases hm0 : 0 < m
            · have HW := Lib.hid (show checkE ⟨l, p, left, true⟩ = 1 by rw [HV.out, downB_pos (by rw [hm.out]; exact hm0)]; rfl)
              go_wp2_with fail
              go_ret
              exact ⟨by rw [HW.out]; rfl, HB.out⟩
            · by_cases hlf : left = -1
              · subst hlf
                have HW := Lib.hid (show checkE ⟨l, p, -1, true⟩ = 0 by rw [HV.out, downB_nil (by rw [hm.out]; omega)]; rfl)
                have t2 : ¬ (0 : Int) < (m : Int) := by omega
                have t3 : (m : Int) ≤ 0 := by omega
                go_wp2_with fail
                go_ret
                exact ⟨by rw [HW.out]; rfl, HB.out⟩
              · have HW := Lib.hid (show checkE ⟨l, p, left, true⟩ = 1 by rw [HV.out, if_neg]; simp only [downB]; simp [hlf])
                have t2 : ¬ (0 : Int) < (m : Int) := by omega
                have t3 : (m : Int) ≤ 0 := by omega
                have t4 : (left != -1) = true := by simpa using hlf
                clear hlf
                go_wp2_with fail
                go_ret
                exact ⟨by rw [HW.out]; rfl, HB.out⟩

theorem rcheck_any (A : Option Addr) (c : Nat) (A' : Option Addr) (c' : Nat) (d : Dk) (w : World) (h : DiskAt w w.heap.size A c A' c' d) :
    Calls Try.prog 14 #[dv A c A' c' d] w fun e w' => e = .returned (.int .i64 (checkE d)) ∧ Below w.heap.size w w' := by
  obtain ⟨l, p, left, down⟩ := d
  by_cases hh : headB ⟨l, p, left, down⟩ = true
  · have hh' := hh
    simp only [headB, Bool.and_eq_true, decide_eq_true_eq] at hh'
    exact rcheck_yes A c A' c' l p left down w l.length p.length (Lib.hid rfl) (Lib.hid rfl) (Lib.hid h.secs) (Lib.hid h.pend) (by omega) (by omega) (by omega) (by omega) (by omega) (Lib.hid hh)
  · have e1 : checkE ⟨l, p, left, down⟩ = 1 := check_one (by unfold rightB; simp only [Bool.not_eq_true] at hh; rw [hh]; simp)
    rw [e1]
    refine rcheck_no A c A' c' l.length p.length left down w ?_
    simp only [headB, Bool.and_eq_true, decide_eq_true_eq] at hh
    omega

end Go.Proofs.Ytlfiooenbgegkaa
