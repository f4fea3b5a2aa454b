/- disk's right, its loops walked. -/
import Derived.Test.YtlfiooenbgegkaaDa
namespace Go.Proofs.Ytlfiooenbgegkaa
open Go.RowKit Ds
set_option linter.unusedSimpArgs false
set_option linter.unusedVariables false

/-- the state at the head of the second loop -/
def RightAt (w wr : World) (x : Value) (l : List ByteArray) (p : List Wr) (k : Nat) : Prop :=
  Below w.heap.size w wr ∧ wr.cell? ⟨w.heap.size, 0, none⟩ = some x ∧ (p.take k).all (okW l.length) = true
theorem RightAt.alloc {w wr : World} {x : Value} {l : List ByteArray} {p : List Wr} {k : Nat} (h : RightAt w wr x l p k) {t : Wr} (ht : p[k]? = some t) (hk : okW l.length t = true) (o : Obj) : RightAt w (wr.alloc o) x l p (k + 1) := by
  obtain ⟨h1, h2, h4⟩ := h
  have hs := World.block_lt_of_cell? wr _ h2
  simp only at hs
  exact ⟨h1.alloc h1.size _, by rw [World.cell?_alloc_lt wr _ _ hs]; exact h2, take_all ht h4 hk⟩

set_option maxHeartbeats 4000000 in
theorem right_yes (A : Option Addr) (c : Nat) (A' : Option Addr) (c' : Nat) (l : List ByteArray) (p : List Wr) (left : Int) (down : Bool) (w : World) (n m : Nat) (hn : Hid (l.length = n)) (hm : Hid (p.length = m))
    (HS : Hid (RowOf scell 1 w w.heap.size A l)) (HP : Hid (RowOf wcell 2 w w.heap.size A' p)) (h1 : 1 ≤ n) (h2 : n ≤ 512) (h3 : m ≤ 512) (h4 : -1 ≤ left) (h5 : left ≤ 512) (h6 : down = false ∨ (down = true ∧ m ≤ 0 ∧ left = -1)) :
    Calls Try.prog 33 #[.agg #[.slice A n c, .slice A' m c', .int .i64 left, .bool down]] w fun e w' => e = .returned (.bool (l.all okS && p.all (okW l.length))) ∧ Below w.heap.size w w' := by
  rcases h6 with rfl | ⟨rfl, h7, rfl⟩
  · go_enter Try.func33, Try.ntmps33
    go_wp2_with fail
    go_loop [51] (fun i => ∃ k : Nat, i = .int .i64 k ∧ k ≤ n ∧ Hid ((l.take k).all okS = true)) (fun i => n - (intOf i).toNat)
    case atStart => exact ⟨0, rfl, by omega, Lib.hid rfl⟩
    case round =>
      obtain ⟨k, rfl, hk, HK⟩ := hrel
      by_cases hlt : k < n
      · obtain ⟨s, hs⟩ : ∃ s, l[k]? = some s := ⟨_, List.getElem?_eq_getElem (by rw [hn.out]; exact hlt)⟩
        obtain ⟨b, off, rfl, hb, hcell⟩ := HS.out.open_ (by rw [hn.out]; omega)
        have c1 := secs_at hcell hs
        have HX := Lib.hid hs
        clear hs hcell
        by_cases h16 : s.size = 16
        · have t1 : ((s.size : Int) != 16) = false := by simp; omega
          have HH := Lib.hid h16
          clear h16
          go_wp2_with fail
          go_round
          case rel => exact ⟨k + 1, by go_num, by omega, Lib.hid (take_all HX.out HK.out (by simp [okS, HH.out]))⟩
          case measure => simp [intOf]; omega
        · have t1 : ((s.size : Int) != 16) = true := by simp; omega
          have HR := Lib.hid (show l.all okS = false from not_all HX.out (by simp [okS, h16]))
          clear h16
          go_wp2_with fail
          go_ret
          exact ⟨by rw [HR.out]; rfl, (Below.refl _ _).alloc (Nat.le_refl _) _⟩
      · obtain rfl : n = k := by omega
        have HA := Lib.hid (show l.all okS = true by have := HK.out; rwa [← hn.out, List.take_length] at this)
        clear HK
        go_wp2_with fail
        go_loopw [62] (fun i wr => ∃ j : Nat, i = .int .i64 j ∧ j ≤ p.length ∧ Hid (RightAt w wr (.slice A n c) l p j)) (fun i _ => p.length - (intOf i).toNat)
        case atStart =>
          exact ⟨0, rfl, by omega, Lib.hid ⟨(Below.refl _ _).alloc (Nat.le_refl _) _, by simp, rfl⟩⟩
        case round =>
          obtain ⟨j, rfl, hj, HJ⟩ := hrel
          have hmo := hm.out
          have hno := hn.out
          by_cases hlt2 : j < p.length
          · obtain ⟨t, ht⟩ : ∃ t, p[j]? = some t := ⟨_, List.getElem?_eq_getElem hlt2⟩
            obtain ⟨b, off, rfl, hb, hcell⟩ := HP.out.open_ (by omega)
            have hcell' := fun i x hx jj u hu => (HJ.out.1.cell (p := ⟨b, off + i * 2 + jj, none⟩) hb).trans (hcell i x hx jj u hu)
            obtain ⟨c1, c2⟩ := pend_at hcell' ht
            have cb := HJ.out.2.1
            have hjm : (j : Int) < (m : Int) := by omega
            have hsz := World.block_lt_of_cell? wr _ cb
            simp only at hsz
            clear hcell hcell'
            by_cases g1 : 0 ≤ t.at_
            · by_cases g2 : t.at_ < (n : Int)
              · by_cases g3 : t.text.size = 16
                · have HN := Lib.hid (HJ.out.alloc ht (show okW l.length t = true by simp [okW, g1, g3]; omega) (.cells #[.int .i64 t.at_, .string t.text] 44))
                  have t1 : ((t.text.size : Int) != 16) = false := by simp; omega
                  clear ht g3 hmo hno
                  go_wp2_with fail
                  go_roundw
                  case rel => exact ⟨j + 1, by go_num, by omega, HN⟩
                  case measure => simp [intOf]; omega
                · have HR := Lib.hid (show p.all (okW l.length) = false from not_all ht (by simp [okW, g3]))
                  have HB := Lib.hid (HJ.out.1.alloc HJ.out.1.size (.cells #[.int .i64 t.at_, .string t.text] 44))
                  have t1 : ((t.text.size : Int) != 16) = true := by simp; omega
                  clear ht g3 hmo hno
                  go_wp2_with fail
                  go_ret
                  exact ⟨by rw [HR.out, Bool.and_false]; rfl, HB.out⟩
              · have HR := Lib.hid (show p.all (okW l.length) = false from not_all ht (by simp [okW]; omega))
                have HB := Lib.hid (HJ.out.1.alloc HJ.out.1.size (.cells #[.int .i64 t.at_, .string t.text] 44))
                have t1 : (n : Int) ≤ t.at_ := by omega
                clear ht g2 hmo hno
                go_wp2_with fail
                go_ret
                exact ⟨by rw [HR.out, Bool.and_false]; rfl, HB.out⟩
            · have HR := Lib.hid (show p.all (okW l.length) = false from not_all ht (by simp [okW]; omega))
              have HB := Lib.hid (HJ.out.1.alloc HJ.out.1.size (.cells #[.int .i64 t.at_, .string t.text] 44))
              have t1 : t.at_ < 0 := by omega
              clear ht g1 hmo hno
              go_wp2_with fail
              go_ret
              exact ⟨by rw [HR.out, Bool.and_false]; rfl, HB.out⟩
          · obtain rfl : j = p.length := by omega
            have HR := Lib.hid (show p.all (okW l.length) = true by have := HJ.out.2.2; rwa [List.take_length] at this)
            have HB := Lib.hid HJ.out.1
            have hjm : ¬ (p.length : Int) < (m : Int) := by omega
            clear hmo hno HJ
            go_wp2_with fail
            go_ret
            exact ⟨by rw [HR.out, HA.out]; rfl, HB.out⟩
  · go_enter Try.func33, Try.ntmps33
    go_wp2_with fail
    go_loop [51] (fun i => ∃ k : Nat, i = .int .i64 k ∧ k ≤ n ∧ Hid ((l.take k).all okS = true)) (fun i => n - (intOf i).toNat)
    case atStart => exact ⟨0, rfl, by omega, Lib.hid rfl⟩
    case round =>
      obtain ⟨k, rfl, hk, HK⟩ := hrel
      by_cases hlt : k < n
      · obtain ⟨s, hs⟩ : ∃ s, l[k]? = some s := ⟨_, List.getElem?_eq_getElem (by rw [hn.out]; exact hlt)⟩
        obtain ⟨b, off, rfl, hb, hcell⟩ := HS.out.open_ (by rw [hn.out]; omega)
        have c1 := secs_at hcell hs
        have HX := Lib.hid hs
        clear hs hcell
        by_cases h16 : s.size = 16
        · have t1 : ((s.size : Int) != 16) = false := by simp; omega
          have HH := Lib.hid h16
          clear h16
          go_wp2_with fail
          go_round
          case rel => exact ⟨k + 1, by go_num, by omega, Lib.hid (take_all HX.out HK.out (by simp [okS, HH.out]))⟩
          case measure => simp [intOf]; omega
        · have t1 : ((s.size : Int) != 16) = true := by simp; omega
          have HR := Lib.hid (show l.all okS = false from not_all HX.out (by simp [okS, h16]))
          clear h16
          go_wp2_with fail
          go_ret
          exact ⟨by rw [HR.out]; rfl, (Below.refl _ _).alloc (Nat.le_refl _) _⟩
      · obtain rfl : n = k := by omega
        have HA := Lib.hid (show l.all okS = true by have := HK.out; rwa [← hn.out, List.take_length] at this)
        clear HK
        go_wp2_with fail
        go_loopw [62] (fun i wr => ∃ j : Nat, i = .int .i64 j ∧ j ≤ p.length ∧ Hid (RightAt w wr (.slice A n c) l p j)) (fun i _ => p.length - (intOf i).toNat)
        case atStart =>
          exact ⟨0, rfl, by omega, Lib.hid ⟨(Below.refl _ _).alloc (Nat.le_refl _) _, by simp, rfl⟩⟩
        case round =>
          obtain ⟨j, rfl, hj, HJ⟩ := hrel
          have hmo := hm.out
          have hno := hn.out
          by_cases hlt2 : j < p.length
          · exfalso; omega
          · obtain rfl : j = p.length := by omega
            have HR := Lib.hid (show p.all (okW l.length) = true by have := HJ.out.2.2; rwa [List.take_length] at this)
            have HB := Lib.hid HJ.out.1
            have hjm : ¬ (p.length : Int) < (m : Int) := by omega
            clear hmo hno HJ
            go_wp2_with fail
            go_ret
            exact ⟨by rw [HR.out, HA.out]; rfl, HB.out⟩

theorem right_any (A : Option Addr) (c : Nat) (A' : Option Addr) (c' : Nat) (d : Dk) (w : World) (h : DiskAt w w.heap.size A c A' c' d) :
    Calls Try.prog 33 #[dv A c A' c' d] w fun e w' => e = .returned (.bool (rightB d)) ∧ Below w.heap.size w w' := by
  obtain ⟨l, p, left, down⟩ := d
  cases hg : headB ⟨l, p, left, down⟩ && downB ⟨l, p, left, down⟩ with
  | false =>
    rw [right_bad hg]
    exact right_no A c A' c' l.length p.length left down w (bad_ways hg)
  | true =>
    rw [right_good hg]
    obtain ⟨g1, g2, g3, g4, g5, g6⟩ := good_ways hg
    exact right_yes A c A' c' l p left down w _ _ (Lib.hid rfl) (Lib.hid rfl) (Lib.hid h.secs) (Lib.hid h.pend) g1 g2 g3 g4 g5 (by rcases g6 with g | ⟨a, b, c⟩; exact .inl g; exact .inr ⟨a, by show p.length ≤ 0; omega, c⟩)

end Go.Proofs.Ytlfiooenbgegkaa
