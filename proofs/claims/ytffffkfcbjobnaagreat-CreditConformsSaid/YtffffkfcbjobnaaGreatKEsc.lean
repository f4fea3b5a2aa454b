/- escaped, Quote. -/
import Derived.Test.YtffffkfcbjobnaaGreatLxA
import Derived.Test.YtffffkfcbjobnaaGreatShelf
import Derived.Test.YtffffkfcbjobnaaGreatShelfB
namespace Go.Proofs.YtffffkfcbjobnaaGreat
open Go.RowKit Lx
set_option linter.unusedSimpArgs false
set_option linter.unusedVariables false

def bs (s : ByteArray) : List UInt8 := s.data.toList
theorem bs_len (s : ByteArray) : (bs s).length = s.size := by unfold bs; rw [Array.length_toList]; rfl
theorem bs_get (s : ByteArray) (k : Nat) (h : k < s.size) : (bs s)[k]? = some s[k] := by
  unfold bs
  rw [List.getElem?_eq_getElem (by rw [Array.length_toList]; exact h)]
  rfl
theorem cells_snoc (l : List UInt8) (c : UInt8) : Lib.byteCells l ++ [Value.int .u8 (c.toNat : Int)] = Lib.byteCells (l ++ [c]) := by
  simp [Lib.byteCells]
theorem esc_snoc (l : List UInt8) (c : UInt8) : esc (l ++ [c]) = esc l ++ (if c == 34 || c == 92 then [92, c] else [c]) := by
  induction l with
  | nil =>
    cases h : (c == 34 || c == 92) with
    | true => rw [List.nil_append, esc_yes h]; simp [esc]
    | false => rw [List.nil_append, esc_no h]; simp [esc]
  | cons d l ih =>
    rw [List.cons_append]
    cases h : (d == 34 || d == 92) with
    | true => rw [esc_yes h, esc_yes h, ih]; simp
    | false => rw [esc_no h, esc_no h, ih]; simp
theorem esc_len (l : List UInt8) : (esc l).length ≤ 2 * l.length := by
  induction l with
  | nil => simp [esc]
  | cons d l ih =>
    cases h : (d == 34 || d == 92) with
    | true => rw [esc_yes h]; simp; omega
    | false => rw [esc_no h]; simp; omega

/-- a builder of this program with these bytes -/
def Bld (B b : Nat) (l : List UInt8) (w : World) : Prop := Lib.IsBuilder 205 5 B b (Lib.byteCells l) w
theorem cells_len (l : List UInt8) : (Lib.byteCells l).length = l.length := by simp [Lib.byteCells]
theorem write_any (B b : Nat) (l : List UInt8) (c : UInt8) (W w : World) (h : Bld B b l w) (hl : l.length ≤ 4000000) (hB : Below B W w) (hs : B ≤ w.heap.size) :
    Calls Tryz.prog 212 #[.pointer (some ⟨b, 0, none⟩), .int .u8 (c.toNat : Int)] w fun e w' => e = .returned .nilIface ∧ Bld B b (l ++ [c]) w' ∧ Below B W w' ∧ B ≤ w'.heap.size := by
  refine (Tryz.Builder_WriteByte B b (Lib.byteCells l) (c.toNat : Int) w h (by rw [cells_len]; omega) hs).mono ?_
  rintro e w' ⟨rfl, h1, h2⟩
  refine ⟨rfl, ?_, hB.trans h2, Nat.le_trans hs h2.size⟩
  rw [cells_snoc] at h1
  exact .inr h1

theorem Bld.new (W : World) : Bld W.heap.size W.heap.size [] (W.alloc (.cells #[.pointer none, .slice none 0 0] 205)) := by
  refine .inl ⟨Nat.le_refl _, .slice none 0 0, heap_alloc_new W _, World.ownsRow_nil _ _ _ _, by simp [Value.ownBlock]⟩

/-- what the builder holds after k bytes -/
def Held (W : World) (l : List UInt8) (wr : World) : Prop := Bld W.heap.size W.heap.size l wr ∧ Below W.heap.size W wr ∧ W.heap.size ≤ wr.heap.size
theorem write_held (l : List UInt8) (c : UInt8) (W w : World) (h : Held W l w) (hl : l.length ≤ 4000000) :
    Calls Tryz.prog 212 #[.pointer (some ⟨W.heap.size, 0, none⟩), .int .u8 (c.toNat : Int)] w fun e w' => e = .returned .nilIface ∧ Held W (l ++ [c]) w' :=
  (write_any _ _ l c W w h.1 hl h.2.1 h.2.2).mono fun _ _ ⟨he, h1, h2, h3⟩ => ⟨he, h1, h2, h3⟩
theorem string_held (l : List UInt8) (W w : World) (h : Held W l w) :
    Calls Tryz.prog 134 #[.pointer (some ⟨W.heap.size, 0, none⟩)] w fun e w' => e = .returned (.string ⟨l.toArray⟩) ∧ Below W.heap.size W w' := by
  refine (Tryz.Builder_String_any _ _ l w h.1 h.2.2).mono ?_
  rintro e w' ⟨rfl, hx⟩
  exact ⟨rfl, h.2.1.trans (by first | exact hx | exact hx.2)⟩

set_option maxHeartbeats 4000000 in
theorem escaped_any (s : ByteArray) (w : World) (hs : s.size ≤ 1000000) :
    Calls Tryz.prog 211 #[.string s] w fun e w' => e = .returned (.string ⟨(quote (bs s)).toArray⟩) ∧ Below w.heap.size w w' := by
  have hn : Held w [] (w.alloc (.cells #[.pointer none, .slice none 0 0] 205)) := ⟨Bld.new w, (Below.refl _ _).alloc (Nat.le_refl _) _, by simp⟩
  have h34 := fun wx (h : Held w [] wx) => write_held [] 34 w wx h (by simp)
  have H34 := Lib.hid h34
  have HN := Lib.hid hn
  clear h34 hn
  go_enter Tryz.func211, Tryz.ntmps211
  go_wp2_with fail
  refine (H34.out _ HN.out).mono ?_
  rintro e w1 ⟨rfl, h1⟩
  have H1 := Lib.hid h1
  clear h1 H34 HN
  go_wp2
  go_loopw [8] (fun i wr => ∃ k : Nat, i = .int .i64 k ∧ k ≤ s.size ∧ Hid (Held w (34 :: esc ((bs s).take k)) wr)) (fun i _ => s.size - (intOf i).toNat)
  case atStart => exact ⟨0, rfl, by omega, H1.out⟩
  case round =>
    obtain ⟨k, rfl, hk, HH⟩ := hrel
    by_cases hlt : k < s.size
    · have hl : (34 :: esc ((bs s).take k)).length ≤ 3000000 := by
        have := esc_len ((bs s).take k)
        have h2 : ((bs s).take k).length ≤ k := List.length_take_le _ _
        simp; omega
      have hst : (bs s).take (k + 1) = (bs s).take k ++ [s[k]] := by rw [List.take_add_one, bs_get s k hlt]; rfl
      have HS := Lib.hid (show (34 :: esc ((bs s).take (k + 1)) : List UInt8) = 34 :: esc ((bs s).take k) ++ (if s[k] == 34 || s[k] == 92 then [92, s[k]] else [s[k]]) by rw [hst, esc_snoc]; rfl)
      clear hst
      have e34 : (s[k] == 34) = ((s[k].toNat : Int) == 34) := by rw [Bool.eq_iff_iff]; simp only [beq_iff_eq, eq8]; constructor <;> (intro h; simp at h ⊢; omega)
      have e92 : (s[k] == 92) = ((s[k].toNat : Int) == 92) := by rw [Bool.eq_iff_iff]; simp only [beq_iff_eq, eq8]; constructor <;> (intro h; simp at h ⊢; omega)
      rw [e34, e92] at HS
      clear e34 e92
      have hw1 := fun wx (h : Held w (34 :: esc ((bs s).take k)) wx) => write_held _ 92 w wx h (by omega)
      have hw2 := fun wx (h : Held w (34 :: esc ((bs s).take k)) wx) => write_held _ s[k] w wx h (by omega)
      have hw3 := fun wx (h : Held w (34 :: esc ((bs s).take k) ++ [92]) wx) => write_held _ s[k] w wx h (by rw [List.length_append]; simp at hl ⊢; omega)
      have W1 := Lib.hid hw1
      have W2 := Lib.hid hw2
      have W3 := Lib.hid hw3
      clear hw1 hw2 hw3 hl
      cases b1 : ((s[k].toNat : Int) == 34) with
      | true =>
        rw [b1] at HS
        go_wp2_with fail
        refine (W1.out _ HH.out).mono ?_
        rintro e w2 ⟨rfl, h2⟩
        have H2 := Lib.hid h2
        clear h2
        go_wp2_with fail
        refine (W3.out _ H2.out).mono ?_
        rintro e w3 ⟨rfl, h3⟩
        have H3 := Lib.hid h3
        clear h3
        go_wp2
        go_roundw
        case rel => exact ⟨k + 1, by go_num, by omega, by rw [HS.out]; exact Lib.hid (by simpa using H3.out)⟩
        case measure => simp [intOf]; omega
      | false =>
        cases b2 : ((s[k].toNat : Int) == 92) with
        | true =>
          rw [b1, b2] at HS
          go_wp2_with fail
          refine (W1.out _ HH.out).mono ?_
          rintro e w2 ⟨rfl, h2⟩
          have H2 := Lib.hid h2
          clear h2
          go_wp2_with fail
          refine (W3.out _ H2.out).mono ?_
          rintro e w3 ⟨rfl, h3⟩
          have H3 := Lib.hid h3
          clear h3
          go_wp2
          go_roundw
          case rel => exact ⟨k + 1, by go_num, by omega, by rw [HS.out]; exact Lib.hid (by simpa using H3.out)⟩
          case measure => simp [intOf]; omega
        | false =>
          rw [b1, b2] at HS
          go_wp2_with fail
          refine (W2.out _ HH.out).mono ?_
          rintro e w2 ⟨rfl, h2⟩
          have H2 := Lib.hid h2
          clear h2
          go_wp2
          go_roundw
          case rel => exact ⟨k + 1, by go_num, by omega, by rw [HS.out]; exact Lib.hid (by simpa using H2.out)⟩
          case measure => simp [intOf]; omega
    · obtain rfl : k = s.size := by omega
      have hfull : (bs s).take s.size = bs s := by rw [← bs_len, List.take_length]
      rw [hfull] at HH
      have hl : (34 :: esc (bs s)).length ≤ 3000000 := by
        have := esc_len (bs s)
        rw [bs_len] at this
        simp; omega
      have hw := fun wx (h : Held w (34 :: esc (bs s)) wx) => write_held _ 34 w wx h (by omega)
      have hq : (34 :: esc (bs s) ++ [34] : List UInt8) = quote (bs s) := rfl
      rw [hq] at hw
      have W1 := Lib.hid hw
      clear hw hq hfull hl
      go_wp2_with fail
      refine (W1.out _ HH.out).mono ?_
      rintro e w2 ⟨rfl, h2⟩
      have H2 := Lib.hid h2
      clear h2
      go_wp2_with fail
      refine (string_held _ w _ H2.out).mono ?_
      rintro e w3 ⟨rfl, h3⟩
      have H3 := Lib.hid h3
      clear h3
      go_wp2
      go_ret
      exact ⟨rfl, H3.out⟩

end Go.Proofs.YtffffkfcbjobnaaGreat
