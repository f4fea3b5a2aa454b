/- next: signs, walked; all of next. -/
import Derived.Test.YtmkeajeohkdieaaDoorLxL
import Derived.Laws.Rows
import Derived.Outline
namespace Go.Proofs.YtmkeajeohkdieaaDoor
open Go.RowKit Lx
set_option linter.unusedSimpArgs false
set_option linter.unusedVariables false

def signCells : Array Value := #[.int .u8 40, .int .u8 41, .int .u8 44, .int .u8 59, .int .u8 58, .int .u8 61, .int .u8 60, .int .u8 43, .int .u8 45, .int .u8 42, .int .u8 46, .int .u8 123, .int .u8 125]
/-- the table of signs lies where the program's text lays it -/
def Signs (w : World) : Prop := ∃ T fr, w.heap[0]? = some (.cells signCells T fr)
theorem Signs.pos {w : World} (h : Signs w) : 0 < w.heap.size := by
  obtain ⟨T, fr, h⟩ := h
  exact (Array.getElem?_eq_some_iff.1 h).1
theorem Signs.below {B : Nat} {w w' : World} (h : Signs w) (hb : Below B w w') (hB : 0 < B) : Signs w' := by
  obtain ⟨T, fr, h⟩ := h
  exact ⟨T, fr, (hb.block _ hB).trans h⟩
theorem sign_index (k : Nat) (hk : k < 13) (w : World) : (Instr.index 50 (.agg signCells) (.int .i64 k)).run Tryd.prog w = .ok (.int .u8 ((signs[k]'hk).toNat : Int)) w := by
  have h0 : (Instr.index 50 (.agg signCells) (.int .i64 (0 : Nat))).run Tryd.prog w = .ok (.int .u8 40) w := by kernel_rfl
  have h1 : (Instr.index 50 (.agg signCells) (.int .i64 (1 : Nat))).run Tryd.prog w = .ok (.int .u8 41) w := by kernel_rfl
  have h2 : (Instr.index 50 (.agg signCells) (.int .i64 (2 : Nat))).run Tryd.prog w = .ok (.int .u8 44) w := by kernel_rfl
  have h3 : (Instr.index 50 (.agg signCells) (.int .i64 (3 : Nat))).run Tryd.prog w = .ok (.int .u8 59) w := by kernel_rfl
  have h4 : (Instr.index 50 (.agg signCells) (.int .i64 (4 : Nat))).run Tryd.prog w = .ok (.int .u8 58) w := by kernel_rfl
  have h5 : (Instr.index 50 (.agg signCells) (.int .i64 (5 : Nat))).run Tryd.prog w = .ok (.int .u8 61) w := by kernel_rfl
  have h6 : (Instr.index 50 (.agg signCells) (.int .i64 (6 : Nat))).run Tryd.prog w = .ok (.int .u8 60) w := by kernel_rfl
  have h7 : (Instr.index 50 (.agg signCells) (.int .i64 (7 : Nat))).run Tryd.prog w = .ok (.int .u8 43) w := by kernel_rfl
  have h8 : (Instr.index 50 (.agg signCells) (.int .i64 (8 : Nat))).run Tryd.prog w = .ok (.int .u8 45) w := by kernel_rfl
  have h9 : (Instr.index 50 (.agg signCells) (.int .i64 (9 : Nat))).run Tryd.prog w = .ok (.int .u8 42) w := by kernel_rfl
  have h10 : (Instr.index 50 (.agg signCells) (.int .i64 (10 : Nat))).run Tryd.prog w = .ok (.int .u8 46) w := by kernel_rfl
  have h11 : (Instr.index 50 (.agg signCells) (.int .i64 (11 : Nat))).run Tryd.prog w = .ok (.int .u8 123) w := by kernel_rfl
  have h12 : (Instr.index 50 (.agg signCells) (.int .i64 (12 : Nat))).run Tryd.prog w = .ok (.int .u8 125) w := by kernel_rfl
  match k, hk with
  | 0, _ => exact h0
  | 1, _ => exact h1
  | 2, _ => exact h2
  | 3, _ => exact h3
  | 4, _ => exact h4
  | 5, _ => exact h5
  | 6, _ => exact h6
  | 7, _ => exact h7
  | 8, _ => exact h8
  | 9, _ => exact h9
  | 10, _ => exact h10
  | 11, _ => exact h11
  | 12, _ => exact h12

theorem sign_size : (Tryd.prog.info? 50).map (·.size) = some signCells.size := by kernel_rfl

set_option maxHeartbeats 4000000 in
theorem next_other (s : ByteArray) (c : UInt8) (r : List UInt8) (w : World) (hs : s.size ≤ 100000) (hb : bs s = c :: r) (hl : letter c = false) (hd : digit c = false) (hq : ¬ c = 34) (hsg : Signs w) :
    Calls Tryd.prog 26 #[.string s] w (NextEnd w (next c r)) := by
  have hlen := bs_len s
  have hpos : 0 < s.size := by rw [← hlen, hb]; simp
  have hc : s[0] = c := by
    have := bs_get s 0 hpos
    rw [hb] at this
    simpa using this.symm
  subst hc
  have hx : next s[0] r = if sign s[0] then (0, ⟨3, [s[0]], 0, 0⟩, 1) else (20, ⟨0, [], 0, 0⟩, 0) := by
    unfold next
    rw [if_neg (by rw [hl]; decide), if_neg (by rw [hd]; decide), if_neg (by simpa using hq)]
  generalize next s[0] r = x at *
  have HX := Lib.hid hx
  have hb34 : ((s[0].toNat : Int) == 34) = false := by rw [is_byte s[0] 34 34 rfl]; simpa using hq
  have h1 : s.extract 0 1 = ⟨[s[0]].toArray⟩ := by
    rw [← str_of_bs (s.extract 0 1), bs_upto, hb]; rfl
  have H1 := Lib.hid h1
  clear hx hb hlen hq h1
  have hsa : Signs (w.alloc (.cells #[.int .i64 0, .string ⟨#[]⟩, .int .i64 0, .int .i64 0] 32)) := hsg.below ((Below.refl w.heap.size w).alloc (Nat.le_refl _) _) hsg.pos
  obtain ⟨T, fr, hg⟩ := hsa
  have HG := Lib.hid hg
  clear hg hsg
  go_enter Tryd.func26, Tryd.ntmps26
  go_wp2_with (first | (go_at_call 36; refine (letter_any _ _).mono ?_; rintro e w' ⟨rfl, rfl⟩) | (go_at_call 32; refine (digit_any _ _).mono ?_; rintro e w' ⟨rfl, rfl⟩) | (refine wpList_load_row rfl 50 _ rfl 0 rfl T signCells fr _ HG.out Tryd.underlying50 rfl sign_size ?_))
  have hnt : True := trivial
  go_loop [66] (fun i => ∃ k : Nat, i = .int .i64 k ∧ k ≤ 13 ∧ Hid (∀ j d, j < k → signs[j]? = some d → d ≠ s[0])) (fun i => 13 - (intOf i).toNat)
  case atStart => exact ⟨0, rfl, by omega, fun j d h => by omega⟩
  case round =>
    obtain ⟨k, rfl, hk, HN⟩ := hrel
    by_cases hlt : k < 13
    · obtain ⟨d, hdk⟩ : ∃ d, signs[k]? = some d := ⟨_, List.getElem?_eq_getElem hlt⟩
      have hidx : ∀ w, (Instr.index 50 (.agg signCells) (.int .i64 k)).run Tryd.prog w = .ok (.int .u8 (d.toNat : Int)) w := by
        intro w
        rw [List.getElem?_eq_getElem hlt] at hdk
        injection hdk with hdk
        rw [sign_index k hlt w, hdk]
      have HD := Lib.hid hdk
      clear hdk
      cases hcd : ((s[0].toNat : Int) == (d.toNat : Int)) with
      | true =>
        have heq : d = s[0] := by
          rw [is_byte s[0] d _ rfl] at hcd
          simpa using (by simpa using hcd : s[0] = d).symm
        have hy : sign s[0] = true := by
          unfold sign
          rw [List.contains_iff_mem]
          rw [← heq]
          exact List.mem_of_getElem? HD.out
        have HY := Lib.hid hy
        clear heq hy
        go_wp2
        refine bodyPost_ret (v := .tuple #[.agg #[.int .i64 3, .string (s.extract 0 1), .int .i64 0, .int .i64 0], .int .i64 1, .int .i64 0]) (by simp [results, Tryd.results26, go_sem]) rfl ⟨?_, ?_⟩
        · rw [HX.out, if_pos HY.out, H1.out]; rfl
        · exact (Below.refl _ _).alloc (Nat.le_refl _) _
      | false =>
        have hne : d ≠ s[0] := by
          intro e
          rw [is_byte s[0] d _ rfl] at hcd
          rw [e] at hcd; simp at hcd
        have HN' := Lib.hid (show ∀ j d', j < k + 1 → signs[j]? = some d' → d' ≠ s[0] from fun j d' hj he => by
          by_cases hjk : j = k
          · subst hjk
            have := HD.out
            rw [he] at this
            injection this with this
            subst this
            exact hne
          · exact HN.out j d' (by omega) he)
        clear hne
        go_wp2
        go_round
        case rel => exact ⟨k + 1, by go_num, by omega, HN'.out⟩
        case measure => simp [intOf]; omega
    · have hno : sign s[0] = false := by
        cases h : sign s[0] with
        | false => rfl
        | true =>
          exfalso
          unfold sign at h
          rw [List.contains_iff_mem] at h
          obtain ⟨j, hj⟩ := List.mem_iff_getElem?.1 h
          have hl13 : j < 13 := (List.getElem?_eq_some_iff.1 hj).1
          exact HN.out j _ (by omega) hj rfl
      have HY := Lib.hid hno
      clear hno
      go_wp2
      refine bodyPost_ret (v := .tuple #[.agg #[.int .i64 0, .string ⟨#[]⟩, .int .i64 0, .int .i64 0], .int .i64 0, .int .i64 20]) (by simp [results, Tryd.results26, go_sem]) rfl ⟨?_, ?_⟩
      · rw [HX.out, if_neg (by rw [HY.out]; decide)]; rfl
      · exact (Below.refl _ _).alloc (Nat.le_refl _) _

theorem next_any (s : ByteArray) (c : UInt8) (r : List UInt8) (w : World) (hs : s.size ≤ 100000) (hb : bs s = c :: r) (hsg : Signs w) :
    Calls Tryd.prog 26 #[.string s] w (NextEnd w (next c r)) := by
  cases hl : letter c with
  | true => exact next_letter s c r w hs hb hl
  | false =>
    cases hd : digit c with
    | true => exact next_digit s c r w hs hb hd
    | false =>
      by_cases hq : c = 34
      · exact next_quote s c r w hs hb hq
      · exact next_other s c r w hs hb hl hd hq hsg

end Go.Proofs.YtmkeajeohkdieaaDoor
