/- quoted, walked. -/
import Derived.Test.YtmkeajeohkdieaaDoorLxJ
import Derived.Lib.BufferRead
import Derived.Laws.IdiomStrings
import Derived.Outline
namespace Go.Proofs.YtmkeajeohkdieaaDoor
open Go.RowKit Lx
set_option linter.unusedSimpArgs false
set_option linter.unusedVariables false

theorem u8_info : (Tryd.prog.info? 5).map (fun i => (i.zero, i.size, i.bytes)) = some (some (.int .u8 0), 1, 1) := by kernel_rfl

theorem own_ge {w : World} {base : Nat} {e : TypeId} {size n g : Nat} {v : Value} {xs : List Value} (h : w.ownsRow base e size v n xs) (hg : v.ownBlock = some g) : base ≤ g := by
  rcases h.2 with ⟨rfl, _⟩ | ⟨g', cap, cur, rfl, hb, _⟩
  · simp [Value.ownBlock] at hg
  · simp [Value.ownBlock] at hg; omega
/-- a slice of bytes of the call's own -/
def OwnB (W wr : World) (v : Value) (l : List UInt8) : Prop :=
  wr.ownsRow W.heap.size 5 1 v l.length (Lib.byteCells l) ∧ Below W.heap.size W wr ∧ W.heap.size ≤ wr.heap.size
theorem OwnB.nil (W : World) : OwnB W W (.slice none 0 0) [] := ⟨World.ownsRow_nil _ _ _ _, Below.refl _ _, Nat.le_refl _⟩
theorem OwnB.form {W wr : World} {v : Value} {l : List UInt8} (h : OwnB W wr v l) : ∃ A c, v = .slice A l.length c := by
  rcases h.1.2 with ⟨rfl, hn⟩ | ⟨g, cap, cur, rfl, _⟩
  · exact ⟨none, 0, by rw [hn]⟩
  · exact ⟨_, _, rfl⟩
theorem OwnB.conv {W wr : World} {A : Option Addr} {c : Nat} {l : List UInt8} (h : OwnB W wr (.slice A l.length c) l) :
    (convert 52 9 (.slice A l.length c)).run Tryd.prog wr = .ok (.string ⟨l.toArray⟩) wr := by
  rcases h.1.2 with ⟨hv, hn⟩ | ⟨g, cap, cur, hv, _, hg, _, _, _, ht⟩
  · injection hv with h1 h2 h3
    subst h1
    have hl : l = [] := List.eq_nil_of_length_eq_zero hn
    subst hl
    exact Lib.run_convert_nil_bytes wr _ _ _ c Tryd.underlying52 Tryd.underlying5 Tryd.underlying9
  · injection hv with h1 h2 h3
    subst h1
    exact run_convert_bytes_back wr _ _ _ _ c l Tryd.underlying52 Tryd.underlying5 Tryd.underlying9 (Lib.bytes_of_row hg (by simpa using ht))

theorem append_u8 {ops : Array Oper} {rest : List Oper} {o : Oper} {a : Act} {Q : Exit → Act → World → Prop} {W wr : World} {v : Value} {l : List UInt8} (hh : Hid (OwnB W wr v l)) (c : UInt8) (hgd : o.guard = none) (s x : Operand)
    (ho : o.op = .call { callee := .builtin .append, args := #[s, x], argTypes := #[52, 52] })
    (hs : a.eval s = v) (hx : a.eval x = .slice (some ⟨wr.heap.size, 0, none⟩) 1 1)
    (hl : l.length ≤ 100000000) (h : ∀ v' w', Hid (OwnB W w' v' (l ++ [c])) → wpList Tryd.prog ops Q rest (a.put o.dst v') w') :
    wpList Tryd.prog ops Q (o :: rest) a (wr.alloc (.cells #[.int .u8 (c.toNat : Int)] 5)) := by
  obtain ⟨h1, h2, h3⟩ := hh.out
  obtain ⟨i0, hi, hz0, hz1, hz2⟩ := info_parts u8_info
  refine wpList_append_own _ hgd s x 52 ho W.heap.size 5 i0 (.int .u8 0) 1 1 Tryd.underlying52 hi hz0 hz1 hz2 rfl (by decide) v l.length (Lib.byteCells l) hs (h1.alloc _) ⟨wr.heap.size, 0, none⟩ 1 1 [.int .u8 (c.toNat : Int)] hx rfl ?_ ?_ (by unfold maxLen; omega) (by omega) (by simp; omega) ?_
  · exact cell_one_new _ _ _
  · intro u hu; simp at hu; subst hu; rfl
  · intro v' w' k1 k2 k3
    refine h v' w' ⟨?_, ?_, ?_⟩
    · rw [List.length_append, ← cells_snoc]; exact k1
    · exact (h2.alloc h3 _).grown k2 (by simp; omega) (fun g hg => own_ge h1 hg)
    · have := k2.size; simp at this; omega


/-- what quoted gives -/
def QuoEnd (W : World) (l : List UInt8) (e : Ending) (w' : World) : Prop :=
  e = .returned (.tuple #[.string ⟨(quoV l).toArray⟩, .int .i64 (quoN l : Nat)]) ∧ Below W.heap.size W w'
theorem quo_empty {W w' : World} {l : List UInt8} (h1 : quoV l = [] ∧ quoN l = 0) (hb : Below W.heap.size W w') : QuoEnd W l (.returned (.tuple #[.string ⟨#[]⟩, .int .i64 0])) w' := by
  unfold QuoEnd
  rw [h1.1, h1.2]
  exact ⟨rfl, hb⟩

theorem quo_full {W w' : World} {l v : List UInt8} {n : Nat} (h1 : quoV l = (if v.length ≤ 400 then v else []) ∧ quoN l = (if v.length ≤ 400 then n + 1 else 0)) (h4 : v.length ≤ 400) (hb : Below W.heap.size W w') :
    QuoEnd W l (.returned (.tuple #[.string ⟨v.toArray⟩, .int .i64 ((n : Int) + 1)])) w' := by
  unfold QuoEnd
  rw [h1.1, h1.2, if_pos h4, if_pos h4]
  exact ⟨rfl, hb⟩
theorem quo_great {W w' : World} {l v : List UInt8} {n : Nat} (h1 : quoV l = (if v.length ≤ 400 then v else []) ∧ quoN l = (if v.length ≤ 400 then n + 1 else 0)) (h4 : ¬ v.length ≤ 400) (hb : Below W.heap.size W w') :
    QuoEnd W l (.returned (.tuple #[.string ⟨#[]⟩, .int .i64 0])) w' := by
  unfold QuoEnd
  rw [h1.1, h1.2, if_neg h4, if_neg h4]
  exact ⟨rfl, hb⟩

set_option maxHeartbeats 4000000 in
theorem quoted_any (s : ByteArray) (w : World) (hs : s.size ≤ 100000) (h0 : 0 < s.size) :
    Calls Tryd.prog 40 #[.string s] w (QuoEnd w (bs s)) := by
  have HQ := Lib.hid (quo_start (bs s))
  have HO := Lib.hid (OwnB.nil w)
  go_enter Tryd.func40, Tryd.ntmps40
  go_wp2_with fail
  go_step3
  go_wp2_with fail
  go_step3
  go_wp2_with fail
  go_loopw [4, 5] (fun v i wr => ∃ (n : Nat) (l : List UInt8), i = .int .i64 n ∧ n ≤ s.size + 1 ∧ Hid (QuoAt (bs s) n l) ∧ Hid (OwnB w wr v l) ∧ l.length ≤ n) (fun _ i _ => s.size + 1 - (intOf i).toNat)
  case atStart => exact ⟨1, [], rfl, by omega, HQ.out, HO.out, by simp⟩
  case round =>
    obtain ⟨n, l, rfl, hn, HA, HB, hl⟩ := hrel
    have hbel := Lib.hid HB.out.2.1
    have hll : l.length ≤ 100000000 := by omega
    by_cases hlt : n < s.size
    · have hg := bs_get s n hlt
      cases hp : plain s[n] with
      | false =>
        have HE := Lib.hid (quo_none HA.out (unq_bad (.inr ⟨_, hg, hp⟩)))
        clear hg
        go_wp2_with (go_at_call 34; refine (plain_any _ _).mono ?_; rintro e w' ⟨rfl, rfl⟩)
        try rw [Exit.noGoto_ret]
        go_ret2
        exact quo_empty HE.out hbel.out
      | true =>
        cases b1 : ((s[n].toNat : Int) == 34) with
        | true =>
          have hq : (bs s)[n]? = some 34 := by
            rw [is_byte s[n] 34 34 rfl] at b1
            rw [hg]; simp at b1; rw [b1]
          have HE := Lib.hid (quo_end HA.out hq)
          clear hg hq
          obtain ⟨A, c, rfl⟩ := HB.out.form
          by_cases h4 : l.length ≤ 400
          · have hcv := HB.out.conv
            go_wp2_with (go_at_call 34; refine (plain_any _ _).mono ?_; rintro e w' ⟨rfl, rfl⟩)
            try rw [Exit.noGoto_ret]
            go_ret2
            exact quo_full HE.out h4 hbel.out
          · go_wp2_with (go_at_call 34; refine (plain_any _ _).mono ?_; rintro e w' ⟨rfl, rfl⟩)
            try rw [Exit.noGoto_ret]
            go_ret2
            exact quo_great HE.out h4 hbel.out
        | false =>
          have hn34 : s[n] ≠ 34 := by
            rw [is_byte s[n] 34 34 rfl] at b1
            simpa using b1
          cases b2 : ((s[n].toNat : Int) == 92) with
          | false =>
            have hn92 : s[n] ≠ 92 := by
              rw [is_byte s[n] 92 92 rfl] at b2
              simpa using b2
            have HN := Lib.hid (quo_plain HA.out hg hn34 hn92 hp)
            have hl1 : (l ++ [s[n]]).length ≤ n + 1 := by simp; omega
            clear hg hn34 hn92
            go_wp2_with (first | (go_at_call 34; refine (plain_any _ _).mono ?_; rintro e w' ⟨rfl, rfl⟩) | (at_builtin; refine append_u8 HB s[n] rfl _ _ rfl rfl rfl hll ?_; intro v' w1 HB1))
            go_roundw
            case rel => exact ⟨n + 1, _, by go_num, by omega, HN.out, HB1.out, hl1⟩
            case measure => simp [intOf]; omega
          | true =>
            have hq : (bs s)[n]? = some 92 := by
              rw [is_byte s[n] 92 92 rfl] at b2
              rw [hg]; simp at b2; rw [b2]
            by_cases hlt1 : n + 1 < s.size
            · have hg1 := bs_get s (n + 1) hlt1
              cases b3 : ((s[n + 1].toNat : Int) == 34) with
              | true =>
                have hd : s[n + 1] = 34 := by rw [is_byte s[n + 1] 34 34 rfl] at b3; simpa using b3
                have HN := Lib.hid (quo_esc HA.out hq hg1 (.inl hd))
                have hl1 : (l ++ [s[n + 1]]).length ≤ n + 2 := by simp; omega
                have b3' : ((s[n + 1].toNat : Int) != 34) = false := by simp at b3 ⊢; exact b3
                clear hg hq hg1 hd
                go_wp2_with (first | (go_at_call 34; refine (plain_any _ _).mono ?_; rintro e w' ⟨rfl, rfl⟩) | (at_builtin; refine append_u8 HB s[n + 1] rfl _ _ rfl rfl rfl hll ?_; intro v' w1 HB1))
                go_roundw
                case rel => exact ⟨n + 2, _, by go_num, by omega, HN.out, HB1.out, hl1⟩
                case measure => simp [intOf]; omega
              | false =>
                have b3' : ((s[n + 1].toNat : Int) != 34) = true := by simp at b3 ⊢; exact b3
                cases b4 : ((s[n + 1].toNat : Int) == 92) with
                | true =>
                  have hd : s[n + 1] = 92 := by rw [is_byte s[n + 1] 92 92 rfl] at b4; simpa using b4
                  have HN := Lib.hid (quo_esc HA.out hq hg1 (.inr hd))
                  have hl1 : (l ++ [s[n + 1]]).length ≤ n + 2 := by simp; omega
                  have b4' : ((s[n + 1].toNat : Int) != 92) = false := by simp at b4 ⊢; exact b4
                  clear hg hq hg1 hd
                  go_wp2_with (first | (go_at_call 34; refine (plain_any _ _).mono ?_; rintro e w' ⟨rfl, rfl⟩) | (at_builtin; refine append_u8 HB s[n + 1] rfl _ _ rfl rfl rfl hll ?_; intro v' w1 HB1))
                  go_roundw
                  case rel => exact ⟨n + 2, _, by go_num, by omega, HN.out, HB1.out, hl1⟩
                  case measure => simp [intOf]; omega
                | false =>
                  have b4' : ((s[n + 1].toNat : Int) != 92) = true := by simp at b4 ⊢; exact b4
                  have HE := Lib.hid (quo_none HA.out (unq_bad_esc hq (.inr ⟨_, hg1, by
                    rw [is_byte s[n + 1] 34 34 rfl] at b3; simpa using b3, by
                    rw [is_byte s[n + 1] 92 92 rfl] at b4; simpa using b4⟩)))
                  clear hg hq hg1
                  go_wp2_with (go_at_call 34; refine (plain_any _ _).mono ?_; rintro e w' ⟨rfl, rfl⟩)
                  try rw [Exit.noGoto_ret]
                  go_ret2
                  exact quo_empty HE.out hbel.out
            · have HE := Lib.hid (quo_none HA.out (unq_bad_esc hq (.inl (List.getElem?_eq_none_iff.2 (by rw [bs_len]; omega)))))
              clear hg hq
              go_wp2_with (go_at_call 34; refine (plain_any _ _).mono ?_; rintro e w' ⟨rfl, rfl⟩)
              try rw [Exit.noGoto_ret]
              go_ret2
              exact quo_empty HE.out hbel.out
    · have HE := Lib.hid (quo_none HA.out (unq_bad (.inl (List.getElem?_eq_none_iff.2 (by rw [bs_len]; omega)))))
      go_wp2
      try rw [Exit.noGoto_ret]
      go_ret2
      exact quo_empty HE.out hbel.out

end Go.Proofs.YtmkeajeohkdieaaDoor
