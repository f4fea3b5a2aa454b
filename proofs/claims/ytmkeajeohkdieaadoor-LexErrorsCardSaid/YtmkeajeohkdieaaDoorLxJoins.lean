/- The statement LexJoins, walked. -/
import Derived.Test.YtmkeajeohkdieaaDoorLxR
import Derived.Outline
namespace Go.Proofs.YtmkeajeohkdieaaDoor
open Go.RowKit Lx
set_option linter.unusedSimpArgs false
set_option linter.unusedVariables false

/-- the tokens of two texts with a line feed between them -/
theorem join_cases (x y : List UInt8) (Ra Rb : Res) (ha : Ra = scan false x 0) (hb : Rb = scan false y 0) :
    (Ra.err ≠ 0 ∧ scan false (x ++ 10 :: y) 0 = ⟨[], Ra.at_, Ra.err⟩ ∧ Ra.toks = []) ∨
    (Ra.err = 0 ∧ Ra.at_ = 0 ∧ Rb.err ≠ 0 ∧ scan false (x ++ 10 :: y) 0 = ⟨[], x.length + 1 + Rb.at_, Rb.err⟩ ∧ Rb.toks = []) ∨
    (Ra.err = 0 ∧ Ra.at_ = 0 ∧ Rb.err = 0 ∧ Rb.at_ = 0 ∧ scan false (x ++ 10 :: y) 0 = ⟨Ra.toks ++ Rb.toks.map (Tok.up (x.length + 1)), 0, 0⟩) := by
  subst ha; subst hb
  have hj := scan_join y false x 0
  have hsh := scan_shift (x.length + 1) false y 0
  by_cases h1 : (scan false x 0).err = 0
  · rw [if_pos h1, show 0 + x.length + 1 = 0 + (x.length + 1) by omega, hsh] at hj
    have h0 := scan_ok_at false x 0 h1
    by_cases h2 : (scan false y 0).err = 0
    · have h3 := scan_ok_at false y 0 h2
      refine .inr (.inr ⟨h1, h0, h2, h3, ?_⟩)
      rw [hj]
      simp [pre, shiftR, h2, h3]
    · have h3 := scan_none h2
      refine .inr (.inl ⟨h1, h0, h2, ?_, h3⟩)
      rw [hj]
      simp [pre, shiftR, h2, h3]; omega
  · have h3 := scan_none h1
    refine .inl ⟨h1, ?_, h3⟩
    rw [hj, if_neg h1]
    rw [← h3]

theorem box_quiet (w : World) (o : Obj) (n : Nat) : Below w.heap.size w ((w.alloc o).drewN n) := below_drewN ((Below.refl _ _).alloc (Nat.le_refl _) _) n
/-- the tokens of a short text stand at its beginning -/
theorem good_pos : ∀ (ts : List Tok) (cm : Bool) (l : List UInt8) (p : Nat), Lx.Good cm l p ts → ∀ t ∈ ts, t.pos ≤ p + l.length := by
  intro ts
  induction ts with
  | nil => intro cm l p _ t ht; simp at ht
  | cons t ts ih =>
    intro cm l p h u hu
    obtain ⟨g, rest, h1, _, h3, h4, h5, _, h7⟩ := h
    have hlen : l.length = g + (src t).length + rest.length := by
      have := congrArg List.length h4
      simp at this; omega
    rw [List.mem_cons] at hu
    rcases hu with rfl | hu
    · omega
    · have := ih _ _ _ h7 u hu; omega

set_option maxRecDepth 100000 in
set_option maxHeartbeats 8000000 in
theorem joins_any (s1 s2 : ByteArray) (w : World) (hs1 : s1.size ≤ 9223372036854775807) (hs2 : s2.size ≤ 9223372036854775807) (hsg : Signs w) :
    Calls Tryd.prog 5 #[.string s1, .string s2] w fun e w' => e = .returned (.bool true) ∧ Way w w' := by
  obtain ⟨x, hx⟩ : ∃ t : ByteArray, t = ⟨((bs s1).take 900).toArray⟩ := ⟨_, rfl⟩
  obtain ⟨y, hy⟩ : ∃ t : ByteArray, t = ⟨((bs s2).take 900).toArray⟩ := ⟨_, rfl⟩
  have hcut1 := fun w => cut_any s1 w hs1
  have hcut2 := fun w => cut_any s2 w hs2
  rw [← hx] at hcut1
  rw [← hy] at hcut2
  have hsx : x.size ≤ 900 := by rw [hx, size_mk', List.length_take]; omega
  have hsy : y.size ≤ 900 := by rw [hy, size_mk', List.length_take]; omega
  clear hx hy hs1 hs2
  obtain ⟨Ra, hRa⟩ : ∃ R, R = scan false (bs x) 0 := ⟨_, rfl⟩
  obtain ⟨Rb, hRb⟩ : ∃ R, R = scan false (bs y) 0 := ⟨_, rfl⟩
  obtain ⟨Rc, hRc⟩ : ∃ R, R = scan false (bs x ++ 10 :: bs y) 0 := ⟨_, rfl⟩
  have h10 : (⟨#[10]⟩ : ByteArray).size = 1 := rfl
  have hbc : bs (x ++ ⟨#[10]⟩ ++ y) = bs x ++ 10 :: bs y := by rw [bs_append, bs_append]; show bs x ++ [10] ++ bs y = _; simp
  have hs1 := fun w h => scan_call x Ra hRa (by omega) w h
  have hs2 := fun w h => scan_call y Rb hRb (by omega) w h
  have hs3 := fun w h => scan_call (x ++ ⟨#[10]⟩ ++ y) Rc (by rw [hbc]; exact hRc) (by simp only [ByteArray.size_append, h10]; omega) w h
  have hjc := join_cases (bs x) (bs y) Ra Rb hRa hRb
  have hca : Ra.err = 0 → Ra.toks.length ≤ 900 := fun h => by
    have := (scan_short (l := bs x) (by rw [← hRa]; exact h)).1
    rw [← hRa, bs_len] at this; omega
  have hcb : Rb.err = 0 → Rb.toks.length ≤ 900 := fun h => by
    have := (scan_short (l := bs y) (by rw [← hRb]; exact h)).1
    rw [← hRb, bs_len] at this; omega
  have hbp : Rb.err = 0 → ∀ q ∈ Rb.toks, q.pos ≤ 900 := fun h q hq => by
    have := good_pos _ _ _ _ (scan_good false (bs y) 0 (by rw [← hRb]; exact h)).1
    rw [← hRb] at this
    have := this q hq
    rw [bs_len] at this; omega
  have hba : Rb.err ≠ 0 → Rb.at_ ≤ 900 := fun h => by
    obtain ⟨d, d1, d2, _⟩ := scan_fails false (bs y) 0 (by rw [← hRb]; exact h)
    rw [← hRb] at d2
    rw [bs_len] at d1; omega
  rw [bs_len, ← hRc] at hjc
  have HC1 := Lib.hid hcut1
  have HC2 := Lib.hid hcut2
  have HS1 := Lib.hid hs1
  have HS2 := Lib.hid hs2
  have HS3 := Lib.hid hs3
  have W0 := Lib.hid (Way.refl hsg)
  clear hcut1 hcut2 hs1 hs2 hs3 hsg hbc hRa hRb hRc
  obtain ⟨tas, ata, ea⟩ := Ra
  obtain ⟨tbs, atb, eb⟩ := Rb
  obtain ⟨tcs, atc, ec⟩ := Rc
  simp only at hjc hca hcb hba hbp
  rcases hjc with ⟨e1, e2, e3⟩ | ⟨e1, e0, e2, e3, e4⟩ | ⟨e1, e0, e2, e3, e4⟩
  · injection e2 with g1 g2 g3
    have he' : (ea != 0) = true := by simp [e1]
    subst g1; subst g2; subst g3; subst e3
    clear e1 hca hcb hba hbp
    go_enter Tryd.func5, Tryd.ntmps5
    go_wp2_with fail
    refine (sane_any _ W0.out.signs).mono ?_
    rintro e w1 ⟨rfl, hw⟩
    have W1 := Lib.hid hw
    clear hw W0
    go_wp2_with fail
    refine (HC1.out _).mono ?_
    rintro e w' ⟨rfl, rfl⟩
    go_wp2_with fail
    refine (HC2.out _).mono ?_
    rintro e w' ⟨rfl, rfl⟩
    go_wp2_with fail
    refine (HS1.out _ W1.out.signs).mono ?_
    rintro e w2 ⟨A2, c2, rfl, ho⟩
    have W2 := Lib.hid (W1.out.step ho.2.1)
    have HA2 := Lib.hid (show Have w2 A2 _ from ho.toks)
    clear ho W1
    go_wp2_with fail
    refine (HS2.out _ W2.out.signs).mono ?_
    rintro e w3 ⟨A3, c3, rfl, ho⟩
    have W3 := Lib.hid (W2.out.step ho.2.1)
    have HA3 := Lib.hid (HA2.out.step ho.2.1)
    have HB3 := Lib.hid (show Have w3 A3 _ from ho.toks)
    clear ho W2 HA2
    go_wp2_with fail
    refine (HS3.out _ W3.out.signs).mono ?_
    rintro e w4 ⟨A4, c4, rfl, ho⟩
    have W4 := Lib.hid (W3.out.step ho.2.1)
    have HA4 := Lib.hid (HA3.out.step ho.2.1)
    have HB4 := Lib.hid (HB3.out.step ho.2.1)
    have HC4 := Lib.hid (show Have w4 A4 _ from ho.toks)
    clear ho W3 HA3 HB3
    go_wp2_with fail
    go_ret
    exact ⟨rfl, W4.out⟩
  · injection e3 with g1 g2 g3
    have hq : ((atc : Int) == (x.size : Int) + 1 + atb) = true := by simp; omega
    have he' : (eb != 0) = true := by simp [e2]
    have hab := hba e2
    subst g1; subst g3; subst e4; subst e1; subst e0
    clear g2
    clear e2 hca hcb hba hbp
    go_enter Tryd.func5, Tryd.ntmps5
    go_wp2_with fail
    refine (sane_any _ W0.out.signs).mono ?_
    rintro e w1 ⟨rfl, hw⟩
    have W1 := Lib.hid hw
    clear hw W0
    go_wp2_with fail
    refine (HC1.out _).mono ?_
    rintro e w' ⟨rfl, rfl⟩
    go_wp2_with fail
    refine (HC2.out _).mono ?_
    rintro e w' ⟨rfl, rfl⟩
    go_wp2_with fail
    refine (HS1.out _ W1.out.signs).mono ?_
    rintro e w2 ⟨A2, c2, rfl, ho⟩
    have W2 := Lib.hid (W1.out.step ho.2.1)
    have HA2 := Lib.hid (show Have w2 A2 _ from ho.toks)
    clear ho W1
    go_wp2_with fail
    refine (HS2.out _ W2.out.signs).mono ?_
    rintro e w3 ⟨A3, c3, rfl, ho⟩
    have W3 := Lib.hid (W2.out.step ho.2.1)
    have HA3 := Lib.hid (HA2.out.step ho.2.1)
    have HB3 := Lib.hid (show Have w3 A3 _ from ho.toks)
    clear ho W2 HA2
    go_wp2_with fail
    refine (HS3.out _ W3.out.signs).mono ?_
    rintro e w4 ⟨A4, c4, rfl, ho⟩
    have W4 := Lib.hid (W3.out.step ho.2.1)
    have HA4 := Lib.hid (HA3.out.step ho.2.1)
    have HB4 := Lib.hid (HB3.out.step ho.2.1)
    have HC4 := Lib.hid (show Have w4 A4 _ from ho.toks)
    clear ho W3 HA3 HB3
    go_wp2_with fail
    go_ret
    exact ⟨rfl, W4.out⟩
  · injection e4 with g1 g2 g3
    subst g2; subst g3; subst e1; subst e0; subst e2; subst e3
    have hla := hca rfl
    have hlb := hcb rfl
    have HBP := Lib.hid (hbp rfl)
    have hlc : tcs.length = tas.length + tbs.length := by rw [g1]; simp
    have hlc' : ((tcs.length : Int) != (tas.length : Int) + tbs.length) = false := by simp; omega
    have HG := Lib.hid g1
    clear g1 hca hcb hba hbp
    go_enter Tryd.func5, Tryd.ntmps5
    go_wp2_with fail
    refine (sane_any _ W0.out.signs).mono ?_
    rintro e w1 ⟨rfl, hw⟩
    have W1 := Lib.hid hw
    clear hw W0
    go_wp2_with fail
    refine (HC1.out _).mono ?_
    rintro e w' ⟨rfl, rfl⟩
    go_wp2_with fail
    refine (HC2.out _).mono ?_
    rintro e w' ⟨rfl, rfl⟩
    go_wp2_with fail
    refine (HS1.out _ W1.out.signs).mono ?_
    rintro e w2 ⟨A2, c2, rfl, ho⟩
    have W2 := Lib.hid (W1.out.step ho.2.1)
    have HA2 := Lib.hid (show Have w2 A2 _ from ho.toks)
    clear ho W1
    go_wp2_with fail
    refine (HS2.out _ W2.out.signs).mono ?_
    rintro e w3 ⟨A3, c3, rfl, ho⟩
    have W3 := Lib.hid (W2.out.step ho.2.1)
    have HA3 := Lib.hid (HA2.out.step ho.2.1)
    have HB3 := Lib.hid (show Have w3 A3 _ from ho.toks)
    clear ho W2 HA2
    go_wp2_with fail
    refine (HS3.out _ W3.out.signs).mono ?_
    rintro e w4 ⟨A4, c4, rfl, ho⟩
    have W4 := Lib.hid (W3.out.step ho.2.1)
    have HA4 := Lib.hid (HA3.out.step ho.2.1)
    have HB4 := Lib.hid (HB3.out.step ho.2.1)
    have HC4 := Lib.hid (show Have w4 A4 _ from ho.toks)
    clear ho W3 HA3 HB3
    have HLC := Lib.hid hlc
    clear hlc
    go_wp2_with fail
    go_loopw [17] (fun i wr => ∃ k : Nat, i = .int .i64 k ∧ k ≤ tcs.length ∧ Hid (Way w wr) ∧ Hid (Have wr A2 tas) ∧ Hid (Have wr A3 tbs) ∧ Hid (Have wr A4 tcs)) (fun i _ => tcs.length - (intOf i).toNat)
    case atStart => exact ⟨0, rfl, by omega, W4.out, HA4.out, HB4.out, HC4.out⟩
    case round =>
      obtain ⟨k, rfl, hk, HW, HA, HB, HC⟩ := hrel
      by_cases hlt : k < tcs.length
      · obtain ⟨z, hz⟩ : ∃ z, tcs[k]? = some z := ⟨_, List.getElem?_eq_getElem hlt⟩
        obtain ⟨bc, oc, rfl, hbc, hcc⟩ := RowOf.open_ HC.out (by simp; omega)
        obtain ⟨c0, c1, c2', c3⟩ := Toks.cell hcc (i := k) (r := raw z) (by rw [List.getElem?_map, hz]; rfl)
        have hz2 := hz
        rw [HG.out] at hz2
        by_cases hka : k < tas.length
        · rw [List.getElem?_append_left hka] at hz2
          obtain ⟨ba, oa, rfl, hba, hca⟩ := RowOf.open_ HA.out (by simp; omega)
          obtain ⟨d0, d1, d2, d3⟩ := Toks.cell hca (i := k) (r := raw z) (by rw [List.getElem?_map, hz2]; rfl)
          simp only [raw] at c0 c1 c2' c3 d0 d1 d2 d3
          have htn := tok_neq_same (raw z)
          simp only [raw] at htn
          have h0 : (0 : Int) ≤ k := by omega
          have hlt' : (k : Int) < tcs.length := by omega
          have hka' : decide ((k : Int) < tas.length) = true := by simpa using hka
          clear hcc hca hz hz2
          go_wp2_with fail
          go_quiet (fail)
          go_wp2
          go_roundw
          case rel => exact ⟨k + 1, by go_num, by omega, HW.out.step (box_quiet _ _ _), HA.out.step (box_quiet _ _ _), HB.out.step (box_quiet _ _ _), HC.out.step (box_quiet _ _ _)⟩
          case measure => simp [intOf]; omega
        · obtain ⟨j, rfl⟩ : ∃ j, k = tas.length + j := ⟨k - tas.length, by omega⟩
          have hj : j < tbs.length := by have := HLC.out; omega
          obtain ⟨q, hq⟩ : ∃ q, tbs[j]? = some q := ⟨_, List.getElem?_eq_getElem hj⟩
          rw [List.getElem?_append_right (by omega), List.getElem?_map, show tas.length + j - tas.length = j by omega, hq] at hz2
          simp only [Option.map_some, Option.some.injEq] at hz2
          subst hz2
          obtain ⟨bb, ob, rfl, hbb, hcb⟩ := RowOf.open_ HB.out (by simp; omega)
          obtain ⟨d0, d1, d2, d3⟩ := Toks.cell hcb (i := j) (r := raw q) (by rw [List.getElem?_map, hq]; rfl)
          have hpos : ((Tok.up (x.size + 1) q).pos : Int) = (q.pos : Int) + x.size + 1 := by show ((q.pos + (x.size + 1) : Nat) : Int) = _; omega
          simp only [raw, hpos] at c0 c1 c2' c3 d0 d1 d2 d3
          simp only [Tok.up] at c0 c1 c2'
          have hqp : q.pos ≤ 900 := HBP.out q (List.mem_of_getElem? hq)
          have htn := tok_neq_same ⟨q.kind, ⟨q.text.toArray⟩, q.n, (q.pos : Int) + x.size + 1⟩
          simp only at htn
          have h0 : (0 : Int) ≤ (tas.length : Int) + j := by omega
          have hlt' : (tas.length : Int) + j < tcs.length := by omega
          have hka' : decide ((tas.length : Int) + j < tas.length) = false := decide_eq_false (by omega)
          clear hcc hcb hz hq hpos
          go_wp2_with fail
          go_quiet (fail)
          go_wp2
          go_roundw
          case rel => exact ⟨tas.length + j + 1, by go_num, by omega, HW.out.step (box_quiet _ _ _), HA.out.step (box_quiet _ _ _), HB.out.step (box_quiet _ _ _), HC.out.step (box_quiet _ _ _)⟩
          case measure => simp [intOf]; omega
      · go_wp2
        go_ret
        exact ⟨rfl, HW.out⟩

end Go.Proofs.YtmkeajeohkdieaaDoor
