/- The statement LexBack, walked. -/
import Derived.Test.YtmkeajeohkdieaaDoorLxQ
import Derived.Outline
namespace Go.Proofs.YtmkeajeohkdieaaDoor
open Go.RowKit Lx
set_option linter.unusedSimpArgs false
set_option linter.unusedVariables false

theorem tok_count : ∀ (ts : List Tok) (cm : Bool) (l : List UInt8) (p : Nat), Lx.Good cm l p ts → ts.length ≤ l.length := by
  intro ts
  induction ts with
  | nil => intro cm l p _; simp
  | cons t ts ih =>
    intro cm l p h
    obtain ⟨g, rest, _, _, h3, h4, h5, _, h7⟩ := h
    have hlen : l.length = g + (src t).length + rest.length := by
      have := congrArg List.length h4
      simp at this; omega
    have hpos : 1 ≤ (src t).length := List.length_pos_iff.2 h5
    have := ih _ _ _ h7
    simp; omega
theorem valid_short {t : Tok} (h : validTok t) : t.text.length ≤ 100000 := by
  rcases h with ⟨_, h, _⟩ | ⟨_, h, _⟩ | ⟨_, h, _⟩ | ⟨_, ⟨c, _, h⟩, _⟩
  · cases ht : t.text with
    | nil => simp
    | cons c r => rw [ht, nameOk_eq] at h; simp only [Bool.and_eq_true, decide_eq_true_eq] at h; omega
  · cases ht : t.text with
    | nil => simp
    | cons c r => rw [ht] at h; have := num_short h; omega
  · unfold valueOk at h; simp only [Bool.and_eq_true, decide_eq_true_eq] at h; omega
  · rw [h]; simp
/-- the tokens of a short text: there are few, and they are short -/
theorem scan_short {l : List UInt8} (h : (scan false l 0).err = 0) : (scan false l 0).toks.length ≤ l.length ∧ ∀ t ∈ (scan false l 0).toks, t.text.length ≤ 100000 := by
  obtain ⟨h1, h2⟩ := scan_good false l 0 h
  exact ⟨tok_count _ _ _ _ h1, fun t ht => valid_short (h2 t ht)⟩
theorem scan_none {l : List UInt8} (h : (scan false l 0).err ≠ 0) : (scan false l 0).toks = [] := by
  obtain ⟨d, _, _, h3, _⟩ := scan_fails false l 0 h
  exact h3
theorem like_len : ∀ (a b : List Tok), like a b → a.length = b.length := by
  intro a
  induction a with
  | nil => intro b h; cases b with
    | nil => rfl
    | cons _ _ => exact h.elim
  | cons t ts ih =>
    intro b h
    match b, h with
    | [], h => exact h.elim
    | u :: us, ⟨_, _, _, h4⟩ => simp [ih us h4]
theorem like_at : ∀ (a b : List Tok), like a b → ∀ (i : Nat) r q, (a.map raw)[i]? = some r → (b.map raw)[i]? = some q → RLike r q := by
  intro a
  induction a with
  | nil => intro b h i r q hr; simp at hr
  | cons t ts ih =>
    intro b h i r q hr hq
    match b, h with
    | [], h => exact h.elim
    | u :: us, ⟨h1, h2, h3, h4⟩ =>
      match i with
      | 0 =>
        simp at hr hq
        subst hr; subst hq
        exact ⟨h1, by show (⟨t.text.toArray⟩ : ByteArray) = ⟨u.text.toArray⟩; rw [h2], h3⟩
      | i + 1 => exact ih us h4 i r q (by simpa using hr) (by simpa using hq)
theorem like_at_call (A B : Option Addr) (c d : Nat) (ts us : List Tok) (w : World) (ha : Have w A ts) (hb : Have w B us) (h : like ts us) (hl : ts.length ≤ 4611686018427387904) :
    Calls Tryd.prog 13 #[.slice A ts.length c, .slice B us.length d] w fun e w' => e = .returned (.bool true) ∧ Quietly w w' := by
  have := like_yes A B c d (ts.map raw) (us.map raw) w ha hb (by simpa using hl) (by simpa using like_len ts us h) (like_at ts us h)
  rw [List.length_map, List.length_map] at this
  exact this

theorem scanR_short {l : List UInt8} (h : l.length ≤ 20000) : scanR l = scan false l 0 := by unfold scanR; rw [if_neg (by omega)]
theorem scan_call (s : ByteArray) (R : Res) (h : R = scan false (bs s) 0) (hs : s.size ≤ 20000) (w : World) (hsg : Signs w) :
    Calls Tryd.prog 10 #[.string s] w (ScanEnd w R) := by
  rw [h, ← scanR_short (by rw [bs_len]; exact hs)]
  exact scan_any s w (by omega) hsg

theorem bs_mk (l : List UInt8) : bs ⟨l.toArray⟩ = l := rfl
theorem size_mk' (l : List UInt8) : (⟨l.toArray⟩ : ByteArray).size = l.length := by rw [← bs_len]; rfl

set_option maxHeartbeats 2000000 in
theorem back_any (s : ByteArray) (w : World) (hs : s.size ≤ 9223372036854775807) (hsg : Signs w) :
    Calls Tryd.prog 3 #[.string s] w fun e w' => e = .returned (.bool true) ∧ Way w w' := by
  obtain ⟨t, ht⟩ : ∃ t : ByteArray, t = ⟨((bs s).take 900).toArray⟩ := ⟨_, rfl⟩
  have hcut := fun w => cut_any s w hs
  rw [← ht] at hcut
  have hsz : t.size ≤ 900 := by rw [ht, size_mk', List.length_take]; omega
  have hlb : (bs t).length ≤ 900 := by rw [bs_len]; exact hsz
  clear ht hs
  have HC := Lib.hid hcut
  obtain ⟨R, hR⟩ : ∃ R, R = scan false (bs t) 0 := ⟨_, rfl⟩
  have hscan := fun w h => scan_call t R hR (by omega) w h
  have HS := Lib.hid hscan
  clear hcut hscan
  by_cases he : R.err = 0
  · have hsh := scan_short (l := bs t) (by rw [← hR]; exact he)
    have hat := scan_ok_at false (bs t) 0 (by rw [← hR]; exact he)
    obtain ⟨hg, hv⟩ := scan_good false (bs t) 0 (by rw [← hR]; exact he)
    have hpl := print_len _ _ _ _ hg
    rw [← hR] at hsh hat hv hpl
    obtain ⟨p1, p2⟩ := scan_print R.toks hv 0
    obtain ⟨hs1, hs2⟩ := hsh
    have hpe := print_like _ _ p2
    obtain ⟨u, hu⟩ : ∃ u : ByteArray, u = ⟨(printL R.toks).toArray⟩ := ⟨_, rfl⟩
    have hus : u.size ≤ 1800 := by rw [hu, size_mk']; omega
    have hprint := fun wx A c (ha : Have wx A R.toks) (hc : R.toks.length ≤ c) => print_at A c R.toks R.toks.length wx ha rfl hc (by omega) hs2 _ rfl
    obtain ⟨R2, hR2⟩ : ∃ R2, R2 = scan false (printL R.toks) 0 := ⟨_, rfl⟩
    rw [← hR2] at p1 p2 hpe
    have hsh2 := scan_short (l := printL R.toks) (by rw [← hR2]; exact p1)
    rw [← hR2] at hsh2
    obtain ⟨hs3, hs4⟩ := hsh2
    have hprint2 := fun wx A c (ha : Have wx A R2.toks) (hc : R2.toks.length ≤ c) => print_at A c R2.toks R2.toks.length wx ha rfl hc (by omega) hs4 _ hpe.symm
    have hlike := fun wx A B c d (ha : Have wx A R.toks) (hb : Have wx B R2.toks) => like_at_call A B c d R.toks R2.toks wx ha hb p2 (by omega)
    rw [← hu] at hprint hprint2
    have hscan2 := fun w h => scan_call u R2 (by rw [hR2, hu]; rfl) (by omega) w h
    have HP := Lib.hid hprint
    have HP2 := Lib.hid hprint2
    have HL := Lib.hid hlike
    have HS2 := Lib.hid hscan2
    have W0 := Lib.hid (Way.refl hsg)
    clear hprint hprint2 hlike hscan2 hg hv hpl hs1 hs2 hs3 hs4 hpe hu hus hR hR2 hat hsg p2 hlb hsz
    obtain ⟨ts, at1, e1⟩ := R
    obtain ⟨us, at2, e2⟩ := R2
    simp only at he p1 HP HP2 HL
    subst he; subst p1
    go_enter Tryd.func3, Tryd.ntmps3
    go_wp2_with fail
    refine (sane_any _ W0.out.signs).mono ?_
    rintro e w1 ⟨rfl, hw⟩
    have W1 := Lib.hid hw
    clear hw W0
    go_wp2_with fail
    refine (HC.out _).mono ?_
    rintro e w' ⟨rfl, rfl⟩
    go_wp2_with fail
    refine (HS.out _ W1.out.signs).mono ?_
    rintro e w2 ⟨A2, c2, rfl, ho⟩
    have W2 := Lib.hid (W1.out.step ho.2.1)
    have HA2 := Lib.hid (show Have w2 A2 ts from ho.toks)
    have hle2 : ts.length ≤ c2 := Own.lt ho
    clear ho W1
    go_wp2_with fail
    refine (HP.out _ _ _ HA2.out hle2).mono ?_
    rintro e w3 ⟨rfl, hb⟩
    have W3 := Lib.hid (W2.out.step hb)
    have HA3 := Lib.hid (HA2.out.step hb)
    clear hb W2 HA2
    go_wp2_with fail
    refine (HS2.out _ W3.out.signs).mono ?_
    rintro e w4 ⟨A4, c4, rfl, ho⟩
    have W4 := Lib.hid (W3.out.step ho.2.1)
    have HA4 := Lib.hid (HA3.out.step ho.2.1)
    have HB4 := Lib.hid (show Have w4 A4 us from ho.toks)
    have hle4 : us.length ≤ c4 := Own.lt ho
    clear ho W3 HA3
    go_wp2_with fail
    refine (HL.out _ _ _ _ _ HA4.out HB4.out).mono ?_
    rintro e w5 ⟨rfl, hq⟩
    have W5 := Lib.hid (W4.out.step hq.below)
    have HB5 := Lib.hid (HB4.out.step hq.below)
    clear hq W4 HA4 HB4
    go_wp2_with fail
    refine (HP2.out _ _ _ HB5.out hle4).mono ?_
    rintro e w6 ⟨rfl, hb⟩
    have W6 := Lib.hid (W5.out.step hb)
    clear hb W5 HB5
    go_wp2_with fail
    go_ret
    exact ⟨rfl, W6.out⟩
  · have hno := scan_none (l := bs t) (by rw [← hR]; exact he)
    rw [← hR] at hno
    have W0 := Lib.hid (Way.refl hsg)
    clear hsg hR hlb hsz
    obtain ⟨ts, at1, e1⟩ := R
    simp only at he hno
    subst hno
    have he' : (e1 != 0) = true := by simp [he]
    clear he
    go_enter Tryd.func3, Tryd.ntmps3
    go_wp2_with fail
    refine (sane_any _ W0.out.signs).mono ?_
    rintro e w1 ⟨rfl, hw⟩
    have W1 := Lib.hid hw
    clear hw W0
    go_wp2_with fail
    refine (HC.out _).mono ?_
    rintro e w' ⟨rfl, rfl⟩
    go_wp2_with fail
    refine (HS.out _ W1.out.signs).mono ?_
    rintro e w2 ⟨A2, c2, rfl, ho⟩
    have W2 := Lib.hid (W1.out.step ho.2.1)
    clear ho W1
    go_wp2_with fail
    go_ret
    exact ⟨rfl, W2.out⟩

end Go.Proofs.YtmkeajeohkdieaaDoor
