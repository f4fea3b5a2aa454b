/- The statement LexPlaces, walked. -/
import Derived.Test.YtmkeajeohkdieaaDoorLxR
import Derived.Outline
namespace Go.Proofs.YtmkeajeohkdieaaDoor
open Go.RowKit Lx
set_option linter.unusedSimpArgs false
set_option linter.unusedVariables false

/-- the first i tokens are looked at; the last one of them ends at p -/
def PlAt (l : List UInt8) (ts : List Tok) (i p : Nat) : Prop := p ≤ l.length ∧ Lx.Good false (l.drop p) p (ts.drop i)
/-- what is known of the next token -/
structure PlStep (l : List UInt8) (ts : List Tok) (i p g : Nat) (x : Tok) : Prop where
  pos : x.pos = p + g
  fits : p + g + (src x).length ≤ l.length
  size : 1 ≤ (src x).length
  gap : Lx.idle false ((l.drop p).take g) = true
  found : (l.drop (p + g)).take (src x).length = src x
  num : x.kind ≠ 1 → x.n = 0
  next : PlAt l ts (i + 1) (p + g + (src x).length)
theorem pl_step {l : List UInt8} {ts : List Tok} {i p : Nat} {x : Tok} (h : PlAt l ts i p) (hx : ts[i]? = some x) : ∃ g, PlStep l ts i p g x := by
  obtain ⟨h1, h2⟩ := h
  rw [(by obtain ⟨hl, rfl⟩ := List.getElem?_eq_some_iff.1 hx; exact List.drop_eq_getElem_cons hl : ts.drop i = x :: ts.drop (i + 1))] at h2
  obtain ⟨g, rest, a1, a2, a3, a4, a5, a6, a7⟩ := h2
  have hlen : (l.drop (p + g)).length = (src x).length + rest.length := by rw [← List.drop_drop, a4, List.length_append]
  rw [List.length_drop] at hlen a3
  have hpos : 1 ≤ (src x).length := List.length_pos_iff.2 a5
  refine ⟨g, a1, by omega, hpos, a2, by rw [← List.drop_drop, a4, List.take_left], a6, by omega, ?_⟩
  have hr : rest = l.drop (p + g + (src x).length) := by
    rw [← List.drop_drop, ← List.drop_drop, a4, List.drop_left]
  rw [← hr]; exact a7

set_option maxRecDepth 100000 in
set_option maxHeartbeats 8000000 in
theorem places_any (s : ByteArray) (w : World) (hs : s.size ≤ 9223372036854775807) (hsg : Signs w) :
    Calls Tryd.prog 4 #[.string s] w fun e w' => e = .returned (.bool true) ∧ Way w w' := by
  obtain ⟨t, ht⟩ : ∃ t : ByteArray, t = ⟨((bs s).take 900).toArray⟩ := ⟨_, rfl⟩
  have hcut := fun w => cut_any s w hs
  rw [← ht] at hcut
  have hsz : t.size ≤ 900 := by rw [ht, size_mk', List.length_take]; omega
  have hlb := bs_len t
  clear ht hs
  obtain ⟨R, hR⟩ : ∃ R, R = scan false (bs t) 0 := ⟨_, rfl⟩
  have hscan := fun w h => scan_call t R hR (by omega) w h
  have HC := Lib.hid hcut
  have HS := Lib.hid hscan
  have HLB := Lib.hid hlb
  have W0 := Lib.hid (Way.refl hsg)
  clear hcut hscan hsg hlb
  by_cases he : R.err = 0
  · have hat := scan_ok_at false (bs t) 0 (by rw [← hR]; exact he)
    obtain ⟨hg, hv⟩ := scan_good false (bs t) 0 (by rw [← hR]; exact he)
    have hcount := tok_count _ _ _ _ hg
    rw [← hR] at hat hg hv hcount
    rw [HLB.out] at hcount
    obtain ⟨ts, at1, e1⟩ := R
    simp only at he hat hg hv hcount
    subst he; subst hat
    have HG := Lib.hid (show PlAt (bs t) ts 0 0 from ⟨by omega, by simpa using hg⟩)
    have HV := Lib.hid hv
    clear hg hv hR
    go_enter Tryd.func4, Tryd.ntmps4
    go_wp2_with fail
    refine (sane_any _ W0.out.signs).mono ?_
    rintro e w1 ⟨rfl, hw⟩
    have W1 := Lib.hid hw
    clear hw W0
    go_wp2_with fail
    refine (HC.out _).mono ?_
    rintro e w' ⟨rfl, rfl⟩
    go_wp2_with fail
    refine (HS.out _ W1.out.signs).mono ?_
    rintro e w2 ⟨A2, c2, rfl, ho⟩
    have W2 := Lib.hid (W1.out.step ho.2.1)
    have HA2 := Lib.hid (show Have w2 A2 ts from ho.toks)
    clear ho W1
    go_wp2_with fail
    go_loopw [8, 9] (fun p i wr => ∃ m n : Nat, p = .int .i64 n ∧ i = .int .i64 m ∧ m ≤ ts.length ∧ n ≤ t.size ∧ Hid (PlAt (bs t) ts m n) ∧ Hid (Way w wr) ∧ Hid (Have wr A2 ts)) (fun _ i _ => ts.length - (intOf i).toNat)
    case atStart => exact ⟨0, 0, rfl, rfl, by omega, by omega, HG.out, W2.out, HA2.out⟩
    case round =>
      obtain ⟨m, n, rfl, rfl, hm, hn, HP, HW, HH⟩ := hrel
      by_cases hlt : m < ts.length
      · obtain ⟨x, hx⟩ : ∃ x, ts[m]? = some x := ⟨_, List.getElem?_eq_getElem hlt⟩
        obtain ⟨g, hst⟩ := pl_step HP.out hx
        obtain ⟨b, off, rfl, hb, hcell⟩ := RowOf.open_ HH.out (by simp; omega)
        obtain ⟨c0, c1, c2', c3⟩ := Toks.cell hcell (i := m) (r := raw x) (by rw [List.getElem?_map, hx]; rfl)
        have hxt := valid_short (HV.out x (List.mem_of_getElem? hx))
        obtain ⟨q, hq⟩ : ∃ q : ByteArray, q = ⟨(src x).toArray⟩ := ⟨_, rfl⟩
        have hqz : q.size = (src x).length := by rw [hq, size_mk']
        have hfit := hst.fits
        have hone := hst.size
        rw [HLB.out] at hfit
        have hpos : ((x.pos : Nat) : Int) = (n : Int) + g := by have := hst.pos; omega
        simp only [raw, hpos] at c0 c1 c2' c3
        have hfound : t.extract (n + g) (n + g + (src x).length) = q := by
          apply bs_inj
          have hqb : bs q = src x := by rw [hq]; rfl
          rw [bs_cut, hqb, show n + g + (src x).length - (n + g) = (src x).length by omega, hst.found]
        have hidle : ∀ wx, Calls Tryd.prog 15 #[.string (t.extract n (n + g))] wx fun e w' => e = .returned (.bool true) ∧ wx = w' := by
          intro wx
          have h1 : Lx.idle false (bs (t.extract n (n + g))) = true := by
            rw [bs_cut, show n + g - n = g by omega]; exact hst.gap
          rw [← h1]
          exact idle_any _ wx (by rw [← bs_len, bs_cut, List.length_take, List.length_drop, HLB.out]; omega)
        have HI := Lib.hid hidle
        have HST := Lib.hid hst
        have HX := Lib.hid hx
        clear hst hcell hidle hx hpos
        generalize hsl : (src x).length = sz at *
        have HSL := Lib.hid hsl
        clear hsl
        by_cases hk2 : x.kind = 2
        · have hq2 : rsrc (raw x) = quote (bs ⟨x.text.toArray⟩) := by unfold rsrc; rw [if_pos (show (raw x).kind = 2 from hk2)]; rfl
          have hesc : ∀ wx, Calls Tryd.prog 14 #[.string ⟨x.text.toArray⟩] wx fun e w' => e = .returned (.string q) ∧ wx = w' := by
            intro wx
            have := refEscaped_any ⟨x.text.toArray⟩ wx (by rw [size_mk']; omega)
            rw [← hq2, rsrc_raw, ← hq] at this
            exact this
          have HE := Lib.hid hesc
          have k2 : (x.kind == 2) = true := by simpa using hk2
          have k2' : (x.kind != 2) = false := by simp [hk2]
          have k1 : (x.kind != 1) = true := by simp; omega
          have hn0 : (x.n != 0) = false := by have := HST.out.num (by omega); simp [this]
          clear hk2 hq2 hesc hq
          go_wp2_with fail
          refine (HE.out _).mono ?_
          rintro e w' ⟨rfl, rfl⟩
          go_wp2_with fail
          refine (HE.out _).mono ?_
          rintro e w' ⟨rfl, rfl⟩
          go_wp2_with fail
          refine (HI.out _).mono ?_
          rintro e w' ⟨rfl, rfl⟩
          go_wp2_with fail
          go_roundw
          case rel => exact ⟨m + 1, n + g + sz, by go_num, by go_num, by omega, by omega, by have := HST.out.next; rw [HSL.out] at this; exact this, HW.out.alloc _, HH.out.step ((Below.refl _ _).alloc (Nat.le_refl _) _)⟩
          case measure => simp [intOf]; omega
        · have hqt : (⟨x.text.toArray⟩ : ByteArray) = q := by
            rw [hq]; unfold src; rw [if_neg hk2]
          rw [hqt] at c1
          have k2 : (x.kind == 2) = false := by simpa using hk2
          have k2' : (x.kind != 2) = true := by simp [hk2]
          clear hk2 hqt hq
          by_cases hk1 : x.kind = 1
          · have k1 : (x.kind != 1) = false := by simp [hk1]
            clear hk1
            go_wp2_with fail
            refine (HI.out _).mono ?_
            rintro e w' ⟨rfl, rfl⟩
            go_wp2_with fail
            go_roundw
            case rel => exact ⟨m + 1, n + g + sz, by go_num, by go_num, by omega, by omega, by have := HST.out.next; rw [HSL.out] at this; exact this, HW.out.alloc _, HH.out.step ((Below.refl _ _).alloc (Nat.le_refl _) _)⟩
            case measure => simp [intOf]; omega
          · have k1 : (x.kind != 1) = true := by simp [hk1]
            have hn0 : (x.n != 0) = false := by have := HST.out.num hk1; simp [this]
            clear hk1
            go_wp2_with fail
            refine (HI.out _).mono ?_
            rintro e w' ⟨rfl, rfl⟩
            go_wp2_with fail
            go_roundw
            case rel => exact ⟨m + 1, n + g + sz, by go_num, by go_num, by omega, by omega, by have := HST.out.next; rw [HSL.out] at this; exact this, HW.out.alloc _, HH.out.step ((Below.refl _ _).alloc (Nat.le_refl _) _)⟩
            case measure => simp [intOf]; omega
      · obtain rfl : m = ts.length := by omega
        have hend : ∀ wx, Calls Tryd.prog 15 #[.string (t.extract n t.size)] wx fun e w' => e = .returned (.bool true) ∧ wx = w' := by
          intro wx
          have h1 := HP.out.2
          rw [List.drop_length] at h1
          have h2 : Lx.idle false (bs (t.extract n t.size)) = true := by rw [bs_from]; exact h1
          rw [← h2]
          exact idle_any _ wx (by rw [← bs_len, bs_from, List.length_drop, HLB.out]; omega)
        have HI := Lib.hid hend
        clear hend
        go_wp2_with fail
        refine (HI.out _).mono ?_
        rintro e w' ⟨rfl, rfl⟩
        go_wp2_with fail
        go_ret
        exact ⟨rfl, HW.out⟩
  · obtain ⟨d, d1, d2, d3, _⟩ := scan_fails false (bs t) 0 (by rw [← hR]; exact he)
    rw [← hR] at d2 d3
    rw [HLB.out] at d1
    obtain ⟨ts, at1, e1⟩ := R
    simp only at he d2 d3
    subst d3
    obtain rfl : at1 = d := by omega
    have he' : (e1 != 0) = true := by simp [he]
    clear he hR d2
    go_enter Tryd.func4, Tryd.ntmps4
    go_wp2_with fail
    refine (sane_any _ W0.out.signs).mono ?_
    rintro e w1 ⟨rfl, hw⟩
    have W1 := Lib.hid hw
    clear hw W0
    go_wp2_with fail
    refine (HC.out _).mono ?_
    rintro e w' ⟨rfl, rfl⟩
    go_wp2_with fail
    refine (HS.out _ W1.out.signs).mono ?_
    rintro e w2 ⟨A2, c2, rfl, ho⟩
    have W2 := Lib.hid (W1.out.step ho.2.1)
    clear ho W1
    go_wp2_with fail
    go_ret
    exact ⟨rfl, W2.out⟩

end Go.Proofs.YtmkeajeohkdieaaDoor
