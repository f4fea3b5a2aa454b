/- The statement LexQuotes, walked. -/
import Derived.Test.YtmkeajeohkdieaaDoorLxBack
import Derived.Outline
namespace Go.Proofs.YtmkeajeohkdieaaDoor
open Go.RowKit Lx
set_option linter.unusedSimpArgs false
set_option linter.unusedVariables false

/-- the law's own test of a value, k bytes looked at -/
def plainTo (l : List UInt8) (k : Nat) : Bool := decide (l.length ≤ 400) && (l.take k).all plain
theorem plainTo_all (l : List UInt8) : plainTo l l.length = valueOk l := by unfold plainTo valueOk; rw [List.take_length, Bool.and_comm]
theorem plainTo_next {l : List UInt8} {k : Nat} {c : UInt8} (h : l[k]? = some c) : plainTo l (k + 1) = (plainTo l k && plain c) := by
  unfold plainTo; rw [List.take_add_one, h]; simp [Bool.and_assoc]

theorem nameOk_numOk {l : List UInt8} (h : nameOk l = true) : numOk l = false := by
  match l, h with
  | c :: r, h =>
    unfold nameOk at h
    simp only [Bool.and_eq_true] at h
    cases hn : numOk (c :: r) with
    | false => rfl
    | true =>
      unfold numOk at hn
      simp only [Bool.and_eq_true, List.all_cons] at hn
      have := letter_not_digit h.1.1
      rw [hn.1.1.1] at this; cases this

/-- how a text is one token, or is not -/
inductive Whole (l : List UInt8) (R : Res) : Prop
  | bad (h : ¬ (R.err = 0 ∧ R.toks.length = 1)) (hn : nameOk l = false) (hm : numOk l = false)
  | name (h : R = ⟨[⟨0, l, 0, 0⟩], 0, 0⟩) (hn : nameOk l = true) (hm : numOk l = false)
  | num (h : R = ⟨[⟨1, l, val l, 0⟩], 0, 0⟩) (hn : nameOk l = false) (hm : numOk l = true)
  | other (t : Tok) (he : R.err = 0) (h : R.toks = [t]) (hn : nameOk l = false) (hm : numOk l = false) (ho : t.text = l → t.kind ≠ 0 ∧ t.kind ≠ 1)
theorem whole_of (l : List UInt8) : Whole l (scan false l 0) := by
  cases hn : nameOk l with
  | true => exact .name (scan_name hn) hn (nameOk_numOk hn)
  | false =>
    cases hm : numOk l with
    | true => exact .num (scan_num hm) hn hm
    | false =>
      by_cases h : (scan false l 0).err = 0 ∧ (scan false l 0).toks.length = 1
      · obtain ⟨he, h1⟩ := h
        obtain ⟨t, ht⟩ : ∃ t, (scan false l 0).toks = [t] := by
          match (scan false l 0).toks, h1 with
          | [t], _ => exact ⟨t, rfl⟩
        refine .other t he ht hn hm fun hx => ⟨fun hk => ?_, fun hk => ?_⟩
        · rw [one_name he ht hk hx] at hn; cases hn
        · rw [(one_num he ht hk hx).1] at hm; cases hm
      · exact .bad h hn hm
theorem nameOk_len {l : List UInt8} (h : nameOk l = true) : l.length ≤ 20 := by
  match l, h with
  | c :: r, h => unfold nameOk at h; simp only [Bool.and_eq_true, decide_eq_true_eq] at h; exact h.2
theorem have_one {w : World} {A : Option Addr} {t : Tok} (h : Have w A [t]) : ∃ b off, A = some ⟨b, off, none⟩ ∧ b < w.heap.size ∧
    w.cell? ⟨b, off, none⟩ = some (.int .i64 t.kind) ∧ w.cell? ⟨b, off + 1, none⟩ = some (.string ⟨t.text.toArray⟩) ∧ w.cell? ⟨b, off + 2, none⟩ = some (.int .i64 t.n) ∧ w.cell? ⟨b, off + 3, none⟩ = some (.int .i64 (t.pos : Nat)) := by
  obtain ⟨b, off, e, hb, hc⟩ := RowOf.open_ h (by simp)
  obtain ⟨c0, c1, c2, c3⟩ := Toks.cell hc (i := 0) (r := raw t) rfl
  simp only [Nat.zero_mul, Nat.add_zero] at c0 c1 c2 c3
  exact ⟨b, off, e, hb, c0, c1, c2, c3⟩
theorem str_same (t : ByteArray) (l : List UInt8) (h : bs t = l) : (⟨l.toArray⟩ : ByteArray) = t := by rw [← h, str_of_bs]

set_option maxRecDepth 100000 in
set_option maxHeartbeats 4000000 in
theorem quotes_bad (s t : ByteArray) (w : World) (hsg : Signs w) (ht : t.size ≤ 900) (hcut : ∀ w, Calls Tryd.prog 11 #[.string s] w fun e w' => e = .returned (.string t) ∧ w = w') (hw : ¬ ((scan false (bs t) 0).err = 0 ∧ (scan false (bs t) 0).toks.length = 1)) (hn : nameOk (bs t) = false) (hm : numOk (bs t) = false) :
    Calls Tryd.prog 8 #[.string s] w fun e w' => e = .returned (.bool true) ∧ Way w w' := by
  have hlen := bs_len t
  have HSAME := Lib.hid (str_same t (bs t) rfl)
  have hquote := fun wx => quote_any t wx (by omega)
  have hnum := fun wx => number_any t wx (by omega)
  have hname := fun wx => name_any t wx (by omega)
  rw [hm] at hnum
  rw [hn] at hname
  obtain ⟨R, hR⟩ : ∃ R, R = scan false (bs t) 0 := ⟨_, rfl⟩
  rw [← hR] at hw
  have hscan := fun wx h => scan_call t R hR (by omega) wx h
  rw [numV_no hm] at hnum
  obtain ⟨ts, at1, e1⟩ := R
  simp only at hw
  have W0 := Lib.hid (Way.refl hsg)
  have HC := Lib.hid hcut
  have HS := Lib.hid hscan
  have HNUM := Lib.hid hnum
  have HNAME := Lib.hid hname
  have hp0 : decide ((t.size : Int) ≤ 400) = plainTo (bs t) 0 := by unfold plainTo; rw [hlen, Bool.eq_iff_iff]; simp; omega
  have HP0 := Lib.hid hp0
  clear hscan hnum hname hsg hn hm hlen hcut hp0
  cases hv : valueOk (bs t) with
  | true =>
    have HV := Lib.hid hv
    rw [hv] at hquote
    have hsq := scan_quote hv
    have hqv : quoteV (bs t) = quote (bs t) := by unfold quoteV; rw [if_pos hv]
    have hql := quote_len (bs t)
    rw [bs_len] at hql
    have hscq := fun wx h => scan_call ⟨(quote (bs t)).toArray⟩ _ hsq.symm (by rw [size_mk']; omega) wx h
    rw [hqv] at hquote
    have HSQ := Lib.hid hscq
    clear hscq hqv hsq hql
    have heq2 := tok_neq_same ⟨2, t, 0, 0⟩
    simp only at heq2
    have HQ := Lib.hid hquote
    clear hquote hv
    by_cases he : e1 = 0
    · have hl1 : ((ts.length : Int) != 1) = true := by
        have : ts.length ≠ 1 := fun h => hw ⟨he, h⟩
        simp; omega
      subst he
      clear hw
      go_enter Tryd.func8, Tryd.ntmps8
      go_wp2_with fail
      refine (sane_any _ W0.out.signs).mono ?_
      rintro e w1 ⟨rfl, hw⟩
      have W1 := Lib.hid hw
      clear hw W0
      go_wp2_with fail
      refine (HC.out _).mono ?_
      rintro e w' ⟨rfl, rfl⟩
      go_wp2_with fail
      refine (HQ.out _).mono ?_
      rintro e w2 ⟨rfl, hb⟩
      have W2 := Lib.hid (W1.out.step hb)
      clear hb W1
      go_wp2_with fail
      go_loop [7, 8] (fun x i => ∃ (k : Nat) (b : Bool), x = .bool b ∧ i = .int .i64 k ∧ k ≤ t.size ∧ Hid (b = plainTo (bs t) k)) (fun _ i => t.size - (intOf i).toNat)
      case atStart => exact ⟨0, _, rfl, rfl, by omega, HP0.out⟩
      case round =>
        obtain ⟨k, b, rfl, rfl, hk, HB⟩ := hrel
        by_cases hlt : k < t.size
        · have hg := bs_get t k hlt
          have HN := Lib.hid (plainTo_next hg)
          have hp : plain t[k] = (decide (32 ≤ t[k].toNat) && decide (t[k].toNat ≤ 126)) := by
            rw [Bool.eq_iff_iff]; simp [plain]
          have HPL := Lib.hid hp
          clear hg hp
          cases b with
          | false =>
            go_wp2
            go_round
            case rel => exact ⟨k + 1, _, rfl, by go_num, by omega, by rw [HN.out, ← HB.out]; rfl⟩
            case measure => simp [intOf]; omega
          | true =>
            by_cases h32 : (32 : Int) ≤ (t[k].toNat : Int)
            · by_cases h126 : (t[k].toNat : Int) ≤ 126
              · have e32 : decide ((32 : Int) ≤ (t[k].toNat : Int)) = true := by simpa using h32
                have e126 : decide ((t[k].toNat : Int) ≤ 126) = true := by simpa using h126
                have HX := Lib.hid (show plain t[k] = true by rw [HPL.out]; simp; omega)
                go_wp2
                go_round
                case rel => exact ⟨k + 1, _, rfl, by go_num, by omega, by rw [HN.out, ← HB.out, HX.out]; rfl⟩
                case measure => simp [intOf]; omega
              · have e32 : decide ((32 : Int) ≤ (t[k].toNat : Int)) = true := by simpa using h32
                have e126 : decide ((t[k].toNat : Int) ≤ 126) = false := by simpa using h126
                have HX := Lib.hid (show plain t[k] = false by rw [HPL.out]; simp; omega)
                go_wp2
                go_round
                case rel => exact ⟨k + 1, _, rfl, by go_num, by omega, by rw [HN.out, ← HB.out, HX.out]; rfl⟩
                case measure => simp [intOf]; omega
            · have e32 : decide ((32 : Int) ≤ (t[k].toNat : Int)) = false := by simpa using h32
              have HX := Lib.hid (show plain t[k] = false by rw [HPL.out]; simp; omega)
              go_wp2
              go_round
              case rel => exact ⟨k + 1, _, rfl, by go_num, by omega, by rw [HN.out, ← HB.out, HX.out]; rfl⟩
              case measure => simp [intOf]; omega
        · have hkk : k = t.size := by omega
          subst hkk
          have hb := HB.out
          rw [← bs_len, plainTo_all, HV.out] at hb
          subst hb
          clear HB
          go_wp2_with fail
          refine (HSQ.out _ W2.out.signs).mono ?_
          rintro e w3 ⟨A3, c3, rfl, ho⟩
          have W3 := Lib.hid (W2.out.step ho.2.1)
          have hh : Have w3 A3 [⟨2, bs t, 0, 0⟩] := ho.toks
          obtain ⟨b3, o3, rfl, hb3, d0, d1, d2, d3⟩ := have_one hh
          simp only [HSAME.out] at d1
          clear ho W2 hh
          go_wp2_with fail
          refine (HS.out _ W3.out.signs).mono ?_
          rintro e w4 ⟨A4, c4, rfl, ho⟩
          have W4 := Lib.hid (W3.out.step ho.2.1)
          clear ho W3
          go_wp2_with fail
          refine (HNUM.out _).mono ?_
          rintro e w' ⟨rfl, rfl⟩
          go_wp2_with fail
          refine (HNAME.out _).mono ?_
          rintro e w' ⟨rfl, rfl⟩
          go_wp2_with fail
          go_ret
          exact ⟨rfl, W4.out⟩
    · have he' : (e1 != 0) = true := by simp [he]
      clear hw he
      go_enter Tryd.func8, Tryd.ntmps8
      go_wp2_with fail
      refine (sane_any _ W0.out.signs).mono ?_
      rintro e w1 ⟨rfl, hw⟩
      have W1 := Lib.hid hw
      clear hw W0
      go_wp2_with fail
      refine (HC.out _).mono ?_
      rintro e w' ⟨rfl, rfl⟩
      go_wp2_with fail
      refine (HQ.out _).mono ?_
      rintro e w2 ⟨rfl, hb⟩
      have W2 := Lib.hid (W1.out.step hb)
      clear hb W1
      go_wp2_with fail
      go_loop [7, 8] (fun x i => ∃ (k : Nat) (b : Bool), x = .bool b ∧ i = .int .i64 k ∧ k ≤ t.size ∧ Hid (b = plainTo (bs t) k)) (fun _ i => t.size - (intOf i).toNat)
      case atStart => exact ⟨0, _, rfl, rfl, by omega, HP0.out⟩
      case round =>
        obtain ⟨k, b, rfl, rfl, hk, HB⟩ := hrel
        by_cases hlt : k < t.size
        · have hg := bs_get t k hlt
          have HN := Lib.hid (plainTo_next hg)
          have hp : plain t[k] = (decide (32 ≤ t[k].toNat) && decide (t[k].toNat ≤ 126)) := by
            rw [Bool.eq_iff_iff]; simp [plain]
          have HPL := Lib.hid hp
          clear hg hp
          cases b with
          | false =>
            go_wp2
            go_round
            case rel => exact ⟨k + 1, _, rfl, by go_num, by omega, by rw [HN.out, ← HB.out]; rfl⟩
            case measure => simp [intOf]; omega
          | true =>
            by_cases h32 : (32 : Int) ≤ (t[k].toNat : Int)
            · by_cases h126 : (t[k].toNat : Int) ≤ 126
              · have e32 : decide ((32 : Int) ≤ (t[k].toNat : Int)) = true := by simpa using h32
                have e126 : decide ((t[k].toNat : Int) ≤ 126) = true := by simpa using h126
                have HX := Lib.hid (show plain t[k] = true by rw [HPL.out]; simp; omega)
                go_wp2
                go_round
                case rel => exact ⟨k + 1, _, rfl, by go_num, by omega, by rw [HN.out, ← HB.out, HX.out]; rfl⟩
                case measure => simp [intOf]; omega
              · have e32 : decide ((32 : Int) ≤ (t[k].toNat : Int)) = true := by simpa using h32
                have e126 : decide ((t[k].toNat : Int) ≤ 126) = false := by simpa using h126
                have HX := Lib.hid (show plain t[k] = false by rw [HPL.out]; simp; omega)
                go_wp2
                go_round
                case rel => exact ⟨k + 1, _, rfl, by go_num, by omega, by rw [HN.out, ← HB.out, HX.out]; rfl⟩
                case measure => simp [intOf]; omega
            · have e32 : decide ((32 : Int) ≤ (t[k].toNat : Int)) = false := by simpa using h32
              have HX := Lib.hid (show plain t[k] = false by rw [HPL.out]; simp; omega)
              go_wp2
              go_round
              case rel => exact ⟨k + 1, _, rfl, by go_num, by omega, by rw [HN.out, ← HB.out, HX.out]; rfl⟩
              case measure => simp [intOf]; omega
        · have hkk : k = t.size := by omega
          subst hkk
          have hb := HB.out
          rw [← bs_len, plainTo_all, HV.out] at hb
          subst hb
          clear HB
          go_wp2_with fail
          refine (HSQ.out _ W2.out.signs).mono ?_
          rintro e w3 ⟨A3, c3, rfl, ho⟩
          have W3 := Lib.hid (W2.out.step ho.2.1)
          have hh : Have w3 A3 [⟨2, bs t, 0, 0⟩] := ho.toks
          obtain ⟨b3, o3, rfl, hb3, d0, d1, d2, d3⟩ := have_one hh
          simp only [HSAME.out] at d1
          clear ho W2 hh
          go_wp2_with fail
          refine (HS.out _ W3.out.signs).mono ?_
          rintro e w4 ⟨A4, c4, rfl, ho⟩
          have W4 := Lib.hid (W3.out.step ho.2.1)
          clear ho W3
          go_wp2_with fail
          refine (HNUM.out _).mono ?_
          rintro e w' ⟨rfl, rfl⟩
          go_wp2_with fail
          refine (HNAME.out _).mono ?_
          rintro e w' ⟨rfl, rfl⟩
          go_wp2_with fail
          go_ret
          exact ⟨rfl, W4.out⟩
  | false =>
    have HV := Lib.hid hv
    rw [hv] at hquote
    have hqv : quoteV (bs t) = [] := by unfold quoteV; rw [if_neg (by rw [hv]; decide)]
    rw [hqv] at hquote
    clear hqv
    have HQ := Lib.hid hquote
    clear hquote hv
    by_cases he : e1 = 0
    · have hl1 : ((ts.length : Int) != 1) = true := by
        have : ts.length ≠ 1 := fun h => hw ⟨he, h⟩
        simp; omega
      subst he
      clear hw
      go_enter Tryd.func8, Tryd.ntmps8
      go_wp2_with fail
      refine (sane_any _ W0.out.signs).mono ?_
      rintro e w1 ⟨rfl, hw⟩
      have W1 := Lib.hid hw
      clear hw W0
      go_wp2_with fail
      refine (HC.out _).mono ?_
      rintro e w' ⟨rfl, rfl⟩
      go_wp2_with fail
      refine (HQ.out _).mono ?_
      rintro e w2 ⟨rfl, hb⟩
      have W2 := Lib.hid (W1.out.step hb)
      clear hb W1
      go_wp2_with fail
      go_loop [7, 8] (fun x i => ∃ (k : Nat) (b : Bool), x = .bool b ∧ i = .int .i64 k ∧ k ≤ t.size ∧ Hid (b = plainTo (bs t) k)) (fun _ i => t.size - (intOf i).toNat)
      case atStart => exact ⟨0, _, rfl, rfl, by omega, HP0.out⟩
      case round =>
        obtain ⟨k, b, rfl, rfl, hk, HB⟩ := hrel
        by_cases hlt : k < t.size
        · have hg := bs_get t k hlt
          have HN := Lib.hid (plainTo_next hg)
          have hp : plain t[k] = (decide (32 ≤ t[k].toNat) && decide (t[k].toNat ≤ 126)) := by
            rw [Bool.eq_iff_iff]; simp [plain]
          have HPL := Lib.hid hp
          clear hg hp
          cases b with
          | false =>
            go_wp2
            go_round
            case rel => exact ⟨k + 1, _, rfl, by go_num, by omega, by rw [HN.out, ← HB.out]; rfl⟩
            case measure => simp [intOf]; omega
          | true =>
            by_cases h32 : (32 : Int) ≤ (t[k].toNat : Int)
            · by_cases h126 : (t[k].toNat : Int) ≤ 126
              · have e32 : decide ((32 : Int) ≤ (t[k].toNat : Int)) = true := by simpa using h32
                have e126 : decide ((t[k].toNat : Int) ≤ 126) = true := by simpa using h126
                have HX := Lib.hid (show plain t[k] = true by rw [HPL.out]; simp; omega)
                go_wp2
                go_round
                case rel => exact ⟨k + 1, _, rfl, by go_num, by omega, by rw [HN.out, ← HB.out, HX.out]; rfl⟩
                case measure => simp [intOf]; omega
              · have e32 : decide ((32 : Int) ≤ (t[k].toNat : Int)) = true := by simpa using h32
                have e126 : decide ((t[k].toNat : Int) ≤ 126) = false := by simpa using h126
                have HX := Lib.hid (show plain t[k] = false by rw [HPL.out]; simp; omega)
                go_wp2
                go_round
                case rel => exact ⟨k + 1, _, rfl, by go_num, by omega, by rw [HN.out, ← HB.out, HX.out]; rfl⟩
                case measure => simp [intOf]; omega
            · have e32 : decide ((32 : Int) ≤ (t[k].toNat : Int)) = false := by simpa using h32
              have HX := Lib.hid (show plain t[k] = false by rw [HPL.out]; simp; omega)
              go_wp2
              go_round
              case rel => exact ⟨k + 1, _, rfl, by go_num, by omega, by rw [HN.out, ← HB.out, HX.out]; rfl⟩
              case measure => simp [intOf]; omega
        · have hkk : k = t.size := by omega
          subst hkk
          have hb := HB.out
          rw [← bs_len, plainTo_all, HV.out] at hb
          subst hb
          clear HB
          go_wp2_with fail
          refine (HS.out _ W2.out.signs).mono ?_
          rintro e w3 ⟨A3, c3, rfl, ho⟩
          have W3 := Lib.hid (W2.out.step ho.2.1)
          clear ho W2
          go_wp2_with fail
          refine (HNUM.out _).mono ?_
          rintro e w' ⟨rfl, rfl⟩
          go_wp2_with fail
          refine (HNAME.out _).mono ?_
          rintro e w' ⟨rfl, rfl⟩
          go_wp2_with fail
          go_ret
          exact ⟨rfl, W3.out⟩
    · have he' : (e1 != 0) = true := by simp [he]
      clear hw he
      go_enter Tryd.func8, Tryd.ntmps8
      go_wp2_with fail
      refine (sane_any _ W0.out.signs).mono ?_
      rintro e w1 ⟨rfl, hw⟩
      have W1 := Lib.hid hw
      clear hw W0
      go_wp2_with fail
      refine (HC.out _).mono ?_
      rintro e w' ⟨rfl, rfl⟩
      go_wp2_with fail
      refine (HQ.out _).mono ?_
      rintro e w2 ⟨rfl, hb⟩
      have W2 := Lib.hid (W1.out.step hb)
      clear hb W1
      go_wp2_with fail
      go_loop [7, 8] (fun x i => ∃ (k : Nat) (b : Bool), x = .bool b ∧ i = .int .i64 k ∧ k ≤ t.size ∧ Hid (b = plainTo (bs t) k)) (fun _ i => t.size - (intOf i).toNat)
      case atStart => exact ⟨0, _, rfl, rfl, by omega, HP0.out⟩
      case round =>
        obtain ⟨k, b, rfl, rfl, hk, HB⟩ := hrel
        by_cases hlt : k < t.size
        · have hg := bs_get t k hlt
          have HN := Lib.hid (plainTo_next hg)
          have hp : plain t[k] = (decide (32 ≤ t[k].toNat) && decide (t[k].toNat ≤ 126)) := by
            rw [Bool.eq_iff_iff]; simp [plain]
          have HPL := Lib.hid hp
          clear hg hp
          cases b with
          | false =>
            go_wp2
            go_round
            case rel => exact ⟨k + 1, _, rfl, by go_num, by omega, by rw [HN.out, ← HB.out]; rfl⟩
            case measure => simp [intOf]; omega
          | true =>
            by_cases h32 : (32 : Int) ≤ (t[k].toNat : Int)
            · by_cases h126 : (t[k].toNat : Int) ≤ 126
              · have e32 : decide ((32 : Int) ≤ (t[k].toNat : Int)) = true := by simpa using h32
                have e126 : decide ((t[k].toNat : Int) ≤ 126) = true := by simpa using h126
                have HX := Lib.hid (show plain t[k] = true by rw [HPL.out]; simp; omega)
                go_wp2
                go_round
                case rel => exact ⟨k + 1, _, rfl, by go_num, by omega, by rw [HN.out, ← HB.out, HX.out]; rfl⟩
                case measure => simp [intOf]; omega
              · have e32 : decide ((32 : Int) ≤ (t[k].toNat : Int)) = true := by simpa using h32
                have e126 : decide ((t[k].toNat : Int) ≤ 126) = false := by simpa using h126
                have HX := Lib.hid (show plain t[k] = false by rw [HPL.out]; simp; omega)
                go_wp2
                go_round
                case rel => exact ⟨k + 1, _, rfl, by go_num, by omega, by rw [HN.out, ← HB.out, HX.out]; rfl⟩
                case measure => simp [intOf]; omega
            · have e32 : decide ((32 : Int) ≤ (t[k].toNat : Int)) = false := by simpa using h32
              have HX := Lib.hid (show plain t[k] = false by rw [HPL.out]; simp; omega)
              go_wp2
              go_round
              case rel => exact ⟨k + 1, _, rfl, by go_num, by omega, by rw [HN.out, ← HB.out, HX.out]; rfl⟩
              case measure => simp [intOf]; omega
        · have hkk : k = t.size := by omega
          subst hkk
          have hb := HB.out
          rw [← bs_len, plainTo_all, HV.out] at hb
          subst hb
          clear HB
          go_wp2_with fail
          refine (HS.out _ W2.out.signs).mono ?_
          rintro e w3 ⟨A3, c3, rfl, ho⟩
          have W3 := Lib.hid (W2.out.step ho.2.1)
          clear ho W2
          go_wp2_with fail
          refine (HNUM.out _).mono ?_
          rintro e w' ⟨rfl, rfl⟩
          go_wp2_with fail
          refine (HNAME.out _).mono ?_
          rintro e w' ⟨rfl, rfl⟩
          go_wp2_with fail
          go_ret
          exact ⟨rfl, W3.out⟩


set_option maxRecDepth 100000 in
set_option maxHeartbeats 4000000 in
theorem quotes_name (s t : ByteArray) (w : World) (hsg : Signs w) (ht : t.size ≤ 900) (hcut : ∀ w, Calls Tryd.prog 11 #[.string s] w fun e w' => e = .returned (.string t) ∧ w = w') (hw : scan false (bs t) 0 = ⟨[⟨0, bs t, 0, 0⟩], 0, 0⟩) (hn : nameOk (bs t) = true) (hm : numOk (bs t) = false) :
    Calls Tryd.prog 8 #[.string s] w fun e w' => e = .returned (.bool true) ∧ Way w w' := by
  have hlen := bs_len t
  have HSAME := Lib.hid (str_same t (bs t) rfl)
  have hquote := fun wx => quote_any t wx (by omega)
  have hnum := fun wx => number_any t wx (by omega)
  have hname := fun wx => name_any t wx (by omega)
  rw [hm] at hnum
  rw [hn] at hname
  have hscan := fun wx h => scan_call t _ hw.symm (by omega) wx h
  rw [numV_no hm] at hnum
  have h20 : (t.size : Int) ≤ 20 := by have := nameOk_len hn; omega
  have W0 := Lib.hid (Way.refl hsg)
  have HC := Lib.hid hcut
  have HS := Lib.hid hscan
  have HNUM := Lib.hid hnum
  have HNAME := Lib.hid hname
  have hp0 : decide ((t.size : Int) ≤ 400) = plainTo (bs t) 0 := by unfold plainTo; rw [hlen, Bool.eq_iff_iff]; simp; omega
  have HP0 := Lib.hid hp0
  clear hw
  clear hscan hnum hname hsg hn hm hlen hcut hp0
  cases hv : valueOk (bs t) with
  | true =>
    have HV := Lib.hid hv
    rw [hv] at hquote
    have hsq := scan_quote hv
    have hqv : quoteV (bs t) = quote (bs t) := by unfold quoteV; rw [if_pos hv]
    have hql := quote_len (bs t)
    rw [bs_len] at hql
    have hscq := fun wx h => scan_call ⟨(quote (bs t)).toArray⟩ _ hsq.symm (by rw [size_mk']; omega) wx h
    rw [hqv] at hquote
    have HSQ := Lib.hid hscq
    clear hscq hqv hsq hql
    have heq2 := tok_neq_same ⟨2, t, 0, 0⟩
    simp only at heq2
    have HQ := Lib.hid hquote
    clear hquote hv
    go_enter Tryd.func8, Tryd.ntmps8
    go_wp2_with fail
    refine (sane_any _ W0.out.signs).mono ?_
    rintro e w1 ⟨rfl, hw⟩
    have W1 := Lib.hid hw
    clear hw W0
    go_wp2_with fail
    refine (HC.out _).mono ?_
    rintro e w' ⟨rfl, rfl⟩
    go_wp2_with fail
    refine (HQ.out _).mono ?_
    rintro e w2 ⟨rfl, hb⟩
    have W2 := Lib.hid (W1.out.step hb)
    clear hb W1
    go_wp2_with fail
    go_loop [7, 8] (fun x i => ∃ (k : Nat) (b : Bool), x = .bool b ∧ i = .int .i64 k ∧ k ≤ t.size ∧ Hid (b = plainTo (bs t) k)) (fun _ i => t.size - (intOf i).toNat)
    case atStart => exact ⟨0, _, rfl, rfl, by omega, HP0.out⟩
    case round =>
      obtain ⟨k, b, rfl, rfl, hk, HB⟩ := hrel
      by_cases hlt : k < t.size
      · have hg := bs_get t k hlt
        have HN := Lib.hid (plainTo_next hg)
        have hp : plain t[k] = (decide (32 ≤ t[k].toNat) && decide (t[k].toNat ≤ 126)) := by
          rw [Bool.eq_iff_iff]; simp [plain]
        have HPL := Lib.hid hp
        clear hg hp
        cases b with
        | false =>
          go_wp2
          go_round
          case rel => exact ⟨k + 1, _, rfl, by go_num, by omega, by rw [HN.out, ← HB.out]; rfl⟩
          case measure => simp [intOf]; omega
        | true =>
          by_cases h32 : (32 : Int) ≤ (t[k].toNat : Int)
          · by_cases h126 : (t[k].toNat : Int) ≤ 126
            · have e32 : decide ((32 : Int) ≤ (t[k].toNat : Int)) = true := by simpa using h32
              have e126 : decide ((t[k].toNat : Int) ≤ 126) = true := by simpa using h126
              have HX := Lib.hid (show plain t[k] = true by rw [HPL.out]; simp; omega)
              go_wp2
              go_round
              case rel => exact ⟨k + 1, _, rfl, by go_num, by omega, by rw [HN.out, ← HB.out, HX.out]; rfl⟩
              case measure => simp [intOf]; omega
            · have e32 : decide ((32 : Int) ≤ (t[k].toNat : Int)) = true := by simpa using h32
              have e126 : decide ((t[k].toNat : Int) ≤ 126) = false := by simpa using h126
              have HX := Lib.hid (show plain t[k] = false by rw [HPL.out]; simp; omega)
              go_wp2
              go_round
              case rel => exact ⟨k + 1, _, rfl, by go_num, by omega, by rw [HN.out, ← HB.out, HX.out]; rfl⟩
              case measure => simp [intOf]; omega
          · have e32 : decide ((32 : Int) ≤ (t[k].toNat : Int)) = false := by simpa using h32
            have HX := Lib.hid (show plain t[k] = false by rw [HPL.out]; simp; omega)
            go_wp2
            go_round
            case rel => exact ⟨k + 1, _, rfl, by go_num, by omega, by rw [HN.out, ← HB.out, HX.out]; rfl⟩
            case measure => simp [intOf]; omega
      · have hkk : k = t.size := by omega
        subst hkk
        have hb := HB.out
        rw [← bs_len, plainTo_all, HV.out] at hb
        subst hb
        clear HB
        go_wp2_with fail
        refine (HSQ.out _ W2.out.signs).mono ?_
        rintro e w3 ⟨A3, c3, rfl, ho⟩
        have W3 := Lib.hid (W2.out.step ho.2.1)
        have hh : Have w3 A3 [⟨2, bs t, 0, 0⟩] := ho.toks
        obtain ⟨b3, o3, rfl, hb3, d0, d1, d2, d3⟩ := have_one hh
        simp only [HSAME.out] at d1
        clear ho W2 hh
        go_wp2_with fail
        refine (HS.out _ W3.out.signs).mono ?_
        rintro e w4 ⟨A4, c4, rfl, ho⟩
        have W4 := Lib.hid (W3.out.step ho.2.1)
        have hh : Have w4 A4 [⟨0, bs t, 0, 0⟩] := ho.toks
        obtain ⟨b4, o4, rfl, hb4, f0, f1, f2, f3⟩ := have_one hh
        clear hh
        simp only [HSAME.out] at f1
        clear ho W3
        go_wp2_with fail
        refine (HNUM.out _).mono ?_
        rintro e w' ⟨rfl, rfl⟩
        go_wp2_with fail
        refine (HNAME.out _).mono ?_
        rintro e w' ⟨rfl, rfl⟩
        go_wp2_with fail
        go_ret
        exact ⟨rfl, W4.out⟩
  | false =>
    have HV := Lib.hid hv
    rw [hv] at hquote
    have hqv : quoteV (bs t) = [] := by unfold quoteV; rw [if_neg (by rw [hv]; decide)]
    rw [hqv] at hquote
    clear hqv
    have HQ := Lib.hid hquote
    clear hquote hv
    go_enter Tryd.func8, Tryd.ntmps8
    go_wp2_with fail
    refine (sane_any _ W0.out.signs).mono ?_
    rintro e w1 ⟨rfl, hw⟩
    have W1 := Lib.hid hw
    clear hw W0
    go_wp2_with fail
    refine (HC.out _).mono ?_
    rintro e w' ⟨rfl, rfl⟩
    go_wp2_with fail
    refine (HQ.out _).mono ?_
    rintro e w2 ⟨rfl, hb⟩
    have W2 := Lib.hid (W1.out.step hb)
    clear hb W1
    go_wp2_with fail
    go_loop [7, 8] (fun x i => ∃ (k : Nat) (b : Bool), x = .bool b ∧ i = .int .i64 k ∧ k ≤ t.size ∧ Hid (b = plainTo (bs t) k)) (fun _ i => t.size - (intOf i).toNat)
    case atStart => exact ⟨0, _, rfl, rfl, by omega, HP0.out⟩
    case round =>
      obtain ⟨k, b, rfl, rfl, hk, HB⟩ := hrel
      by_cases hlt : k < t.size
      · have hg := bs_get t k hlt
        have HN := Lib.hid (plainTo_next hg)
        have hp : plain t[k] = (decide (32 ≤ t[k].toNat) && decide (t[k].toNat ≤ 126)) := by
          rw [Bool.eq_iff_iff]; simp [plain]
        have HPL := Lib.hid hp
        clear hg hp
        cases b with
        | false =>
          go_wp2
          go_round
          case rel => exact ⟨k + 1, _, rfl, by go_num, by omega, by rw [HN.out, ← HB.out]; rfl⟩
          case measure => simp [intOf]; omega
        | true =>
          by_cases h32 : (32 : Int) ≤ (t[k].toNat : Int)
          · by_cases h126 : (t[k].toNat : Int) ≤ 126
            · have e32 : decide ((32 : Int) ≤ (t[k].toNat : Int)) = true := by simpa using h32
              have e126 : decide ((t[k].toNat : Int) ≤ 126) = true := by simpa using h126
              have HX := Lib.hid (show plain t[k] = true by rw [HPL.out]; simp; omega)
              go_wp2
              go_round
              case rel => exact ⟨k + 1, _, rfl, by go_num, by omega, by rw [HN.out, ← HB.out, HX.out]; rfl⟩
              case measure => simp [intOf]; omega
            · have e32 : decide ((32 : Int) ≤ (t[k].toNat : Int)) = true := by simpa using h32
              have e126 : decide ((t[k].toNat : Int) ≤ 126) = false := by simpa using h126
              have HX := Lib.hid (show plain t[k] = false by rw [HPL.out]; simp; omega)
              go_wp2
              go_round
              case rel => exact ⟨k + 1, _, rfl, by go_num, by omega, by rw [HN.out, ← HB.out, HX.out]; rfl⟩
              case measure => simp [intOf]; omega
          · have e32 : decide ((32 : Int) ≤ (t[k].toNat : Int)) = false := by simpa using h32
            have HX := Lib.hid (show plain t[k] = false by rw [HPL.out]; simp; omega)
            go_wp2
            go_round
            case rel => exact ⟨k + 1, _, rfl, by go_num, by omega, by rw [HN.out, ← HB.out, HX.out]; rfl⟩
            case measure => simp [intOf]; omega
      · have hkk : k = t.size := by omega
        subst hkk
        have hb := HB.out
        rw [← bs_len, plainTo_all, HV.out] at hb
        subst hb
        clear HB
        go_wp2_with fail
        refine (HS.out _ W2.out.signs).mono ?_
        rintro e w3 ⟨A3, c3, rfl, ho⟩
        have W3 := Lib.hid (W2.out.step ho.2.1)
        have hh : Have w3 A3 [⟨0, bs t, 0, 0⟩] := ho.toks
        obtain ⟨b3, o3, rfl, hb3, f0, f1, f2, f3⟩ := have_one hh
        clear hh
        simp only [HSAME.out] at f1
        clear ho W2
        go_wp2_with fail
        refine (HNUM.out _).mono ?_
        rintro e w' ⟨rfl, rfl⟩
        go_wp2_with fail
        refine (HNAME.out _).mono ?_
        rintro e w' ⟨rfl, rfl⟩
        go_wp2_with fail
        go_ret
        exact ⟨rfl, W3.out⟩


set_option maxRecDepth 100000 in
set_option maxHeartbeats 4000000 in
theorem quotes_num (s t : ByteArray) (w : World) (hsg : Signs w) (ht : t.size ≤ 900) (hcut : ∀ w, Calls Tryd.prog 11 #[.string s] w fun e w' => e = .returned (.string t) ∧ w = w') (hw : scan false (bs t) 0 = ⟨[⟨1, bs t, val (bs t), 0⟩], 0, 0⟩) (hn : nameOk (bs t) = false) (hm : numOk (bs t) = true) :
    Calls Tryd.prog 8 #[.string s] w fun e w' => e = .returned (.bool true) ∧ Way w w' := by
  have hlen := bs_len t
  have HSAME := Lib.hid (str_same t (bs t) rfl)
  have hquote := fun wx => quote_any t wx (by omega)
  have hnum := fun wx => number_any t wx (by omega)
  have hname := fun wx => name_any t wx (by omega)
  rw [hm] at hnum
  rw [hn] at hname
  have hscan := fun wx h => scan_call t _ hw.symm (by omega) wx h
  rw [numV_yes hm] at hnum
  have hv1 := numOk_val hm
  have W0 := Lib.hid (Way.refl hsg)
  have HC := Lib.hid hcut
  have HS := Lib.hid hscan
  have HNUM := Lib.hid hnum
  have HNAME := Lib.hid hname
  have hp0 : decide ((t.size : Int) ≤ 400) = plainTo (bs t) 0 := by unfold plainTo; rw [hlen, Bool.eq_iff_iff]; simp; omega
  have HP0 := Lib.hid hp0
  have HNV := Lib.hid (show (0 : Int) ≤ (val (bs t) : Int) by omega)
  have hnv2 : ((val (bs t) : Nat) : Int) ≤ 1099511627776 := by omega
  clear hv1
  clear hw
  clear hscan hnum hname hsg hn hm hlen hcut hp0
  cases hv : valueOk (bs t) with
  | true =>
    have HV := Lib.hid hv
    rw [hv] at hquote
    have hsq := scan_quote hv
    have hqv : quoteV (bs t) = quote (bs t) := by unfold quoteV; rw [if_pos hv]
    have hql := quote_len (bs t)
    rw [bs_len] at hql
    have hscq := fun wx h => scan_call ⟨(quote (bs t)).toArray⟩ _ hsq.symm (by rw [size_mk']; omega) wx h
    rw [hqv] at hquote
    have HSQ := Lib.hid hscq
    clear hscq hqv hsq hql
    have heq2 := tok_neq_same ⟨2, t, 0, 0⟩
    simp only at heq2
    have HQ := Lib.hid hquote
    clear hquote hv
    go_enter Tryd.func8, Tryd.ntmps8
    go_wp2_with fail
    refine (sane_any _ W0.out.signs).mono ?_
    rintro e w1 ⟨rfl, hw⟩
    have W1 := Lib.hid hw
    clear hw W0
    go_wp2_with fail
    refine (HC.out _).mono ?_
    rintro e w' ⟨rfl, rfl⟩
    go_wp2_with fail
    refine (HQ.out _).mono ?_
    rintro e w2 ⟨rfl, hb⟩
    have W2 := Lib.hid (W1.out.step hb)
    clear hb W1
    go_wp2_with fail
    go_loop [7, 8] (fun x i => ∃ (k : Nat) (b : Bool), x = .bool b ∧ i = .int .i64 k ∧ k ≤ t.size ∧ Hid (b = plainTo (bs t) k)) (fun _ i => t.size - (intOf i).toNat)
    case atStart => exact ⟨0, _, rfl, rfl, by omega, HP0.out⟩
    case round =>
      obtain ⟨k, b, rfl, rfl, hk, HB⟩ := hrel
      by_cases hlt : k < t.size
      · have hg := bs_get t k hlt
        have HN := Lib.hid (plainTo_next hg)
        have hp : plain t[k] = (decide (32 ≤ t[k].toNat) && decide (t[k].toNat ≤ 126)) := by
          rw [Bool.eq_iff_iff]; simp [plain]
        have HPL := Lib.hid hp
        clear hg hp
        cases b with
        | false =>
          go_wp2
          go_round
          case rel => exact ⟨k + 1, _, rfl, by go_num, by omega, by rw [HN.out, ← HB.out]; rfl⟩
          case measure => simp [intOf]; omega
        | true =>
          by_cases h32 : (32 : Int) ≤ (t[k].toNat : Int)
          · by_cases h126 : (t[k].toNat : Int) ≤ 126
            · have e32 : decide ((32 : Int) ≤ (t[k].toNat : Int)) = true := by simpa using h32
              have e126 : decide ((t[k].toNat : Int) ≤ 126) = true := by simpa using h126
              have HX := Lib.hid (show plain t[k] = true by rw [HPL.out]; simp; omega)
              go_wp2
              go_round
              case rel => exact ⟨k + 1, _, rfl, by go_num, by omega, by rw [HN.out, ← HB.out, HX.out]; rfl⟩
              case measure => simp [intOf]; omega
            · have e32 : decide ((32 : Int) ≤ (t[k].toNat : Int)) = true := by simpa using h32
              have e126 : decide ((t[k].toNat : Int) ≤ 126) = false := by simpa using h126
              have HX := Lib.hid (show plain t[k] = false by rw [HPL.out]; simp; omega)
              go_wp2
              go_round
              case rel => exact ⟨k + 1, _, rfl, by go_num, by omega, by rw [HN.out, ← HB.out, HX.out]; rfl⟩
              case measure => simp [intOf]; omega
          · have e32 : decide ((32 : Int) ≤ (t[k].toNat : Int)) = false := by simpa using h32
            have HX := Lib.hid (show plain t[k] = false by rw [HPL.out]; simp; omega)
            go_wp2
            go_round
            case rel => exact ⟨k + 1, _, rfl, by go_num, by omega, by rw [HN.out, ← HB.out, HX.out]; rfl⟩
            case measure => simp [intOf]; omega
      · have hkk : k = t.size := by omega
        subst hkk
        have hb := HB.out
        rw [← bs_len, plainTo_all, HV.out] at hb
        subst hb
        clear HB
        go_wp2_with fail
        refine (HSQ.out _ W2.out.signs).mono ?_
        rintro e w3 ⟨A3, c3, rfl, ho⟩
        have W3 := Lib.hid (W2.out.step ho.2.1)
        have hh : Have w3 A3 [⟨2, bs t, 0, 0⟩] := ho.toks
        obtain ⟨b3, o3, rfl, hb3, d0, d1, d2, d3⟩ := have_one hh
        simp only [HSAME.out] at d1
        clear ho W2 hh
        go_wp2_with fail
        refine (HS.out _ W3.out.signs).mono ?_
        rintro e w4 ⟨A4, c4, rfl, ho⟩
        have W4 := Lib.hid (W3.out.step ho.2.1)
        have hh : Have w4 A4 [⟨1, bs t, val (bs t), 0⟩] := ho.toks
        obtain ⟨b4, o4, rfl, hb4, f0, f1, f2, f3⟩ := have_one hh
        clear hh
        simp only [HSAME.out] at f1
        clear ho W3
        go_wp2_with fail
        refine (HNUM.out _).mono ?_
        rintro e w' ⟨rfl, rfl⟩
        go_wp2_with fail
        refine (HNAME.out _).mono ?_
        rintro e w' ⟨rfl, rfl⟩
        go_wp2_with fail
        go_ret
        exact ⟨rfl, W4.out⟩
  | false =>
    have HV := Lib.hid hv
    rw [hv] at hquote
    have hqv : quoteV (bs t) = [] := by unfold quoteV; rw [if_neg (by rw [hv]; decide)]
    rw [hqv] at hquote
    clear hqv
    have HQ := Lib.hid hquote
    clear hquote hv
    go_enter Tryd.func8, Tryd.ntmps8
    go_wp2_with fail
    refine (sane_any _ W0.out.signs).mono ?_
    rintro e w1 ⟨rfl, hw⟩
    have W1 := Lib.hid hw
    clear hw W0
    go_wp2_with fail
    refine (HC.out _).mono ?_
    rintro e w' ⟨rfl, rfl⟩
    go_wp2_with fail
    refine (HQ.out _).mono ?_
    rintro e w2 ⟨rfl, hb⟩
    have W2 := Lib.hid (W1.out.step hb)
    clear hb W1
    go_wp2_with fail
    go_loop [7, 8] (fun x i => ∃ (k : Nat) (b : Bool), x = .bool b ∧ i = .int .i64 k ∧ k ≤ t.size ∧ Hid (b = plainTo (bs t) k)) (fun _ i => t.size - (intOf i).toNat)
    case atStart => exact ⟨0, _, rfl, rfl, by omega, HP0.out⟩
    case round =>
      obtain ⟨k, b, rfl, rfl, hk, HB⟩ := hrel
      by_cases hlt : k < t.size
      · have hg := bs_get t k hlt
        have HN := Lib.hid (plainTo_next hg)
        have hp : plain t[k] = (decide (32 ≤ t[k].toNat) && decide (t[k].toNat ≤ 126)) := by
          rw [Bool.eq_iff_iff]; simp [plain]
        have HPL := Lib.hid hp
        clear hg hp
        cases b with
        | false =>
          go_wp2
          go_round
          case rel => exact ⟨k + 1, _, rfl, by go_num, by omega, by rw [HN.out, ← HB.out]; rfl⟩
          case measure => simp [intOf]; omega
        | true =>
          by_cases h32 : (32 : Int) ≤ (t[k].toNat : Int)
          · by_cases h126 : (t[k].toNat : Int) ≤ 126
            · have e32 : decide ((32 : Int) ≤ (t[k].toNat : Int)) = true := by simpa using h32
              have e126 : decide ((t[k].toNat : Int) ≤ 126) = true := by simpa using h126
              have HX := Lib.hid (show plain t[k] = true by rw [HPL.out]; simp; omega)
              go_wp2
              go_round
              case rel => exact ⟨k + 1, _, rfl, by go_num, by omega, by rw [HN.out, ← HB.out, HX.out]; rfl⟩
              case measure => simp [intOf]; omega
            · have e32 : decide ((32 : Int) ≤ (t[k].toNat : Int)) = true := by simpa using h32
              have e126 : decide ((t[k].toNat : Int) ≤ 126) = false := by simpa using h126
              have HX := Lib.hid (show plain t[k] = false by rw [HPL.out]; simp; omega)
              go_wp2
              go_round
              case rel => exact ⟨k + 1, _, rfl, by go_num, by omega, by rw [HN.out, ← HB.out, HX.out]; rfl⟩
              case measure => simp [intOf]; omega
          · have e32 : decide ((32 : Int) ≤ (t[k].toNat : Int)) = false := by simpa using h32
            have HX := Lib.hid (show plain t[k] = false by rw [HPL.out]; simp; omega)
            go_wp2
            go_round
            case rel => exact ⟨k + 1, _, rfl, by go_num, by omega, by rw [HN.out, ← HB.out, HX.out]; rfl⟩
            case measure => simp [intOf]; omega
      · have hkk : k = t.size := by omega
        subst hkk
        have hb := HB.out
        rw [← bs_len, plainTo_all, HV.out] at hb
        subst hb
        clear HB
        go_wp2_with fail
        refine (HS.out _ W2.out.signs).mono ?_
        rintro e w3 ⟨A3, c3, rfl, ho⟩
        have W3 := Lib.hid (W2.out.step ho.2.1)
        have hh : Have w3 A3 [⟨1, bs t, val (bs t), 0⟩] := ho.toks
        obtain ⟨b3, o3, rfl, hb3, f0, f1, f2, f3⟩ := have_one hh
        clear hh
        simp only [HSAME.out] at f1
        clear ho W2
        go_wp2_with fail
        refine (HNUM.out _).mono ?_
        rintro e w' ⟨rfl, rfl⟩
        go_wp2_with fail
        refine (HNAME.out _).mono ?_
        rintro e w' ⟨rfl, rfl⟩
        go_wp2_with fail
        go_ret
        exact ⟨rfl, W3.out⟩


set_option maxRecDepth 100000 in
set_option maxHeartbeats 4000000 in
theorem quotes_other (s t : ByteArray) (w : World) (hsg : Signs w) (ht : t.size ≤ 900) (hcut : ∀ w, Calls Tryd.prog 11 #[.string s] w fun e w' => e = .returned (.string t) ∧ w = w') (x : Tok) (he : (scan false (bs t) 0).err = 0) (hw : (scan false (bs t) 0).toks = [x]) (hn : nameOk (bs t) = false) (hm : numOk (bs t) = false) (hx : x.text = bs t → x.kind ≠ 0 ∧ x.kind ≠ 1) :
    Calls Tryd.prog 8 #[.string s] w fun e w' => e = .returned (.bool true) ∧ Way w w' := by
  have hlen := bs_len t
  have HSAME := Lib.hid (str_same t (bs t) rfl)
  have hquote := fun wx => quote_any t wx (by omega)
  have hnum := fun wx => number_any t wx (by omega)
  have hname := fun wx => name_any t wx (by omega)
  rw [hm] at hnum
  rw [hn] at hname
  have hR : (⟨[x], (scan false (bs t) 0).at_, 0⟩ : Res) = scan false (bs t) 0 := by rw [← hw, ← he]
  have hscan := fun wx h => scan_call t _ hR (by omega) wx h
  rw [numV_no hm] at hnum
  clear hR
  have W0 := Lib.hid (Way.refl hsg)
  have HC := Lib.hid hcut
  have HS := Lib.hid hscan
  have HNUM := Lib.hid hnum
  have HNAME := Lib.hid hname
  have hp0 : decide ((t.size : Int) ≤ 400) = plainTo (bs t) 0 := by unfold plainTo; rw [hlen, Bool.eq_iff_iff]; simp; omega
  have HP0 := Lib.hid hp0
  clear hw
  clear he
  clear hscan hnum hname hsg hn hm hlen hcut hp0
  cases hv : valueOk (bs t) with
  | true =>
    have HV := Lib.hid hv
    rw [hv] at hquote
    have hsq := scan_quote hv
    have hqv : quoteV (bs t) = quote (bs t) := by unfold quoteV; rw [if_pos hv]
    have hql := quote_len (bs t)
    rw [bs_len] at hql
    have hscq := fun wx h => scan_call ⟨(quote (bs t)).toArray⟩ _ hsq.symm (by rw [size_mk']; omega) wx h
    rw [hqv] at hquote
    have HSQ := Lib.hid hscq
    clear hscq hqv hsq hql
    have heq2 := tok_neq_same ⟨2, t, 0, 0⟩
    simp only at heq2
    have HQ := Lib.hid hquote
    clear hquote hv
    by_cases htx : x.text = bs t
    · obtain ⟨h0, h1⟩ := hx htx
      have k0 : (x.kind == 0) = false := by simpa using h0
      have k1 : (x.kind == 1) = false := by simpa using h1
      have hxt : (⟨x.text.toArray⟩ : ByteArray) = t := by rw [htx]; exact HSAME.out
      have HXT := Lib.hid hxt
      clear hx h0 h1 hxt htx
      go_enter Tryd.func8, Tryd.ntmps8
      go_wp2_with fail
      refine (sane_any _ W0.out.signs).mono ?_
      rintro e w1 ⟨rfl, hw⟩
      have W1 := Lib.hid hw
      clear hw W0
      go_wp2_with fail
      refine (HC.out _).mono ?_
      rintro e w' ⟨rfl, rfl⟩
      go_wp2_with fail
      refine (HQ.out _).mono ?_
      rintro e w2 ⟨rfl, hb⟩
      have W2 := Lib.hid (W1.out.step hb)
      clear hb W1
      go_wp2_with fail
      go_loop [7, 8] (fun x i => ∃ (k : Nat) (b : Bool), x = .bool b ∧ i = .int .i64 k ∧ k ≤ t.size ∧ Hid (b = plainTo (bs t) k)) (fun _ i => t.size - (intOf i).toNat)
      case atStart => exact ⟨0, _, rfl, rfl, by omega, HP0.out⟩
      case round =>
        obtain ⟨k, b, rfl, rfl, hk, HB⟩ := hrel
        by_cases hlt : k < t.size
        · have hg := bs_get t k hlt
          have HN := Lib.hid (plainTo_next hg)
          have hp : plain t[k] = (decide (32 ≤ t[k].toNat) && decide (t[k].toNat ≤ 126)) := by
            rw [Bool.eq_iff_iff]; simp [plain]
          have HPL := Lib.hid hp
          clear hg hp
          cases b with
          | false =>
            go_wp2
            go_round
            case rel => exact ⟨k + 1, _, rfl, by go_num, by omega, by rw [HN.out, ← HB.out]; rfl⟩
            case measure => simp [intOf]; omega
          | true =>
            by_cases h32 : (32 : Int) ≤ (t[k].toNat : Int)
            · by_cases h126 : (t[k].toNat : Int) ≤ 126
              · have e32 : decide ((32 : Int) ≤ (t[k].toNat : Int)) = true := by simpa using h32
                have e126 : decide ((t[k].toNat : Int) ≤ 126) = true := by simpa using h126
                have HX := Lib.hid (show plain t[k] = true by rw [HPL.out]; simp; omega)
                go_wp2
                go_round
                case rel => exact ⟨k + 1, _, rfl, by go_num, by omega, by rw [HN.out, ← HB.out, HX.out]; rfl⟩
                case measure => simp [intOf]; omega
              · have e32 : decide ((32 : Int) ≤ (t[k].toNat : Int)) = true := by simpa using h32
                have e126 : decide ((t[k].toNat : Int) ≤ 126) = false := by simpa using h126
                have HX := Lib.hid (show plain t[k] = false by rw [HPL.out]; simp; omega)
                go_wp2
                go_round
                case rel => exact ⟨k + 1, _, rfl, by go_num, by omega, by rw [HN.out, ← HB.out, HX.out]; rfl⟩
                case measure => simp [intOf]; omega
            · have e32 : decide ((32 : Int) ≤ (t[k].toNat : Int)) = false := by simpa using h32
              have HX := Lib.hid (show plain t[k] = false by rw [HPL.out]; simp; omega)
              go_wp2
              go_round
              case rel => exact ⟨k + 1, _, rfl, by go_num, by omega, by rw [HN.out, ← HB.out, HX.out]; rfl⟩
              case measure => simp [intOf]; omega
        · have hkk : k = t.size := by omega
          subst hkk
          have hb := HB.out
          rw [← bs_len, plainTo_all, HV.out] at hb
          subst hb
          clear HB
          go_wp2_with fail
          refine (HSQ.out _ W2.out.signs).mono ?_
          rintro e w3 ⟨A3, c3, rfl, ho⟩
          have W3 := Lib.hid (W2.out.step ho.2.1)
          have hh : Have w3 A3 [⟨2, bs t, 0, 0⟩] := ho.toks
          obtain ⟨b3, o3, rfl, hb3, d0, d1, d2, d3⟩ := have_one hh
          simp only [HSAME.out] at d1
          clear ho W2 hh
          go_wp2_with fail
          refine (HS.out _ W3.out.signs).mono ?_
          rintro e w4 ⟨A4, c4, rfl, ho⟩
          have W4 := Lib.hid (W3.out.step ho.2.1)
          have hh : Have w4 A4 [x] := ho.toks
          obtain ⟨b4, o4, rfl, hb4, f0, f1, f2, f3⟩ := have_one hh
          clear hh
          simp only [HXT.out] at f1
          clear ho W3
          go_wp2_with fail
          refine (HNUM.out _).mono ?_
          rintro e w' ⟨rfl, rfl⟩
          go_wp2_with fail
          refine (HNAME.out _).mono ?_
          rintro e w' ⟨rfl, rfl⟩
          by_cases hpos : x.pos = 0
          · have kp : ((x.pos : Int) == 0) = true := by simp [hpos]
            clear hpos
            go_wp2_with fail
            go_ret
            exact ⟨rfl, W4.out⟩
          · have kp : ((x.pos : Int) == 0) = false := by simpa using hpos
            clear hpos
            go_wp2_with fail
            go_ret
            exact ⟨rfl, W4.out⟩
    · have ktx : (x.text == t.toList) = false := by
        rw [beq_eq_false_iff_ne]; intro e; apply htx
        rw [e]; exact bs_toList t
      clear hx htx
      go_enter Tryd.func8, Tryd.ntmps8
      go_wp2_with fail
      refine (sane_any _ W0.out.signs).mono ?_
      rintro e w1 ⟨rfl, hw⟩
      have W1 := Lib.hid hw
      clear hw W0
      go_wp2_with fail
      refine (HC.out _).mono ?_
      rintro e w' ⟨rfl, rfl⟩
      go_wp2_with fail
      refine (HQ.out _).mono ?_
      rintro e w2 ⟨rfl, hb⟩
      have W2 := Lib.hid (W1.out.step hb)
      clear hb W1
      go_wp2_with fail
      go_loop [7, 8] (fun x i => ∃ (k : Nat) (b : Bool), x = .bool b ∧ i = .int .i64 k ∧ k ≤ t.size ∧ Hid (b = plainTo (bs t) k)) (fun _ i => t.size - (intOf i).toNat)
      case atStart => exact ⟨0, _, rfl, rfl, by omega, HP0.out⟩
      case round =>
        obtain ⟨k, b, rfl, rfl, hk, HB⟩ := hrel
        by_cases hlt : k < t.size
        · have hg := bs_get t k hlt
          have HN := Lib.hid (plainTo_next hg)
          have hp : plain t[k] = (decide (32 ≤ t[k].toNat) && decide (t[k].toNat ≤ 126)) := by
            rw [Bool.eq_iff_iff]; simp [plain]
          have HPL := Lib.hid hp
          clear hg hp
          cases b with
          | false =>
            go_wp2
            go_round
            case rel => exact ⟨k + 1, _, rfl, by go_num, by omega, by rw [HN.out, ← HB.out]; rfl⟩
            case measure => simp [intOf]; omega
          | true =>
            by_cases h32 : (32 : Int) ≤ (t[k].toNat : Int)
            · by_cases h126 : (t[k].toNat : Int) ≤ 126
              · have e32 : decide ((32 : Int) ≤ (t[k].toNat : Int)) = true := by simpa using h32
                have e126 : decide ((t[k].toNat : Int) ≤ 126) = true := by simpa using h126
                have HX := Lib.hid (show plain t[k] = true by rw [HPL.out]; simp; omega)
                go_wp2
                go_round
                case rel => exact ⟨k + 1, _, rfl, by go_num, by omega, by rw [HN.out, ← HB.out, HX.out]; rfl⟩
                case measure => simp [intOf]; omega
              · have e32 : decide ((32 : Int) ≤ (t[k].toNat : Int)) = true := by simpa using h32
                have e126 : decide ((t[k].toNat : Int) ≤ 126) = false := by simpa using h126
                have HX := Lib.hid (show plain t[k] = false by rw [HPL.out]; simp; omega)
                go_wp2
                go_round
                case rel => exact ⟨k + 1, _, rfl, by go_num, by omega, by rw [HN.out, ← HB.out, HX.out]; rfl⟩
                case measure => simp [intOf]; omega
            · have e32 : decide ((32 : Int) ≤ (t[k].toNat : Int)) = false := by simpa using h32
              have HX := Lib.hid (show plain t[k] = false by rw [HPL.out]; simp; omega)
              go_wp2
              go_round
              case rel => exact ⟨k + 1, _, rfl, by go_num, by omega, by rw [HN.out, ← HB.out, HX.out]; rfl⟩
              case measure => simp [intOf]; omega
        · have hkk : k = t.size := by omega
          subst hkk
          have hb := HB.out
          rw [← bs_len, plainTo_all, HV.out] at hb
          subst hb
          clear HB
          go_wp2_with fail
          refine (HSQ.out _ W2.out.signs).mono ?_
          rintro e w3 ⟨A3, c3, rfl, ho⟩
          have W3 := Lib.hid (W2.out.step ho.2.1)
          have hh : Have w3 A3 [⟨2, bs t, 0, 0⟩] := ho.toks
          obtain ⟨b3, o3, rfl, hb3, d0, d1, d2, d3⟩ := have_one hh
          simp only [HSAME.out] at d1
          clear ho W2 hh
          go_wp2_with fail
          refine (HS.out _ W3.out.signs).mono ?_
          rintro e w4 ⟨A4, c4, rfl, ho⟩
          have W4 := Lib.hid (W3.out.step ho.2.1)
          have hh : Have w4 A4 [x] := ho.toks
          obtain ⟨b4, o4, rfl, hb4, f0, f1, f2, f3⟩ := have_one hh
          clear hh
          clear ho W3
          go_wp2_with fail
          refine (HNUM.out _).mono ?_
          rintro e w' ⟨rfl, rfl⟩
          go_wp2_with fail
          refine (HNAME.out _).mono ?_
          rintro e w' ⟨rfl, rfl⟩
          go_wp2_with fail
          go_ret
          exact ⟨rfl, W4.out⟩
  | false =>
    have HV := Lib.hid hv
    rw [hv] at hquote
    have hqv : quoteV (bs t) = [] := by unfold quoteV; rw [if_neg (by rw [hv]; decide)]
    rw [hqv] at hquote
    clear hqv
    have HQ := Lib.hid hquote
    clear hquote hv
    by_cases htx : x.text = bs t
    · obtain ⟨h0, h1⟩ := hx htx
      have k0 : (x.kind == 0) = false := by simpa using h0
      have k1 : (x.kind == 1) = false := by simpa using h1
      have hxt : (⟨x.text.toArray⟩ : ByteArray) = t := by rw [htx]; exact HSAME.out
      have HXT := Lib.hid hxt
      clear hx h0 h1 hxt htx
      go_enter Tryd.func8, Tryd.ntmps8
      go_wp2_with fail
      refine (sane_any _ W0.out.signs).mono ?_
      rintro e w1 ⟨rfl, hw⟩
      have W1 := Lib.hid hw
      clear hw W0
      go_wp2_with fail
      refine (HC.out _).mono ?_
      rintro e w' ⟨rfl, rfl⟩
      go_wp2_with fail
      refine (HQ.out _).mono ?_
      rintro e w2 ⟨rfl, hb⟩
      have W2 := Lib.hid (W1.out.step hb)
      clear hb W1
      go_wp2_with fail
      go_loop [7, 8] (fun x i => ∃ (k : Nat) (b : Bool), x = .bool b ∧ i = .int .i64 k ∧ k ≤ t.size ∧ Hid (b = plainTo (bs t) k)) (fun _ i => t.size - (intOf i).toNat)
      case atStart => exact ⟨0, _, rfl, rfl, by omega, HP0.out⟩
      case round =>
        obtain ⟨k, b, rfl, rfl, hk, HB⟩ := hrel
        by_cases hlt : k < t.size
        · have hg := bs_get t k hlt
          have HN := Lib.hid (plainTo_next hg)
          have hp : plain t[k] = (decide (32 ≤ t[k].toNat) && decide (t[k].toNat ≤ 126)) := by
            rw [Bool.eq_iff_iff]; simp [plain]
          have HPL := Lib.hid hp
          clear hg hp
          cases b with
          | false =>
            go_wp2
            go_round
            case rel => exact ⟨k + 1, _, rfl, by go_num, by omega, by rw [HN.out, ← HB.out]; rfl⟩
            case measure => simp [intOf]; omega
          | true =>
            by_cases h32 : (32 : Int) ≤ (t[k].toNat : Int)
            · by_cases h126 : (t[k].toNat : Int) ≤ 126
              · have e32 : decide ((32 : Int) ≤ (t[k].toNat : Int)) = true := by simpa using h32
                have e126 : decide ((t[k].toNat : Int) ≤ 126) = true := by simpa using h126
                have HX := Lib.hid (show plain t[k] = true by rw [HPL.out]; simp; omega)
                go_wp2
                go_round
                case rel => exact ⟨k + 1, _, rfl, by go_num, by omega, by rw [HN.out, ← HB.out, HX.out]; rfl⟩
                case measure => simp [intOf]; omega
              · have e32 : decide ((32 : Int) ≤ (t[k].toNat : Int)) = true := by simpa using h32
                have e126 : decide ((t[k].toNat : Int) ≤ 126) = false := by simpa using h126
                have HX := Lib.hid (show plain t[k] = false by rw [HPL.out]; simp; omega)
                go_wp2
                go_round
                case rel => exact ⟨k + 1, _, rfl, by go_num, by omega, by rw [HN.out, ← HB.out, HX.out]; rfl⟩
                case measure => simp [intOf]; omega
            · have e32 : decide ((32 : Int) ≤ (t[k].toNat : Int)) = false := by simpa using h32
              have HX := Lib.hid (show plain t[k] = false by rw [HPL.out]; simp; omega)
              go_wp2
              go_round
              case rel => exact ⟨k + 1, _, rfl, by go_num, by omega, by rw [HN.out, ← HB.out, HX.out]; rfl⟩
              case measure => simp [intOf]; omega
        · have hkk : k = t.size := by omega
          subst hkk
          have hb := HB.out
          rw [← bs_len, plainTo_all, HV.out] at hb
          subst hb
          clear HB
          go_wp2_with fail
          refine (HS.out _ W2.out.signs).mono ?_
          rintro e w3 ⟨A3, c3, rfl, ho⟩
          have W3 := Lib.hid (W2.out.step ho.2.1)
          have hh : Have w3 A3 [x] := ho.toks
          obtain ⟨b3, o3, rfl, hb3, f0, f1, f2, f3⟩ := have_one hh
          clear hh
          simp only [HXT.out] at f1
          clear ho W2
          go_wp2_with fail
          refine (HNUM.out _).mono ?_
          rintro e w' ⟨rfl, rfl⟩
          go_wp2_with fail
          refine (HNAME.out _).mono ?_
          rintro e w' ⟨rfl, rfl⟩
          by_cases hpos : x.pos = 0
          · have kp : ((x.pos : Int) == 0) = true := by simp [hpos]
            clear hpos
            go_wp2_with fail
            go_ret
            exact ⟨rfl, W3.out⟩
          · have kp : ((x.pos : Int) == 0) = false := by simpa using hpos
            clear hpos
            go_wp2_with fail
            go_ret
            exact ⟨rfl, W3.out⟩
    · have ktx : (x.text == t.toList) = false := by
        rw [beq_eq_false_iff_ne]; intro e; apply htx
        rw [e]; exact bs_toList t
      clear hx htx
      go_enter Tryd.func8, Tryd.ntmps8
      go_wp2_with fail
      refine (sane_any _ W0.out.signs).mono ?_
      rintro e w1 ⟨rfl, hw⟩
      have W1 := Lib.hid hw
      clear hw W0
      go_wp2_with fail
      refine (HC.out _).mono ?_
      rintro e w' ⟨rfl, rfl⟩
      go_wp2_with fail
      refine (HQ.out _).mono ?_
      rintro e w2 ⟨rfl, hb⟩
      have W2 := Lib.hid (W1.out.step hb)
      clear hb W1
      go_wp2_with fail
      go_loop [7, 8] (fun x i => ∃ (k : Nat) (b : Bool), x = .bool b ∧ i = .int .i64 k ∧ k ≤ t.size ∧ Hid (b = plainTo (bs t) k)) (fun _ i => t.size - (intOf i).toNat)
      case atStart => exact ⟨0, _, rfl, rfl, by omega, HP0.out⟩
      case round =>
        obtain ⟨k, b, rfl, rfl, hk, HB⟩ := hrel
        by_cases hlt : k < t.size
        · have hg := bs_get t k hlt
          have HN := Lib.hid (plainTo_next hg)
          have hp : plain t[k] = (decide (32 ≤ t[k].toNat) && decide (t[k].toNat ≤ 126)) := by
            rw [Bool.eq_iff_iff]; simp [plain]
          have HPL := Lib.hid hp
          clear hg hp
          cases b with
          | false =>
            go_wp2
            go_round
            case rel => exact ⟨k + 1, _, rfl, by go_num, by omega, by rw [HN.out, ← HB.out]; rfl⟩
            case measure => simp [intOf]; omega
          | true =>
            by_cases h32 : (32 : Int) ≤ (t[k].toNat : Int)
            · by_cases h126 : (t[k].toNat : Int) ≤ 126
              · have e32 : decide ((32 : Int) ≤ (t[k].toNat : Int)) = true := by simpa using h32
                have e126 : decide ((t[k].toNat : Int) ≤ 126) = true := by simpa using h126
                have HX := Lib.hid (show plain t[k] = true by rw [HPL.out]; simp; omega)
                go_wp2
                go_round
                case rel => exact ⟨k + 1, _, rfl, by go_num, by omega, by rw [HN.out, ← HB.out, HX.out]; rfl⟩
                case measure => simp [intOf]; omega
              · have e32 : decide ((32 : Int) ≤ (t[k].toNat : Int)) = true := by simpa using h32
                have e126 : decide ((t[k].toNat : Int) ≤ 126) = false := by simpa using h126
                have HX := Lib.hid (show plain t[k] = false by rw [HPL.out]; simp; omega)
                go_wp2
                go_round
                case rel => exact ⟨k + 1, _, rfl, by go_num, by omega, by rw [HN.out, ← HB.out, HX.out]; rfl⟩
                case measure => simp [intOf]; omega
            · have e32 : decide ((32 : Int) ≤ (t[k].toNat : Int)) = false := by simpa using h32
              have HX := Lib.hid (show plain t[k] = false by rw [HPL.out]; simp; omega)
              go_wp2
              go_round
              case rel => exact ⟨k + 1, _, rfl, by go_num, by omega, by rw [HN.out, ← HB.out, HX.out]; rfl⟩
              case measure => simp [intOf]; omega
        · have hkk : k = t.size := by omega
          subst hkk
          have hb := HB.out
          rw [← bs_len, plainTo_all, HV.out] at hb
          subst hb
          clear HB
          go_wp2_with fail
          refine (HS.out _ W2.out.signs).mono ?_
          rintro e w3 ⟨A3, c3, rfl, ho⟩
          have W3 := Lib.hid (W2.out.step ho.2.1)
          have hh : Have w3 A3 [x] := ho.toks
          obtain ⟨b3, o3, rfl, hb3, f0, f1, f2, f3⟩ := have_one hh
          clear hh
          clear ho W2
          go_wp2_with fail
          refine (HNUM.out _).mono ?_
          rintro e w' ⟨rfl, rfl⟩
          go_wp2_with fail
          refine (HNAME.out _).mono ?_
          rintro e w' ⟨rfl, rfl⟩
          go_wp2_with fail
          go_ret
          exact ⟨rfl, W3.out⟩


theorem quotes_any (s : ByteArray) (w : World) (hs : s.size ≤ 9223372036854775807) (hsg : Signs w) :
    Calls Tryd.prog 8 #[.string s] w fun e w' => e = .returned (.bool true) ∧ Way w w' := by
  have hcut := fun w => cut_any s w hs
  have hsz : (⟨((bs s).take 900).toArray⟩ : ByteArray).size ≤ 900 := by rw [size_mk', List.length_take]; omega
  rcases whole_of (bs ⟨((bs s).take 900).toArray⟩) with ⟨h, hn, hm⟩ | ⟨h, hn, hm⟩ | ⟨h, hn, hm⟩ | ⟨x, he, h, hn, hm, ho⟩
  · exact quotes_bad s _ w hsg hsz hcut h hn hm
  · exact quotes_name s _ w hsg hsz hcut h hn hm
  · exact quotes_num s _ w hsg hsz hcut h hn hm
  · exact quotes_other s _ w hsg hsz hcut x he h hn hm ho

end Go.Proofs.YtmkeajeohkdieaaDoor
