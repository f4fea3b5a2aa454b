/- The reference's Scan and Print. -/
import Derived.Test.YtmkeajeohkdieaaDoorLxV
import Derived.Outline
namespace Go.Proofs.YtmkeajeohkdieaaDoor
open Go.RowKit Lx
set_option linter.unusedSimpArgs false
set_option linter.unusedVariables false

/-- the state of the reference's loop -/
def RefAt (l : List UInt8) (cm : Bool) (p : Nat) (ts : List Tok) : Prop := ts.length ≤ p ∧ scan false l 0 = pre ts (scan cm (l.drop p) p)
theorem refAt_start (l : List UInt8) : RefAt l false 0 [] := ⟨by simp, by rw [pre_nil]; simp⟩
theorem refAt_skip {l : List UInt8} {cm : Bool} {p : Nat} {ts : List Tok} {c : UInt8} (h : RefAt l cm p ts) (hc : l[p]? = some c) (hs : ((cm && c != 10) || Lx.blank c) = true) : RefAt l (cm && c != 10) (p + 1) ts := by
  refine ⟨by have := h.1; omega, ?_⟩
  rw [h.2, drop_at hc, scan_skip hs]
theorem refAt_hash {l : List UInt8} {cm : Bool} {p : Nat} {ts : List Tok} (h : RefAt l cm p ts) (hc : l[p]? = some 35) : RefAt l true p ts := by
  refine ⟨h.1, ?_⟩
  rw [h.2, drop_at hc]
  cases cm with
  | true => rfl
  | false => rw [scan_open_hash]
theorem refAt_line {l : List UInt8} {cm : Bool} {p : Nat} {ts : List Tok} (h : RefAt l cm p ts) (hc : l[p]? = some 10) : RefAt l false p ts := by
  refine ⟨h.1, ?_⟩
  rw [h.2, drop_at hc]
  cases cm with
  | true => rw [scan_open_line]
  | false => rfl
theorem refAt_tok {l : List UInt8} {p : Nat} {ts : List Tok} {c : UInt8} {r : List UInt8} (h : RefAt l false p ts) (hb : l.drop p = c :: r) (h1 : Lx.blank c = false) (h2 : c ≠ 35) (hx : (next c r).1 = 0) :
    RefAt l false (p + (next c r).2.2) (ts ++ [(next c r).2.1.place p]) := by
  have hn := next_len hx
  refine ⟨by have := h.1; simp; omega, ?_⟩
  rw [h.2, hb, scan_tok (by simpa using h1) h2 hx, pre_pre, ← hb, List.drop_drop]
theorem refAt_err {l : List UInt8} {p : Nat} {ts : List Tok} {c : UInt8} {r : List UInt8} (h : RefAt l false p ts) (hb : l.drop p = c :: r) (h1 : Lx.blank c = false) (h2 : c ≠ 35) (hx : (next c r).1 ≠ 0) :
    scan false l 0 = ⟨[], p, (next c r).1⟩ := by
  rw [h.2, hb, scan_err (by simpa using h1) h2 hx]
  simp [pre, hx]
theorem refAt_end {l : List UInt8} {cm : Bool} {p : Nat} {ts : List Tok} (h : RefAt l cm p ts) (hp : l.length ≤ p) : scan false l 0 = ⟨ts, 0, 0⟩ := by
  rw [h.2, List.drop_eq_nil_iff.2 hp, scan_nil]
  simp [pre, done]

set_option maxHeartbeats 8000000 in
theorem refScan_any (s : ByteArray) (w : World) (hs : s.size ≤ 20000) :
    Calls Tryd.prog 16 #[.string s] w (ScanEnd w (scan false (bs s) 0)) := by
  have HL := Lib.hid (bs_len s)
  have HS := Lib.hid (refAt_start (bs s))
  have HO := Lib.hid (show OwnT w w (.slice none 0 0) [] from Own.nil w _ _)
  have hbig : decide ((20000 : Int) < (s.size : Int)) = false := decide_eq_false (by omega)
  generalize hR : scan false (bs s) 0 = R at *
  have HR := Lib.hid hR
  clear hR
  go_enter Tryd.func16, Tryd.ntmps16
  go_wp2_with fail
  go_loopw [5, 6, 7] (fun v i c wr => ∃ (p : Nat) (cm : Bool) (ts : List Tok), i = .int .i64 p ∧ c = .bool cm ∧ p ≤ s.size ∧ ts.length ≤ p ∧ Hid (RefAt (bs s) cm p ts) ∧ Hid (OwnT w wr v ts)) (fun _ i c _ => 2 * (s.size - (intOf i).toNat) + (match c with | .bool true => 0 | _ => 1))
  case atStart => exact ⟨0, false, [], rfl, rfl, by omega, by simp, HS.out, HO.out⟩
  case round =>
    obtain ⟨p, cm, ts, rfl, rfl, hp, hts, HA, HT⟩ := hrel
    by_cases hlt : p < s.size
    · have hg := bs_get s p hlt
      have HG := Lib.hid hg
      clear hg
      cases b10 : ((s[p].toNat : Int) == 10) with
      | true =>
        have he : s[p] = 10 := by rw [is_byte s[p] 10 10 rfl] at b10; simpa using b10
        have hbl : Lx.blank s[p] = true := by rw [he]; decide
        have hline := refAt_line HA.out (by rw [HG.out, he])
        have hskip := refAt_skip hline HG.out (by rw [hbl]; rfl)
        have HN := Lib.hid (show RefAt (bs s) false (p + 1) ts from hskip)
        clear he hline hskip
        go_wp2_with (go_at_call 29; refine (rblank_any _ _).mono ?_; rintro e w' ⟨rfl, rfl⟩)
        go_roundw
        case rel => exact ⟨p + 1, false, ts, by go_num, rfl, by omega, by omega, HN.out, HT.out⟩
        case measure => simp [intOf]; cases cm <;> simp <;> omega
      | false =>
        have h10 : s[p] ≠ 10 := by rw [is_byte s[p] 10 10 rfl] at b10; simpa using b10
        cases cm with
        | true =>
          have hskip := refAt_skip HA.out HG.out (by simp [h10])
          have e : (true && s[p] != 10) = true := by simp [h10]
          rw [e] at hskip
          have HN := Lib.hid hskip
          clear hskip e h10
          go_wp2_with (go_at_call 29; refine (rblank_any _ _).mono ?_; rintro e w' ⟨rfl, rfl⟩)
          go_roundw
          case rel => exact ⟨p + 1, true, ts, by go_num, rfl, by omega, by omega, HN.out, HT.out⟩
          case measure => simp [intOf]; omega
        | false =>
          cases hbl : Lx.blank s[p] with
          | true =>
            have hskip := refAt_skip HA.out HG.out (by rw [hbl]; rfl)
            have HN := Lib.hid (show RefAt (bs s) false (p + 1) ts from hskip)
            clear hskip h10
            go_wp2_with (go_at_call 29; refine (rblank_any _ _).mono ?_; rintro e w' ⟨rfl, rfl⟩)
            go_roundw
            case rel => exact ⟨p + 1, false, ts, by go_num, rfl, by omega, by omega, HN.out, HT.out⟩
            case measure => simp [intOf]; omega
          | false =>
            cases b35 : ((s[p].toNat : Int) == 35) with
            | true =>
              have he : s[p] = 35 := by rw [is_byte s[p] 35 35 rfl] at b35; simpa using b35
              have HN := Lib.hid (refAt_hash HA.out (by rw [HG.out, he]))
              clear he h10
              go_wp2_with (go_at_call 29; refine (rblank_any _ _).mono ?_; rintro e w' ⟨rfl, rfl⟩)
              go_roundw
              case rel => exact ⟨p, true, ts, rfl, rfl, by omega, by omega, HN.out, HT.out⟩
              case measure => simp [intOf]
            | false =>
              have h35 : s[p] ≠ 35 := by rw [is_byte s[p] 35 35 rfl] at b35; simpa using b35
              have hd := drop_at HG.out
              have htok := fun wx => refToken_any s p s[p] ((bs s).drop (p + 1)) wx (by omega) hlt hd
              have hstep := refAt_tok HA.out hd hbl h35
              have herr := refAt_err HA.out hd hbl h35
              have hnl := next_len (c := s[p]) (r := (bs s).drop (p + 1))
              rw [List.length_drop, HL.out] at hnl
              rw [HR.out] at herr
              generalize next s[p] ((bs s).drop (p + 1)) = x at *
              obtain ⟨ek, t, n⟩ := x
              simp only at hstep herr hnl
              clear hd h35 h10
              by_cases hek : ek = 0
              · subst hek
                unfold TokEnd NextEnd nextAt at htok
                simp only [if_true, tokV, Tok.place] at htok
                have HST := Lib.hid (hstep rfl)
                obtain ⟨n1, n2⟩ := hnl rfl
                have HTK := Lib.hid htok
                clear hstep herr htok
                go_wp2_with (go_at_call 29; refine (rblank_any _ _).mono ?_; rintro e w' ⟨rfl, rfl⟩)
                refine (HTK.out _).mono ?_
                rintro e w2 ⟨rfl, hb2⟩
                have HT2 := Lib.hid (show OwnT w (w2.alloc (.cells #[.int .i64 t.kind, .string ⟨t.text.toArray⟩, .int .i64 t.n, .int .i64 (p : Nat)] 32)) _ ts from (HT.out.below hb2).alloc _)
                clear hb2
                have HGN := Lib.hid (show w2.heap.size + 1 = (w2.alloc (.cells #[.int .i64 t.kind, .string ⟨t.text.toArray⟩, .int .i64 t.n, .int .i64 (p : Nat)] 32)).heap.size by simp)
                have HQ := Lib.hid (show ((p : Nat) : Int) = ((t.place p).pos : Nat) from rfl)
                have hll : ts.length ≤ 1000000 := by omega
                go_wp2_with (at_builtin; refine append_tok HT2 (t.place p) _ HQ hll rfl _ _ rfl rfl _ HGN rfl ?_; intro v' w3 HT3)
                go_roundw
                case rel => exact ⟨p + n, false, _, by go_num, rfl, by omega, by simp; omega, HST.out, HT3.out⟩
                case measure => simp [intOf]; omega
              · unfold TokEnd NextEnd nextAt at htok
                rw [if_neg hek] at htok
                simp only [tokV] at htok
                have HST := Lib.hid (herr hek)
                have hek' : (ek != 0) = true := by simp [hek]
                have HTK := Lib.hid htok
                clear hstep herr htok hnl hek
                go_wp2_with (go_at_call 29; refine (rblank_any _ _).mono ?_; rintro e w' ⟨rfl, rfl⟩)
                refine (HTK.out _).mono ?_
                rintro e w2 ⟨rfl, hb2⟩
                have HB2 := Lib.hid (HT.out.2.1.trans (hb2.mono HT.out.2.2))
                clear hb2
                go_wp2_with fail
                go_ret3
                exact scan_bad HST.out (HB2.out.alloc HB2.out.size _)
    · have hend := refAt_end HA.out (by rw [HL.out]; omega)
      rw [HR.out] at hend
      have HE := Lib.hid hend
      clear hend
      obtain ⟨A, c, rfl⟩ := HT.out.form
      go_wp2_with fail
      go_ret3
      exact scan_fin HE.out HT.out

/-- the list printed so far -/
theorem printR_snoc (rs : List RTok) (k : Nat) (r : RTok) (h : rs[k]? = some r) :
    printR (rs.take (k + 1)) = printR (rs.take k) ++ (if k = 0 then [] else [32]) ++ rsrc r := by
  rw [List.take_add_one, h]
  unfold printR
  rw [List.map_append]
  show Lib.join ((rs.take k).map rsrc ++ [rsrc r]) [32] = _
  have key : ∀ (xs : List (List UInt8)) (y : List UInt8), Lib.join (xs ++ [y]) [32] = Lib.join xs [32] ++ (if xs = [] then [] else [32]) ++ y := by
    intro xs y
    cases xs with
    | nil => rw [List.nil_append, Lib.join_one, if_pos rfl, Lib.join_nil]; rfl
    | cons x xs =>
      rw [List.cons_append, Lib.join_cons, Lib.join_cons, if_neg (by simp)]
      unfold Lib.joinTail
      simp
  rw [key]
  have hk : k < rs.length := (List.getElem?_eq_some_iff.1 h).1
  by_cases h0 : k = 0
  · subst h0; simp
  · rw [if_neg (by
      intro e
      have h1 : ((rs.take k).map rsrc).length = 0 := by rw [e]; rfl
      rw [List.length_map, List.length_take] at h1; omega), if_neg h0]

set_option maxHeartbeats 8000000 in
theorem refPrint_any (A : Option Addr) (c : Nat) (rs : List RTok) (w : World) (hr : Toks w w.heap.size A rs) (hn : rs.length ≤ 10000) (ht : ∀ r ∈ rs, r.text.size ≤ 100000) :
    Calls Tryd.prog 24 #[.slice A rs.length c] w fun e w' => e = .returned (.string ⟨(printR rs).toArray⟩) ∧ w = w' := by
  have HR := Lib.hid hr
  have HT := Lib.hid ht
  clear hr ht
  have h32 : (⟨#[32]⟩ : ByteArray).size = 1 := rfl
  go_enter Tryd.func24, Tryd.ntmps24
  go_wp2_with fail
  go_loop [3, 4] (fun v i => ∃ (k : Nat) (u : ByteArray), i = .int .i64 k ∧ v = .string u ∧ k ≤ rs.length ∧ u.size ≤ k * 300000 ∧ Hid (u = ⟨(printR (rs.take k)).toArray⟩)) (fun _ i => rs.length - (intOf i).toNat)
  case atStart => exact ⟨0, _, rfl, rfl, by omega, by decide, rfl⟩
  case round =>
    obtain ⟨k, u, rfl, rfl, hk, hu, HU⟩ := hrel
    by_cases hlt : k < rs.length
    · obtain ⟨r, hrk⟩ : ∃ r, rs[k]? = some r := ⟨_, List.getElem?_eq_getElem hlt⟩
      obtain ⟨b, off, rfl, hb, hcell⟩ := HR.out.open_ (by omega)
      obtain ⟨c0, c1, c2, c3⟩ := Toks.cell hcell hrk
      have htx : r.text.size ≤ 100000 := HT.out r (List.mem_of_getElem? hrk)
      have hsn := printR_snoc rs k r hrk
      obtain ⟨q, hq⟩ : ∃ q : ByteArray, q = ⟨(rsrc r).toArray⟩ := ⟨_, rfl⟩
      have hqz : q.size ≤ 200002 := by rw [hq, size_mk']; have := rsrc_le htx; omega
      have HSN := Lib.hid hsn
      have HQ := Lib.hid hq
      clear hcell hrk hsn
      have hfin : k ≠ 0 → u ++ ⟨#[32]⟩ ++ q = ⟨(printR (rs.take (k + 1))).toArray⟩ := fun h0 => by
        rw [HSN.out, if_neg h0, HU.out, HQ.out]
        show (⟨_⟩ : ByteArray) ++ ⟨[32].toArray⟩ ++ _ = _
        rw [mk_append, mk_append]
      have hfin0 : k = 0 → u ++ q = ⟨(printR (rs.take (k + 1))).toArray⟩ := fun h0 => by
        rw [HSN.out, if_pos h0, HU.out, HQ.out, mk_append]; simp
      have HF := Lib.hid hfin
      have HF0 := Lib.hid hfin0
      clear hfin hfin0
      by_cases hk2 : r.kind = 2
      · have hesc : ∀ wx, Calls Tryd.prog 14 #[.string r.text] wx fun e w' => e = .returned (.string q) ∧ wx = w' := by
          intro wx
          have := refEscaped_any r.text wx (by omega)
          rw [hq]; unfold rsrc; rw [if_pos hk2]
          exact this
        have HE := Lib.hid hesc
        have k2 : (r.kind == 2) = true := by simpa using hk2
        clear hk2 hesc hq
        by_cases h0 : k = 0
        · have h0' : decide ((0 : Int) < (k : Int)) = false := decide_eq_false (by omega)
          have h0n : decide (0 < k) = false := decide_eq_false (by omega)
          have HK0 := Lib.hid h0
          clear h0
          go_wp2_with (go_at_call 14; refine (HE.out _).mono ?_; rintro e w' ⟨rfl, rfl⟩)
          go_round
          case rel => exact ⟨k + 1, _, by go_num, rfl, by omega, by simp only [ByteArray.size_append]; omega, HF0.out HK0.out⟩
          case measure => simp [intOf]; omega
        · have h0' : decide ((0 : Int) < (k : Int)) = true := decide_eq_true (by omega)
          go_wp2_with (go_at_call 14; refine (HE.out _).mono ?_; rintro e w' ⟨rfl, rfl⟩)
          go_round
          case rel => exact ⟨k + 1, _, by go_num, rfl, by omega, by simp only [ByteArray.size_append, h32]; omega, HF.out h0⟩
          case measure => simp [intOf]; omega
      · have hqt : q = r.text := by rw [hq]; unfold rsrc; rw [if_neg hk2, str_of_bs]
        have k2 : (r.kind == 2) = false := by simpa using hk2
        clear hk2 hq
        subst hqt
        by_cases h0 : k = 0
        · have h0' : decide ((0 : Int) < (k : Int)) = false := decide_eq_false (by omega)
          have h0n : decide (0 < k) = false := decide_eq_false (by omega)
          have HK0 := Lib.hid h0
          clear h0
          go_wp2
          go_round
          case rel => exact ⟨k + 1, _, by go_num, rfl, by omega, by simp only [ByteArray.size_append]; omega, HF0.out HK0.out⟩
          case measure => simp [intOf]; omega
        · have h0' : decide ((0 : Int) < (k : Int)) = true := decide_eq_true (by omega)
          go_wp2
          go_round
          case rel => exact ⟨k + 1, _, by go_num, rfl, by omega, by simp only [ByteArray.size_append, h32]; omega, HF.out h0⟩
          case measure => simp [intOf]; omega
    · obtain rfl : k = rs.length := by omega
      rw [List.take_length] at HU
      go_wp2
      go_ret
      exact ⟨by rw [← HU.out]; rfl, rfl⟩

end Go.Proofs.YtmkeajeohkdieaaDoor
