/- The statement LexTells, walked. -/
import Derived.Test.YtmkeajeohkdieaaDoorLxW
import Derived.Outline
namespace Go.Proofs.YtmkeajeohkdieaaDoor
open Go.RowKit Lx
set_option linter.unusedSimpArgs false
set_option linter.unusedVariables false

/-- the tokens that are looked at are short -/
def ShortTo (rs : List RTok) (k : Nat) : Prop := ∀ i r, i < k → rs[i]? = some r → r.text.size ≤ 100

set_option maxRecDepth 100000 in
set_option maxHeartbeats 8000000 in
theorem tells_any (s : ByteArray) (A : Option Addr) (cp : Nat) (rs : List RTok) (w : World) (hs : s.size ≤ 9223372036854775807) (hr : Toks w w.heap.size A rs) (hcp : rs.length ≤ cp) (hsg : Signs w) :
    Calls Tryd.prog 7 #[.string s, .slice A rs.length cp] w fun e w' => e = .returned (.bool true) ∧ Way w w' := by
  obtain ⟨t, ht⟩ : ∃ t : ByteArray, t = ⟨((bs s).take 900).toArray⟩ := ⟨_, rfl⟩
  have hcut := fun w => cut_any s w hs
  rw [← ht] at hcut
  have hsz : t.size ≤ 900 := by rw [ht, size_mk', List.length_take]; omega
  clear ht hs
  have hscan := fun wx h => scan_call t _ rfl (by omega) wx h
  have hrscan := fun wx => refScan_any t wx (by omega)
  have hnum := fun wx => number_any t wx (by omega)
  have hrnum := fun wx => refNumber_any t wx (by omega)
  have hquo := fun wx => quote_any t wx (by omega)
  have hrquo := fun wx => refQuote_any t wx (by omega)
  have hname := fun wx => name_any t wx (by omega)
  have hrname := fun wx => refName_any t wx (by omega)
  have hcount : (scan false (bs t) 0).toks.length ≤ 900 := by
    by_cases h : (scan false (bs t) 0).err = 0
    · have := (scan_short h).1
      rw [bs_len] at this; omega
    · rw [scan_none h]; simp
  generalize scan false (bs t) 0 = R at *
  generalize numV (bs t) = nv at *
  generalize numOk (bs t) = nb at *
  generalize quoteV (bs t) = qv at *
  generalize valueOk (bs t) = qb at *
  generalize nameOk (bs t) = mb at *
  obtain ⟨ts, at1, e1⟩ := R
  simp only at hcount
  have HC := Lib.hid hcut
  have HS := Lib.hid hscan
  have HRS := Lib.hid hrscan
  have HN := Lib.hid hnum
  have HRN := Lib.hid hrnum
  have HQ := Lib.hid hquo
  have HRQ := Lib.hid hrquo
  have HM := Lib.hid hname
  have HRM := Lib.hid hrname
  have HR := Lib.hid hr
  have W0 := Lib.hid (Way.refl hsg)
  clear hcut hscan hrscan hnum hrnum hquo hrquo hname hrname hr hsg
  by_cases h100 : 100 < rs.length
  · have e100 : decide ((100 : Int) < (rs.length : Int)) = true := decide_eq_true (by omega)
    go_enter Tryd.func7, Tryd.ntmps7
    go_wp2_with fail
    refine (sane_any _ W0.out.signs).mono ?_
    rintro e w1 ⟨rfl, hw⟩
    have W1 := Lib.hid hw
    clear hw W0
    go_wp2_with fail
    go_ret
    exact ⟨rfl, W1.out⟩
  · have e100 : decide ((100 : Int) < (rs.length : Int)) = false := decide_eq_false (by omega)
    go_enter Tryd.func7, Tryd.ntmps7
    go_wp2_with fail
    refine (sane_any _ W0.out.signs).mono ?_
    rintro e w1 ⟨rfl, hw⟩
    have W1 := Lib.hid hw
    have HR1 := Lib.hid (HR.out.step hw.below)
    clear hw W0
    go_wp2_with fail
    go_loop [6] (fun i => ∃ k : Nat, i = .int .i64 k ∧ k ≤ rs.length ∧ Hid (ShortTo rs k)) (fun i => rs.length - (intOf i).toNat)
    case atStart => exact ⟨0, rfl, by omega, fun i r h => by omega⟩
    case round =>
      obtain ⟨k, rfl, hk, HSH⟩ := hrel
      by_cases hlt : k < rs.length
      · obtain ⟨r, hrk⟩ : ∃ r, rs[k]? = some r := ⟨_, List.getElem?_eq_getElem hlt⟩
        obtain ⟨b, off, rfl, hb, hcell⟩ := HR1.out.open_ (by omega)
        obtain ⟨c0, c1, c2, c3⟩ := Toks.cell hcell hrk
        have HRK := Lib.hid hrk
        clear hcell hrk
        by_cases hz : r.text.size ≤ 100
        · have ez : decide ((100 : Int) < (r.text.size : Int)) = false := decide_eq_false (by omega)
          have HSH' := Lib.hid (show ShortTo rs (k + 1) from fun i q hi hq => by
            by_cases h : i = k
            · subst h; have := HRK.out; rw [hq] at this; injection this with this; subst this; exact hz
            · exact HSH.out i q (by omega) hq)
          go_wp2
          go_round
          case rel => exact ⟨k + 1, by go_num, by omega, HSH'.out⟩
          case measure => simp [intOf]; omega
        · have ez : decide ((100 : Int) < (r.text.size : Int)) = true := decide_eq_true (by omega)
          go_wp2
          go_ret
          exact ⟨rfl, W1.out⟩
      · obtain rfl : k = rs.length := by omega
        have hall : ∀ r ∈ rs, r.text.size ≤ 100000 := fun r hr => by
          obtain ⟨i, hi⟩ := List.getElem?_of_mem hr
          have := HSH.out i r (List.getElem?_eq_some_iff.1 hi).1 hi
          omega
        have HALL := Lib.hid hall
        clear hall
        go_wp2_with fail
        refine (HC.out _).mono ?_
        rintro e w' ⟨rfl, rfl⟩
        go_wp2_with fail
        refine (HS.out _ W1.out.signs).mono ?_
        rintro e w2 ⟨A2, c2, rfl, ho⟩
        have W2 := Lib.hid (W1.out.step ho.2.1)
        have HA2 := Lib.hid (show Have w2 A2 ts from ho.toks)
        have HR2 := Lib.hid (HR1.out.step ho.2.1)
        clear ho W1 HR1
        go_wp2_with fail
        refine (HRS.out _).mono ?_
        rintro e w3 ⟨A3, c3, rfl, ho⟩
        have W3 := Lib.hid (W2.out.step ho.2.1)
        have HA3 := Lib.hid (HA2.out.step ho.2.1)
        have HB3 := Lib.hid (show Have w3 A3 ts from ho.toks)
        have HR3 := Lib.hid (HR2.out.step ho.2.1)
        clear ho W2 HA2 HR2
        go_wp2_with fail
        refine (HN.out _).mono ?_
        rintro e w' ⟨rfl, rfl⟩
        go_wp2_with fail
        refine (HRN.out _).mono ?_
        rintro e w' ⟨rfl, rfl⟩
        go_wp2_with fail
        refine (HQ.out _).mono ?_
        rintro e w4 ⟨rfl, hb⟩
        have W4 := Lib.hid (W3.out.step hb)
        have HA4 := Lib.hid (HA3.out.step hb)
        have HB4 := Lib.hid (HB3.out.step hb)
        have HR4 := Lib.hid (HR3.out.step hb)
        clear hb W3 HA3 HB3 HR3
        go_wp2_with fail
        refine (HRQ.out _).mono ?_
        rintro e w' ⟨rfl, rfl⟩
        go_wp2_with fail
        refine (same_at A2 A3 _ _ ts ts.length ts.length _ HA4.out HB4.out rfl rfl (by omega)).mono ?_
        rintro e w5 ⟨rfl, hq⟩
        have W5 := Lib.hid (W4.out.step hq.below)
        have HR5 := Lib.hid (HR4.out.step hq.below)
        clear hq W4 HA4 HB4 HR4
        go_wp2_with fail
        refine (HM.out _).mono ?_
        rintro e w' ⟨rfl, rfl⟩
        go_wp2_with fail
        refine (HRM.out _).mono ?_
        rintro e w' ⟨rfl, rfl⟩
        go_wp2_with fail
        refine (print_any A cp rs _ HR5.out hcp (by omega) HALL.out).mono ?_
        rintro e w6 ⟨rfl, hb⟩
        have W6 := Lib.hid (W5.out.step hb)
        have HR6 := Lib.hid (HR5.out.step hb)
        clear hb W5 HR5
        go_wp2_with fail
        refine (refPrint_any A cp rs _ HR6.out (by omega) HALL.out).mono ?_
        rintro e w' ⟨rfl, rfl⟩
        go_wp2_with fail
        go_ret
        exact ⟨rfl, W6.out⟩

end Go.Proofs.YtmkeajeohkdieaaDoor
