/- Scan, walked. -/
import Derived.Test.YtmkeajeohkdieaaDoorLxM
import Derived.Test.YtmkeajeohkdieaaDoorOwn
import Derived.Outline
namespace Go.Proofs.YtmkeajeohkdieaaDoor
open Go.RowKit Lx
set_option linter.unusedSimpArgs false
set_option linter.unusedVariables false

def tcell (t : Tok) : List Value := [.int .i64 t.kind, .string ⟨t.text.toArray⟩, .int .i64 t.n, .int .i64 (t.pos : Nat)]
def tcells (ts : List Tok) : List Value := ts.flatMap tcell
theorem tcells_snoc (ts : List Tok) (t : Tok) : tcells (ts ++ [t]) = tcells ts ++ tcell t := by simp [tcells]
theorem tok_info : (Tryd.prog.info? 32).map (fun i => (i.zero, i.size, i.bytes)) = some (some (.agg #[.int .i64 0, .string ⟨#[]⟩, .int .i64 0, .int .i64 0]), 4, 40) := by kernel_rfl

/-- tokens of the call's own -/
def OwnT (W wr : World) (v : Value) (ts : List Tok) : Prop := Own W wr 32 4 v ts.length (tcells ts)

theorem append_tok {ops : Array Oper} {rest : List Oper} {o : Oper} {a : Act} {Q : Exit → Act → World → Prop} {W wr : World} {v : Value} {ts : List Tok} (hh : Hid (OwnT W wr v ts)) (t : Tok) (q : Int) (hq : Hid (q = (t.pos : Nat))) (hl : ts.length ≤ 1000000)
    (hgd : o.guard = none) (s x : Operand) (ho : o.op = .call { callee := .builtin .append, args := #[s, x], argTypes := #[23, 23] })
    (hs : a.eval s = v) (gn : Nat) (hgn : Hid (gn = wr.heap.size)) (hx : a.eval x = .slice (some ⟨gn, 0, none⟩) 1 1)
    (h : ∀ v' w', Hid (OwnT W w' v' (ts ++ [t])) → wpList Tryd.prog ops Q rest (a.put o.dst v') w') :
    wpList Tryd.prog ops Q (o :: rest) a (wr.alloc (.cells #[.int .i64 t.kind, .string ⟨t.text.toArray⟩, .int .i64 t.n, .int .i64 q] 32)) := by
  obtain rfl := hq.out
  refine append_one hh #[.int .i64 t.kind, .string ⟨t.text.toArray⟩, .int .i64 t.n, .int .i64 (t.pos : Nat)] rfl ?_ 23 _ 40 Tryd.underlying23 tok_info rfl (by decide) (by unfold maxLen; omega) (by omega) hgd s x ho hs gn hgn hx ?_
  · intro u hu; simp at hu; rcases hu with rfl | rfl | rfl | rfl <;> rfl
  · intro v' w' k
    refine h v' w' ?_
    unfold OwnT
    rw [List.length_append, tcells_snoc]
    exact k

/-- what Scan gives -/
def scanR (l : List UInt8) : Res := if 20000 < l.length then ⟨[], 0, 6⟩ else scan false l 0
def ScanEnd (W : World) (R : Res) (e : Ending) (w' : World) : Prop :=
  ∃ A c, e = .returned (.tuple #[.slice A R.toks.length c, .int .i64 (R.at_ : Nat), .int .i64 R.err]) ∧ OwnT W w' (.slice A R.toks.length c) R.toks

/-- the state of the loop: the first p bytes are read, these are their tokens -/
def ScanAt (l : List UInt8) (p : Nat) (ts : List Tok) : Prop := p ≤ l.length ∧ ts.length ≤ p ∧ scan false l 0 = pre ts (scan false (l.drop p) p)
theorem scan_start (l : List UInt8) : ScanAt l 0 [] := ⟨by omega, by simp, by rw [pre_nil]; simp⟩
theorem scan_gap {l : List UInt8} {p g : Nat} {ts : List Tok} (h : ScanAt l p ts) (hg : GapOf (l.drop p) g) : ScanAt l (p + g) ts := by
  obtain ⟨h1, h2, h3⟩ := h
  obtain ⟨g1, g2, g3⟩ := hg
  rw [List.length_drop] at g1
  refine ⟨by omega, by omega, ?_⟩
  rw [h3, g2 p, List.drop_drop]
theorem scan_end {l : List UInt8} {p : Nat} {ts : List Tok} (h : ScanAt l p ts) (hp : p = l.length) : scan false l 0 = ⟨ts, 0, 0⟩ := by
  rw [h.2.2, hp, List.drop_length, scan_nil]
  simp [pre, done]
/-- at a byte that begins a token -/
def Begins (l : List UInt8) (p : Nat) (c : UInt8) (r : List UInt8) : Prop := l.drop p = c :: r ∧ Lx.blank c = false ∧ c ≠ 35
theorem scan_begins {l : List UInt8} {p g : Nat} (hg : GapOf (l.drop p) g) (hlt : p + g < l.length) : ∃ c r, Begins l (p + g) c r := by
  obtain ⟨g1, g2, g3⟩ := hg
  have h := List.drop_eq_getElem_cons hlt
  refine ⟨_, _, h, ?_⟩
  apply g3
  rw [List.getElem?_drop, List.getElem?_eq_getElem hlt]
theorem scan_step {l : List UInt8} {p : Nat} {ts : List Tok} {c : UInt8} {r : List UInt8} (h : ScanAt l p ts) (hb : Begins l p c r) (hx : (next c r).1 = 0) : ScanAt l (p + (next c r).2.2) (ts ++ [(next c r).2.1.place p]) := by
  obtain ⟨h1, h2, h3⟩ := h
  obtain ⟨b1, b2, b3⟩ := hb
  have hn := next_len hx
  have hlen : l.length = p + (r.length + 1) := by
    have := congrArg List.length b1
    simp at this; omega
  refine ⟨by omega, by simp; omega, ?_⟩
  rw [h3, b1, scan_tok (by simpa using b2) b3 hx, pre_pre, ← b1, List.drop_drop]
theorem scan_stop {l : List UInt8} {p : Nat} {ts : List Tok} {c : UInt8} {r : List UInt8} (h : ScanAt l p ts) (hb : Begins l p c r) (hx : (next c r).1 ≠ 0) : scan false l 0 = ⟨[], p, (next c r).1⟩ := by
  obtain ⟨h1, h2, h3⟩ := h
  obtain ⟨b1, b2, b3⟩ := hb
  rw [h3, b1, scan_err (by simpa using b2) b3 hx]
  simp [pre, hx]
theorem OwnT.nil_end {W wr : World} {R : Res} (h : Below W.heap.size W wr) (hR : R.toks = []) : OwnT W wr (.slice none 0 0) R.toks := by
  rw [hR]; exact Own.nil_at h

theorem scan_fin {W wr : World} {A : Option Addr} {c : Nat} {ts : List Tok} {R : Res} (h : R = ⟨ts, 0, 0⟩) (ho : OwnT W wr (.slice A ts.length c) ts) :
    ScanEnd W R (.returned (.tuple #[.slice A ts.length c, .int .i64 0, .int .i64 0])) wr := by
  subst h
  exact ⟨A, c, rfl, ho⟩
theorem scan_bad {W wr : World} {p : Nat} {e : Int} {R : Res} (h : R = ⟨[], p, e⟩) (hb : Below W.heap.size W wr) :
    ScanEnd W R (.returned (.tuple #[.slice none 0 0, .int .i64 p, .int .i64 e])) wr := by
  subst h
  exact ⟨none, 0, rfl, Own.nil_at hb⟩

set_option maxHeartbeats 8000000 in
theorem scan_any (s : ByteArray) (w : World) (hs : s.size ≤ 4611686018427387904) (hsg : Signs w) :
    Calls Tryd.prog 10 #[.string s] w (ScanEnd w (scanR (bs s))) := by
  have hlen := bs_len s
  by_cases hbig : 20000 < s.size
  · have hR : scanR (bs s) = ⟨[], 0, 6⟩ := by unfold scanR; rw [if_pos (by omega)]
    rw [hR]
    clear hR hlen hsg
    go_enter Tryd.func10, Tryd.ntmps10
    go_wp2
    go_ret3
    exact ⟨none, 0, rfl, Own.nil w _ _⟩
  · have hR : scanR (bs s) = scan false (bs s) 0 := by unfold scanR; rw [if_neg (by omega)]
    rw [hR]
    have HS := Lib.hid (scan_start (bs s))
    have HO := Lib.hid (show OwnT w w (.slice none 0 0) [] from Own.nil w _ _)
    have HL := Lib.hid hlen
    have HSG := Lib.hid hsg
    clear hR hlen hsg
    generalize hR : scan false (bs s) 0 = R at *
    have HR := Lib.hid hR
    clear hR
    go_enter Tryd.func10, Tryd.ntmps10
    go_wp2_with fail
    go_loopw [5, 6] (fun v i wr => ∃ (p : Nat) (ts : List Tok), i = .int .i64 p ∧ p ≤ s.size ∧ ts.length ≤ p ∧ Hid (ScanAt (bs s) p ts) ∧ Hid (OwnT w wr v ts)) (fun _ i _ => s.size - (intOf i).toNat)
    case atStart => exact ⟨0, [], rfl, by omega, by simp, HS.out, HO.out⟩
    case round =>
      obtain ⟨p, ts, rfl, hp, hts, HA, HT⟩ := hrel
      have hgap := fun wx => gap_any (s.extract p s.size) wx (by rw [← bs_len, bs_from, List.length_drop, HL.out]; omega)
      rw [bs_from] at hgap
      have HG := Lib.hid hgap
      clear hgap
      go_wp2_with fail
      refine (HG.out _).mono ?_
      rintro e w1 ⟨⟨g, rfl, hg⟩, rfl⟩
      have hA := scan_gap HA.out hg
      have hpg : p + g ≤ s.size := by have := hA.1; rw [HL.out] at this; exact this
      by_cases heq : p + g = s.size
      · have hend := scan_end hA (by rw [HL.out]; exact heq)
        rw [HR.out] at hend
        have HE := Lib.hid hend
        have heq' : ((p : Int) + g == s.size) = true := by simp; omega
        clear hA hend hg heq
        obtain ⟨A, c, rfl⟩ := HT.out.form
        go_wp2_with fail
        go_ret3
        exact scan_fin HE.out HT.out
      · obtain ⟨c, r, hb⟩ := scan_begins hg (by rw [HL.out]; omega)
        have heq' : ((p : Int) + g == s.size) = false := by simp; omega
        have hnx := fun wx (h : Signs wx) => next_any (s.extract (p + g) s.size) c r wx (by rw [← bs_len, bs_from, List.length_drop, HL.out]; omega) (by rw [bs_from]; exact hb.1) h
        have hsgr := HSG.out.below HT.out.2.1 HSG.out.pos
        have hstep := scan_step hA hb
        have hstop := scan_stop hA hb
        have hnl := next_len (c := c) (r := r)
        have hrl : r.length + 1 + (p + g) = s.size := by
          have := congrArg List.length hb.1
          simp [HL.out] at this; omega
        rw [HR.out] at hstop
        generalize next c r = x at *
        obtain ⟨ek, t, n⟩ := x
        simp only at hstep hstop hnl
        unfold NextEnd at hnx
        simp only [tokV] at hnx
        have HN := Lib.hid hnx
        have HSR := Lib.hid hsgr
        clear hA hg heq hb hnx hsgr
        by_cases hek : ek = 0
        · subst hek
          have HST := Lib.hid (hstep rfl)
          obtain ⟨n1, n2⟩ := hnl rfl
          clear hstep hstop
          go_wp2_with fail
          refine (HN.out _ HSR.out).mono ?_
          rintro e w2 ⟨rfl, hb2⟩
          have HT2 := Lib.hid (show OwnT w (w2.alloc (.cells #[.int .i64 t.kind, .string ⟨t.text.toArray⟩, .int .i64 t.n, .int .i64 ((p : Int) + g)] 32)) _ ts from (HT.out.below hb2).alloc _)
          clear hb2
          have HQ := Lib.hid (show (p : Int) + g = ((t.place (p + g)).pos : Nat) from by show (p : Int) + g = ((p + g : Nat) : Int); omega)
          have HGN := Lib.hid (show w2.heap.size + 1 = (w2.alloc (.cells #[.int .i64 t.kind, .string ⟨t.text.toArray⟩, .int .i64 t.n, .int .i64 ((p : Int) + g)] 32)).heap.size by simp)
          have hll : ts.length ≤ 1000000 := by omega
          go_wp2_with (at_builtin; refine append_tok HT2 (t.place (p + g)) _ HQ hll rfl _ _ rfl rfl _ HGN rfl ?_; intro v' w3 HT3)
          go_roundw
          case rel => exact ⟨p + g + n, _, by go_num, by omega, by simp; omega, HST.out, HT3.out⟩
          case measure => simp [intOf]; omega
        · have HST := Lib.hid (hstop hek)
          clear hstep hstop hnl
          have hek' : (ek != 0) = true := by simp [hek]
          go_wp2_with fail
          refine (HN.out _ HSR.out).mono ?_
          rintro e w2 ⟨rfl, hb2⟩
          have HB2 := Lib.hid (HT.out.2.1.trans (hb2.mono HT.out.2.2))
          clear hb2
          go_wp2_with fail
          go_ret3
          exact scan_bad HST.out (HB2.out.alloc HB2.out.size _)

end Go.Proofs.YtmkeajeohkdieaaDoor
