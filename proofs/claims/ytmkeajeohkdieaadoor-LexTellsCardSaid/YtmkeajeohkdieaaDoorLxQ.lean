/- The small examples (sane), walked. -/
import Derived.Test.YtmkeajeohkdieaaDoorLxP
import Derived.Outline
namespace Go.Proofs.YtmkeajeohkdieaaDoor
open Go.RowKit Lx
set_option linter.unusedSimpArgs false
set_option linter.unusedVariables false

def saneA : List Tok := [⟨0, [97, 49], 0, 0⟩, ⟨3, [61], 0, 3⟩, ⟨2, [120, 34, 121], 0, 5⟩, ⟨3, [59], 0, 11⟩]
def saneB : List Tok := [⟨0, [102], 0, 0⟩, ⟨3, [40], 0, 1⟩, ⟨1, [50], 2, 2⟩, ⟨3, [44], 0, 3⟩, ⟨2, [97], 0, 4⟩, ⟨3, [41], 0, 7⟩]
theorem sane1 : scanR (bs ⟨#[97, 49, 32, 61, 32, 34, 120, 92, 34, 121, 34, 59, 32, 35, 32, 122]⟩) = ⟨saneA, 0, 0⟩ := by kernel_rfl
theorem sane2 : scanR (bs ⟨#[120, 32, 48, 48, 55]⟩) = ⟨[], 2, 3⟩ := by kernel_rfl
theorem sane3 : scanR (bs ⟨#[97, 32, 62, 32, 98]⟩) = ⟨[], 2, 20⟩ := by kernel_rfl
theorem sane4 : scanR (bs ⟨#[34, 97, 98]⟩) = ⟨[], 0, 21⟩ := by kernel_rfl
theorem sane5 : scanR (bs ⟨#[102, 40, 50, 44, 34, 97, 34, 41]⟩) = ⟨saneB, 0, 0⟩ := by kernel_rfl
theorem sane6 : printL saneB = [102, 32, 40, 32, 50, 32, 44, 32, 34, 97, 34, 32, 41] := by kernel_rfl

theorem scan_at (s : ByteArray) (R : Res) (h : scanR (bs s) = R) (hs : s.size ≤ 4611686018427387904) (w : World) (hsg : Signs w) :
    Calls Tryd.prog 10 #[.string s] w (ScanEnd w R) := by
  rw [← h]; exact scan_any s w hs hsg

/-- a list of tokens that is there -/
def Have (w : World) (A : Option Addr) (ts : List Tok) : Prop := Toks w w.heap.size A (ts.map raw)
theorem Have.step {w w' : World} {A : Option Addr} {ts : List Tok} (h : Have w A ts) (hb : Below w.heap.size w w') : Have w' A ts := RowOf.step h hb
theorem Signs.step {w w' : World} (h : Signs w) (hb : Below w.heap.size w w') : Signs w' := h.below hb h.pos

/-- what is known along the way -/
structure Way (W w : World) : Prop where
  below : Below W.heap.size W w
  signs : Signs w
theorem Way.refl {W : World} (h : Signs W) : Way W W := ⟨Below.refl _ _, h⟩
theorem Way.size {W w : World} (h : Way W w) : W.heap.size ≤ w.heap.size := h.below.size
theorem Way.step {W w w' : World} (h : Way W w) (hb : Below w.heap.size w w') : Way W w' := ⟨h.below.trans (hb.mono h.size), h.signs.step hb⟩
theorem Way.alloc {W w : World} (h : Way W w) (o : Obj) : Way W (w.alloc o) := h.step ((Below.refl _ _).alloc (Nat.le_refl _) _)

theorem want_have (w : World) : Have (w.alloc (.cells (tcells saneA).toArray 32)) (some ⟨w.heap.size, 0, none⟩) saneA := by
  intro _
  refine ⟨w.heap.size, 0, rfl, by simp, fun i x hx j u hu => ?_⟩
  have h := flatMap_at rcell_len (saneA.map raw) i x hx j u hu
  rw [← raw_cells] at h
  rw [Nat.zero_add]
  simp only [World.cell?, heap_alloc_new]
  simpa using h
theorem same_at (A B : Option Addr) (c d : Nat) (ts : List Tok) (n m : Nat) (w : World) (ha : Have w A ts) (hb : Have w B ts) (hn : n = ts.length) (hm : m = ts.length) (hl : ts.length ≤ 4611686018427387904) :
    Calls Tryd.prog 21 #[.slice A n c, .slice B m d] w fun e w' => e = .returned (.bool true) ∧ Quietly w w' := by
  subst hn; subst hm
  have := same_yes A B c d (ts.map raw) w ha hb (by simpa using hl)
  rw [List.length_map] at this
  exact this
theorem print_at (A : Option Addr) (c : Nat) (ts : List Tok) (n : Nat) (w : World) (ha : Have w A ts) (hn : n = ts.length) (hc : ts.length ≤ c) (hl : ts.length ≤ 100000) (ht : ∀ t ∈ ts, t.text.length ≤ 100000) (l : List UInt8) (hp : printL ts = l) :
    Calls Tryd.prog 12 #[.slice A n c] w fun e w' => e = .returned (.string ⟨l.toArray⟩) ∧ Below w.heap.size w w' := by
  subst hn; subst hp
  have := print_any A c (ts.map raw) w ha (by simpa using hc) (by simpa using hl) (by
    intro r hr
    rw [List.mem_map] at hr
    obtain ⟨t, h1, rfl⟩ := hr
    have := ht t h1
    show (⟨t.text.toArray⟩ : ByteArray).size ≤ 100000
    have e : (⟨t.text.toArray⟩ : ByteArray).size = t.text.length := by rw [← bs_len]; rfl
    omega)
  rw [List.length_map, printR_raw] at this
  exact this
theorem number_at (s : ByteArray) (v : Int) (ok : Bool) (h1 : numV (bs s) = v) (h2 : numOk (bs s) = ok) (hs : s.size ≤ 9223372036854775807) (w : World) :
    Calls Tryd.prog 17 #[.string s] w fun e w' => e = .returned (.tuple #[.int .i64 v, .bool ok]) ∧ w = w' := by
  rw [← h1, ← h2]; exact number_any s w hs
theorem name_at (s : ByteArray) (ok : Bool) (h2 : nameOk (bs s) = ok) (hs : s.size ≤ 9223372036854775807) (w : World) :
    Calls Tryd.prog 22 #[.string s] w fun e w' => e = .returned (.bool ok) ∧ w = w' := by
  rw [← h2]; exact name_any s w hs

set_option maxRecDepth 100000 in
set_option maxHeartbeats 1000000 in
theorem sane_any (w : World) (hsg : Signs w) :
    Calls Tryd.prog 9 #[] w fun e w' => e = .returned (.bool true) ∧ Way w w' := by
  have W0 := Lib.hid (Way.refl hsg)
  clear hsg
  go_enter Tryd.func9, Tryd.ntmps9
  go_wp2_with fail
  refine (scan_at _ _ sane1 (by decide) _ W0.out.signs).mono ?_
  rintro e w1 ⟨A1, p1, rfl, ho⟩
  have W1 := Lib.hid (W0.out.step ho.2.1)
  have HA := Lib.hid (show Have w1 A1 saneA from ho.toks)
  clear ho
  go_wp2_with fail
  refine (scan_at _ _ sane2 (by decide) _ W1.out.signs).mono ?_
  rintro e w2 ⟨A2, p2, rfl, ho⟩
  have W2 := Lib.hid (W1.out.step ho.2.1)
  have HA2 := Lib.hid (HA.out.step ho.2.1)
  clear ho W1 HA
  go_wp2_with fail
  refine (scan_at _ _ sane3 (by decide) _ W2.out.signs).mono ?_
  rintro e w3 ⟨A3, p3, rfl, ho⟩
  have W3 := Lib.hid (W2.out.step ho.2.1)
  have HA3 := Lib.hid (HA2.out.step ho.2.1)
  clear ho W2 HA2
  go_wp2_with fail
  refine (scan_at _ _ sane4 (by decide) _ W3.out.signs).mono ?_
  rintro e w4 ⟨A4, p4, rfl, ho⟩
  have W4 := Lib.hid (W3.out.step ho.2.1)
  have HA4 := Lib.hid (HA3.out.step ho.2.1)
  clear ho W3 HA3
  go_wp2_with fail
  refine (scan_at _ _ sane5 (by decide) _ W4.out.signs).mono ?_
  rintro e w5 ⟨A5, p5, rfl, ho⟩
  have W5 := Lib.hid (W4.out.step ho.2.1)
  have HA5 := Lib.hid (HA4.out.step ho.2.1)
  have HB5 := Lib.hid (show Have w5 A5 saneB from ho.toks)
  have hle : saneB.length ≤ p5 := Own.lt ho
  clear ho W4 HA4
  have W6 := Lib.hid (W5.out.alloc (.cells (tcells saneA).toArray 32))
  have ball := (Below.refl w5.heap.size w5).alloc (Nat.le_refl _) (.cells (tcells saneA).toArray 32)
  have HA6 := Lib.hid (HA5.out.step ball)
  have HB6 := Lib.hid (HB5.out.step ball)
  have HC6 := Lib.hid (want_have w5)
  clear ball W5 HA5 HB5
  go_wp2_with fail
  refine (number_at _ 12 true (by kernel_rfl) (by kernel_rfl) (by decide) _).mono ?_
  rintro e w' ⟨rfl, rfl⟩
  go_wp2_with fail
  refine (number_at _ 0 false (by kernel_rfl) (by kernel_rfl) (by decide) _).mono ?_
  rintro e w' ⟨rfl, rfl⟩
  go_wp2_with fail
  refine (same_at A1 _ p1 4 saneA saneA.length 4 _ HA6.out HC6.out rfl rfl (by decide)).mono ?_
  rintro e w7 ⟨rfl, hq⟩
  have W7 := Lib.hid (W6.out.step hq.below)
  have HB7 := Lib.hid (HB6.out.step hq.below)
  clear hq W6 HA6 HB6 HC6
  go_wp2_with fail
  refine (print_at A5 p5 saneB saneB.length _ HB7.out rfl hle (by decide) (by decide) _ sane6).mono ?_
  rintro e w8 ⟨rfl, hb⟩
  have W8 := Lib.hid (W7.out.step hb)
  clear hb W7 HB7
  go_wp2_with fail
  refine (name_at _ true (by kernel_rfl) (by decide) _).mono ?_
  rintro e w' ⟨rfl, rfl⟩
  go_wp2_with fail
  refine (name_at _ false (by kernel_rfl) (by decide) _).mono ?_
  rintro e w' ⟨rfl, rfl⟩
  go_wp2_with fail
  go_ret
  exact ⟨rfl, W8.out⟩

end Go.Proofs.YtmkeajeohkdieaaDoor
