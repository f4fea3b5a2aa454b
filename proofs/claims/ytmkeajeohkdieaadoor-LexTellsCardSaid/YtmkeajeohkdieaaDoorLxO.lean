/- Print, walked. -/
import Derived.Test.YtmkeajeohkdieaaDoorLxN
import Derived.Outline
namespace Go.Proofs.YtmkeajeohkdieaaDoor
open Go.RowKit Lx
set_option linter.unusedSimpArgs false
set_option linter.unusedVariables false

/-- a token as memory holds it -/
structure RTok where
  kind : Int
  text : ByteArray
  n : Int
  pos : Int
def rcell (r : RTok) : List Value := [.int .i64 r.kind, .string r.text, .int .i64 r.n, .int .i64 r.pos]
theorem rcell_len (r : RTok) : (rcell r).length = 4 := rfl
def raw (t : Tok) : RTok := ⟨t.kind, ⟨t.text.toArray⟩, t.n, (t.pos : Nat)⟩
theorem raw_cells (ts : List Tok) : tcells ts = (ts.map raw).flatMap rcell := by
  unfold tcells
  rw [List.flatMap_map]
  rfl
abbrev Toks (w : World) (B : Nat) (A : Option Addr) (rs : List RTok) : Prop := RowOf rcell 4 w B A rs
theorem OwnT.toks {W wr : World} {A : Option Addr} {c : Nat} {ts : List Tok} (h : OwnT W wr (.slice A ts.length c) ts) : Toks wr wr.heap.size A (ts.map raw) := by
  unfold OwnT at h
  rw [raw_cells] at h
  exact Own.row rcell_len (by simp) h
theorem Toks.cell {w : World} {b off : Nat} {rs : List RTok} {i : Nat} {r : RTok} (h : ∀ i x, rs[i]? = some x → ∀ j u, (rcell x)[j]? = some u → w.cell? ⟨b, off + i * 4 + j, none⟩ = some u) (hr : rs[i]? = some r) :
    w.cell? ⟨b, off + i * 4, none⟩ = some (.int .i64 r.kind) ∧ w.cell? ⟨b, off + i * 4 + 1, none⟩ = some (.string r.text) ∧ w.cell? ⟨b, off + i * 4 + 2, none⟩ = some (.int .i64 r.n) ∧ w.cell? ⟨b, off + i * 4 + 3, none⟩ = some (.int .i64 r.pos) :=
  ⟨h i r hr 0 _ rfl, h i r hr 1 _ rfl, h i r hr 2 _ rfl, h i r hr 3 _ rfl⟩

/-- what a token prints as -/
def rsrc (r : RTok) : List UInt8 := if r.kind = 2 then quote (bs r.text) else bs r.text
def printR (rs : List RTok) : List UInt8 := Lib.join (rs.map rsrc) [32]
theorem rsrc_raw (t : Tok) : rsrc (raw t) = src t := rfl
theorem printR_raw (ts : List Tok) : printR (ts.map raw) = printL ts := by
  unfold printR
  rw [List.map_map]
  have e : (rsrc ∘ raw) = src := by funext t; rfl
  rw [e]
  induction ts with
  | nil => rfl
  | cons t ts ih =>
    match ts, ih with
    | [], _ => simp [printL, Lib.join_one]
    | u :: us, ih =>
      rw [List.map_cons, Lib.join_cons]
      rw [List.map_cons, Lib.join_cons] at ih
      rw [List.map_cons, printL, ← ih]
      simp [Lib.joinTail]
theorem join_le (xs : List (List UInt8)) (m : Nat) (h : ∀ x ∈ xs, x.length ≤ m) : (Lib.join xs [32]).length ≤ xs.length * (m + 1) := by
  match xs with
  | [] => simp [Lib.join_nil]
  | x :: r =>
    rw [Lib.join_cons]
    have key : ∀ (r : List (List UInt8)), (∀ y ∈ r, y.length ≤ m) → (Lib.joinTail [32] r).length ≤ r.length * (m + 1) := by
      intro r
      induction r with
      | nil => intro _; simp [Lib.joinTail]
      | cons y r ih =>
        intro hy
        have h1 := ih (fun z hz => hy z (List.mem_cons_of_mem _ hz))
        have h2 := hy y (by simp)
        simp only [Lib.joinTail, List.map_cons, List.flatten_cons, List.length_append, List.length_cons, List.length_nil] at h1 ⊢
        rw [Nat.succ_mul]; omega
    have h1 := key r (fun y hy => h y (List.mem_cons_of_mem _ hy))
    have h2 := h x (by simp)
    rw [List.length_append, List.length_cons, Nat.succ_mul]; omega
theorem quote_len (l : List UInt8) : (quote l).length ≤ 2 * l.length + 2 := by
  have := esc_len l
  simp [quote]; omega
theorem rsrc_le {r : RTok} {m : Nat} (h : r.text.size ≤ m) : (rsrc r).length ≤ 2 * m + 2 := by
  have := bs_len r.text
  unfold rsrc
  split
  · have := quote_len (bs r.text); omega
  · omega

theorem str_info : (Tryd.prog.info? 9).map (fun i => (i.zero, i.size, i.bytes)) = some (some (.string ⟨#[]⟩), 1, 16) := by kernel_rfl
/-- strings of the call's own -/
def OwnS (W wr : World) (v : Value) (xs : List ByteArray) : Prop := Own W wr 9 1 v xs.length (xs.map Value.string)
theorem append_str {ops : Array Oper} {rest : List Oper} {o : Oper} {a : Act} {Q : Exit → Act → World → Prop} {W wr : World} {v : Value} {xs : List ByteArray} (hh : Hid (OwnS W wr v xs)) (x : ByteArray) (hl : xs.length ≤ 1000000)
    (hgd : o.guard = none) (s y : Operand) (ho : o.op = .call { callee := .builtin .append, args := #[s, y], argTypes := #[43, 43] })
    (hs : a.eval s = v) (gn : Nat) (hgn : Hid (gn = wr.heap.size)) (hy : a.eval y = .slice (some ⟨gn, 0, none⟩) 1 1)
    (h : ∀ v' w', Hid (OwnS W w' v' (xs ++ [x])) → wpList Tryd.prog ops Q rest (a.put o.dst v') w') :
    wpList Tryd.prog ops Q (o :: rest) a (wr.alloc (.cells #[.string x] 9)) := by
  refine append_one hh #[.string x] rfl ?_ 43 _ 16 Tryd.underlying43 str_info rfl (by decide) (by unfold maxLen; omega) (by omega) hgd s y ho hs gn hgn hy ?_
  · intro u hu; simp at hu; rcases hu with rfl; rfl
  · intro v' w' k
    refine h v' w' ?_
    unfold OwnS
    rw [List.length_append, List.map_append]
    exact k

theorem own_lt {w : World} {base : Nat} {e : TypeId} {size n : Nat} {v : Value} {xs : List Value} (h : w.ownsRow base e size v n xs) (g : Nat) (hg : v.ownBlock = some g) : g < w.heap.size := (h.lt g hg).2

/-- strings.Join over the strings of the call's own -/
theorem join_strs {W wr : World} {v : Value} {rs : List RTok} (h : OwnS W wr v (rs.map fun r => (⟨(rsrc r).toArray⟩ : ByteArray))) (hn : rs.length ≤ 100000) (ht : ∀ r ∈ rs, r.text.size ≤ 100000) :
    Calls Tryd.prog 28 #[v, .string ⟨#[32]⟩] wr fun e w' => e = .returned (.string ⟨(printR rs).toArray⟩) ∧ Below wr.heap.size wr w' := by
  obtain ⟨A, c, rfl⟩ := h.form
  match rs, h, hn, ht with
  | [], h, _, _ =>
    refine (Tryd.strings_Join_none A c ⟨#[32]⟩ wr).mono ?_
    rintro e w' ⟨rfl, rfl⟩
    exact ⟨rfl, Below.refl _ _⟩
  | r :: rs, h, hn, ht =>
    obtain ⟨g, rfl, _, hlt, hle, hcell⟩ := h.cells (by simp)
    have e : ((r :: rs).map fun r => (⟨(rsrc r).toArray⟩ : ByteArray)).map (·.data.toList) = (r :: rs).map rsrc := by
      rw [List.map_map]; apply List.map_congr_left; intro x _; rfl
    have hlen : (Lib.join ((r :: rs).map rsrc) [32]).length ≤ 140737488355328 := by
      have := join_le ((r :: rs).map rsrc) 200002 (by
        intro x hx
        rw [List.mem_map] at hx
        obtain ⟨y, hy, rfl⟩ := hx
        have := rsrc_le (ht y hy)
        omega)
      rw [List.length_map] at this
      have h2 : (r :: rs).length * (200002 + 1) ≤ 100000 * 200003 := Nat.mul_le_mul hn (Nat.le_refl _)
      omega
    have := Tryd.strings_Join g 0 c ((r :: rs).map fun r => (⟨(rsrc r).toArray⟩ : ByteArray)) ⟨#[32]⟩ wr (fun j x hx => by
      rw [Nat.zero_add]
      exact hcell j _ (by rw [List.getElem?_map, hx]; rfl)) hlt (by rw [List.length_map]; omega) (by rw [List.length_map] at hle ⊢; exact hle) (by rw [e]; exact hlen)
    rw [e] at this
    exact this

set_option maxHeartbeats 8000000 in
theorem print_any (A : Option Addr) (c : Nat) (rs : List RTok) (w : World) (hr : Toks w w.heap.size A rs) (hc : rs.length ≤ c) (hn : rs.length ≤ 100000) (ht : ∀ r ∈ rs, r.text.size ≤ 100000) :
    Calls Tryd.prog 12 #[.slice A rs.length c] w fun e w' => e = .returned (.string ⟨(printR rs).toArray⟩) ∧ Below w.heap.size w w' := by
  have HO := Lib.hid (show OwnS w w (.slice none 0 0) [] from Own.nil w _ _)
  have HR := Lib.hid hr
  have HT := Lib.hid ht
  clear hr ht
  go_enter Tryd.func12, Tryd.ntmps12
  go_wp2_with fail
  go_loopw [3, 8] (fun v i wr => ∃ k : Nat, i = .int .i64 k ∧ k ≤ rs.length ∧ Hid (OwnS w wr v ((rs.take k).map fun r => (⟨(rsrc r).toArray⟩ : ByteArray)))) (fun _ i _ => rs.length - (intOf i).toNat)
  case atStart => exact ⟨0, rfl, by omega, HO.out⟩
  case round =>
    obtain ⟨k, rfl, hk, HV⟩ := hrel
    by_cases hlt : k < rs.length
    · obtain ⟨r, hrk⟩ : ∃ r, rs[k]? = some r := ⟨_, List.getElem?_eq_getElem hlt⟩
      obtain ⟨b, off, rfl, hb, hcell⟩ := HR.out.open_ (by omega)
      have hcell' := fun i x hx j u hu => (HV.out.2.1.cell (p := ⟨b, off + i * 4 + j, none⟩) hb).trans (hcell i x hx j u hu)
      obtain ⟨c0, c1, c2, c3⟩ := Toks.cell hcell' hrk
      have htx : r.text.size ≤ 100000 := HT.out r (List.mem_of_getElem? hrk)
      have hst : (rs.take (k + 1)).map (fun r => (⟨(rsrc r).toArray⟩ : ByteArray)) = (rs.take k).map (fun r => (⟨(rsrc r).toArray⟩ : ByteArray)) ++ [⟨(rsrc r).toArray⟩] := by
        rw [List.take_add_one, hrk]; simp
      have HST := Lib.hid hst
      have HRK := Lib.hid hrk
      have hll : ((rs.take k).map (fun r => (⟨(rsrc r).toArray⟩ : ByteArray))).length ≤ 1000000 := by simp; omega
      clear hcell hcell' hst hrk
      by_cases hk2 : r.kind = 2
      · have hk2' : (r.kind == 2) = true := by simpa using hk2
        have hq : rsrc r = quote (bs r.text) := by unfold rsrc; rw [if_pos hk2]
        have HB := Lib.hid (HV.out.alloc (.cells #[.int .i64 r.kind, .string r.text, .int .i64 r.n, .int .i64 r.pos] 32))
        have hesc := fun wx => escaped_any r.text wx (by omega)
        rw [← hq] at hesc
        have HE := Lib.hid hesc
        clear hk2 hq hesc
        generalize (⟨(rsrc r).toArray⟩ : ByteArray) = q at *
        go_wp2_with fail
        refine (HE.out _).mono ?_
        rintro e w1 ⟨rfl, hb1⟩
        obtain ⟨⟨d0, d1, d2, d3⟩, ⟨f0, f1, f2, f3⟩, hz, hbel⟩ := box4 hb1
        have hne := own_lt HV.out.1
        have HV1 := Lib.hid ((HB.out.below hb1).setCell (p := ⟨wr.heap.size, 1, none⟩) HV.out.2.2 (fun e => absurd (hne _ e) (Nat.lt_irrefl _)) (.string q))
        have HGN := Lib.hid (show w1.heap.size = (w1.setCell ⟨wr.heap.size, 1, none⟩ (.string q)).heap.size by simp)
        clear hb1 hbel hne
        go_wp2_with (at_builtin; refine append_str HV1 q hll rfl _ _ rfl rfl _ HGN rfl ?_; intro v' w3 HV3)
        go_roundw
        case rel => exact ⟨k + 1, by go_num, by omega, by rw [HST.out]; exact HV3⟩
        case measure => simp [intOf]; omega
      · have hk2' : (r.kind == 2) = false := by simpa using hk2
        have hq : (⟨(rsrc r).toArray⟩ : ByteArray) = r.text := by unfold rsrc; rw [if_neg hk2, str_of_bs]
        rw [hq] at HST
        have HB := Lib.hid (HV.out.alloc (.cells #[.int .i64 r.kind, .string r.text, .int .i64 r.n, .int .i64 r.pos] 32))
        have HGN := Lib.hid (show wr.heap.size + 1 = (wr.alloc (.cells #[.int .i64 r.kind, .string r.text, .int .i64 r.n, .int .i64 r.pos] 32)).heap.size by simp)
        clear hk2 hq
        go_wp2_with (at_builtin; refine append_str HB r.text hll rfl _ _ rfl rfl _ HGN rfl ?_; intro v' w3 HV3)
        go_roundw
        case rel => exact ⟨k + 1, by go_num, by omega, by rw [HST.out]; exact HV3⟩
        case measure => simp [intOf]; omega
    · obtain rfl : k = rs.length := by omega
      have hv := HV.out
      rw [List.take_length] at hv
      have hj := join_strs hv hn HT.out
      obtain ⟨A', c', rfl⟩ := HV.out.form
      have HB := Lib.hid HV.out.2.1
      simp only [List.length_map, List.length_take, Nat.min_self] at hj
      have HJ := Lib.hid hj
      clear hv hj
      go_wp2_with fail
      refine HJ.out.mono ?_
      rintro e w1 ⟨rfl, hb1⟩
      have HB1 := Lib.hid (HB.out.trans (hb1.mono HB.out.size))
      clear hb1
      go_wp2
      go_ret
      exact ⟨rfl, HB1.out⟩

end Go.Proofs.YtmkeajeohkdieaaDoor
