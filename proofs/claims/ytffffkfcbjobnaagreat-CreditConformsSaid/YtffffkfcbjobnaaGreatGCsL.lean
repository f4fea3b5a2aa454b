/- Walks by the logic of calls, and plain laws. -/
import Derived.Test.YtffffkfcbjobnaaGreatGCsK
import Derived.Test.YtffffkfcbjobnaaGreatGh3
import Derived.Lib.ItoaMem
import Derived.Lib.ItoaWalk
import Derived.Laws.IdiomStrings
import Derived.BigCall
import Derived.BigGuard
import Derived.Lib.Walk
import Derived.RegionTactic
namespace Go.Gh
open Go Go.Proofs
set_option maxRecDepth 1000000
set_option maxHeartbeats 2000000
set_option linter.unusedSimpArgs false
set_option linter.unusedVariables false
set_option linter.unnecessarySimpa false
set_option linter.unusedSectionVars false
variable [PowTab]
open Go.RowKit Go.Shelf Go.Lib

def ndU (u : Nat) : Nat := Lib.l10 (Lib.bitLen u) + if PowTab.v.getD (Lib.l10 (Lib.bitLen u)) 0 ≤ (u : Int) then 1 else 0
set_option maxRecDepth 100000 in
set_option maxHeartbeats 4000000 in
theorem numD_calls (w : World) (hT : Lib.TabIs Tryz.prog w "internal/strconv.uint64pow10" .u64 PowTab.v) (u : Nat) (h1 : 1 ≤ u) (h2 : u < 18446744073709551616) :
    Calls Tryz.prog 226 #[.int .u64 u] w fun e w' => e = .returned (.int .i64 (ndU u)) ∧ w' = w := by
  obtain ⟨_, h19⟩ := Lib.numDigits_eq u h1 h2
  have hL : Lib.bitLen u ≤ 64 := Lib.bitLen_le u 64 (Nat.le_refl _) h2
  have hg : Program.globalNamed Tryz.prog "internal/strconv.uint64pow10" = some 1 := by kernel_rfl
  have hcell : w.cell? ⟨1, Lib.l10 (Lib.bitLen u), none⟩ = some (.int .u64 (PowTab.v.getD (Lib.l10 (Lib.bitLen u)) 0)) := hT.cell hg _ (by rw [PowTab.len]; omega)
  have hto : ((u : Int)).toNat = u := by omega
  have hnd : ndU u = Lib.l10 (Lib.bitLen u) + if PowTab.v.getD (Lib.l10 (Lib.bitLen u)) 0 ≤ (u : Int) then 1 else 0 := rfl
  generalize hq : Lib.l10 (Lib.bitLen u) = q at hnd h19 hcell
  generalize hTt : PowTab.v.getD q 0 = T at hnd hcell
  have h20 : q < 20 := by omega
  have Hnd := Lib.hid hnd
  clear hnd hT hg
  go_enter Tryz.func226, Tryz.ntmps226
  go_wp2_with (first
    | (go_at_call 230; refine (Tryz.bits_Len64 _ _ (by omega) (by omega)).mono ?_; rintro e w' ⟨rfl, rfl⟩)
    | (go_at_call 229; refine (Tryz.internal_strconv_log10Pow2 _ (by first | exact hL | (rw [hto]; exact hL)) _).mono ?_; rintro e w' ⟨rfl, rfl⟩)
    | (go_at_call 231; refine (Tryz.internal_strconv_bool2_int _ _).mono ?_; rintro e w' ⟨rfl, rfl⟩))
  all_goals go_ret
  all_goals (
    refine ⟨?_, rfl⟩
    have hnd := Hnd.out
    congr 2
    split at hnd <;> simp_all <;> omega)

def zer24 : List Int := List.replicate 24 0
def nd20 (u : Nat) : Nat := min 20 (ndU u)
def itB (u : Nat) : List UInt8 := (((fm8 (nd20 u) u zer24).drop 1).take (nd20 u)).map fun c => UInt8.ofNat c.toNat
def itU (n : Int) : ByteArray := if 0 ≤ n ∧ n < 100 then ⟨(Lib.itoa n).toArray⟩ else ⟨(itB n.toNat).toArray⟩
/-- numbers of a byte -/
def Byt (l : List Int) : Prop := ∀ c, c ∈ l → 0 ≤ c ∧ c ≤ 255
theorem Byt.wr {l : List Int} (h : Byt l) {k v : Int} (hv : 0 ≤ v ∧ v ≤ 255) : Byt (wrL l k v) := fun c hc => by
  rcases List.mem_or_eq_of_mem_set hc with hc | rfl
  · exact h c hc
  · exact hv
theorem u8_in (v : Int) : 0 ≤ IntKind.u8.wrap v ∧ IntKind.u8.wrap v ≤ 255 := by
  rw [IntKind.wrap_u8]; omega
theorem Byt.f1 {l : List Int} (h : Byt l) {k x : Int} : Byt (fm1 k x l) := by
  unfold fm1; split
  · exact h.wr (u8_in _)
  · exact h
theorem Byt.f2 {l : List Int} (h : Byt l) {k x : Int} : Byt (fm2 k x l) := by
  unfold fm2; split
  · exact ((h.wr (smV_in _)).wr (smV_in _)).f1
  · exact h.f1
theorem Byt.f4 {l : List Int} (h : Byt l) {k x : Int} : Byt (fm4 k x l) := by
  unfold fm4; split
  · exact ((((h.wr (smV_in _)).wr (smV_in _)).wr (smV_in _)).wr (smV_in _)).f2
  · exact h.f2
theorem Byt.f8 : ∀ (k : Nat) {l : List Int} (h : Byt l) {v : Int}, Byt (fm8 k v l) := by
  intro k
  induction k using Nat.strongRecOn with
  | _ k ih =>
    intro l h v
    rw [fm8]
    split
    · exact ih (k - 8) (by omega) ((((((((h.wr (smV_in _)).wr (smV_in _)).wr (smV_in _)).wr (smV_in _)).wr (smV_in _)).wr (smV_in _)).wr (smV_in _)).wr (smV_in _))
    · exact h.f4
theorem len1 (l : List Int) (k x : Int) : (fm1 k x l).length = l.length := by unfold fm1; split <;> simp [wrL_len]
theorem len2 (l : List Int) (k x : Int) : (fm2 k x l).length = l.length := by unfold fm2; split <;> simp [wrL_len, len1]
theorem len4 (l : List Int) (k x : Int) : (fm4 k x l).length = l.length := by unfold fm4; split <;> simp [wrL_len, len2]
theorem len8 : ∀ (k : Nat) (l : List Int) (v : Int), (fm8 k v l).length = l.length := by
  intro k
  induction k using Nat.strongRecOn with
  | _ k ih =>
    intro l v
    rw [fm8]
    split
    · rw [ih (k - 8) (by omega)]; simp [oct, wrL_len]
    · exact len4 _ _ _
theorem itB_len (u : Nat) : (itB u).length = nd20 u := by
  have : nd20 u ≤ 20 := Nat.min_le_left _ _
  rw [itB, List.length_map, List.length_take, List.length_drop, len8]
  simp [zer24]; omega
theorem itU_size (n : Int) : (itU n).size ≤ 24 := by
  unfold itU
  split
  · rename_i h
    obtain ⟨i, rfl⟩ : ∃ i : Nat, n = i := ⟨n.toNat, by omega⟩
    show ((Lib.itoa (i : Int)).toArray).size ≤ 24
    rw [List.size_toArray, Lib.itoa_nonneg, Lib.decDigits_length]
    have h1 := Lib.numDigits_eq
    by_cases hi : i = 0
    · subst hi
      have h0 : Lib.nDigits 0 = 1 := by kernel_rfl
      omega
    · have := (h1 i (by omega) (by omega)).1
      have h2 := (h1 i (by omega) (by omega)).2
      split at this <;> omega
  · show ((itB n.toNat).toArray).size ≤ 24
    rw [List.size_toArray, itB_len]
    have : nd20 n.toNat ≤ 20 := Nat.min_le_left _ _
    omega

theorem z24_rows : rowL u8C zer24 = (List.replicate 24 [D.sc (Value.int .u8 0)]) := rfl
/-- formatBase10 at a part of a new array -/
theorem fmt10_calls (w : World) (nd : Nat) (hn : nd ≤ 20) (u : Nat) (hu : u < 18446744073709551616) (F : Fz) (hg : Glob F w) (ho : ∀ b o, F b o → b < w.heap.size) (ho2 : ∀ b o, F b o → (w.cell? ⟨b, o, none⟩).isSome = true) :
    Calls Tryz.prog 227 #[.slice (some ⟨w.heap.size, 1, none⟩) nd 23, .int .u64 u] (w.alloc (.cells Lib.zeros24 271)) fun e w' => e = .returned (.tuple #[]) ∧ Below w.heap.size w w' ∧ ∀ i c, (fm8 nd u zer24)[i]? = some c → w'.cell? ⟨w.heap.size, i, none⟩ = some (.int .u8 c) := by
  have hW : (w.alloc (.cells Lib.zeros24 271)).heap[w.heap.size]? = some (.cells Lib.zeros24 271 (0, 0)) := World.alloc_heap_new w _
  have hb0 : Below w.heap.size w (w.alloc (.cells Lib.zeros24 271)) := (Below.refl _ w).alloc (Nat.le_refl _) _
  have hk0 : Keep F w F (w.alloc (.cells Lib.zeros24 271)) := keep_below ho2 hb0
  have hrel : Rel (fun i => if i = 0 then some (w.heap.size, 24) else none) F (w.alloc (.cells Lib.zeros24 271)) (hpF [.row 271 1 (0 : Int) u8C zer24 0]) := by
    refine ⟨fun i j r k k' hi hj _ _ => ?_, fun i b hi => ?_, fun b o h => ?_, hg.keep hk0⟩
    · have key : ∀ i, (hpF [Blk.row 271 1 (0 : Int) u8C zer24 0] i).isSome = true → i = 0 := fun i h => by
        obtain ⟨b, hb⟩ := Option.isSome_iff_exists.1 h
        have := (List.getElem?_eq_some_iff.1 hb).1
        simp at this; exact this
      rw [key i hi, key j hj]
    · have h0 : i = 0 := by
        have := (List.getElem?_eq_some_iff.1 hi).1
        simp at this; exact this
      subst h0
      have : Blk.row 271 1 (0 : Int) u8C zer24 0 = b := by simpa [hpF] using hi
      subst this
      refine .inr ⟨w.heap.size, 24, Lib.zeros24, rfl, hW, by decide, rfl, by decide, fun e _ => rfl, fun v hv => ?_, fun i e j x v h1 h2 h3 => ?_, fun o => ⟨fun h => absurd (ho _ _ h) (by omega), fun h => by omega⟩, Nat.zero_le _⟩
      · have : v = .int .u8 0 := by
          have e : Lib.zeros24.toList = List.replicate 24 (.int .u8 0) := rfl
          rw [e] at hv; exact List.eq_of_mem_replicate hv
        rw [this]; rfl
      · have he : e = 0 := by
          have := List.mem_of_getElem? h1
          exact List.eq_of_mem_replicate this
        subst he
        match j with
        | 0 =>
          cases h2
          have hi : i < 24 := by have := (List.getElem?_eq_some_iff.1 h1).1; simpa [zer24] using this
          rw [Nat.mul_one, Nat.add_zero, Lib.zeros24_at i hi] at h3
          cases h3
          exact .sc _ rfl
        | j + 1 => simp [u8C] at h2
    · rw [hk0.same b o h]; exact ho2 b o h
  have hargs : VRs (fun i => if i = 0 then some (w.heap.size, 24) else none) F (w.alloc (.cells Lib.zeros24 271)) [.sl 0 1 1 nd, uG (u : Int)] #[.slice (some ⟨w.heap.size, 1, none⟩) nd 23, .int .u64 u] := by
    refine ⟨rfl, fun j g v h1 h2 => ?_⟩
    match j with
    | 0 =>
      cases h1
      have h2 : some (Value.slice (some ⟨w.heap.size, 1, none⟩) nd 23) = some v := by simpa using h2
      cases h2
      exact .sl 0 1 1 nd _ 23 (fun _ => ⟨w.heap.size, 24, rfl, rfl, by omega, rfl⟩) (fun _ h => by omega) (by omega)
    | 1 =>
      cases h1
      have h2 : some (Value.int .u64 (u : Int)) = some v := by simpa using h2
      cases h2
      exact .d (.sc _ rfl)
    | j + 2 => simp at h1
  refine ((fmt10_ok nd hn (u : Int) ⟨by omega, by omega⟩ zer24 rfl).2 _ F _ _ hrel (fun i hi => ?_) hargs).mono fun e w' ⟨ν', F', v, h1, h2, h3, h4, h5, h6⟩ => ?_
  · have : i ≠ 0 := by have : 1 ≤ i := hi; omega
    simp [this]
  · subst h1
    have hv : v = .tuple #[] := by
      cases h2 with
      | tup _ us e1 _ =>
        have : us = #[] := by
          obtain ⟨l⟩ := us
          have : l.length = 0 := e1
          rw [List.eq_nil_of_length_eq_zero this]
        rw [this]
    subst hv
    have hbl : Below (w.alloc (.cells Lib.zeros24 271)).heap.size (w.alloc (.cells Lib.zeros24 271)) (w.alloc (.cells Lib.zeros24 271)) := Below.refl _ _
    have hsz : (w.alloc (.cells Lib.zeros24 271)).heap.size = w.heap.size + 1 := World.size_alloc _ _
    refine ⟨rfl, ⟨by rw [h6.os]; exact hb0.os, by rw [h6.tape]; exact hb0.tape, by rw [h6.output]; exact hb0.output, by have := h6.size; have := hb0.size; omega, fun r hr => ?_⟩, fun i c hc => ?_⟩
    · rw [h6.frame r (by omega) fun ⟨i, k, hi, e⟩ => ?_, hb0.block r hr]
      by_cases h : i = 0
      · subst h
        have e : some (w.heap.size, 24) = some (r, k) := e
        cases e
        omega
      · have e : (if i = 0 then some (w.heap.size, 24) else none) = some (r, k) := e
        rw [if_neg h] at e; cases e
    · have hb := h3.blk 0 (.row 271 1 (0 : Int) u8C (fm8 nd u zer24) 0) rfl
      rw [h4 0 (by decide)] at hb
      rcases hb with ⟨e, _⟩ | ⟨r, k, arr, e, k1, k2, k3, k4, k5, k6, k7, k8, k9⟩
      · cases e
      · cases e
        have hlt : i < arr.size := by have := (List.getElem?_eq_some_iff.1 hc).1; omega
        have hd := k7 i c 0 (.sc (.int .u8 c)) arr[i] hc rfl (by rw [Nat.mul_one, Nat.add_zero]; exact Array.getElem?_eq_getElem hlt)
        have ha : arr[i] = .int .u8 c := by
          generalize arr[i] = z at hd ⊢
          cases hd; rfl
        rw [World.cell?, k1]
        simp [hlt, ha]

set_option maxRecDepth 100000 in
set_option maxHeartbeats 4000000 in
theorem fmtInt_calls (w : World) (F : Fz) (hg : Glob F w) (ho : ∀ b o, F b o → b < w.heap.size) (ho2 : ∀ b o, F b o → (w.cell? ⟨b, o, none⟩).isSome = true) (hT : Lib.TabIs Tryz.prog w "internal/strconv.uint64pow10" .u64 PowTab.v) (u : Nat) (h1 : 100 ≤ u) (h2 : u ≤ 1099511627776) :
    Calls Tryz.prog 224 #[.int .i64 u, .int .i64 10] w fun e w' => e = .returned (.string ⟨(itB u).toArray⟩) ∧ Below w.heap.size w w' := by
  have hu64 : u < 18446744073709551616 := by omega
  have hnd : ndU u ≤ 20 := by
    have h19 := (Lib.numDigits_eq u (by omega) hu64).2
    unfold ndU
    split <;> omega
  have h20 : nd20 u = ndU u := Nat.min_eq_right hnd
  have hfmt := fmt10_calls w (ndU u) hnd u hu64 F hg ho ho2
  have hnumd := numD_calls (w.alloc (.cells Lib.zeros24 271)) (Lib.tabIs_alloc hT _) u (by omega) hu64
  have hitb : itB u = (((fm8 (ndU u) u zer24).drop 1).take (ndU u)).map fun c => UInt8.ofNat c.toNat := by rw [itB, h20]
  have hlb : (itB u).length = ndU u := by rw [itB_len, h20]
  have hby : Byt (fm8 (ndU u) u zer24) := Byt.f8 _ fun c hc => by rw [List.eq_of_mem_replicate hc]; omega
  have hl8 : (fm8 (ndU u) u zer24).length = 24 := len8 _ _ _
  generalize ndU u = nd at *
  have HF := Lib.hid hfmt
  have HN := Lib.hid hnumd
  have HI := Lib.hid hitb
  have HB := Lib.hid hby
  have HL := Lib.hid hlb
  clear hfmt hnumd hT hitb hby hlb h20 hg ho ho2
  have hal : Tryz.prog.arrayLen 271 = 24 := by simp [Program.arrayLen, Tryz.underlying271]
  have hsl1 : ∀ W, (Instr.sliceAt 271 (.pointer (some ⟨w.heap.size, 0, none⟩)) (some (.int .i64 1)) (some (.int .i64 (1 + (nd : Int)))) none).run Tryz.prog W = .ok (.slice (some ⟨w.heap.size, 1, none⟩) nd 23) W := fun W => by
    rw [run_sliceAt_array_lh W 271 ⟨w.heap.size, 0, none⟩ (by simp [Program.arrayLen, Program.elem, Tryz.underlying271]) .i64 .i64 1 (1 + (nd : Int)) (by omega) (by omega) (by rw [hal]; omega)]
    go_simp
    omega
  clear hal
  go_enter Tryz.func224, Tryz.ntmps224
  go_wp2_with (go_at_call 226; refine HN.out.mono ?_; rintro e w' ⟨rfl, rfl⟩)
  refine HF.out.mono ?_
  rintro e w' ⟨rfl, hb, hc⟩
  have hcv : (convert 203 9 (.slice (some ⟨w.heap.size, 1, none⟩) nd 23)).run Tryz.prog w' = .ok (.string ⟨(itB u).toArray⟩) w' := by
    have h := run_convert_bytes_back (P := Tryz.prog) w' 203 9 5 ⟨w.heap.size, 1, none⟩ 23 (itB u) Tryz.underlying203 Tryz.underlying5 Tryz.underlying9 (fun j hj => by
      have hj2 : 1 + j < (fm8 nd u zer24).length := by have := HL.out; omega
      have e1 : (itB u)[j] = UInt8.ofNat ((fm8 nd u zer24)[1 + j]).toNat := by
        simp only [HI.out, List.getElem_map, List.getElem_take, List.getElem_drop]
      have hr := HB.out _ (List.getElem_mem hj2)
      rw [e1, Lib.add_plain, hc (1 + j) ((fm8 nd u zer24)[1 + j]) (List.getElem?_eq_getElem hj2), UInt8.toNat_ofNat']
      congr 2
      omega)
    rw [HL.out] at h
    exact h
  clear hc
  go_wp2
  go_ret
  exact ⟨rfl, hb⟩

theorem gc_of_vrs2 [Laid] {P : Program} {f : FuncId} {fn : Func} {c : Code} {args : List G} {g : G} (hf : P.funcs[f]? = some fn) (hb : fn.body = some c) (hname : (fn.name == "runtime.NumGoroutine") = false) (ha : G.ltL 0 args = true)
    (h : ∀ (F : Fz) (w : World) (us : Array Value), Glob F w → (∀ b o, F b o → b < w.heap.size) → (∀ b o, F b o → (w.cell? ⟨b, o, none⟩).isSome = true) → VRs (fun _ => none) F w args us → Calls P f us w fun e w' => ∃ (v : Value), e = .returned v ∧ Below w.heap.size w w' ∧ VR (fun _ => none) (fun _ _ => False) w' g v) : GC P f args g := by
  refine ⟨⟨fn, c, hf, hb, hname⟩, fun ν F w H us hr hv => ?_⟩
  simp only [ltL_all, List.all_eq_true] at ha
  refine (h F w us hr.glob (fun b o hbo => hr.old_lt hbo) hr.old ⟨hv.1, fun j g' u a b => (hv.2 j g' u a b).closed (ha g' (List.mem_of_getElem? a))⟩).mono fun e w' ⟨v, h1, h2, h4⟩ => ?_
  obtain ⟨r1, r2⟩ := of_below hr h2
  have hkn : Keep (fun _ _ => False) w' F w' := ⟨fun _ _ h => h.elim, fun _ _ h => h.elim, fun _ _ h => h.elim⟩
  exact ⟨F, v, h1, h4.keep hkn (fun i p hi => by cases hi), r1, r2⟩
theorem fmtInt_ok (n : Int) (h0 : 0 ≤ n) (h1 : n ≤ 1099511627776) : GC Tryz.prog 224 [iG n, iG 10] (sG (itU n)) := by
  refine gc_of_vrs2 Tryz.func224 rfl rfl rfl fun F w us hg hF ho hv => ?_
  have h2 : us.size = 2 := hv.1
  obtain ⟨u, v, rfl⟩ := arr2 h2
  have e1 := (hv.2 0 (iG n) u rfl rfl).sc_eq.1
  have e2 := (hv.2 1 (iG 10) v rfl rfl).sc_eq.1
  subst e1
  subst e2
  by_cases hs : n < 100
  · obtain ⟨i, rfl⟩ : ∃ i : Nat, n = i := ⟨n.toNat, by omega⟩
    have e : itU (i : Int) = ⟨(Lib.itoa i).toArray⟩ := if_pos ⟨by omega, hs⟩
    rw [e]
    exact (Tryz.internal_strconv_FormatInt_10_small i (by omega) w).mono fun e w' ⟨h1, h2⟩ => ⟨_, by rw [h1]; rfl, h2 ▸ Below.refl _ _, .d (.sc _ rfl)⟩
  · obtain ⟨i, rfl⟩ : ∃ i : Nat, n = i := ⟨n.toNat, by omega⟩
    have e : itU (i : Int) = ⟨(itB i).toArray⟩ := if_neg (by omega)
    rw [e]
    have hT : Lib.TabIs Tryz.prog w "internal/strconv.uint64pow10" .u64 PowTab.v := tabIs_of_glob hg List.mem_cons_self (by kernel_rfl)
    exact (fmtInt_calls w F hg hF ho hT i (by omega) (by omega)).mono fun e w' ⟨h1, h2⟩ => ⟨_, h1, h2, .d (.sc _ rfl)⟩

theorem iitoa_ok (n : Int) (h0 : 0 ≤ n) (h1 : n ≤ 1099511627776) : GC Tryz.prog 223 [iG n] (sG (itU n)) := by
  refine gc_of_gk Tryz.func223 ?_
  refine gk_region env false [] [0, 2] ?_ -- 0
  refine gk_region env false [.call (fmtInt_ok n h0 h1)] [2] ?_ -- 1
  refine gk_ret env ?_
  rfl

theorem sitoa_ok (n : Int) (h0 : 0 ≤ n) (h1 : n ≤ 1099511627776) : GC Tryz.prog 222 [iG n] (sG (itU n)) := by
  refine gc_of_gk Tryz.func222 ?_
  refine gk_region env false [] [0, 2] ?_ -- 0
  refine gk_region env false [.call (iitoa_ok n h0 h1)] [2] ?_ -- 1
  refine gk_ret env ?_
  rfl

instance itoaU_any : ItoaU := ⟨itU, itU_size, sitoa_ok⟩
end Go.Gh
