/- Walks by the logic of calls, and plain laws. -/
import Derived.Test.YtffffkfcbjobnaaGreatGCrV
namespace Go.Gh
open Go Go.Proofs
set_option maxRecDepth 1000000
set_option maxHeartbeats 2000000
set_option linter.unusedSimpArgs false
set_option linter.unusedVariables false
set_option linter.unnecessarySimpa false
set_option linter.unusedSectionVars false
variable [PowTab] [ItoaU]
open Go.RowKit Go.Shelf
attribute [local go_sem] Oper.semAt_some

theorem ep_one {F : Fz} {w : World} {b o : Nat} {x : D} {u : Value} (hw : w.cell? ⟨b, o, none⟩ = some u) (hF : F b o) (hd : DR F w x u) : VR (fun _ => none) F w (.ep [x]) (.pointer (some ⟨b, o, none⟩)) := by
  refine .ep [x] b o (fun _ => u) (fun j y hy => ?_) (fun j y hy => ?_) (fun j y hy => ?_)
  all_goals
    match j with
    | 0 => cases hy; first | exact hw | exact hF | exact hd
    | j + 1 => simp at hy
set_option maxRecDepth 100000 in
set_option maxHeartbeats 4000000 in
theorem failings_in (xs : List Dm) (hxs : xs.length ≤ 1000) (docs : List Dc) (hfit : FitL docs) (cs : List Int) (m : Int) (hcnt : CntI docs docs.length cs m) (n : Nat) (hn : n ≤ 4096) (b1 o1 b2 o2 b3 o3 b4 o4 : Nat) (u2 u3 u4 : Value) (F : Fz) (l : Nat) (J Jx : List Nat → World → Prop) (W : World) (hJ : AbidesFrom W.heap.size J) (ho : ∀ b o, F b o → (W.cell? ⟨b, o, none⟩).isSome = true) (hg : Glob F W)
    (hY : ∀ pre (x : Nat) W1, J pre W1 → pre.length < n → YieldAt Fence.wide 0 Tryz.prog l #[.int .u64 (setAt xs docs cs x)] W1 fun e W' =>
      (e = .returned (.bool true) ∧ J (pre ++ [x]) W' ∧ Keep F W1 F W') ∨ (e = .returned (.bool false) ∧ Jx (pre ++ [x]) W'))
    (h1 : W.cell? ⟨b1, o1, none⟩ = some (.int .i64 n) ∧ F b1 o1) (h2 : W.cell? ⟨b2, o2, none⟩ = some u2 ∧ F b2 o2) (h3 : W.cell? ⟨b3, o3, none⟩ = some u3 ∧ F b3 o3) (h4 : W.cell? ⟨b4, o4, none⟩ = some u4 ∧ F b4 o4)
    (d2 : DR F W (.row default dmC xs) u2) (d3 : DR F W (.row default dcC docs) u3) (d4 : DR F W (.row default inC cs) u4) (h0 : J [] W) :
    CallsIn Fence.wide 1 Tryz.prog 170 (#[.func (.yield l) #[] #[]] ++ #[.pointer (some ⟨b1, o1, none⟩), .pointer (some ⟨b2, o2, none⟩), .pointer (some ⟨b3, o3, none⟩), .pointer (some ⟨b4, o4, none⟩)]) W fun e W' => (∃ v, e = .returned v) ∧ ((∃ xs, xs = List.range n ∧ J xs W') ∨ (∃ pre, True ∧ Jx pre W')) := by
  have HY := Lib.hid hY
  have H1 := Lib.hid h1
  have H2 := Lib.hid h2
  have H3 := Lib.hid h3
  have H4 := Lib.hid h4
  have HJ := Lib.hid hJ
  have HO := Lib.hid ho
  have HG := Lib.hid hg
  have D2 := Lib.hid d2
  have D3 := Lib.hid d3
  have D4 := Lib.hid d4
  obtain ⟨h1c, h1f⟩ := h1
  clear hY hJ ho hg h2 h3 h4 d2 d3 d4
  refine callsIn_of_wp Tryz.func170 rfl trivial ?_ rfl
  simp only [Tryz.ntmps170, List.size_toArray, List.length_cons, List.length_nil, Nat.reduceAdd, Nat.reduceSub, Array.replicate_succ, Array.replicate_zero, List.push_toArray, List.append_toArray, List.nil_append, List.cons_append]
  gi_wp2_with fail
  gi_loopw [11] (fun i wr => ∃ k : Nat, k ≤ n ∧ i = .int .i64 (k : Int) ∧ J (List.range k) wr ∧ Keep F W F wr)
    (fun i _ => ((n : Int) - RowKit.intOf i).toNat)
  case atStart => exact ⟨0, Nat.zero_le _, rfl, h0, Keep.refl _ _⟩
  case round =>
    obtain ⟨k, hk, rfl, hJs, hnx⟩ := hrel
    by_cases hlt : k < n
    · gi_wp2_with fail
      rename_i K4 hK4
      have hg2 : Glob F wr := HG.out.keep hnx
      have ho2 : ∀ b o, F b o → (wr.cell? ⟨b, o, none⟩).isSome = true := fun b o hf => by rw [(hnx.trans (Keep.refl _ _)).same b o hf]; exact HO.out b o hf
      have v1 : VR (fun _ => none) F wr (.ep [.row default dmC xs]) (.pointer (some ⟨b2, o2, none⟩)) := ep_one ((hnx.same _ _ H2.out.2).trans H2.out.1) H2.out.2 (D2.out.keep hnx)
      have v2 : VR (fun _ => none) F wr (.ep [.row default dcC docs]) (.pointer (some ⟨b3, o3, none⟩)) := ep_one ((hnx.same _ _ H3.out.2).trans H3.out.1) H3.out.2 (D3.out.keep hnx)
      have v3 : VR (fun _ => none) F wr (.ep [.row default inC cs]) (.pointer (some ⟨b4, o4, none⟩)) := ep_one ((hnx.same _ _ H4.out.2).trans H4.out.1) H4.out.2 (D4.out.keep hnx)
      refine (wpIn_wide (n := 1)).2 ((wpIn_wide (n := 0)).1 ?_)
      rw [← rnd_none]
      refine rx_region env false [.call (GC.lift (eread_ok docs hfit cs m hcnt k (by omega) (by omega))), .call (GC.lift (failing_ok xs hxs (readL docs cs k) (readL_short hfit.len cs k)))] (rs_lit [(0, .ex (.func (.yield l) #[] #[]) .junk), (1, .ex (.pointer (some ⟨b1, o1, none⟩)) .junk), (2, .ex (.pointer (some ⟨b2, o2, none⟩)) (.ep [.row default dmC xs])), (3, .ex (.pointer (some ⟨b3, o3, none⟩)) (.ep [.row default dcC docs])), (4, .ex (.pointer (some ⟨b4, o4, none⟩)) (.ep [.row default inC cs])), (5, .ex undef .junk), (6, iG (k : Int)), (7, uG 0), (8, .ex undef .junk), (10, iG (n : Int)), (11, iG (k : Int))] hg2 ho2 rfl ?_) (by rfl) (by kernel_rfl) ?_ ?_
      · intro q hq
        simp only [List.mem_cons, List.not_mem_nil, or_false] at hq
        rcases hq with rfl | rfl | rfl | rfl | rfl | rfl | rfl | rfl | rfl | rfl | rfl
        · exact .ex _ _ (.junk _)
        · exact .ex _ _ (.junk _)
        · exact .ex _ _ v1
        · exact .ex _ _ v2
        · exact .ex _ _ v3
        all_goals first | exact .d (.sc _ rfl) | exact .ex _ _ (.junk _)
      · simp [AllP, catP, addP, andO]
        exact ⟨EntL.refl _, EntL.refl _⟩
      · rintro a' w' ν' F' hr' hev hdf
        obtain ⟨⟨tl⟩, ds⟩ := a'
        cases hdf
        have hsz := hr'.size
        change tl.length = 35 at hsz
        obtain ⟨x0, tl1, rfl, hsz1⟩ := peel hsz
        obtain ⟨x1, tl2, rfl, hsz2⟩ := peel hsz1
        obtain ⟨x2, tl3, rfl, hsz3⟩ := peel hsz2
        obtain ⟨x3, tl4, rfl, hsz4⟩ := peel hsz3
        obtain ⟨x4, tl5, rfl, hsz5⟩ := peel hsz4
        obtain ⟨x5, tl6, rfl, hsz6⟩ := peel hsz5
        obtain ⟨x6, tl7, rfl, hsz7⟩ := peel hsz6
        obtain ⟨x7, tl8, rfl, hsz8⟩ := peel hsz7
        obtain ⟨x8, tl9, rfl, hsz9⟩ := peel hsz8
        obtain ⟨x9, tl10, rfl, hsz10⟩ := peel hsz9
        obtain ⟨x10, tl11, rfl, hsz11⟩ := peel hsz10
        obtain ⟨x11, tl12, rfl, hsz12⟩ := peel hsz11
        obtain ⟨x12, tl13, rfl, hsz13⟩ := peel hsz12
        obtain ⟨x13, tl14, rfl, hsz14⟩ := peel hsz13
        obtain ⟨x14, tl15, rfl, hsz15⟩ := peel hsz14
        obtain ⟨x15, tl16, rfl, hsz16⟩ := peel hsz15
        obtain ⟨x16, tl17, rfl, hsz17⟩ := peel hsz16
        obtain ⟨x17, tl18, rfl, hsz18⟩ := peel hsz17
        obtain ⟨x18, tl19, rfl, hsz19⟩ := peel hsz18
        obtain ⟨x19, tl20, rfl, hsz20⟩ := peel hsz19
        obtain ⟨x20, tl21, rfl, hsz21⟩ := peel hsz20
        obtain ⟨x21, tl22, rfl, hsz22⟩ := peel hsz21
        obtain ⟨x22, tl23, rfl, hsz23⟩ := peel hsz22
        obtain ⟨x23, tl24, rfl, hsz24⟩ := peel hsz23
        obtain ⟨x24, tl25, rfl, hsz25⟩ := peel hsz24
        obtain ⟨x25, tl26, rfl, hsz26⟩ := peel hsz25
        obtain ⟨x26, tl27, rfl, hsz27⟩ := peel hsz26
        obtain ⟨x27, tl28, rfl, hsz28⟩ := peel hsz27
        obtain ⟨x28, tl29, rfl, hsz29⟩ := peel hsz28
        obtain ⟨x29, tl30, rfl, hsz30⟩ := peel hsz29
        obtain ⟨x30, tl31, rfl, hsz31⟩ := peel hsz30
        obtain ⟨x31, tl32, rfl, hsz32⟩ := peel hsz31
        obtain ⟨x32, tl33, rfl, hsz33⟩ := peel hsz32
        obtain ⟨x33, tl34, rfl, hsz34⟩ := peel hsz33
        obtain ⟨x34, tl35, rfl, hsz35⟩ := peel hsz34
        obtain rfl := List.eq_nil_of_length_eq_zero hsz35
        obtain rfl : x0 = .func (.yield l) #[] #[] := vr_ex (hr'.vals 0)
        obtain rfl : x1 = .pointer (some ⟨b1, o1, none⟩) := vr_ex (hr'.vals 1)
        obtain rfl : x2 = .pointer (some ⟨b2, o2, none⟩) := vr_ex (hr'.vals 2)
        obtain rfl : x3 = .pointer (some ⟨b3, o3, none⟩) := vr_ex (hr'.vals 3)
        obtain rfl : x4 = .pointer (some ⟨b4, o4, none⟩) := vr_ex (hr'.vals 4)
        obtain rfl : x5 = undef := vr_ex (hr'.vals 5)
        obtain rfl : x8 = undef := vr_ex (hr'.vals 8)
        obtain rfl : x6 = .int .i64 (k : Int) := vr_sc (hr'.vals 6)
        obtain rfl : x7 = .int .u64 0 := vr_sc (hr'.vals 7)
        obtain rfl : x10 = .int .i64 (n : Int) := vr_sc (hr'.vals 10)
        obtain rfl : x11 = .int .i64 (k : Int) := vr_sc (hr'.vals 11)
        obtain rfl : x20 = .int .i64 (failV xs (readL docs cs k)).length := vr_sc (hr'.vals 20)
        obtain rfl : x21 = .int .i64 0 := vr_sc (hr'.vals 21)
        have v19 : VR ν' F' w' (.d (.row (default : Int) (fun z => [D.sc (.int .i64 z)]) (failV xs (readL docs cs k)))) x19 := hr'.vals 19
        obtain ⟨A19, c19, rfl, hc19, hcell⟩ := row_vals v19
        have hbl : Below wr.heap.size wr w' := evo_below hev
        have hk2 : Keep F W F w' := hnx.trans (keep_below ho2 hbl)
        have hJ2 : J (List.range k) w' := HJ.out _ _ _ none hJs (below_grown hbl) (fun r e => by cases e)
        clear hr' hev v19
        have HC := Lib.hid hcell
        clear hcell
        show K4 ⟨#[.func (.yield l) #[] #[], .pointer (some ⟨b1, o1, none⟩), .pointer (some ⟨b2, o2, none⟩), .pointer (some ⟨b3, o3, none⟩), .pointer (some ⟨b4, o4, none⟩), undef, .int .i64 (k : Int), .int .u64 0, undef, x9, .int .i64 (n : Int), .int .i64 (k : Int), x12, x13, x14, x15, x16, x17, x18, .slice A19 (failV xs (readL docs cs k)).length c19, .int .i64 (failV xs (readL docs cs k)).length, .int .i64 0, x22, x23, x24, x25, x26, x27, x28, x29, x30, x31, x32, x33, x34], []⟩ w'
        refine hK4 _ _ ?_
        gi_wp2_with fail
        gi_loopw [7, 21] (fun s i wx => ∃ (j : Nat) (z : Int), j ≤ (failV xs (readL docs cs k)).length ∧ i = .int .i64 (j : Int) ∧ s = .int .u64 z ∧ wx = w' ∧ RowKit.Hid (bitsE (failV xs (readL docs cs k)) = bitsF (failV xs (readL docs cs k)) j z))
          (fun _ i _ => ((failV xs (readL docs cs k)).length - RowKit.intOf i).toNat)
        case atStart => exact ⟨0, 0, Nat.zero_le _, rfl, rfl, rfl, Lib.hid rfl⟩
        case round =>
          obtain ⟨j, z, hj, rfl, rfl, rfl, hz⟩ := hrel
          have hfl := failV_len xs (readL docs cs k)
          by_cases hj2 : j < (failV xs (readL docs cs k)).length
          · obtain ⟨b19, off19, rfl, hcl⟩ := HC.out (by intro e; rw [e] at hj2; simp at hj2)
            have cj := (hcl j hj2).1
            have hix := failV_ix (List.getElem_mem hj2)
            have hxn : ¬ (failV xs (readL docs cs k))[j] < 0 := by omega
            clear hcl
            gi_wp2_with fail
            refine ⟨⟨j + 1, orI .u64 z (shlI .u64 1 (failV xs (readL docs cs k))[j]), by omega, ?_, ?_, trivial, ?_⟩, ?_⟩
            · rfl
            · rw [show shlI .u64 1 (failV xs (readL docs cs k))[j] = IntKind.u64.wrap (2 ^ min (failV xs (readL docs cs k))[j].toNat 64) from by simp [shlI, IntKind.bits]]
              rfl
            · refine Lib.hid (hz.out.trans ?_)
              rw [bitsF, if_pos hj2, List.getD_eq_getElem?_getD, List.getElem?_eq_getElem hj2]; rfl
            · simp [RowKit.intOf]; omega
          · obtain rfl : setAt xs docs cs k = z := by
              have := hz.out
              rw [bitsF, if_neg hj2] at this
              exact this
            obtain ⟨fn, tmps, assign, body, hy, hR⟩ := HY.out _ k _ hJ2 (by rw [List.length_range]; exact hlt)
            have HX := Lib.hid (show List.range k ++ [k] = List.range (k + 1) from List.range_succ.symm)
            gi_wp2
            refine hR.mono ?_
            rintro e W3 (⟨rfl, hJ3, hk3⟩ | ⟨rfl, hJx3⟩)
            · gi_wp2
              go_roundw
              case rel => exact ⟨k + 1, by omega, by simp, by rw [HX.out] at hJ3; exact hJ3, hk2.trans hk3⟩
              case measure => simp [RowKit.intOf]; omega
            · gi_wp2
              refine bodyPost_ret (results_none rfl _ _ _) rfl ?_
              exact ⟨⟨_, rfl⟩, .inr ⟨_, trivial, hJx3⟩⟩
    · obtain rfl : k = n := by omega
      gi_wp2
      go_end0
      exact ⟨⟨_, rfl⟩, .inl ⟨_, rfl, hJs⟩⟩

theorem vr_ep4 {F : Fz} {w : World} {x1 x2 x3 x4 : D} {lb : Array Value} (h : VRs (fun _ => none) F w [.ep [x1], .ep [x2], .ep [x3], .ep [x4]] lb) : ∃ (b1 o1 b2 o2 b3 o3 b4 o4 : Nat) (v1 v2 v3 v4 : Value), lb = #[.pointer (some ⟨b1, o1, none⟩), .pointer (some ⟨b2, o2, none⟩), .pointer (some ⟨b3, o3, none⟩), .pointer (some ⟨b4, o4, none⟩)] ∧
    (w.cell? ⟨b1, o1, none⟩ = some v1 ∧ F b1 o1 ∧ DR F w x1 v1) ∧ (w.cell? ⟨b2, o2, none⟩ = some v2 ∧ F b2 o2 ∧ DR F w x2 v2) ∧ (w.cell? ⟨b3, o3, none⟩ = some v3 ∧ F b3 o3 ∧ DR F w x3 v3) ∧ (w.cell? ⟨b4, o4, none⟩ = some v4 ∧ F b4 o4 ∧ DR F w x4 v4) := by
  obtain ⟨l⟩ := lb
  have h1 := h.1
  match l, h1 with
  | [p1, p2, p3, p4], _ =>
    have key : ∀ (j : Nat) (x : D) u, [G.ep [x1], .ep [x2], .ep [x3], .ep [x4]][j]? = some (.ep [x]) → [p1, p2, p3, p4][j]? = some u → ∃ (b o : Nat) (v : Value), u = .pointer (some ⟨b, o, none⟩) ∧ w.cell? ⟨b, o, none⟩ = some v ∧ F b o ∧ DR F w x v := fun j x u a b => by
      obtain ⟨b, off, val, e, hw, hF, hd⟩ := (h.2 j (.ep [x]) u a (by simpa using b)).ep_inv
      exact ⟨b, off, val 0, e, by simpa using hw 0 x rfl, by simpa using hF 0 x rfl, hd 0 x rfl⟩
    obtain ⟨b1, o1, v1, rfl, a1⟩ := key 0 x1 p1 rfl rfl
    obtain ⟨b2, o2, v2, rfl, a2⟩ := key 1 x2 p2 rfl rfl
    obtain ⟨b3, o3, v3, rfl, a3⟩ := key 2 x3 p3 rfl rfl
    obtain ⟨b4, o4, v4, rfl, a4⟩ := key 3 x4 p4 rfl rfl
    exact ⟨b1, o1, b2, o2, b3, o3, b4, o4, v1, v2, v3, v4, rfl, a1, a2, a3, a4⟩
theorem failings_iter (xs : List Dm) (hxs : xs.length ≤ 1000) (docs : List Dc) (hfit : FitL docs) (cs : List Int) (m : Int) (hcnt : CntI docs docs.length cs m) (n : Nat) (hn : n ≤ 4096) :
    IterOK Tryz.prog 170 [.ep [.sc (.int .i64 (n : Int))], .ep [.row default dmC xs], .ep [.row default dcC docs], .ep [.row default inC cs]] (fun i : Nat => [uG (setAt xs docs cs i)]) (List.range n) := by
  refine ⟨⟨_, _, Tryz.func170, rfl, rfl⟩, fun F w lb hg ho hv => ?_⟩
  obtain ⟨b1, o1, b2, o2, b3, o3, b4, o4, v1, v2, v3, v4, rfl, ⟨a1, f1, d1⟩, ⟨a2, f2, d2⟩, ⟨a3, f3, d3⟩, ⟨a4, f4, d4⟩⟩ := vr_ep4 hv
  cases d1
  refine ⟨fun i => #[.int .u64 (setAt xs docs cs i)], fun i => ⟨rfl, fun j g u h1 h2 => ?_⟩, fun l J Jx W hW hJ _ hY h0 => ?_⟩
  · match j with
    | 0 =>
      have h1 : some (uG (setAt xs docs cs i)) = some g := h1
      have h2 : some (Value.int .u64 (setAt xs docs cs i)) = some u := by simpa using h2
      cases h1; cases h2; exact .d (.sc _ rfl)
    | j + 1 => simp at h1
  · have hk := keep_below ho hW
    have hoW : ∀ b o, F b o → (W.cell? ⟨b, o, none⟩).isSome = true := fun b o hf => by rw [hk.same b o hf]; exact ho b o hf
    rw [List.length_range] at hY
    exact failings_in xs hxs docs hfit cs m hcnt n hn b1 o1 b2 o2 b3 o3 b4 o4 v2 v3 v4 F l J Jx W hJ hoW (hg.keep hk) hY ⟨(hk.same _ _ f1).trans a1, f1⟩ ⟨(hk.same _ _ f2).trans a2, f2⟩ ⟨(hk.same _ _ f3).trans a3, f3⟩ ⟨(hk.same _ _ f4).trans a4, f4⟩ (d2.keep hk) (d3.keep hk) (d4.keep hk) h0
end Go.Gh
