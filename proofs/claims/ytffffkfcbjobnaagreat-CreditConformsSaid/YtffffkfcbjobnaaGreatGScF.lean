/- Walks by the logic of calls, and plain laws. -/
import Derived.Test.YtffffkfcbjobnaaGreatGScE
import Derived.RangeFuncNested
import Derived.RangeFuncBound
import Derived.RangeFuncCalls
import Derived.RangeFuncLeaves
import Derived.RangeFuncBox
import Derived.Shelf.Abstract
import Derived.Shelf.RegionOpen
import Derived.OwnWalkIn
import Derived.TacticsInMore
import Derived.LoopNIn
import Derived.LoopIn
namespace Go.Gh
open Go Go.Proofs
set_option maxRecDepth 1000000
set_option maxHeartbeats 2000000
set_option linter.unusedSimpArgs false
set_option linter.unusedVariables false
open Go.RowKit Go.Shelf
attribute [local go_sem] Oper.semAt_some

theorem keep_below {F : Fz} {w W : World} (ho : ∀ b o, F b o → (w.cell? ⟨b, o, none⟩).isSome = true) (h : Below w.heap.size w W) : Keep F w F W := by
  have hb : ∀ b o, F b o → W.heap[b]? = w.heap[b]? := fun b o hf => by
    obtain ⟨v, hv⟩ := Option.isSome_iff_exists.1 (ho b o hf)
    exact h.block b (World.block_lt_of_cell? w ⟨b, o, none⟩ hv)
  exact ⟨fun _ _ h => h, fun b o hf => by simp only [World.cell?, hb b o hf], fun b o hf => szAt_of (hb b o hf)⟩
theorem vr_ep1 {F : Fz} {w : World} {x : D} {lb : Array Value} (h : VRs (fun _ => none) F w [.ep [x]] lb) : ∃ b off v, lb = #[.pointer (some ⟨b, off, none⟩)] ∧ w.cell? ⟨b, off, none⟩ = some v ∧ F b off ∧ DR F w x v := by
  obtain ⟨l⟩ := lb
  have h1 := h.1
  match l, h1 with
  | [u], _ =>
    have h2 := h.2 0 (.ep [x]) u rfl rfl
    obtain ⟨b, off, val, e, hw, hF, hd⟩ := h2.ep_inv
    subst e
    exact ⟨b, off, val 0, rfl, by have := hw 0 x rfl; simpa using this, by have := hF 0 x rfl; simpa using this, hd 0 x rfl⟩
/-- the numbers from the last to the first -/
def downL (n : Nat) : List (Fin n) := (List.finRange n).reverse
theorem downL_length (n : Nat) : (downL n).length = n := by simp [downL]
theorem downL_at {n k : Nat} (hk : k < n) : (downL n)[k]? = some ⟨n - 1 - k, by omega⟩ := by
  rw [downL, List.getElem?_reverse (by simpa using hk), List.length_finRange, List.getElem?_eq_getElem (by simp; omega)]
  simp
theorem take_at {α : Type} {l : List α} {k : Nat} {x : α} (h : l[k]? = some x) : l.take (k + 1) = l.take k ++ [x] := by
  have hk := (List.getElem?_eq_some_iff.1 h).1
  rw [List.take_succ_eq_append_getElem hk, (List.getElem?_eq_some_iff.1 h).2]
set_option maxRecDepth 100000 in
set_option maxHeartbeats 4000000 in
theorem backF_in (n Bs off bk ob cap : Nat) (val : Nat → Nat → Value) (A : Option Addr) (F : Fz) (l : Nat) (J Jx : List (Fin n) → World → Prop) (hn : n ≤ 1000) (W : World)
    (hY : ∀ pre (x : Fin n) W1, J pre W1 → pre.length < n → YieldAt Fence.wide 0 Tryz.prog l #[.int .i64 ((x.1 : Nat) : Int), .agg #[val x.1 0, val x.1 1]] W1 fun e W' =>
      (e = .returned (.bool true) ∧ J (pre ++ [x]) W' ∧ Keep F W1 F W') ∨ (e = .returned (.bool false) ∧ Jx (pre ++ [x]) W'))
    (hBs : W.cell? ⟨Bs, off, none⟩ = some (.slice A n cap)) (hFB : F Bs off) (hA : n ≠ 0 → A = some ⟨bk, ob, none⟩) (hc : ∀ i j, i < n → j < 2 → W.cell? ⟨bk, ob + i * 2 + j, none⟩ = some (val i j) ∧ F bk (ob + i * 2 + j)) (h0 : J [] W) :
    CallsIn Fence.wide 1 Tryz.prog 144 (#[.func (.yield l) #[] #[]] ++ #[.pointer (some ⟨Bs, off, none⟩)]) W fun e W' => (∃ v, e = .returned v) ∧ ((∃ xs, xs = downL n ∧ J xs W') ∨ (∃ pre, True ∧ Jx pre W')) := by
  have HB := Lib.hid hBs
  have HC := Lib.hid hc
  have HA := Lib.hid hA
  clear hBs hc hA
  refine callsIn_of_wp Tryz.func144 rfl trivial ?_ rfl
  simp only [Tryz.ntmps144, List.size_toArray, List.length_cons, List.length_nil, Nat.reduceAdd, Nat.reduceSub, Array.replicate_succ, Array.replicate_zero, List.push_toArray, List.append_toArray, List.nil_append, List.cons_append]
  have hBs := HB.out
  gi_wp2
  gi_loopw [3] (fun i wr => ∃ k : Nat, k ≤ n ∧ i = .int .i64 ((n : Int) - 1 - k) ∧ J ((downL n).take k) wr ∧ Keep F W F wr)
    (fun i _ => (RowKit.intOf i + 1).toNat)
  case atStart => exact ⟨0, Nat.zero_le _, by simp, by simpa using h0, Keep.refl _ _⟩
  case round =>
    obtain ⟨k, hk, rfl, hJs, hnx⟩ := hrel
    have hBs' := (hnx.same Bs off hFB).trans HB.out
    by_cases hlt : k < n
    · have hAe := HA.out (by omega)
      subst hAe
      obtain ⟨q, hq⟩ : ∃ q : Nat, q = n - 1 - k := ⟨_, rfl⟩
      have hqi : (n : Int) - 1 - k = q := by omega
      have hq1 : q < n := by omega
      have c1 : wr.cell? ⟨bk, ob + q * 2, none⟩ = some (val q 0) := by
        obtain ⟨a, b⟩ := HC.out q 0 hq1 (by omega)
        exact (hnx.same _ _ b).trans a
      have c2 : wr.cell? ⟨bk, ob + q * 2 + 1, none⟩ = some (val q 1) := by
        obtain ⟨a, b⟩ := HC.out q 1 hq1 (by omega)
        exact (hnx.same _ _ b).trans a
      have hx : (downL n)[k]? = some ⟨q, hq1⟩ := by rw [downL_at hlt]; simp [hq]
      have hbs := take_at hx
      rw [hqi]
      obtain ⟨fn, tmps, assign, body, hy, hR⟩ := hY _ ⟨q, hq1⟩ wr hJs (by rw [List.length_take, downL_length]; omega)
      dsimp only at hy
      have HX := Lib.hid hbs
      have HQ := Lib.hid hqi
      have hq2 : q + k + 1 = n := by omega
      clear hbs hx hq hqi
      gi_wp2
      refine hR.mono ?_
      rintro e W3 (⟨rfl, hJ3, hk3⟩ | ⟨rfl, hJx3⟩)
      · have hBs3 := (hk3.same Bs off hFB).trans hBs'
        gi_wp2
        go_roundw
        case rel => exact ⟨k + 1, by omega, by congr 1; omega, by rw [HX.out]; exact hJ3, hnx.trans hk3⟩
        case measure => simp [RowKit.intOf]
      · gi_wp2
        refine bodyPost_ret (results_none rfl _ _ _) rfl ?_
        exact ⟨⟨_, rfl⟩, .inr ⟨_, trivial, hJx3⟩⟩
    · obtain rfl : k = n := by omega
      have e0 : (k : Int) - 1 - k = -1 := by omega
      rw [e0]
      gi_wp2
      go_end0
      exact ⟨⟨_, rfl⟩, .inl ⟨_, rfl, by rw [List.take_of_length_le (by rw [downL_length]; exact Nat.le_refl _)] at hJs; exact hJs⟩⟩

theorem backF_ok (fs : List Fl) (hn : fs.length ≤ 1000) : IterOK Tryz.prog 144 [.ep [.row default flC fs]] (fun k : Fin fs.length => [iG ((k.1 : Nat) : Int), flG (fs.getD k.1 default)]) (downL fs.length) := by
  refine ⟨⟨_, _, Tryz.func144, rfl, rfl⟩, fun F w lb hg ho hv => ?_⟩
  obtain ⟨Bs, off, v, rfl, hcb, hFB, hd⟩ := vr_ep1 hv
  obtain ⟨A, c, b, ob, es, val, rfl, hA, hc, hl, hw, hFc, hdr⟩ := (VR.d (ν := fun _ => none) hd).row_inv
  have hat : ∀ k : Fin fs.length, fs[k.1]? = some (fs.getD k.1 default) := fun k => by rw [List.getD_eq_getElem?_getD, List.getElem?_eq_getElem k.2]; rfl
  have hes : ∀ k : Fin fs.length, es = 2 := fun k => by have := hl _ (List.mem_of_getElem? (hat k)); simpa [flC] using this.symm
  refine ⟨fun k => #[.int .i64 ((k.1 : Nat) : Int), .agg #[val k.1 0, val k.1 1]], fun k => ⟨rfl, fun j g u h1 h2 => ?_⟩, fun l J Jx W hW _ _ hY h0 => ?_⟩
  · have d0 := hdr k.1 _ 0 (.sc (.string (fs.getD k.1 default).name)) (hat k) rfl
    have d1 := hdr k.1 _ 1 (.row default wdC (fs.getD k.1 default).words) (hat k) rfl
    match j with
    | 0 => simp at h1 h2; subst h1; subst h2; exact .d (.sc _ rfl)
    | 1 =>
      simp only [List.getElem?_cons_succ, List.getElem?_cons_zero, Option.some.injEq] at h1
      simp at h2
      subst h1; subst h2
      refine .agg _ _ rfl (fun u hu => ?_) (fun j g u h1 h2 => ?_)
      · simp at hu
        rcases hu with rfl | rfl
        · exact d0.one
        · exact d1.one
      · match j with
        | 0 =>
          have h1 : some (sG (fs.getD k.1 default).name) = some g := h1
          have h2 : some (val k.1 0) = some u := by simpa using h2
          cases h1; cases h2; exact .d d0
        | 1 =>
          have h1 : some (.d (.row default wdC (fs.getD k.1 default).words)) = some g := h1
          have h2 : some (val k.1 1) = some u := by simpa using h2
          cases h1; cases h2; exact .d d1
        | j + 2 => simp at h1
    | j + 2 => simp at h1
  · have hk := keep_below ho hW
    rw [downL_length] at hY
    exact backF_in fs.length Bs off b ob c val A F l J Jx hn W hY ((hk.same _ _ hFB).trans hcb) hFB (fun h => hA (by intro e; rw [e] at h; exact h rfl)) (fun i j hi hj => by
      have e2 := hes ⟨i, hi⟩
      subst e2
      match j, hj with
      | 0, _ => exact ⟨(hk.same _ _ (hFc i _ 0 _ (hat ⟨i, hi⟩) rfl)).trans (hw i _ 0 (.sc (.string (fs.getD i default).name)) (hat ⟨i, hi⟩) rfl), hFc i _ 0 (.sc (.string (fs.getD i default).name)) (hat ⟨i, hi⟩) rfl⟩
      | 1, _ => exact ⟨(hk.same _ _ (hFc i _ 1 _ (hat ⟨i, hi⟩) rfl)).trans (hw i _ 1 (.row default wdC (fs.getD i default).words) (hat ⟨i, hi⟩) rfl), hFc i _ 1 (.row default wdC (fs.getD i default).words) (hat ⟨i, hi⟩) rfl⟩) h0

theorem back_ok (fs : List Fl) : GC Tryz.prog 111 [.d (.row default flC fs)] (.fn (.func 144) [] [.ep [.row default flC fs]]) := by
  refine gc_of_gk Tryz.func111 ?_
  refine gk_region env false [] [1, 2] ?_ -- 0
  refine gk_box 0 ?_
  refine gk_region env false [] [2] ?_ -- 1
  refine gk_ret env ?_
  rfl

theorem below_grown {w w' : World} (h : Below w.heap.size w w') : w.grownBy w' none := ⟨h.os, h.tape, h.output, h.size, fun k hk _ => h.block k hk⟩
theorem keep_all {F : Fz} {w W : World} (ho : ∀ b o, F b o → (w.cell? ⟨b, o, none⟩).isSome = true) (h : Keep F w F W) : Keep F w (allF W) W :=
  ⟨fun b o hf => by show (W.cell? _).isSome = true; rw [h.same b o hf]; exact ho b o hf, h.same, h.sz⟩
set_option maxRecDepth 100000 in
set_option maxHeartbeats 4000000 in

theorem vr_ep {F : Fz} {w : World} {cells : List D} {lb : Array Value} (h : VRs (fun _ => none) F w [.ep cells] lb) : ∃ (b off : Nat) (val : Nat → Value), lb = #[.pointer (some ⟨b, off, none⟩)] ∧ ∀ (j : Nat) x, cells[j]? = some x → w.cell? ⟨b, off + j, none⟩ = some (val j) ∧ F b (off + j) ∧ DR F w x (val j) := by
  obtain ⟨l⟩ := lb
  have h1 := h.1
  match l, h1 with
  | [u], _ =>
    obtain ⟨b, off, val, e, hw, hF, hd⟩ := (h.2 0 (.ep cells) u rfl rfl).ep_inv
    subst e
    exact ⟨b, off, val, rfl, fun j x hx => ⟨hw j x hx, hF j x hx, hd j x hx⟩⟩
theorem fl_arg {f : Fl} {F : Fz} {w : World} {u0 u1 : Value} (d0 : DR F w (.sc (.string f.name)) u0) (d1 : DR F w (.row default wdC f.words) u1) {ν : Nu} : VR ν F w (flG f) (.agg #[u0, u1]) := by
  refine .agg _ _ rfl (fun u hu => ?_) (fun j g u h1 h2 => ?_)
  · simp at hu
    rcases hu with rfl | rfl
    · exact d0.one
    · exact d1.one
  · match j with
    | 0 =>
      have h1 : some (sG f.name) = some g := h1
      have h2 : some u0 = some u := by simpa using h2
      cases h1; cases h2; exact .d d0
    | 1 =>
      have h1 : some (.d (.row default wdC f.words)) = some g := h1
      have h2 : some u1 = some u := by simpa using h2
      cases h1; cases h2; exact .d d1
    | j + 2 => simp at h1

end Go.Gh
