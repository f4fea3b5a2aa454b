/- slices.Backward over a disk's writes: its contract. -/
import Derived.Test.YtlfiooenbgegkaaDd
import Derived.RangeFuncNested
import Derived.RangeFuncBound
import Derived.RangeFuncCalls
import Derived.RangeFuncLeaves
import Derived.RangeFuncBox
import Derived.Shelf.Abstract
import Derived.Shelf.RegionOpen
import Derived.OwnWalkIn
import Derived.TacticsInMore
import Derived.LoopNIn
import Derived.LoopIn
namespace Go.Proofs.Ytlfiooenbgegkaa
open Go.RowKit Go.Shelf Ds
set_option linter.unusedSimpArgs false
set_option linter.unusedVariables false
attribute [local go_sem] Oper.semAt_some

/-- what has come when k rounds are over: the last k writes, the last one first -/
def backs (p : List Wr) (k : Nat) : List (Nat × Wr) := (List.range k).map fun j => (p.length - 1 - j, p.getD (p.length - 1 - j) ⟨0, ByteArray.empty⟩)
theorem backs_succ (p : List Wr) (k : Nat) : backs p (k + 1) = backs p k ++ [(p.length - 1 - k, p.getD (p.length - 1 - k) ⟨0, ByteArray.empty⟩)] := by simp [backs, List.range_succ]
theorem backs_length (p : List Wr) (k : Nat) : (backs p k).length = k := by simp [backs]
theorem backs_snd (p : List Wr) {k : Nat} (hk : k ≤ p.length) : (backs p k).map (·.2) = p.reverse.take k := by
  apply List.ext_getElem
  · simp [backs, hk]
  · intro i h1 h2
    have hi : i < k := by simpa [backs] using h1
    have hl : p.length - 1 - i < p.length := by omega
    simp [backs, List.getD, hl]

set_option maxRecDepth 100000 in
set_option maxHeartbeats 4000000 in
theorem back1_in (F : Fence) (n : Nat) (h46 : F.fn 46) (hro : F.round = none) (hn : 1 ≤ n) (l Bs n₀ cap : Nat) (A : Option Addr) (p : List Wr) (hp : p.length ≤ 512) (J Jx : List (Nat × Wr) → World → Prop)
    (hY : ∀ pre x W, J pre W → pre.length < p.length → YieldAt F (n - 1) Try.prog l #[.int .i64 (x.1 : Int), .agg #[.int .i64 x.2.at_, .string x.2.text]] W fun e W' =>
      (e = .returned (.bool true) ∧ J (pre ++ [x]) W' ∧ Below n₀ W W') ∨ (e = .returned (.bool false) ∧ Jx (pre ++ [x]) W'))
    (W : World) (hBn : Bs < n₀) (hBs : W.cell? ⟨Bs, 0, none⟩ = some (.slice A p.length cap)) (hc : RowOf wcell 2 W n₀ A p) (h0 : J [] W) :
    CallsIn F n Try.prog 46 #[.func (.yield l) #[] #[], .pointer (some ⟨Bs, 0, none⟩)] W fun e W' => (∃ v, e = .returned v) ∧
      ((∃ ys, ys = backs p p.length ∧ J ys W') ∨ (∃ pre, (∃ k, k ≤ p.length ∧ pre = backs p k) ∧ Jx pre W')) := by
  have HC := Lib.hid hc
  have HB := Lib.hid hBs
  clear hc
  refine callsIn_of_wp Try.func46 rfl h46 ?_ hro
  simp only [Try.ntmps46, List.size_toArray, List.length_cons, List.length_nil, Nat.reduceAdd, Nat.reduceSub, Array.replicate_succ, Array.replicate_zero, List.push_toArray, List.append_toArray, List.nil_append, List.cons_append]
  gi_wp2
  gi_loopw [3] (fun i wr => ∃ k : Nat, k ≤ p.length ∧ i = .int .i64 ((p.length : Int) - 1 - k) ∧ J (backs p k) wr ∧ Below n₀ W wr)
    (fun i _ => (intOf i + 1).toNat)
  case atStart => exact ⟨0, Nat.zero_le _, by simp, h0, Below.refl _ _⟩
  case round =>
    obtain ⟨k, hk, rfl, hJs, hnx⟩ := hrel
    have hBs' := (hnx.cell (p := ⟨Bs, 0, none⟩) hBn).trans HB.out
    by_cases hlt : k < p.length
    · obtain ⟨x, hx⟩ : ∃ x, p[p.length - 1 - k]? = some x := ⟨_, List.getElem?_eq_getElem (by omega)⟩
      obtain ⟨b, off, rfl, hb, hcell⟩ := HC.out.open_ (by omega)
      have hcell' := fun i x hx j u hu => (hnx.cell (p := ⟨b, off + i * 2 + j, none⟩) hb).trans (hcell i x hx j u hu)
      obtain ⟨c1, c2⟩ := pend_at hcell' hx
      have hgx : p.getD (p.length - 1 - k) ⟨0, ByteArray.empty⟩ = x := by simp [List.getD, hx]
      obtain ⟨q, hq⟩ : ∃ q : Nat, q = p.length - 1 - k := ⟨_, rfl⟩
      have hqi : (p.length : Int) - 1 - k = q := by omega
      rw [← hq] at c1 c2 hgx
      have hbs : backs p (k + 1) = backs p k ++ [(q, x)] := by rw [backs_succ, ← hq, hgx]
      rw [hqi]
      obtain ⟨fn, tmps, assign, body, hy, hR⟩ := hY _ (q, x) wr hJs (by rw [backs_length]; exact hlt)
      dsimp only at hy
      have HX := Lib.hid hbs
      have HQ := Lib.hid hqi
      have hq1 : q < p.length := by omega
      have hq2 : q + k + 1 = p.length := by omega
      clear hbs hgx hcell hcell' hx hq hqi
      gi_wp2
      refine hR.mono ?_
      rintro e W3 (⟨rfl, hJ3, hk3⟩ | ⟨rfl, hJx3⟩)
      · have hBs3 := (hk3.cell (p := ⟨Bs, 0, none⟩) hBn).trans hBs'
        gi_wp2
        go_roundw
        case rel => exact ⟨k + 1, by omega, by congr 1; omega, by rw [HX.out]; exact hJ3, hnx.trans hk3⟩
        case measure => simp [intOf]
      · gi_wp2
        refine bodyPost_ret (results_none rfl _ _ _) rfl ?_
        exact ⟨⟨_, rfl⟩, .inr ⟨_, ⟨k + 1, by omega, rfl⟩, by rw [HX.out]; exact hJx3⟩⟩
    · obtain rfl : k = p.length := by omega
      have e0 : (p.length : Int) - 1 - p.length = -1 := by omega
      rw [e0]
      gi_wp2
      go_end0
      exact ⟨⟨_, rfl⟩, .inl ⟨_, rfl, hJs⟩⟩

set_option maxHeartbeats 1000000 in
theorem back_in (F : Fence) (n : Nat) (h35 : F.fn 35) (hro : F.round = none) (a : Option Addr) (len cap : Nat) (w : World) :
    CallsIn F n Try.prog 35 #[.slice a len cap] w fun e w' => e = .returned (.func (.func 46) #[] #[.pointer (some ⟨w.heap.size, 0, none⟩)]) ∧ w' = w.alloc (.cells #[.slice a len cap] 23) := by
  refine callsIn_of_wp Try.func35 rfl h35 ?_ hro
  simp only [Try.ntmps35, List.size_toArray, List.length_cons, List.length_nil, Nat.reduceAdd, Nat.reduceSub, Array.replicate_succ, Array.replicate_zero, List.push_toArray, List.append_toArray, List.nil_append, List.cons_append]
  gi_wp2
  go_ret
  exact ⟨rfl, rfl⟩

theorem back_stops (F : Fence) (n : Nat) (h46 : F.fn 46) (hro : F.round = none) (hn : 1 ≤ n) (Bs n₀ cap : Nat) (A : Option Addr) (p : List Wr) (hp : p.length ≤ 512) (w : World) (hBn : Bs < n₀) (hn₀ : n₀ ≤ w.heap.size)
    (hc : w.cell? ⟨Bs, 0, none⟩ = some (.slice A p.length cap)) (hI : RowOf wcell 2 w n₀ A p) :
    SeqStopsK F n Try.prog 46 #[.pointer (some ⟨Bs, 0, none⟩)] (fun x : Nat × Wr => #[Value.int .i64 (x.1 : Int), Value.agg #[.int .i64 x.2.at_, .string x.2.text]]) (Below n₀) (fun ys => ys = backs p p.length)
      (fun pre => ∃ k, k ≤ p.length ∧ pre = backs p k) p.length w := fun l J Jx W hW _ _ hY h0 => by
  have hc' := (hW.cell (p := ⟨Bs, 0, none⟩) (by simp only; omega)).trans hc
  exact back1_in F n h46 hro hn l Bs n₀ cap A p hp J Jx hY W hBn hc' (hI.below (hW.mono hn₀)) h0

end Go.Proofs.Ytlfiooenbgegkaa
