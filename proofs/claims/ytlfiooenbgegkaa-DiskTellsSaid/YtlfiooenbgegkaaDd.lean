/- slices.Repeat of one string, and New, walked. -/
import Derived.Test.YtlfiooenbgegkaaDc
import Derived.Deep.RegionLaw
namespace Go.Proofs.Ytlfiooenbgegkaa
open Go.RowKit Ds
set_option linter.unusedSimpArgs false
set_option linter.unusedVariables false

theorem mul_one (n : Nat) (hn : n ≤ 512) (w : World) : Calls Try.prog 40 #[.int .u64 1, .int .u64 n] w fun e w' => e = .returned (.tuple #[.int .u64 0, .int .u64 n]) ∧ w = w' := by
  refine (Try.bits_Mul 1 n (by omega) (by omega) w).mono ?_
  rintro e w' ⟨rfl, rfl⟩
  refine ⟨?_, rfl⟩
  rw [Nat.one_mul, Nat.div_eq_of_lt (by omega), Nat.mod_eq_of_lt (by omega)]
  rfl

/-- the row whose first k cells are filled -/
def Filled (w wr : World) (g n k : Nat) (s : ByteArray) : Prop :=
  ∃ rest : List Value, wr.heap[g]? = some (.cells (List.replicate k (Value.string s) ++ rest).toArray 9 (0, 0)) ∧ k + rest.length = n ∧ Below w.heap.size w wr ∧ w.heap.size ≤ g

theorem Filled.drew {w wr : World} {g n k : Nat} {s : ByteArray} (h : Filled w wr g n k s) : Filled w wr.drew g n k s := by
  obtain ⟨rest, r1, r2, r3, r4⟩ := h
  exact ⟨rest, r1, r2, r3.drew, r4⟩
theorem copy_first {ops : Array Oper} {rest : List Oper} {o : Oper} {a : Act} {Q : Exit → Act → World → Prop} {w w3 : World} {s : ByteArray} {n b : Nat} (h1 : 1 ≤ n) (hb : b < w.heap.size) (HC : Hid (w.cell? ⟨b, 0, none⟩ = some (.string s)))
    {cur : Array Value} (HC3 : Hid (w3.heap[w.heap.size]? = some (.cells cur 9 (0, 0)))) (HL : Hid (cur.size = n)) (HB3 : Hid (Below w.heap.size w w3))
    (hgd : o.guard = none) (d x : Operand) (ho : o.op = .call { callee := .builtin .copy, args := #[d, x], argTypes := #[22, 22] }) (hd : a.eval d = .slice (some ⟨w.heap.size, 0, none⟩) n n) (hx : a.eval x = .slice (some ⟨b, 0, none⟩) 1 1)
    (h : ∀ w', Hid (Filled w w' w.heap.size n 1 s) → wpList Try.prog ops Q rest (a.put o.dst (goInt 1)) w') : wpList Try.prog ops Q (o :: rest) a w3 := by
  have hl := HL.out
  refine wpList_copy_splice hgd d x 22 22 ho 9 Try.underlying22 (by kernel_rfl) _ _ n n 1 1 hd hx w.heap.size 0 cur.toList 9 (by rw [Array.toArray_toList]; exact HC3.out) [.string s] (Nat.min_eq_left h1).symm ?_ (by simp; omega) ?_ w.heap.size w HB3.out (Nat.le_refl _) ?_
  · intro _
    refine ⟨rfl, _, rfl, fun j v hj => ?_⟩
    match j, hj with
    | 0, hj =>
      injection hj with hj
      subst hj
      exact (HB3.out.cell (p := ⟨b, 0, none⟩) hb).trans HC.out
  · intro v hv; simp at hv; subst hv; rfl
  · intro w' k1 k2
    exact h w' (Lib.hid ⟨cur.toList.drop 1, by have := k1.out; simpa [splice] using this, by simp; omega, k2, Nat.le_refl _⟩)
theorem copy_more {ops : Array Oper} {o : Oper} {a : Act} {K : Act → World → Prop} {Q : Exit → Act → World → Prop} {E : Prop} {w wr : World} {s : ByteArray} {g n k : Nat} (HK : Hid (Filled w wr g n k s)) (hk : k < n) (m : Nat) (hm : Hid (m = min k (n - k)))
    (hgd : o.guard = none) (d x : Operand) (ho : o.op = .call { callee := .builtin .copy, args := #[d, x], argTypes := #[22, 22] }) (c1 c2 : Nat) (hd : a.eval d = .slice (some ⟨g, k, none⟩) (n - k) c1) (hx : a.eval x = .slice (some ⟨g, 0, none⟩) k c2)
    (h : ∀ w', Hid (Filled w w' g n (k + m) s) → K (a.put o.dst (goInt m)) w') : if Region.wanted o (yielded ops a.tmps) = true then Oper.wp Try.prog o a wr K Q else E := by
  obtain ⟨rest, r1, r2, r3, r4⟩ := HK.out
  have hm' := hm.out
  have hle : m ≤ k := by omega
  have hle2 : m ≤ n - k := by omega
  refine step_copy_splice hgd d x 22 22 ho 9 Try.underlying22 (by kernel_rfl) _ _ _ _ _ _ hd hx g k _ 9 r1 (List.replicate m (.string s)) (by rw [List.length_replicate]; exact hm') ?_ ?_ ?_ w.heap.size w r3 r4 ?_
  · intro _
    refine ⟨rfl, _, rfl, fun j v hj => ?_⟩
    rw [List.getElem?_replicate] at hj
    split at hj
    · injection hj with hj
      subst hj
      have hadd : (⟨g, 0, none⟩ : Addr).add j = ⟨g, j, none⟩ := by unfold Addr.add; split <;> simp_all
      rw [hadd]
      refine blk_cell r1 ?_
      rw [List.getElem?_toArray, List.getElem?_append_left (by simp; omega), List.getElem?_replicate, if_pos (by omega)]
    · cases hj
  · simp; omega
  · intro v hv; rw [List.mem_replicate] at hv; rw [hv.2]; rfl
  · intro w' k1 k2
    rw [List.length_replicate]
    refine h w' (Lib.hid ⟨rest.drop m, ?_, by simp; omega, k2, r4⟩)
    have := k1.out
    have e : splice (List.replicate k (Value.string s) ++ rest) k (List.replicate m (Value.string s)) = List.replicate (k + m) (Value.string s) ++ rest.drop m := by
      unfold splice
      rw [List.length_replicate, List.take_append_of_le_length (by simp), List.take_of_length_le (by simp), List.drop_append, List.drop_eq_nil_of_le (by simp), List.nil_append, List.length_replicate, Nat.add_sub_cancel_left, ← List.append_assoc, List.replicate_append_replicate]
    rw [e] at this
    exact this

set_option maxHeartbeats 4000000 in
theorem srepeat_any (s : ByteArray) (n b : Nat) (w : World) (h1 : 1 ≤ n) (hn : n ≤ 512) (hb : b < w.heap.size) (hc : w.cell? ⟨b, 0, none⟩ = some (.string s)) :
    Calls Try.prog 30 #[.slice (some ⟨b, 0, none⟩) 1 1, .int .i64 n] w fun e w' => ∃ g, e = .returned (.slice (some ⟨g, 0, none⟩) n n) ∧ Filled w w' g n n s := by
  have HM := Lib.hid (mul_one n hn)
  have HC := Lib.hid hc
  have u1 : IntKind.u64.wrap (n : Int) = n := by rw [IntKind.wrap_u64]; omega
  have u2 : IntKind.i64.wrap (n : Int) = n := by rw [IntKind.wrap_i64]; omega
  clear hc
  go_enter Try.func30, Try.ntmps30
  go_wp2_with fail
  refine (HM.out _).mono ?_
  rintro e w1 ⟨rfl, rfl⟩
  go_wp2_with (first
    | (at_make; refine make_ones Try.underlying22 str_info rfl n (by omega) (by omega) rfl _ _ rfl rfl rfl ?_; intro w3 cur HC3 HL HB3 hz3)
    | (refine copy_first h1 hb HC HC3 HL HB3 rfl (.tmp 31) (.tmp 32) rfl rfl rfl ?_; intro w4 HF))
  go_loopw [8] (fun i wr => ∃ k : Nat, i = .int .i64 k ∧ 1 ≤ k ∧ k ≤ n ∧ Hid (Filled w wr w.heap.size n k s)) (fun i _ => n - (intOf i).toNat)
  case atStart => exact ⟨1, rfl, by omega, h1, HF⟩
  case round =>
    obtain ⟨k, rfl, hk1, hk, HK⟩ := hrel
    by_cases hlt : k < n
    · obtain ⟨m, hm⟩ : ∃ m, m = min k (n - k) := ⟨_, rfl⟩
      have hm1 : 1 ≤ m := by omega
      have hm2 : m ≤ k := by omega
      have hm3 : k + m ≤ n := by omega
      have HM2 := Lib.hid hm
      clear hm
      have hne : ¬ n = k := by omega
      go_wp2_with fail
      have HKd := Lib.hid HK.out.drew
      have w1 : IntKind.i64.wrap ((k : Int) + m) = (k : Int) + m := by rw [IntKind.wrap_i64]; omega
      go_region_law (refine copy_more HKd hlt m HM2 rfl (.tmp 41) (.tmp 44) rfl (n - k) n (by simp [go_sem]) (by simp [go_sem]) ?_; intro w5 HF5)
      clear u1 u2
      simp only [List.getElem_toArray, List.getElem_cons_succ, List.getElem_cons_zero, w1]
      clear w1
      go_frame
      go_roundw
      case rel => exact ⟨.int .i64 ((k : Int) + m), _, _, _, _, _, _, _, _, _, _, _, _, _, ⟨k + m, by go_num, by omega, hm3, HF5⟩, rfl⟩
      case measure => simp [intOf]; omega
    · obtain rfl : n = k := by omega
      go_wp2_with fail
      go_ret
      exact ⟨w.heap.size, rfl, HK.out⟩

theorem repeat_zeros (w : World) : Calls Try.prog 31 #[.string ⟨#[0]⟩, .int .i64 16] w fun e w' => e = .returned (.string (zeros 16)) ∧ Below w.heap.size w w' :=
  (Try.strings_Repeat ⟨#[0]⟩ 16 w (by decide) (by decide)).mono fun e w' ⟨h1, h2⟩ => ⟨h1.trans (by kernel_rfl), h2⟩
/-- a disk that a call returns, and its error -/
def DiskEnd (W : World) (D : Dk) (er : Int) (e : Ending) (w' : World) : Prop :=
  ∃ A c A' c', e = .returned (.tuple #[dv A c A' c' D, .int .i64 er]) ∧ DiskAt w' w'.heap.size A c A' c' D ∧ Below W.heap.size W w'
theorem DiskAt.nil (w : World) (B : Nat) : DiskAt w B none 0 none 0 nilD := ⟨RowOf.nil, RowOf.nil, by decide, by decide, by decide⟩
theorem DiskEnd.none_ {W w' : World} {er : Int} (h : Below W.heap.size W w') : DiskEnd W nilD er (.returned (.tuple #[dv none 0 none 0 nilD, .int .i64 er])) w' := ⟨none, 0, none, 0, rfl, DiskAt.nil _ _, h⟩
theorem filled_secs {w w' : World} {g n : Nat} {s : ByteArray} (h : Filled w w' g n n s) : RowOf scell 1 w' w'.heap.size (some ⟨g, 0, none⟩) (List.replicate n s) := by
  obtain ⟨rest, r1, r2, r3, r4⟩ := h
  intro _
  refine ⟨g, 0, rfl, blk_lt r1, fun i x hx j u hu => ?_⟩
  rw [List.getElem?_replicate] at hx
  split at hx
  · injection hx with hx
    subst hx
    match j, hu with
    | 0, hu =>
      injection hu with hu
      subst hu
      refine blk_cell r1 ?_
      rw [List.getElem?_toArray, List.getElem?_append_left (by simp; omega), List.getElem?_replicate, if_pos (by omega)]
  · cases hx

set_option maxHeartbeats 4000000 in
theorem new_any (n : Int) (w : World) (h0 : -9223372036854775808 ≤ n) (h1 : n ≤ 9223372036854775807) :
    Calls Try.prog 10 #[.int .i64 n] w (DiskEnd w (newD n) (newE n)) := by
  by_cases h : 1 ≤ n ∧ n ≤ 512
  · obtain ⟨k, rfl⟩ : ∃ k : Nat, n = k := ⟨n.toNat, by omega⟩
    have e1 : newE k = 0 := by unfold newE; rw [if_pos h]
    have e2 : newD k = ⟨List.replicate k (zeros 16), [], -1, false⟩ := by unfold newD; rw [if_pos h]; simp
    rw [e1, e2]
    have hk1 : 1 ≤ k := by omega
    have hk2 : k ≤ 512 := by omega
    have HR := Lib.hid (fun w => repeat_zeros w)
    clear e1 e2 h0 h1 h
    go_enter Try.func10, Try.ntmps10
    go_wp2_with fail
    refine (HR.out _).mono ?_
    rintro e w1 ⟨rfl, b1⟩
    have K1 := Lib.hid (blk_call (blk_new w _) b1)
    have HB1 := Lib.hid (Below.trans ((Below.refl _ _).alloc (Nat.le_refl _) _) (b1.mono (by simp)))
    clear b1
    have HQ := Lib.hid (fun wx (hw : wx.heap.size = w1.heap.size + 1) (hc : wx.cell? ⟨w1.heap.size, 0, none⟩ = some (.string (zeros 16))) => srepeat_any (zeros 16) k w1.heap.size wx hk1 hk2 (by omega) hc)
    generalize zeros 16 = z at *
    go_wp2_with fail
    refine (HQ.out _ (by simp) (by simp)).mono ?_
    rintro e w2 ⟨g, rfl, hf⟩
    have HF := Lib.hid hf
    obtain ⟨_, _, _, hb2, hg2⟩ := hf
    have K2 := Lib.hid (blk_call (blk_old K1.out) hb2)
    have HB2 := Lib.hid (HB1.out.trans ((((Below.refl _ w1).alloc (Nat.le_refl _) _).trans (hb2.mono (by simp))).mono HB1.out.size))
    obtain ⟨⟨i0, i1, i2, i3⟩, j0, j1, j2, j3⟩ := blk4 K2.out
    have hg3 : w.heap.size < g := by have := blk_lt K1.out; simp at hg2; omega
    clear hb2 hg2
    go_wp2_with fail
    refine bodyPost_ret (v := .tuple #[.agg #[.slice (some ⟨g, 0, none⟩) k k, .slice none 0 0, .int .i64 (-1), .bool false], .int .i64 0]) (by simp [results, Try.results10, go_sem, *]) rfl ⟨some ⟨g, 0, none⟩, k, none, 0, by simp [dv, dcells], ⟨?_, RowOf.nil, by simp; omega, by simp, by simp⟩, ?_⟩
    · refine RowOf.more ?_ (show w2.heap.size ≤ _ by simp)
      repeat first | with_reducible exact filled_secs HF.out | refine RowOf.set ?_ (fun b off e => by injection e with e; injection e with e1 e2; simp only; omega) _
    · repeat first | with_reducible exact HB2.out | refine Below.setCell ?_ (by simp) _
  · have e1 : newE n = 1 := by unfold newE; rw [if_neg h]
    have e2 : newD n = nilD := by unfold newD; rw [if_neg h]
    rw [e1, e2]
    clear e1 e2
    rcases (by omega : n < 1 ∨ (1 ≤ n ∧ 512 < n)) with h | ⟨h, h2⟩
    all_goals
      go_enter Try.func10, Try.ntmps10
      go_wp2_with fail
      refine bodyPost_ret (v := .tuple #[dv none 0 none 0 nilD, .int .i64 1]) (by simp [results, Try.results10, go_sem, dv, dcells, nilD]) rfl (DiskEnd.none_ ?_)
      repeat first | with_reducible exact Below.refl _ _ | refine Below.setCell ?_ (by simp) _ | refine Below.alloc ?_ (by simp) _

end Go.Proofs.Ytlfiooenbgegkaa
