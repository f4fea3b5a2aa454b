/- The law's own functions right, contents, same, walked. -/
import Derived.Test.YtlfiooenbgegkaaDk
namespace Go.Proofs.Ytlfiooenbgegkaa
open Go.RowKit Ds
set_option linter.unusedSimpArgs false
set_option linter.unusedVariables false

def lawRight (d : Dk) : Bool := decide (d.secs.length ≤ 40) && decide (d.pend.length ≤ 60) && rightB d && !d.down
theorem lawRight_core (A : Option Addr) (n c : Nat) (A' : Option Addr) (n' c' : Nat) (left : Int) (down : Bool) (er : Int) (w : World)
    (HC : Hid (∀ wx, Below w.heap.size w wx → Calls Try.prog 14 #[.agg #[.slice A n c, .slice A' n' c', .int .i64 left, .bool down]] wx fun e w' => e = .returned (.int .i64 er) ∧ Below wx.heap.size wx w'))
    (b : Bool) (h : (40 < n ∧ b = false) ∨ (n ≤ 40 ∧ 60 < n' ∧ b = false) ∨ (n ≤ 40 ∧ n' ≤ 60 ∧ er = 1 ∧ b = false) ∨ (n ≤ 40 ∧ n' ≤ 60 ∧ er = 0 ∧ b = !down)) :
    Calls Try.prog 27 #[.agg #[.slice A n c, .slice A' n' c', .int .i64 left, .bool down]] w fun e w' => e = .returned (.bool b) ∧ Below w.heap.size w w' := by
  rcases h with ⟨h, rfl⟩ | ⟨h, h2, rfl⟩ | ⟨h, h2, rfl, rfl⟩ | ⟨h, h2, rfl, rfl⟩
  · go_enter Try.func27, Try.ntmps27
    go_wp2_with fail
    go_ret
    exact ⟨rfl, (Below.refl _ _).alloc (Nat.le_refl _) _⟩
  · go_enter Try.func27, Try.ntmps27
    go_wp2_with fail
    go_ret
    exact ⟨rfl, (Below.refl _ _).alloc (Nat.le_refl _) _⟩
  all_goals
    go_enter Try.func27, Try.ntmps27
    go_wp2_with fail
    refine (HC.out _ (by repeat first | with_reducible exact Below.refl _ _ | refine Below.alloc ?_ (by simp <;> omega) _)).mono ?_
    rintro e w1 ⟨rfl, b1⟩
    obtain ⟨k1, hb, hz⟩ := boxes1 b1 (by simp)
    obtain ⟨⟨a0, a1, a2, a3⟩, f0⟩ := blk4 k1
    have HB := Lib.hid hb
    clear k1 b1 hb f0
    go_wp2_with fail
    go_ret
    exact ⟨rfl, HB.out⟩
theorem lawRight_any (A : Option Addr) (c : Nat) (A' : Option Addr) (c' : Nat) (d : Dk) (w : World) (h : DiskAt w w.heap.size A c A' c' d) :
    Calls Try.prog 27 #[dv A c A' c' d] w fun e w' => e = .returned (.bool (lawRight d)) ∧ Below w.heap.size w w' := by
  refine lawRight_core A _ c A' _ c' d.left d.down (checkE d) w (Lib.hid fun wx hx => rcheck_any A c A' c' d wx (h.step hx)) _ ?_
  by_cases h1 : d.secs.length ≤ 40
  · by_cases h2 : d.pend.length ≤ 60
    · cases hr : rightB d with
      | true => exact .inr (.inr (.inr ⟨h1, h2, by unfold checkE; rw [if_pos hr], by simp [lawRight, h1, h2, hr]⟩))
      | false => exact .inr (.inr (.inl ⟨h1, h2, check_one hr, by simp [lawRight, hr]⟩))
    · exact .inr (.inl ⟨h1, by omega, by simp [lawRight, h2]⟩)
  · exact .inl ⟨by omega, by simp [lawRight, h1]⟩
theorem lawRight_true {d : Dk} (h : lawRight d = true) : d.secs.length ≤ 40 ∧ d.pend.length ≤ 60 ∧ upE d = 0 := by
  simp only [lawRight, Bool.and_eq_true, decide_eq_true_eq, Bool.not_eq_true'] at h
  exact ⟨h.1.1.1, h.1.1.2, upE_zero.2 ⟨h.1.2, h.2⟩⟩

/-- strings of the call's own -/
def OwnS (W wr : World) (v : Value) (xs : List ByteArray) : Prop := Own W wr 9 1 v xs.length (xs.map Value.string)
theorem append_str {ops : Array Oper} {rest : List Oper} {o : Oper} {a : Act} {Q : Exit → Act → World → Prop} {W wr : World} {v : Value} {xs : List ByteArray} (hh : Hid (OwnS W wr v xs)) (x : ByteArray) (hl : xs.length ≤ 1000000)
    (hgd : o.guard = none) (s y : Operand) (ho : o.op = .call { callee := .builtin .append, args := #[s, y], argTypes := #[22, 22] })
    (hs : a.eval s = v) (gn : Nat) (hgn : Hid (gn = wr.heap.size)) (hy : a.eval y = .slice (some ⟨gn, 0, none⟩) 1 1)
    (h : ∀ v' w', Hid (OwnS W w' v' (xs ++ [x])) → Hid (∀ g o, wr.heap[g]? = some o → v.ownBlock ≠ some g → w'.heap[g]? = some o) → wpList Try.prog ops Q rest (a.put o.dst v') w') :
    wpList Try.prog ops Q (o :: rest) a (wr.alloc (.cells #[.string x] 9)) := by
  refine append_keep hh #[.string x] rfl ?_ 22 _ 16 Try.underlying22 str_info rfl (by decide) (by unfold maxLen; omega) (by omega) hgd s y ho hs gn hgn hy ?_
  · intro u hu; simp at hu; rcases hu with rfl; rfl
  · intro v' w' k k2
    refine h v' w' ?_ k2
    unfold OwnS
    rw [List.length_append, List.map_append]
    exact k
theorem owns_row {W wr : World} {A : Option Addr} {c : Nat} {xs : List ByteArray} (h : OwnS W wr (.slice A xs.length c) xs) : RowOf scell 1 wr wr.heap.size A xs :=
  Own.row scell_len rfl (by have e : xs.flatMap scell = xs.map Value.string := scells_map xs; rw [e]; exact h)

/-- the list of strings that a call returns -/
def ListEnd (W : World) (xs : List ByteArray) (b : Bool) (e : Ending) (w' : World) : Prop :=
  ∃ A c, e = .returned (.tuple #[.slice A xs.length c, .bool b]) ∧ RowOf scell 1 w' w'.heap.size A xs ∧ Below W.heap.size W w'

set_option maxHeartbeats 4000000 in
theorem contents_any (A : Option Addr) (c : Nat) (A' : Option Addr) (c' : Nat) (d : Dk) (w : World) (h : DiskAt w w.heap.size A c A' c' d) (hu : upE d = 0) :
    Calls Try.prog 28 #[dv A c A' c' d] w (ListEnd w (readsL d) true) := by
  have hl1 := (right_head (upE_zero.1 hu).1).2.1
  have HRd := Lib.hid (fun (k : Nat) (hk : k < d.secs.length) wx (hx : Below w.heap.size w wx) => by
    have := read_any A c A' c' d (k : Nat) wx (h.step hx)
    rw [read_ok hu (by omega) (by omega)] at this; exact this)
  have HSz := Lib.hid (fun (k : Nat) (hk : k < d.secs.length) => readV_size hu hk)
  have HLen := Lib.hid (readsL_len d)
  have HAt := Lib.hid (fun (k : Nat) (hk : k < d.secs.length) => readsL_at d hk)
  generalize readsL d = R at *
  unfold dv dcells at *
  obtain ⟨n, hn⟩ : ∃ n, n = d.secs.length := ⟨_, rfl⟩
  rw [← hn] at HRd HSz HLen HAt ⊢
  have hn5 : n ≤ 512 := by rw [hn]; exact hl1
  clear h hu hn hl1
  have HO : Hid (OwnS w ((w.alloc (.cells #[.slice A n c, .slice A' d.pend.length c', .int .i64 d.left, .bool d.down] 25)).alloc (.cells #[] 9)) (.slice (some ⟨w.heap.size + 1, 0, none⟩) 0 0) []) :=
    Lib.hid (own_empty (by have := blk_new (w.alloc (.cells #[.slice A n c, .slice A' d.pend.length c', .int .i64 d.left, .bool d.down] 25)) (.cells #[] 9); rw [World.size_alloc] at this; exact this) (by omega) (((Below.refl _ _).alloc (Nat.le_refl _) _).alloc (by simp) _))
  have HK := Lib.hid (show ((w.alloc (.cells #[.slice A n c, .slice A' d.pend.length c', .int .i64 d.left, .bool d.down] 25)).alloc (.cells #[] 9)).heap[w.heap.size]? = some (.cells #[.slice A n c, .slice A' d.pend.length c', .int .i64 d.left, .bool d.down] 25 (0, 0)) from blk_old (blk_new _ _))
  go_enter Try.func28, Try.ntmps28
  go_wp2_with fail
  go_loopw [4, 5] (fun v i wr => ∃ k : Nat, i = .int .i64 k ∧ k ≤ n ∧ Hid (OwnS w wr v (R.take k)) ∧ Hid (wr.heap[w.heap.size]? = some (.cells #[.slice A n c, .slice A' d.pend.length c', .int .i64 d.left, .bool d.down] 25 (0, 0)))) (fun _ i _ => n - (intOf i).toNat)
  case atStart => exact ⟨0, rfl, by omega, HO, HK⟩
  case round =>
    obtain ⟨k, rfl, hk, HV, HK2⟩ := hrel
    obtain ⟨⟨x0, x1, x2, x3⟩, x4⟩ := blk4 HK2.out
    by_cases hlt : k < n
    · have h16 := HSz.out k hlt
      have hst : R.take (k + 1) = R.take k ++ [readV d k] := by rw [List.take_add_one, HAt.out k hlt]; rfl
      have HST := Lib.hid hst
      have HR2 := Lib.hid (HRd.out k hlt wr HV.out.2.1)
      clear hst
      generalize readV d k = s at *
      have t1 : ((s.size : Int) != 16) = false := by simp; omega
      have hll : (R.take k).length ≤ 1000000 := by simp; omega
      clear h16
      go_wp2_with fail
      refine HR2.out.mono ?_
      rintro e w1 ⟨rfl, b1⟩
      have HV1 := Lib.hid (show OwnS w w1 _ _ from HV.out.below b1)
      have HK3 := Lib.hid (blk_call HK2.out b1)
      clear b1 x0 x1 x2 x3 x4
      go_upto_region 8 with fail
      go_wp2_with (at_builtin; refine append_str HV1 s hll rfl _ _ rfl rfl _ (Lib.hid rfl) rfl ?_; intro v' w3 HV3 HKP)
      have HK4 := Lib.hid (HKP.out _ _ HK3.out (own_ne HV1.out HK3.out (by decide)))
      go_roundw
      case rel => exact ⟨k + 1, by go_num, by omega, by rw [HST.out]; exact HV3, HK4⟩
      case measure => simp [intOf]; omega
    · obtain rfl : n = k := by omega
      have hv := HV.out
      rw [← HLen.out, List.take_length] at hv
      obtain ⟨A2, c2, rfl⟩ := hv.form
      have HV2 := Lib.hid hv
      clear hv
      go_wp2_with fail
      go_ret2
      exact ⟨A2, c2, by rw [HLen.out]; rfl, owns_row HV2.out, HV2.out.2.1⟩

set_option maxHeartbeats 4000000 in
theorem same_any (A : Option Addr) (c : Nat) (A' : Option Addr) (c' : Nat) (xs : List ByteArray) (w : World) (h1 : RowOf scell 1 w w.heap.size A xs) (h2 : RowOf scell 1 w w.heap.size A' xs) (hl : xs.length ≤ 4611686018427387904) :
    Calls Try.prog 29 #[.slice A xs.length c, .slice A' xs.length c'] w fun e w' => e = .returned (.bool true) ∧ Below w.heap.size w w' := by
  have H1 := Lib.hid h1
  have H2 := Lib.hid h2
  obtain ⟨n, hn⟩ : ∃ n, n = xs.length := ⟨_, rfl⟩
  rw [← hn] at hl ⊢
  have HN := Lib.hid hn
  clear h1 h2 hn
  have t1 : ((n : Int) != (n : Int)) = false := by simp
  go_enter Try.func29, Try.ntmps29
  go_wp2_with fail
  go_loopw [5] (fun i wr => ∃ (k q : Nat), i = .int .i64 k ∧ k ≤ n ∧ wr = w.drewN q) (fun i _ => n - (intOf i).toNat)
  case atStart => exact ⟨0, 0, rfl, by omega, rfl⟩
  case round =>
    obtain ⟨k, q, rfl, hk, rfl⟩ := hrel
    by_cases hlt : k < n
    · obtain ⟨s, hs⟩ : ∃ s, xs[k]? = some s := ⟨_, List.getElem?_eq_getElem (by rw [← HN.out]; exact hlt)⟩
      obtain ⟨b, off, rfl, hb, hcell⟩ := H1.out.open_ (by rw [← HN.out]; omega)
      obtain ⟨b', off', rfl, hb', hcell'⟩ := H2.out.open_ (by rw [← HN.out]; omega)
      have c1 := secs_at hcell hs
      have c2 := secs_at hcell' hs
      clear hcell hcell' hs
      go_wp2_with fail
      go_quiet (fail)
      go_wp2_with fail
      go_roundw
      case rel => exact ⟨k + 1, q + nq, by go_num, by omega, rfl⟩
      case measure => simp [intOf]; omega
    · obtain rfl : n = k := by omega
      go_wp2_with fail
      go_ret
      exact ⟨rfl, below_drewN (Below.refl _ _) _⟩

end Go.Proofs.Ytlfiooenbgegkaa
