/- The reference's Write of what is right, walked. -/
import Derived.Test.YtlfiooenbgegkaaDs
namespace Go.Proofs.Ytlfiooenbgegkaa
open Go.RowKit Ds
set_option linter.unusedSimpArgs false
set_option linter.unusedVariables false
set_option maxRecDepth 4000

/-- writes of the call's own -/
def OwnW (W wr : World) (v : Value) (xs : List Wr) : Prop := Own W wr 44 2 v xs.length (wcells xs)
theorem append_wr {ops : Array Oper} {rest : List Oper} {o : Oper} {a : Act} {Q : Exit → Act → World → Prop} {W wr : World} {v : Value} {xs : List Wr} (hh : Hid (OwnW W wr v xs)) (x : Wr) (hl : xs.length ≤ 1000000)
    (hgd : o.guard = none) (s y : Operand) (ho : o.op = .call { callee := .builtin .append, args := #[s, y], argTypes := #[23, 23] })
    (hs : a.eval s = v) (gn : Nat) (hgn : Hid (gn = wr.heap.size)) (hy : a.eval y = .slice (some ⟨gn, 0, none⟩) 1 1)
    (h : ∀ v' w', Hid (OwnW W w' v' (xs ++ [x])) → Hid (∀ g o, wr.heap[g]? = some o → v.ownBlock ≠ some g → w'.heap[g]? = some o) → wpList Try.prog ops Q rest (a.put o.dst v') w') :
    wpList Try.prog ops Q (o :: rest) a (wr.alloc (.cells #[.int .i64 x.at_, .string x.text] 44)) := by
  refine append_keep hh #[.int .i64 x.at_, .string x.text] rfl ?_ 23 _ 24 Try.underlying23 wr_info rfl (by decide) (by unfold maxLen; omega) (by omega) hgd s y ho hs gn hgn hy ?_
  · intro u hu; simp at hu; rcases hu with rfl | rfl <;> rfl
  · intro v' w' k k2
    refine h v' w' ?_ k2
    unfold OwnW
    have e : wcells (xs ++ [x]) = wcells xs ++ (#[.int .i64 x.at_, .string x.text] : Array Value).toList := by simp [wcells, wcell]
    rw [List.length_append, e]
    exact k

/-- the state of Write's loop -/
def PutAt (w wr : World) (A : Option Addr) (n c : Nat) (A' : Option Addr) (n' c' : Nat) (left : Int) (down : Bool) (v : Value) (q : List Wr) : Prop :=
  OwnW w wr v q ∧ wr.heap[w.heap.size]? = some (.cells #[.slice A n c, .slice A' n' c', .int .i64 left, .bool down] 25 (0, 0)) ∧
    wr.heap[w.heap.size + 1]? = some (.cells #[.slice none 0 0, .slice none 0 0, .int .i64 0, .bool false] 25 (0, 0))

set_option maxHeartbeats 4000000 in
theorem rwrite_good (A : Option Addr) (c : Nat) (A' : Option Addr) (c' : Nat) (d : Dk) (k : Int) (s : ByteArray) (w : World) (h : DiskAt w w.heap.size A c A' c' d) (hu : upE d = 0) (h0 : 0 ≤ k) (h1 : k < d.secs.length) (hs : s.size ≤ 16) (hp : d.pend.length < 512) :
    Calls Try.prog 18 #[dv A c A' c' d, .int .i64 k, .string s] w (DiskEnd w { d with pend := d.pend ++ [⟨k, pad s⟩] } 0) := by
  have HU := Lib.hid (fun wx (hx : Below w.heap.size w wx) => by have := rup_any A c A' c' d wx (h.step hx); rw [hu] at this; exact this)
  have HD := Lib.hid h
  have hl1 := (right_head (upE_zero.1 hu).1).2.1
  have HZ := Lib.hid (fun w => rzeros_any (16 - s.size) w (by omega))
  have hpad : pad s = s ++ zeros (16 - s.size) := rfl
  rw [hpad]
  have e1 : IntKind.i64.wrap (16 - (s.size : Int)) = ((16 - s.size : Nat) : Int) := by rw [IntKind.wrap_i64]; omega
  have hzz : (zeros (16 - s.size)).size ≤ 16 := by rw [zeros_size]; omega
  have hzn : ¬ 9223372036854775807 < s.size + (zeros (16 - s.size)).size := by omega
  generalize zeros (16 - s.size) = z at *
  generalize ((16 - s.size : Nat) : Int) = m at *
  obtain ⟨l, p, left, down⟩ := d
  unfold dv dcells at *
  simp only at *
  clear h hu hpad
  go_enter Try.func18, Try.ntmps18
  go_wp2_with fail
  refine (HU.out _ (by repeat first | with_reducible exact Below.refl _ _ | refine Below.alloc ?_ (by simp <;> omega) _)).mono ?_
  rintro e w1 ⟨rfl, b1⟩
  obtain ⟨⟨k1, k2⟩, hb, hz⟩ := boxes2 b1 (by simp)
  obtain ⟨⟨a0, a1, a2, a3⟩, f0, f1, f2, f3⟩ := blk4 k1
  have hz' : Hid (w.heap.size + 1 < w1.heap.size) := Lib.hid (by omega)
  have HX : Hid (PutAt w (w1.alloc (.cells #[] 44)) A l.length c A' p.length c' left down (.slice (some ⟨w1.heap.size, 0, none⟩) 0 0) []) :=
    Lib.hid ⟨own_empty (blk_new _ _) (by have := hz'.out; omega) (hb.alloc (by have := hz'.out; omega) _), blk_old k1, blk_old k2⟩
  clear k1 k2 b1 hb
  go_wp2_with fail
  go_loopw [9, 10] (fun v i wr => ∃ j : Nat, i = .int .i64 j ∧ j ≤ p.length ∧ Hid (PutAt w wr A l.length c A' p.length c' left down v (p.take j))) (fun _ i _ => p.length - (intOf i).toNat)
  case atStart => exact ⟨0, rfl, by omega, HX⟩
  case round =>
    obtain ⟨j, rfl, hj, HJ⟩ := hrel
    obtain ⟨j1, j2, j3⟩ := HJ.out
    have J1 := Lib.hid j1
    have J2 := Lib.hid j2
    have J3 := Lib.hid j3
    clear a0 a1 a2 a3 f0 f1 f2 f3 j1 j2 j3 HX
    obtain ⟨⟨x0, x1, x2, x3⟩, x4⟩ := blk4 J2.out
    by_cases hlt : j < p.length
    · obtain ⟨x, hx⟩ : ∃ x, p[j]? = some x := ⟨_, List.getElem?_eq_getElem hlt⟩
      obtain ⟨b, off, rfl, hb, hc⟩ := HD.out.pend.open_ (by show 0 < p.length; omega)
      have hc' := fun i x hx jj u hu => (J1.out.2.1.cell (p := ⟨b, off + i * 2 + jj, none⟩) hb).trans (hc i x hx jj u hu)
      obtain ⟨d1, d2⟩ := pend_at hc' hx
      have HST := Lib.hid (show p.take (j + 1) = p.take j ++ [x] by rw [List.take_add_one, hx]; rfl)
      have hll : (p.take j).length ≤ 1000000 := by simp; omega
      clear hc hc' hx x4
      go_upto_region 12 with fail
      go_wp2_with (at_builtin; refine append_wr J1 x hll rfl _ _ rfl rfl _ (Lib.hid rfl) rfl ?_; intro v' w3 HV3 HKP)
      have HN := Lib.hid (show PutAt w w3 A l.length c _ p.length c' left down v' (p.take (j + 1)) by rw [HST.out]; exact ⟨HV3.out, HKP.out _ _ J2.out (own_ne J1.out J2.out (by decide)), HKP.out _ _ J3.out (own_ne J1.out J3.out (by decide))⟩)
      go_roundw
      case rel => exact ⟨j + 1, by go_num, by omega, HN⟩
      case measure => simp [intOf]; omega
    · obtain rfl : j = p.length := by omega
      have hv := J1.out
      rw [List.take_length] at hv
      obtain ⟨A2, c2, rfl⟩ := hv.form
      have hlt0 := blk_lt J3.out
      have V1 := Lib.hid hv
      have hll : p.length ≤ 1000000 := by omega
      clear hv J1 HJ x4
      go_wp2_with fail
      refine (HZ.out _).mono ?_
      rintro e wt ⟨rfl, rfl⟩
      clear x0 x1 x2 x3
      go_wp2_with (at_builtin; refine append_wr V1 ⟨k, s ++ z⟩ hll rfl _ _ rfl rfl _ (Lib.hid rfl) rfl ?_; intro v' w3 HV3 HKP; obtain ⟨A4, c4, rfl⟩ := HV3.out.form; have M1 := Lib.hid (HKP.out _ _ J2.out (own_ne V1.out J2.out (by decide))); have M2 := Lib.hid (HKP.out _ _ J3.out (own_ne V1.out J3.out (by decide))); obtain ⟨⟨t0, t1, t2, t3⟩, tf0, tf1, tf2, tf3⟩ := blk4 M1.out; obtain ⟨⟨s0, s1, s2, s3⟩, sf0, sf1, sf2, sf3⟩ := blk4 M2.out)
      refine bodyPost_ret (v := .tuple #[.agg #[.slice A l.length c, .slice A4 (p.length + 1) c4, .int .i64 left, .bool down], .int .i64 0]) (by simp [results, Try.results18, go_sem, *]) rfl ?_
      have hO : OwnW w (((((w3.setCell ⟨w.heap.size, 1, none⟩ (.slice A4 (p.length + 1) c4)).setCell ⟨w.heap.size + 1, 0, none⟩ (.slice A l.length c)).setCell ⟨w.heap.size + 1, 1, none⟩ (.slice A4 (p.length + 1) c4)).setCell ⟨w.heap.size + 1, 2, none⟩ (.int .i64 left)).setCell ⟨w.heap.size + 1, 3, none⟩ (.bool down)) (.slice A4 (p.length + 1) c4) (p ++ [⟨k, s ++ z⟩]) := by
        have hv : OwnW w w3 (.slice A4 (p.length + 1) c4) (p ++ [⟨k, s ++ z⟩]) := by simpa using HV3.out
        have n1 : (Value.slice A4 (p.length + 1) c4).ownBlock ≠ some w.heap.size := own_ne hv M1.out (by decide)
        have n2 : (Value.slice A4 (p.length + 1) c4).ownBlock ≠ some (w.heap.size + 1) := own_ne hv M2.out (by decide)
        exact (((((hv.setCell (p := ⟨w.heap.size, 1, none⟩) (Nat.le_refl _) n1 _).setCell (p := ⟨w.heap.size + 1, 0, none⟩) (by simp) n2 _).setCell (p := ⟨w.heap.size + 1, 1, none⟩) (by simp) n2 _).setCell (p := ⟨w.heap.size + 1, 2, none⟩) (by simp) n2 _).setCell (p := ⟨w.heap.size + 1, 3, none⟩) (by simp) n2 _)
      have hD := HD.out.step hO.2.1
      generalize (((((w3.setCell ⟨w.heap.size, 1, none⟩ (.slice A4 (p.length + 1) c4)).setCell ⟨w.heap.size + 1, 0, none⟩ (.slice A l.length c)).setCell ⟨w.heap.size + 1, 1, none⟩ (.slice A4 (p.length + 1) c4)).setCell ⟨w.heap.size + 1, 2, none⟩ (.int .i64 left)).setCell ⟨w.heap.size + 1, 3, none⟩ (.bool down)) = W at *
      have hn : p.length + 1 = (p ++ [(⟨k, s ++ z⟩ : Wr)]).length := by simp
      rw [hn] at hO ⊢
      have hR : Own w W 44 2 (.slice A4 (p ++ [(⟨k, s ++ z⟩ : Wr)]).length c4) (p ++ [(⟨k, s ++ z⟩ : Wr)]).length (wcells (p ++ [⟨k, s ++ z⟩])) := hO
      exact ⟨A, c, A4, c4, rfl, ⟨hD.secs, Own.row wcell_len rfl hR, by show l.length ≤ _; omega, by show (p ++ [(⟨k, s ++ z⟩ : Wr)]).length ≤ _; rw [← hn]; omega, hR.lt⟩, hO.2.1⟩

end Go.Proofs.Ytlfiooenbgegkaa
