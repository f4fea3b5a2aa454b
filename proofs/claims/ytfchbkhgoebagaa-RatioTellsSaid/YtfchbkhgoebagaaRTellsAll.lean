/- RatioTells: for every input the Go function returns true, and its arguments read as before. -/
import Derived.Test.YtfchbkhgoebagaaRDz
import Derived.Test.YtfchbkhgoebagaaRDn
import Derived.Test.YtfchbkhgoebagaaRDo
import Derived.Test.YtfchbkhgoebagaaRRead
namespace Go.Proofs.Ytfchbkhgoebagaa
open Go.RowKit Ra

theorem prod5 {x y : Nat} (hx : x ≤ 1152921504606846976) (hy : y ≤ 1152921504606846976) : x * y < 1073741824 ^ 5 ∧ 2 * (x * y) ≤ 1073741824 ^ 5 := by
  have h := Nat.mul_le_mul hx hy
  simp only [Nat.reducePow, Nat.reduceMul] at *
  omega
theorem sum5 {x y : Nat} (m l : Bool) (hx : x ≤ 1329227995784915872903807060280344576) (hy : y ≤ 1329227995784915872903807060280344576) : sumT m l x y < 1073741824 ^ 5 := by
  unfold sumT
  simp only [Nat.reducePow]
  split
  · omega
  · split <;> omega
/-- what Give gives, of a signed number -/
theorem give_of {ng : Bool} {X Y : Nat} {N : Int} {D : Nat} (hN : signed ng X = N) (hD : Y = D) (lx : X < 1073741824 ^ 5) (ly : 2 * Y ≤ 1073741824 ^ 5) (y0 : 0 < Y) : ∀ (g h : Nat) (w : World), Num w g X → Num w h Y →
    Calls Try.prog 35 #[.bool ng, .slice (some ⟨g, 0, none⟩) 5 5, .slice (some ⟨h, 0, none⟩) 5 5] w fun e w' => e = .returned (.tuple #[Qv (limV (norm N D)), .int .i64 (limE (norm N D))]) ∧ Below w.heap.size w w' := by
  subst hN hD
  exact fun g h w hx hy => give_num ng g h X Y w hx hy lx ly y0

structure Rp (a : Q) : Prop where
  r : Right a
  n : a.n.natAbs ≤ 1152921504606846976
  d : a.d.natAbs ≤ 1152921504606846976
  p : 0 < a.d.natAbs
  q : Hid (-9223372036854775808 ≤ a.n ∧ a.n ≤ 9223372036854775807)
  s : Hid (-9223372036854775808 ≤ a.d ∧ a.d ≤ 9223372036854775807)
theorem rp_of {a : Q} (h : rightB a = true) : Rp a := by
  have r := (right_iff a).1 h
  have l1 := r.lo; have l2 := r.hi; have l3 := r.den; have l4 := r.pos
  exact ⟨r, by omega, by omega, by omega, Lib.hid (by omega), Lib.hid (by omega)⟩
theorem pair5 {x y : Int} (hx : x.natAbs ≤ 1152921504606846976) (hy : y.natAbs ≤ 1152921504606846976) : Hid (x.natAbs * y.natAbs < 1073741824 ^ 5 ∧ x.natAbs < 1073741824 ^ 5) :=
  Lib.hid ⟨(prod5 hx hy).1, Nat.lt_of_le_of_lt hx (by decide)⟩

theorem rmul_any (a b : Q) (w : World) (ha : Q64 a) (hb : Q64 b) :
    Calls Try.prog 21 #[Qv a, Qv b] w fun e w' => e = .returned (.tuple #[Qv (mulV a b), .int .i64 (mulE a b)]) ∧ Below w.heap.size w w' := by
  unfold mulV mulE
  cases ra : rightB a
  · exact rmul_not1 a b w ha ra
  cases rb : rightB b
  · exact rmul_not2 a b w ha hb ra rb
  have A1 := rp_of ra
  have B1 := rp_of rb
  have hA := Lib.hid (rright_end ha _ ra)
  have hB := Lib.hid (rright_end hb _ rb)
  have hD : a.d.natAbs * b.d.natAbs = (a.d * b.d).natAbs := (Int.natAbs_mul _ _).symm
  have hp : 0 < a.d.natAbs * b.d.natAbs := Nat.mul_pos A1.p B1.p
  have l1 := prod5 A1.n B1.n
  have l2 := prod5 A1.d B1.d
  by_cases za : a.n = 0
  · exact rmul_za a b _ _ _ w hA hB A1.q A1.s B1.q B1.s (pair5 A1.n B1.n) (pair5 A1.d B1.d) (Lib.hid (give_of (by rw [za]; simp [signed]) hD l1.1 l2.2 hp)) (by simp [za])
  by_cases zb : b.n = 0
  · exact rmul_zb a b _ _ _ w hA hB A1.q A1.s B1.q B1.s (pair5 A1.n B1.n) (pair5 A1.d B1.d) (Lib.hid (give_of (by rw [zb]; simp [signed]) hD l1.1 l2.2 hp)) (by simp [za]) (by simp [zb])
  exact rmul_nz a b _ _ _ _ w hA hB A1.q A1.s B1.q B1.s (pair5 A1.n B1.n) (pair5 A1.d B1.d) (Lib.hid (give_of (ng := decide (a.n < 0) != decide (b.n < 0)) (by rw [← signed_signed, ← signed_natAbs, ← signed_natAbs]) hD l1.1 l2.2 hp)) (by simp [za]) (by simp [zb]) (by simp [bne])

theorem rdiv_any (a b : Q) (w : World) (ha : Q64 a) (hb : Q64 b) :
    Calls Try.prog 23 #[Qv a, Qv b] w fun e w' => e = .returned (.tuple #[Qv (divV a b), .int .i64 (divE a b)]) ∧ Below w.heap.size w w' := by
  cases ra : rightB a
  · have e1 : divV a b = ⟨0, 0⟩ ∧ divE a b = 1 := by
      unfold divV divE mulV mulE
      rw [ra]
      simp
    rw [e1.1, e1.2]
    exact rdiv_not1 a b w ha ra
  cases rb : rightB b
  · have e1 : divV a b = ⟨0, 0⟩ ∧ divE a b = 1 := by
      unfold divV divE
      rw [rb]
      simp
    rw [e1.1, e1.2]
    exact rdiv_not2 a b w ha hb ra rb
  have A1 := rp_of ra
  have B1 := rp_of rb
  have hA := Lib.hid (rright_end ha _ ra)
  have hB := Lib.hid (rright_end hb _ rb)
  by_cases zb : b.n = 0
  · have e1 : divV a b = ⟨0, 0⟩ ∧ divE a b = 1 := by
      unfold divV divE
      rw [rb, zb]
      simp
    rw [e1.1, e1.2]
    exact rdiv_zero a b w hA hB (Lib.hid zb)
  have e1 := div_vals A1.r B1.r zb
  rw [e1.1, e1.2]
  have bp := B1.r.pos
  have hi : (inv b).d.natAbs = b.n.natAbs ∧ (inv b).n = signed (decide (b.n < 0)) b.d.natAbs := by
    unfold inv signed
    by_cases h : b.n < 0
    · rw [if_pos h, decide_eq_true h]; refine ⟨by simp only [Int.natAbs_neg], ?_⟩; simp only [if_true]; omega
    · rw [if_neg h, decide_eq_false h]; refine ⟨rfl, ?_⟩; rw [if_neg (by decide)]; simp only; omega
  have hD : a.d.natAbs * b.n.natAbs = (a.d * (inv b).d).natAbs := by rw [Int.natAbs_mul, hi.1]
  have hp : 0 < a.d.natAbs * b.n.natAbs := Nat.mul_pos A1.p (by omega)
  have l1 := prod5 A1.n B1.d
  have l2 := prod5 A1.d B1.n
  by_cases za : a.n = 0
  · exact rdiv_za a b _ _ _ w hA hB A1.q A1.s B1.q B1.s (pair5 A1.n B1.d) (pair5 A1.d B1.n) (Lib.hid (give_of (by rw [za]; simp [signed]) hD l1.1 l2.2 hp)) (by simp [za]) (by simp [zb])
  exact rdiv_nz a b _ _ _ _ w hA hB A1.q A1.s B1.q B1.s (pair5 A1.n B1.d) (pair5 A1.d B1.n) (Lib.hid (give_of (ng := decide (a.n < 0) != decide (b.n < 0)) (by rw [hi.2, ← signed_signed, ← signed_natAbs]) hD l1.1 l2.2 hp)) (by simp [za]) (by simp [zb]) (by simp [bne])

theorem sum_of' (m l : Bool) (X Y : Nat) (lx : X < 1073741824 ^ 5) (ly : Y < 1073741824 ^ 5) {mn : Bool} {N : Nat} (h1 : sumM m l X Y = mn) (h2 : sumT m l X Y = N) : ∀ (g h : Nat) (w : World), Num w g X → Num w h Y →
    Calls Try.prog 43 #[.slice (some ⟨g, 0, none⟩) 5 5, .bool m, .slice (some ⟨h, 0, none⟩) 5 5, .bool l] w fun e w' => ∃ k, e = .returned (.tuple #[.slice (some ⟨k, 0, none⟩) 5 5, .bool mn]) ∧ w.heap.size ≤ k ∧ Num w' k N ∧ Below w.heap.size w w' := by
  subst h1 h2
  exact fun g h w hx hy => sum_num m l g h X Y w hx hy lx ly
theorem mul60 {x y : Nat} (hx : x ≤ 1152921504606846976) (hy : y ≤ 1152921504606846976) : x * y ≤ 1329227995784915872903807060280344576 := Nat.mul_le_mul hx hy
theorem d_signed {a b : Q} (hb : Right b) : a.n * b.d = signed (decide (a.n < 0)) (a.n.natAbs * b.d.natAbs) := by
  have := hb.pos
  rw [← signed_mul, ← signed_natAbs]
  congr 1
  omega

theorem radd_any (a b : Q) (w : World) (ha : Q64 a) (hb : Q64 b) :
    Calls Try.prog 17 #[Qv a, Qv b] w fun e w' => e = .returned (.tuple #[Qv (addV a b), .int .i64 (addE a b)]) ∧ Below w.heap.size w w' := by
  cases ra : rightB a
  · unfold addV addE; rw [ra]; exact radd_not1 a b w ha ra
  cases rb : rightB b
  · unfold addV addE; rw [ra, rb]; exact radd_not2 a b w ha hb ra rb
  have A1 := rp_of ra
  have B1 := rp_of rb
  have hA := Lib.hid (rright_end ha _ ra)
  have hB := Lib.hid (rright_end hb _ rb)
  rw [(add_vals A1.r B1.r).1, (add_vals A1.r B1.r).2]
  have hD : a.d.natAbs * b.d.natAbs = (a.d * b.d).natAbs := (Int.natAbs_mul _ _).symm
  have hp : 0 < a.d.natAbs * b.d.natAbs := Nat.mul_pos A1.p B1.p
  have l2 := prod5 A1.d B1.d
  have hs := sum_signed (decide (a.n < 0)) (decide (b.n < 0)) (a.n.natAbs * b.d.natAbs) (b.n.natAbs * a.d.natAbs)
  rw [← d_signed B1.r, ← d_signed A1.r] at hs
  have lN := sum5 (decide (a.n < 0)) (decide (b.n < 0)) (mul60 A1.n B1.d) (mul60 B1.n A1.d)
  have SM := @sum_of' (decide (a.n < 0)) (decide (b.n < 0)) _ _ (prod5 A1.n B1.d).1 (prod5 B1.n A1.d).1
  unfold addN
  generalize sumT (decide (a.n < 0)) (decide (b.n < 0)) (a.n.natAbs * b.d.natAbs) (b.n.natAbs * a.d.natAbs) = N at *
  cases hm : sumM (decide (a.n < 0)) (decide (b.n < 0)) (a.n.natAbs * b.d.natAbs) (b.n.natAbs * a.d.natAbs)
  · rw [hm] at hs
    exact radd_pos a b _ _ N _ _ _ w hA hB A1.q A1.s B1.q B1.s (pair5 A1.n B1.d) (pair5 B1.n A1.d) (pair5 A1.d B1.d) (Lib.hid (SM hm rfl)) (Lib.hid (give_of hs hD lN l2.2 hp)) rfl rfl
  · rw [hm] at hs
    by_cases hz : N = 0
    · refine radd_zero a b _ _ N _ _ _ w hA hB A1.q A1.s B1.q B1.s (pair5 A1.n B1.d) (pair5 B1.n A1.d) (pair5 A1.d B1.d) (Lib.hid (SM hm rfl)) (Lib.hid (give_of (ng := false) ?_ hD lN l2.2 hp)) rfl rfl (Lib.hid lN) (by simp [hz])
      rw [← hs, hz, signed_zero, signed_zero]
    · exact radd_neg a b _ _ N _ _ _ w hA hB A1.q A1.s B1.q B1.s (pair5 A1.n B1.d) (pair5 B1.n A1.d) (pair5 A1.d B1.d) (Lib.hid (SM hm rfl)) (Lib.hid (give_of hs hD lN l2.2 hp)) rfl rfl (Lib.hid lN) (by simp [hz])

theorem m_signed {a b : Q} (ha : Right a) : -(b.n * a.d) = signed (decide (0 ≤ b.n)) (b.n.natAbs * a.d.natAbs) := by
  have := ha.pos
  rw [← signed_mul, ← Int.neg_mul]
  congr 1
  · unfold signed
    by_cases h : 0 ≤ b.n <;> simp [h] <;> omega
  · omega

theorem rsub_any (a b : Q) (w : World) (ha : Q64 a) (hb : Q64 b) :
    Calls Try.prog 19 #[Qv a, Qv b] w fun e w' => e = .returned (.tuple #[Qv (subV a b), .int .i64 (subE a b)]) ∧ Below w.heap.size w w' := by
  cases ra : rightB a
  · have e1 : subV a b = ⟨0, 0⟩ ∧ subE a b = 1 := by
      unfold subV subE addV addE
      rw [ra]
      simp
    rw [e1.1, e1.2]
    exact rsub_not1 a b w ha ra
  cases rb : rightB b
  · have e1 : subV a b = ⟨0, 0⟩ ∧ subE a b = 1 := by
      unfold subV subE
      rw [rb]
      simp
    rw [e1.1, e1.2]
    exact rsub_not2 a b w ha hb ra rb
  have A1 := rp_of ra
  have B1 := rp_of rb
  have hA := Lib.hid (rright_end ha _ ra)
  have hB := Lib.hid (rright_end hb _ rb)
  rw [(sub_vals A1.r B1.r).1, (sub_vals A1.r B1.r).2]
  have hD : a.d.natAbs * b.d.natAbs = (a.d * (neg b).d).natAbs := (Int.natAbs_mul _ _).symm
  have hp : 0 < a.d.natAbs * b.d.natAbs := Nat.mul_pos A1.p B1.p
  have l2 := prod5 A1.d B1.d
  have hs := sum_signed (decide (a.n < 0)) (decide (0 ≤ b.n)) (a.n.natAbs * b.d.natAbs) (b.n.natAbs * a.d.natAbs)
  rw [← d_signed B1.r, ← m_signed A1.r, ← Int.neg_mul] at hs
  have lN := sum5 (decide (a.n < 0)) (decide (0 ≤ b.n)) (mul60 A1.n B1.d) (mul60 B1.n A1.d)
  have SM := @sum_of' (decide (a.n < 0)) (decide (0 ≤ b.n)) _ _ (prod5 A1.n B1.d).1 (prod5 B1.n A1.d).1
  unfold addN
  generalize sumT (decide (a.n < 0)) (decide (0 ≤ b.n)) (a.n.natAbs * b.d.natAbs) (b.n.natAbs * a.d.natAbs) = N at *
  cases hm : sumM (decide (a.n < 0)) (decide (0 ≤ b.n)) (a.n.natAbs * b.d.natAbs) (b.n.natAbs * a.d.natAbs)
  · rw [hm] at hs
    exact rsub_pos a b _ _ N _ _ _ w hA hB A1.q A1.s B1.q B1.s (pair5 A1.n B1.d) (pair5 B1.n A1.d) (pair5 A1.d B1.d) (Lib.hid (SM hm rfl)) (Lib.hid (give_of hs hD lN l2.2 hp)) rfl rfl
  · rw [hm] at hs
    by_cases hz : N = 0
    · refine rsub_zero a b _ _ N _ _ _ w hA hB A1.q A1.s B1.q B1.s (pair5 A1.n B1.d) (pair5 B1.n A1.d) (pair5 A1.d B1.d) (Lib.hid (SM hm rfl)) (Lib.hid (give_of (ng := false) ?_ hD lN l2.2 hp)) rfl rfl (Lib.hid lN) (by simp [hz])
      rw [hz, signed_zero] at hs ⊢
      exact hs
    · exact rsub_neg a b _ _ N _ _ _ w hA hB A1.q A1.s B1.q B1.s (pair5 A1.n B1.d) (pair5 B1.n A1.d) (pair5 A1.d B1.d) (Lib.hid (SM hm rfl)) (Lib.hid (give_of hs hD lN l2.2 hp)) rfl rfl (Lib.hid lN) (by simp [hz])

theorem rcmp_any (a b : Q) (w : World) (ha : Q64 a) (hb : Q64 b) :
    Calls Try.prog 25 #[Qv a, Qv b] w fun e w' => e = .returned (.int .i64 (cmpV a b)) ∧ Below w.heap.size w w' := by
  unfold cmpV
  cases ra : rightB a
  · exact rcmp_not1 a b w (Lib.hid (rright_end ha _ ra))
  cases rb : rightB b
  · exact rcmp_not2 a b w (Lib.hid (rright_end ha _ ra)) (Lib.hid (rright_end hb _ rb))
  simp only [Bool.and_self, if_true]
  have A1 := rp_of ra
  have B1 := rp_of rb
  have hA := Lib.hid (rright_end ha _ ra)
  have hB := Lib.hid (rright_end hb _ rb)
  have hs := sum_signed (decide (a.n < 0)) (decide (0 ≤ b.n)) (a.n.natAbs * b.d.natAbs) (b.n.natAbs * a.d.natAbs)
  rw [← d_signed B1.r, ← m_signed A1.r, ← Int.sub_eq_add_neg] at hs
  have lN := sum5 (decide (a.n < 0)) (decide (0 ≤ b.n)) (mul60 A1.n B1.d) (mul60 B1.n A1.d)
  have SM := @sum_of' (decide (a.n < 0)) (decide (0 ≤ b.n)) _ _ (prod5 A1.n B1.d).1 (prod5 B1.n A1.d).1
  unfold cmpN
  rw [← hs]
  generalize sumT (decide (a.n < 0)) (decide (0 ≤ b.n)) (a.n.natAbs * b.d.natAbs) (b.n.natAbs * a.d.natAbs) = N at *
  by_cases hz : N = 0
  · exact rcmp_z a b _ _ _ N _ w hA hB A1.q A1.s B1.q B1.s (pair5 A1.n B1.d) (pair5 B1.n A1.d) (Lib.hid (SM rfl rfl)) (Lib.hid lN) rfl rfl (by simp [hz]) (by rw [hz, signed_zero, if_pos rfl])
  cases hm : sumM (decide (a.n < 0)) (decide (0 ≤ b.n)) (a.n.natAbs * b.d.natAbs) (b.n.natAbs * a.d.natAbs)
  · exact rcmp_pos a b _ _ N _ w hA hB A1.q A1.s B1.q B1.s (pair5 A1.n B1.d) (pair5 B1.n A1.d) (Lib.hid (SM hm rfl)) (Lib.hid lN) rfl rfl (by simp [hz]) (by unfold signed; simp only [Bool.false_eq_true, if_false]; rw [if_neg (by omega), if_neg (by omega)])
  · exact rcmp_neg a b _ _ N _ w hA hB A1.q A1.s B1.q B1.s (pair5 A1.n B1.d) (pair5 B1.n A1.d) (Lib.hid (SM hm rfl)) (Lib.hid lN) rfl rfl (by simp [hz]) (by unfold signed; simp only [if_true]; rw [if_neg (by omega), if_pos (by omega)])

end Go.Proofs.Ytfchbkhgoebagaa

namespace Go.Proofs.Ytfchbkhgoebagaa
open Go.RowKit Ra
attribute [local go_sem ↓] Go.wp_at_zero Go.wp_at_succ

theorem f4_keep {a b x y : Q} {k gx gy B : Nat} {w0 wx w' : World} (hk : Below B wx w') (hB : B = wx.heap.size) (h : (wx.cell? ⟨k, 0, none⟩ = some (.int .i64 a.n) ∧ wx.cell? ⟨k, 1, none⟩ = some (.int .i64 a.d) ∧ wx.cell? ⟨k + 1, 0, none⟩ = some (.int .i64 b.n) ∧ wx.cell? ⟨k + 1, 1, none⟩ = some (.int .i64 b.d)) ∧ (wx.cell? ⟨gx, 0, none⟩ = some (.int .i64 x.n) ∧ wx.cell? ⟨gx, 1, none⟩ = some (.int .i64 x.d) ∧ wx.frozen? ⟨gx, 0, none⟩ = false ∧ wx.frozen? ⟨gx, 1, none⟩ = false) ∧ (wx.cell? ⟨gy, 0, none⟩ = some (.int .i64 y.n) ∧ wx.cell? ⟨gy, 1, none⟩ = some (.int .i64 y.d) ∧ wx.frozen? ⟨gy, 0, none⟩ = false ∧ wx.frozen? ⟨gy, 1, none⟩ = false) ∧ k + 2 ≤ wx.heap.size ∧ gx < wx.heap.size ∧ gy < wx.heap.size ∧ Below k w0 wx) : (w'.cell? ⟨k, 0, none⟩ = some (.int .i64 a.n) ∧ w'.cell? ⟨k, 1, none⟩ = some (.int .i64 a.d) ∧ w'.cell? ⟨k + 1, 0, none⟩ = some (.int .i64 b.n) ∧ w'.cell? ⟨k + 1, 1, none⟩ = some (.int .i64 b.d)) ∧ (w'.cell? ⟨gx, 0, none⟩ = some (.int .i64 x.n) ∧ w'.cell? ⟨gx, 1, none⟩ = some (.int .i64 x.d) ∧ w'.frozen? ⟨gx, 0, none⟩ = false ∧ w'.frozen? ⟨gx, 1, none⟩ = false) ∧ (w'.cell? ⟨gy, 0, none⟩ = some (.int .i64 y.n) ∧ w'.cell? ⟨gy, 1, none⟩ = some (.int .i64 y.d) ∧ w'.frozen? ⟨gy, 0, none⟩ = false ∧ w'.frozen? ⟨gy, 1, none⟩ = false) ∧ k + 2 ≤ w'.heap.size ∧ gx < w'.heap.size ∧ gy < w'.heap.size ∧ Below k w0 w' := by
  subst hB
  obtain ⟨⟨a1, a2, a3, a4⟩, ⟨x1, x2, x3, x4⟩, ⟨y1, y2, y3, y4⟩, h1, h2, h3, hb⟩ := h
  have hs := hk.size
  refine ⟨⟨?_, ?_, ?_, ?_⟩, ⟨?_, ?_, ?_, ?_⟩, ⟨?_, ?_, ?_, ?_⟩, by omega, by omega, by omega, Below.trans hb (hk.mono (by omega))⟩
  · rw [hk.cell (by simp only; omega)]; exact a1
  · rw [hk.cell (by simp only; omega)]; exact a2
  · rw [hk.cell (by simp only; omega)]; exact a3
  · rw [hk.cell (by simp only; omega)]; exact a4
  · rw [hk.cell (by simp only; omega)]; exact x1
  · rw [hk.cell (by simp only; omega)]; exact x2
  · rw [hk.frozen (by simp only; omega)]; exact x3
  · rw [hk.frozen (by simp only; omega)]; exact x4
  · rw [hk.cell (by simp only; omega)]; exact y1
  · rw [hk.cell (by simp only; omega)]; exact y2
  · rw [hk.frozen (by simp only; omega)]; exact y3
  · rw [hk.frozen (by simp only; omega)]; exact y4
theorem f4_setx {a b x y : Q} {k gx gy : Nat} {w0 wx : World} (z : Q) (hx : k + 2 ≤ gx) (hy : k + 2 ≤ gy) (hxy : gx ≠ gy) (h : (wx.cell? ⟨k, 0, none⟩ = some (.int .i64 a.n) ∧ wx.cell? ⟨k, 1, none⟩ = some (.int .i64 a.d) ∧ wx.cell? ⟨k + 1, 0, none⟩ = some (.int .i64 b.n) ∧ wx.cell? ⟨k + 1, 1, none⟩ = some (.int .i64 b.d)) ∧ (wx.cell? ⟨gx, 0, none⟩ = some (.int .i64 x.n) ∧ wx.cell? ⟨gx, 1, none⟩ = some (.int .i64 x.d) ∧ wx.frozen? ⟨gx, 0, none⟩ = false ∧ wx.frozen? ⟨gx, 1, none⟩ = false) ∧ (wx.cell? ⟨gy, 0, none⟩ = some (.int .i64 y.n) ∧ wx.cell? ⟨gy, 1, none⟩ = some (.int .i64 y.d) ∧ wx.frozen? ⟨gy, 0, none⟩ = false ∧ wx.frozen? ⟨gy, 1, none⟩ = false) ∧ k + 2 ≤ wx.heap.size ∧ gx < wx.heap.size ∧ gy < wx.heap.size ∧ Below k w0 wx) : (((wx.setCell ⟨gx, 0, none⟩ (.int .i64 z.n)).setCell ⟨gx, 1, none⟩ (.int .i64 z.d)).cell? ⟨k, 0, none⟩ = some (.int .i64 a.n) ∧ ((wx.setCell ⟨gx, 0, none⟩ (.int .i64 z.n)).setCell ⟨gx, 1, none⟩ (.int .i64 z.d)).cell? ⟨k, 1, none⟩ = some (.int .i64 a.d) ∧ ((wx.setCell ⟨gx, 0, none⟩ (.int .i64 z.n)).setCell ⟨gx, 1, none⟩ (.int .i64 z.d)).cell? ⟨k + 1, 0, none⟩ = some (.int .i64 b.n) ∧ ((wx.setCell ⟨gx, 0, none⟩ (.int .i64 z.n)).setCell ⟨gx, 1, none⟩ (.int .i64 z.d)).cell? ⟨k + 1, 1, none⟩ = some (.int .i64 b.d)) ∧ (((wx.setCell ⟨gx, 0, none⟩ (.int .i64 z.n)).setCell ⟨gx, 1, none⟩ (.int .i64 z.d)).cell? ⟨gx, 0, none⟩ = some (.int .i64 z.n) ∧ ((wx.setCell ⟨gx, 0, none⟩ (.int .i64 z.n)).setCell ⟨gx, 1, none⟩ (.int .i64 z.d)).cell? ⟨gx, 1, none⟩ = some (.int .i64 z.d) ∧ ((wx.setCell ⟨gx, 0, none⟩ (.int .i64 z.n)).setCell ⟨gx, 1, none⟩ (.int .i64 z.d)).frozen? ⟨gx, 0, none⟩ = false ∧ ((wx.setCell ⟨gx, 0, none⟩ (.int .i64 z.n)).setCell ⟨gx, 1, none⟩ (.int .i64 z.d)).frozen? ⟨gx, 1, none⟩ = false) ∧ (((wx.setCell ⟨gx, 0, none⟩ (.int .i64 z.n)).setCell ⟨gx, 1, none⟩ (.int .i64 z.d)).cell? ⟨gy, 0, none⟩ = some (.int .i64 y.n) ∧ ((wx.setCell ⟨gx, 0, none⟩ (.int .i64 z.n)).setCell ⟨gx, 1, none⟩ (.int .i64 z.d)).cell? ⟨gy, 1, none⟩ = some (.int .i64 y.d) ∧ ((wx.setCell ⟨gx, 0, none⟩ (.int .i64 z.n)).setCell ⟨gx, 1, none⟩ (.int .i64 z.d)).frozen? ⟨gy, 0, none⟩ = false ∧ ((wx.setCell ⟨gx, 0, none⟩ (.int .i64 z.n)).setCell ⟨gx, 1, none⟩ (.int .i64 z.d)).frozen? ⟨gy, 1, none⟩ = false) ∧ k + 2 ≤ ((wx.setCell ⟨gx, 0, none⟩ (.int .i64 z.n)).setCell ⟨gx, 1, none⟩ (.int .i64 z.d)).heap.size ∧ gx < ((wx.setCell ⟨gx, 0, none⟩ (.int .i64 z.n)).setCell ⟨gx, 1, none⟩ (.int .i64 z.d)).heap.size ∧ gy < ((wx.setCell ⟨gx, 0, none⟩ (.int .i64 z.n)).setCell ⟨gx, 1, none⟩ (.int .i64 z.d)).heap.size ∧ Below k w0 ((wx.setCell ⟨gx, 0, none⟩ (.int .i64 z.n)).setCell ⟨gx, 1, none⟩ (.int .i64 z.d)) := by
  obtain ⟨⟨a1, a2, a3, a4⟩, ⟨x1, x2, x3, x4⟩, ⟨y1, y2, y3, y4⟩, h1, h2, h3, hb⟩ := h
  have n1 : ¬ gx = k := by omega
  have n2 : ¬ gx = k + 1 := by omega
  have n3 : ¬ gy = k := by omega
  have n4 : ¬ gy = k + 1 := by omega
  have n5 : ¬ gy = gx := by omega
  have m1 : ¬ k = gx := by omega
  have m2 : ¬ k + 1 = gx := by omega
  have m3 : ¬ k = gy := by omega
  have m4 : ¬ k + 1 = gy := by omega
  refine ⟨⟨?_, ?_, ?_, ?_⟩, ⟨?_, ?_, ?_, ?_⟩, ⟨?_, ?_, ?_, ?_⟩, ?_, ?_, ?_, Below.setCell (Below.setCell hb (by simp only; omega) _) (by simp only; omega) _⟩ <;> first | (simp [go_sem, *]; done) | (simp only [World.size_setCell]; omega)
theorem f4_sety {a b x y : Q} {k gx gy : Nat} {w0 wx : World} (z : Q) (hx : k + 2 ≤ gx) (hy : k + 2 ≤ gy) (hxy : gx ≠ gy) (h : (wx.cell? ⟨k, 0, none⟩ = some (.int .i64 a.n) ∧ wx.cell? ⟨k, 1, none⟩ = some (.int .i64 a.d) ∧ wx.cell? ⟨k + 1, 0, none⟩ = some (.int .i64 b.n) ∧ wx.cell? ⟨k + 1, 1, none⟩ = some (.int .i64 b.d)) ∧ (wx.cell? ⟨gx, 0, none⟩ = some (.int .i64 x.n) ∧ wx.cell? ⟨gx, 1, none⟩ = some (.int .i64 x.d) ∧ wx.frozen? ⟨gx, 0, none⟩ = false ∧ wx.frozen? ⟨gx, 1, none⟩ = false) ∧ (wx.cell? ⟨gy, 0, none⟩ = some (.int .i64 y.n) ∧ wx.cell? ⟨gy, 1, none⟩ = some (.int .i64 y.d) ∧ wx.frozen? ⟨gy, 0, none⟩ = false ∧ wx.frozen? ⟨gy, 1, none⟩ = false) ∧ k + 2 ≤ wx.heap.size ∧ gx < wx.heap.size ∧ gy < wx.heap.size ∧ Below k w0 wx) : (((wx.setCell ⟨gy, 0, none⟩ (.int .i64 z.n)).setCell ⟨gy, 1, none⟩ (.int .i64 z.d)).cell? ⟨k, 0, none⟩ = some (.int .i64 a.n) ∧ ((wx.setCell ⟨gy, 0, none⟩ (.int .i64 z.n)).setCell ⟨gy, 1, none⟩ (.int .i64 z.d)).cell? ⟨k, 1, none⟩ = some (.int .i64 a.d) ∧ ((wx.setCell ⟨gy, 0, none⟩ (.int .i64 z.n)).setCell ⟨gy, 1, none⟩ (.int .i64 z.d)).cell? ⟨k + 1, 0, none⟩ = some (.int .i64 b.n) ∧ ((wx.setCell ⟨gy, 0, none⟩ (.int .i64 z.n)).setCell ⟨gy, 1, none⟩ (.int .i64 z.d)).cell? ⟨k + 1, 1, none⟩ = some (.int .i64 b.d)) ∧ (((wx.setCell ⟨gy, 0, none⟩ (.int .i64 z.n)).setCell ⟨gy, 1, none⟩ (.int .i64 z.d)).cell? ⟨gx, 0, none⟩ = some (.int .i64 x.n) ∧ ((wx.setCell ⟨gy, 0, none⟩ (.int .i64 z.n)).setCell ⟨gy, 1, none⟩ (.int .i64 z.d)).cell? ⟨gx, 1, none⟩ = some (.int .i64 x.d) ∧ ((wx.setCell ⟨gy, 0, none⟩ (.int .i64 z.n)).setCell ⟨gy, 1, none⟩ (.int .i64 z.d)).frozen? ⟨gx, 0, none⟩ = false ∧ ((wx.setCell ⟨gy, 0, none⟩ (.int .i64 z.n)).setCell ⟨gy, 1, none⟩ (.int .i64 z.d)).frozen? ⟨gx, 1, none⟩ = false) ∧ (((wx.setCell ⟨gy, 0, none⟩ (.int .i64 z.n)).setCell ⟨gy, 1, none⟩ (.int .i64 z.d)).cell? ⟨gy, 0, none⟩ = some (.int .i64 z.n) ∧ ((wx.setCell ⟨gy, 0, none⟩ (.int .i64 z.n)).setCell ⟨gy, 1, none⟩ (.int .i64 z.d)).cell? ⟨gy, 1, none⟩ = some (.int .i64 z.d) ∧ ((wx.setCell ⟨gy, 0, none⟩ (.int .i64 z.n)).setCell ⟨gy, 1, none⟩ (.int .i64 z.d)).frozen? ⟨gy, 0, none⟩ = false ∧ ((wx.setCell ⟨gy, 0, none⟩ (.int .i64 z.n)).setCell ⟨gy, 1, none⟩ (.int .i64 z.d)).frozen? ⟨gy, 1, none⟩ = false) ∧ k + 2 ≤ ((wx.setCell ⟨gy, 0, none⟩ (.int .i64 z.n)).setCell ⟨gy, 1, none⟩ (.int .i64 z.d)).heap.size ∧ gx < ((wx.setCell ⟨gy, 0, none⟩ (.int .i64 z.n)).setCell ⟨gy, 1, none⟩ (.int .i64 z.d)).heap.size ∧ gy < ((wx.setCell ⟨gy, 0, none⟩ (.int .i64 z.n)).setCell ⟨gy, 1, none⟩ (.int .i64 z.d)).heap.size ∧ Below k w0 ((wx.setCell ⟨gy, 0, none⟩ (.int .i64 z.n)).setCell ⟨gy, 1, none⟩ (.int .i64 z.d)) := by
  obtain ⟨⟨a1, a2, a3, a4⟩, ⟨x1, x2, x3, x4⟩, ⟨y1, y2, y3, y4⟩, h1, h2, h3, hb⟩ := h
  have n1 : ¬ gx = k := by omega
  have n2 : ¬ gx = k + 1 := by omega
  have n3 : ¬ gy = k := by omega
  have n4 : ¬ gy = k + 1 := by omega
  have n5 : ¬ gy = gx := by omega
  have m1 : ¬ k = gx := by omega
  have m2 : ¬ k + 1 = gx := by omega
  have m3 : ¬ k = gy := by omega
  have m4 : ¬ k + 1 = gy := by omega
  refine ⟨⟨?_, ?_, ?_, ?_⟩, ⟨?_, ?_, ?_, ?_⟩, ⟨?_, ?_, ?_, ?_⟩, ?_, ?_, ?_, Below.setCell (Below.setCell hb (by simp only; omega) _) (by simp only; omega) _⟩ <;> first | (simp [go_sem, *]; done) | (simp only [World.size_setCell]; omega)

set_option maxRecDepth 100000 in
set_option linter.unusedSimpArgs false in
set_option maxHeartbeats 8000000 in
theorem tells_core (num den : Int) (a b m s t p q : Q) (me se te pe qe c fl ce ne : Int) (rr : Bool) (w : World)
    (HS : Hid (∀ w, Calls Try.prog 8 #[] w fun e w' => e = .returned (.bool true) ∧ Below w.heap.size w w'))
    (HM : Hid (∀ w, Calls Try.prog 13 #[.int .i64 num, .int .i64 den] w fun e w' => e = .returned (.tuple #[.agg #[.int .i64 m.n, .int .i64 m.d], .int .i64 me]) ∧ Below w.heap.size w w'))
    (HM2 : Hid (∀ w, Calls Try.prog 14 #[.int .i64 num, .int .i64 den] w fun e w' => e = .returned (.tuple #[.agg #[.int .i64 m.n, .int .i64 m.d], .int .i64 me]) ∧ Below w.heap.size w w'))
    (HR : Hid (∀ w, Calls Try.prog 9 #[.agg #[.int .i64 a.n, .int .i64 a.d]] w fun e w' => e = .returned (.bool rr) ∧ Below w.heap.size w w'))
    (HR2 : Hid (∀ w, Calls Try.prog 15 #[.agg #[.int .i64 a.n, .int .i64 a.d]] w fun e w' => e = .returned (.bool rr) ∧ Below w.heap.size w w'))
    (HAdd : Hid (∀ w, Calls Try.prog 16 #[.agg #[.int .i64 a.n, .int .i64 a.d], .agg #[.int .i64 b.n, .int .i64 b.d]] w fun e w' => e = .returned (.tuple #[.agg #[.int .i64 s.n, .int .i64 s.d], .int .i64 se]) ∧ Below w.heap.size w w'))
    (HAdd2 : Hid (∀ w, Calls Try.prog 17 #[.agg #[.int .i64 a.n, .int .i64 a.d], .agg #[.int .i64 b.n, .int .i64 b.d]] w fun e w' => e = .returned (.tuple #[.agg #[.int .i64 s.n, .int .i64 s.d], .int .i64 se]) ∧ Below w.heap.size w w'))
    (HSub : Hid (∀ w, Calls Try.prog 18 #[.agg #[.int .i64 a.n, .int .i64 a.d], .agg #[.int .i64 b.n, .int .i64 b.d]] w fun e w' => e = .returned (.tuple #[.agg #[.int .i64 t.n, .int .i64 t.d], .int .i64 te]) ∧ Below w.heap.size w w'))
    (HSub2 : Hid (∀ w, Calls Try.prog 19 #[.agg #[.int .i64 a.n, .int .i64 a.d], .agg #[.int .i64 b.n, .int .i64 b.d]] w fun e w' => e = .returned (.tuple #[.agg #[.int .i64 t.n, .int .i64 t.d], .int .i64 te]) ∧ Below w.heap.size w w'))
    (HMul : Hid (∀ w, Calls Try.prog 20 #[.agg #[.int .i64 a.n, .int .i64 a.d], .agg #[.int .i64 b.n, .int .i64 b.d]] w fun e w' => e = .returned (.tuple #[.agg #[.int .i64 p.n, .int .i64 p.d], .int .i64 pe]) ∧ Below w.heap.size w w'))
    (HMul2 : Hid (∀ w, Calls Try.prog 21 #[.agg #[.int .i64 a.n, .int .i64 a.d], .agg #[.int .i64 b.n, .int .i64 b.d]] w fun e w' => e = .returned (.tuple #[.agg #[.int .i64 p.n, .int .i64 p.d], .int .i64 pe]) ∧ Below w.heap.size w w'))
    (HDiv : Hid (∀ w, Calls Try.prog 22 #[.agg #[.int .i64 a.n, .int .i64 a.d], .agg #[.int .i64 b.n, .int .i64 b.d]] w fun e w' => e = .returned (.tuple #[.agg #[.int .i64 q.n, .int .i64 q.d], .int .i64 qe]) ∧ Below w.heap.size w w'))
    (HDiv2 : Hid (∀ w, Calls Try.prog 23 #[.agg #[.int .i64 a.n, .int .i64 a.d], .agg #[.int .i64 b.n, .int .i64 b.d]] w fun e w' => e = .returned (.tuple #[.agg #[.int .i64 q.n, .int .i64 q.d], .int .i64 qe]) ∧ Below w.heap.size w w'))
    (HC : Hid (∀ w, Calls Try.prog 24 #[.agg #[.int .i64 a.n, .int .i64 a.d], .agg #[.int .i64 b.n, .int .i64 b.d]] w fun e w' => e = .returned (.int .i64 c) ∧ Below w.heap.size w w'))
    (HC2 : Hid (∀ w, Calls Try.prog 25 #[.agg #[.int .i64 a.n, .int .i64 a.d], .agg #[.int .i64 b.n, .int .i64 b.d]] w fun e w' => e = .returned (.int .i64 c) ∧ Below w.heap.size w w'))
    (HFloor : Hid (∀ w, Calls Try.prog 26 #[.agg #[.int .i64 a.n, .int .i64 a.d]] w fun e w' => e = .returned (.int .i64 fl) ∧ Below w.heap.size w w'))
    (HFloor2 : Hid (∀ w, Calls Try.prog 27 #[.agg #[.int .i64 a.n, .int .i64 a.d]] w fun e w' => e = .returned (.int .i64 fl) ∧ Below w.heap.size w w'))
    (HCeil : Hid (∀ w, Calls Try.prog 28 #[.agg #[.int .i64 a.n, .int .i64 a.d]] w fun e w' => e = .returned (.int .i64 ce) ∧ Below w.heap.size w w'))
    (HCeil2 : Hid (∀ w, Calls Try.prog 29 #[.agg #[.int .i64 a.n, .int .i64 a.d]] w fun e w' => e = .returned (.int .i64 ce) ∧ Below w.heap.size w w'))
    (HNearest : Hid (∀ w, Calls Try.prog 30 #[.agg #[.int .i64 a.n, .int .i64 a.d]] w fun e w' => e = .returned (.int .i64 ne) ∧ Below w.heap.size w w'))
    (HNearest2 : Hid (∀ w, Calls Try.prog 31 #[.agg #[.int .i64 a.n, .int .i64 a.d]] w fun e w' => e = .returned (.int .i64 ne) ∧ Below w.heap.size w w'))
    : Calls Try.prog 4 #[.int .i64 num, .int .i64 den, .agg #[.int .i64 a.n, .int .i64 a.d], .agg #[.int .i64 b.n, .int .i64 b.d]] w fun e w' => e = .returned (.bool true) ∧ Below w.heap.size w w' := by
  obtain ⟨W, hW⟩ : ∃ W, W = Par a b w := ⟨_, rfl⟩
  have hat := par_bx a b w
  rw [← hW] at hat
  obtain ⟨⟨ka, la⟩, ⟨kb, lb⟩, B0⟩ := hat
  unfold Par at hW
  have HW := Lib.hid hW
  clear hW
  go_enter Try.func4, Try.ntmps4
  go_wp2_with fail
  rw [← HW.out]
  refine (HS.out _).mono ?_
  rintro e w1 ⟨rfl, b1⟩
  obtain ⟨ka, la⟩ := bx_keep b1 ⟨ka, la⟩
  obtain ⟨kb, lb⟩ := bx_keep b1 ⟨kb, lb⟩
  have B1 := Below.trans B0 (b1.mono B0.size)
  have kb1' := kb
  go_wp2_with fail
  refine (HM.out _).mono ?_
  rintro e w2 ⟨rfl, b2⟩
  obtain ⟨ka, la⟩ := bx_keep b2 ⟨ka, la⟩
  obtain ⟨kb, lb⟩ := bx_keep b2 ⟨kb, lb⟩
  have B2 := Below.trans B1 (b2.mono B1.size)
  go_wp2_with fail
  refine (HM2.out _).mono ?_
  rintro e w3 ⟨rfl, b3⟩
  have s3 : Below w2.heap.size w2 w3 := below_step ((Below.refl _ _).alloc (Nat.le_refl _) _) b3 rfl
  obtain ⟨ka, la⟩ := bx_keep s3 ⟨ka, la⟩
  obtain ⟨kb, lb⟩ := bx_keep s3 ⟨kb, lb⟩
  have B3 := Below.trans B2 (s3.mono B2.size)
  have X3 := pair_new b3 (by simp)
  have X4 : w2.heap.size < w3.heap.size := by have := World.block_lt_of_cell? w3 _ X3.1; simpa using this
  have kb2 : w.heap.size + 2 ≤ w2.heap.size := by
    have h1 := World.block_lt_of_cell? w1 _ kb1'
    have h2 := b2.size
    simp only at h1
    omega
  go_wp2_with fail
  obtain ⟨w4, hw4⟩ : ∃ w4, w4 = w3.alloc (.cells #[.int .i64 m.n, .int .i64 m.d] 23) := ⟨_, rfl⟩
  have s4 : Below w3.heap.size w3 w4 := by rw [hw4]; exact (Below.refl _ _).alloc (Nat.le_refl _) _
  obtain ⟨ka, la⟩ := bx_keep s4 ⟨ka, la⟩
  obtain ⟨kb, lb⟩ := bx_keep s4 ⟨kb, lb⟩
  have B4 := Below.trans B3 (s4.mono B3.size)
  have X5 := pair_old s4 rfl X3.1 X3.2.1 X3.2.2.1 X3.2.2.2
  have Y5 : w4.cell? ⟨w3.heap.size, 0, none⟩ = some (.int .i64 m.n) ∧ w4.cell? ⟨w3.heap.size, 1, none⟩ = some (.int .i64 m.d) ∧ w4.frozen? ⟨w3.heap.size, 0, none⟩ = false ∧ w4.frozen? ⟨w3.heap.size, 1, none⟩ = false := by rw [hw4]; simp [go_sem]
  have Z5 : w3.heap.size < w4.heap.size := by rw [hw4]; simp
  have F4 := Lib.hid (show (w4.cell? ⟨w.heap.size, 0, none⟩ = some (.int .i64 a.n) ∧ w4.cell? ⟨w.heap.size, 1, none⟩ = some (.int .i64 a.d) ∧ w4.cell? ⟨w.heap.size + 1, 0, none⟩ = some (.int .i64 b.n) ∧ w4.cell? ⟨w.heap.size + 1, 1, none⟩ = some (.int .i64 b.d)) ∧ (w4.cell? ⟨w2.heap.size, 0, none⟩ = some (.int .i64 m.n) ∧ w4.cell? ⟨w2.heap.size, 1, none⟩ = some (.int .i64 m.d) ∧ w4.frozen? ⟨w2.heap.size, 0, none⟩ = false ∧ w4.frozen? ⟨w2.heap.size, 1, none⟩ = false) ∧ (w4.cell? ⟨w3.heap.size, 0, none⟩ = some (.int .i64 m.n) ∧ w4.cell? ⟨w3.heap.size, 1, none⟩ = some (.int .i64 m.d) ∧ w4.frozen? ⟨w3.heap.size, 0, none⟩ = false ∧ w4.frozen? ⟨w3.heap.size, 1, none⟩ = false) ∧ w.heap.size + 2 ≤ w4.heap.size ∧ w2.heap.size < w4.heap.size ∧ w3.heap.size < w4.heap.size ∧ Below w.heap.size w w4 from ⟨⟨ka, la, kb, lb⟩, X5, Y5, by omega, by omega, Z5, B4⟩)
  rw [← hw4]
  clear hw4 X3 X5 Y5 ka la kb lb
  have FF := F4.out
  refine wp_region_held_drew (S := fun w' => (w'.cell? ⟨w.heap.size, 0, none⟩ = some (.int .i64 a.n) ∧ w'.cell? ⟨w.heap.size, 1, none⟩ = some (.int .i64 a.d) ∧ w'.cell? ⟨w.heap.size + 1, 0, none⟩ = some (.int .i64 b.n) ∧ w'.cell? ⟨w.heap.size + 1, 1, none⟩ = some (.int .i64 b.d)) ∧ (w'.cell? ⟨w2.heap.size, 0, none⟩ = some (.int .i64 m.n) ∧ w'.cell? ⟨w2.heap.size, 1, none⟩ = some (.int .i64 m.d) ∧ w'.frozen? ⟨w2.heap.size, 0, none⟩ = false ∧ w'.frozen? ⟨w2.heap.size, 1, none⟩ = false) ∧ (w'.cell? ⟨w3.heap.size, 0, none⟩ = some (.int .i64 m.n) ∧ w'.cell? ⟨w3.heap.size, 1, none⟩ = some (.int .i64 m.d) ∧ w'.frozen? ⟨w3.heap.size, 0, none⟩ = false ∧ w'.frozen? ⟨w3.heap.size, 1, none⟩ = false) ∧ w.heap.size + 2 ≤ w'.heap.size ∧ w2.heap.size < w'.heap.size ∧ w3.heap.size < w'.heap.size ∧ Below w.heap.size w w') (by kernel_rfl) ?_ (fun hHeld => ?_)
  · first
      | assumption
      | exact f4_keep bt rfl (by assumption)
      | exact f4_keep (Below.drew (Below.refl _ _)) rfl FF
  refine wpAnyH_take (i := 0) (v := ?_) rfl (by kernel_rfl) (by kernel_rfl) (by kernel_rfl) (fun _ _ _ h => h) (Or.inl ⟨by kernel_rfl, ?_⟩) (by assumption) ?_
  rotate_left
  · (intro w hSw; (try dsimp only at hSw); go_simp; first | done | with_reducible rfl)
  try simp only [Act.put, List.setIfInBounds_toArray, List.set_cons_zero, List.set_cons_succ]
  refine wpAnyH_take (i := 1) (v := ?_) rfl (by kernel_rfl) (by kernel_rfl) (by kernel_rfl) (fun _ _ _ h => h) (Or.inl ⟨by kernel_rfl, ?_⟩) (by assumption) ?_
  rotate_left
  · (intro w hSw; (try dsimp only at hSw); go_simp; first | done | with_reducible rfl)
  try simp only [Act.put, List.setIfInBounds_toArray, List.set_cons_zero, List.set_cons_succ]
  refine wpAnyH_take (i := 2) (v := ?_) rfl (by kernel_rfl) (by kernel_rfl) (by kernel_rfl) (fun _ _ _ h => h) (Or.inl ⟨by kernel_rfl, ?_⟩) (by assumption) ?_
  rotate_left
  · (intro w hSw; (try dsimp only at hSw); go_simp; first | done | with_reducible rfl)
  try simp only [Act.put, List.setIfInBounds_toArray, List.set_cons_zero, List.set_cons_succ]
  refine wpAnyH_take (i := 3) (v := ?_) rfl (by kernel_rfl) (by kernel_rfl) (by kernel_rfl) (fun _ _ _ h => h) (Or.inl ⟨by kernel_rfl, ?_⟩) (by assumption) ?_
  rotate_left
  · (intro w hSw; (try dsimp only at hSw); go_simp; first | done | with_reducible rfl)
  try simp only [Act.put, List.setIfInBounds_toArray, List.set_cons_zero, List.set_cons_succ]
  refine wpAnyH_take (i := 4) (v := ?_) rfl (by kernel_rfl) (by kernel_rfl) (by kernel_rfl) (fun _ _ _ h => h) (Or.inl ⟨by kernel_rfl, ?_⟩) (by assumption) ?_
  rotate_left
  · (intro w hSw; (try dsimp only at hSw); go_simp; first | done | with_reducible rfl)
  try simp only [Act.put, List.setIfInBounds_toArray, List.set_cons_zero, List.set_cons_succ]
  refine wpAnyH_take (i := 5) (v := ?_) rfl (by kernel_rfl) (by kernel_rfl) (by kernel_rfl) (fun _ _ _ h => h) (Or.inl ⟨by kernel_rfl, ?_⟩) (by assumption) ?_
  rotate_left
  · (intro w hSw; (try dsimp only at hSw); go_simp; first | done | with_reducible rfl)
  try simp only [Act.put, List.setIfInBounds_toArray, List.set_cons_zero, List.set_cons_succ]
  refine wpAnyH_take (i := 6) (v := ?_) rfl (by kernel_rfl) (by kernel_rfl) (by kernel_rfl) (fun _ _ _ h => h) (Or.inl ⟨by kernel_rfl, ?_⟩) (by assumption) ?_
  rotate_left
  · (intro w hSw; (try dsimp only at hSw); go_simp; first | done | with_reducible rfl)
  try simp only [Act.put, List.setIfInBounds_toArray, List.set_cons_zero, List.set_cons_succ]
  refine wpAnyH_take (i := 7) (v := ?_) rfl (by kernel_rfl) (by kernel_rfl) (by kernel_rfl) (fun _ _ _ h => h) (Or.inl ⟨by kernel_rfl, ?_⟩) (by assumption) ?_
  rotate_left
  · (intro w hSw; (try dsimp only at hSw); go_simp; first | done | with_reducible rfl)
  try simp only [Act.put, List.setIfInBounds_toArray, List.set_cons_zero, List.set_cons_succ]
  refine wpAnyH_take (i := 8) (v := ?_) rfl (by kernel_rfl) (by kernel_rfl) (by kernel_rfl) (fun _ _ _ h => h) (Or.inl ⟨by kernel_rfl, ?_⟩) (by assumption) ?_
  rotate_left
  · (intro w hSw; (try dsimp only at hSw); go_simp; first | done | with_reducible rfl)
  try simp only [Act.put, List.setIfInBounds_toArray, List.set_cons_zero, List.set_cons_succ]
  refine wpAnyH_take (i := 9) (v := ?_) rfl (by kernel_rfl) (by kernel_rfl) (by kernel_rfl) (fun _ _ _ h => h) (Or.inl ⟨by kernel_rfl, ?_⟩) (by assumption) ?_
  rotate_left
  · (intro w hSw; (try dsimp only at hSw); go_simp; first | done | with_reducible rfl)
  try simp only [Act.put, List.setIfInBounds_toArray, List.set_cons_zero, List.set_cons_succ]
  refine wpAnyH_take (i := 11) (v := ?_) rfl (by kernel_rfl) (by kernel_rfl) (by kernel_rfl) (fun _ _ _ h => h) (Or.inl ⟨by kernel_rfl, ?_⟩) (by assumption) ?_
  rotate_left
  · (intro w hSw; (try dsimp only at hSw); go_simp; first | done | with_reducible rfl)
  try simp only [Act.put, List.setIfInBounds_toArray, List.set_cons_zero, List.set_cons_succ]
  refine wpAnyH_ready (rs := [10]) (by kernel_rfl) (by simp) ?_
  refine AllReadyH.cons rfl (fun K hK => ?_) AllReadyH.nil
  go_simp
  go_at_call 9; refine (HR.out _).mono ?_; rintro e wt ⟨rfl, bt⟩
  (try go_wp2_with fail)
  refine hK.out _ _ ?_ (fun hHeld => ?_)
  · first
      | assumption
      | exact f4_keep bt rfl (by assumption)
      | exact f4_keep (Below.drew (Below.refl _ _)) rfl FF
  clear hK K
  try simp only [Act.put, List.setIfInBounds_toArray, List.set_cons_zero, List.set_cons_succ]
  refine wpAnyH_ready (rs := [12]) (by kernel_rfl) (by simp) ?_
  refine AllReadyH.cons rfl (fun K hK => ?_) AllReadyH.nil
  go_simp
  go_at_call 15; refine (HR2.out _).mono ?_; rintro e wt ⟨rfl, bt⟩
  (try go_wp2_with fail)
  refine hK.out _ _ ?_ (fun hHeld => ?_)
  · first
      | assumption
      | exact f4_keep bt rfl (by assumption)
      | exact f4_keep (Below.drew (Below.refl _ _)) rfl FF
  clear hK K
  try simp only [Act.put, List.setIfInBounds_toArray, List.set_cons_zero, List.set_cons_succ]
  refine wpAnyH_take (i := 13) (v := ?_) rfl (by kernel_rfl) (by kernel_rfl) (by kernel_rfl) (fun _ _ _ h => h) (Or.inl ⟨by kernel_rfl, ?_⟩) (by assumption) ?_
  rotate_left
  · (intro w hSw; (try dsimp only at hSw); go_simp; first | done | with_reducible rfl)
  try simp only [Act.put, List.setIfInBounds_toArray, List.set_cons_zero, List.set_cons_succ]
  refine wpAnyH_ready (rs := [14]) (by kernel_rfl) (by simp) ?_
  refine AllReadyH.cons rfl (fun K hK => ?_) AllReadyH.nil
  go_simp
  refine hK.out _ _ ?_ (fun hHeld => ?_)
  · first
      | assumption
      | exact f4_keep bt rfl (by assumption)
      | exact f4_keep (Below.drew (Below.refl _ _)) rfl FF
  clear hK K
  try simp only [Act.put, List.setIfInBounds_toArray, List.set_cons_zero, List.set_cons_succ]
  refine wpAnyH_done (by kernel_rfl) ?_ _
  have G := Lib.hid (show (wt.cell? ⟨w.heap.size, 0, none⟩ = some (.int .i64 a.n) ∧ wt.cell? ⟨w.heap.size, 1, none⟩ = some (.int .i64 a.d) ∧ wt.cell? ⟨w.heap.size + 1, 0, none⟩ = some (.int .i64 b.n) ∧ wt.cell? ⟨w.heap.size + 1, 1, none⟩ = some (.int .i64 b.d)) ∧ (wt.cell? ⟨w2.heap.size, 0, none⟩ = some (.int .i64 m.n) ∧ wt.cell? ⟨w2.heap.size, 1, none⟩ = some (.int .i64 m.d) ∧ wt.frozen? ⟨w2.heap.size, 0, none⟩ = false ∧ wt.frozen? ⟨w2.heap.size, 1, none⟩ = false) ∧ (wt.cell? ⟨w3.heap.size, 0, none⟩ = some (.int .i64 m.n) ∧ wt.cell? ⟨w3.heap.size, 1, none⟩ = some (.int .i64 m.d) ∧ wt.frozen? ⟨w3.heap.size, 0, none⟩ = false ∧ wt.frozen? ⟨w3.heap.size, 1, none⟩ = false) ∧ w.heap.size + 2 ≤ wt.heap.size ∧ w2.heap.size < wt.heap.size ∧ w3.heap.size < wt.heap.size ∧ Below w.heap.size w wt from hHeld)
  clear hHeld FF
  generalize wt = v0 at *
  obtain ⟨⟨f1, f2, f3, f4⟩, ⟨f5, f6, f7, f8⟩, ⟨f9, f10, f11, f12⟩, f13, f14, f15, f16⟩ := G.out
  go_wp2_with fail
  refine (HAdd.out _).mono ?_
  rintro e v1 ⟨rfl, d1⟩
  have G1 := Lib.hid (f4_keep d1 rfl G.out)
  clear f1 f2 f3 f4 f5 f6 f7 f8 f9 f10 f11 f12 f13 f14 f15 f16
  obtain ⟨⟨f1, f2, f3, f4⟩, ⟨f5, f6, f7, f8⟩, ⟨f9, f10, f11, f12⟩, f13, f14, f15, f16⟩ := G1.out
  go_wp2_with fail
  refine (HAdd2.out _).mono ?_
  rintro e v2 ⟨rfl, d2⟩
  have G2 := Lib.hid (f4_keep d2 rfl (f4_setx s kb2 (by omega) (by omega) G1.out))
  clear f1 f2 f3 f4 f5 f6 f7 f8 f9 f10 f11 f12 f13 f14 f15 f16
  obtain ⟨⟨f1, f2, f3, f4⟩, ⟨f5, f6, f7, f8⟩, ⟨f9, f10, f11, f12⟩, f13, f14, f15, f16⟩ := G2.out
  go_wp2_with fail
  refine (HSub.out _).mono ?_
  rintro e v3 ⟨rfl, d3⟩
  have G3 := Lib.hid (f4_keep d3 rfl (f4_sety s kb2 (by omega) (by omega) G2.out))
  clear f1 f2 f3 f4 f5 f6 f7 f8 f9 f10 f11 f12 f13 f14 f15 f16
  obtain ⟨⟨f1, f2, f3, f4⟩, ⟨f5, f6, f7, f8⟩, ⟨f9, f10, f11, f12⟩, f13, f14, f15, f16⟩ := G3.out
  go_wp2_with fail
  refine (HSub2.out _).mono ?_
  rintro e v4 ⟨rfl, d4⟩
  have G4 := Lib.hid (f4_keep d4 rfl (f4_setx t kb2 (by omega) (by omega) G3.out))
  clear f1 f2 f3 f4 f5 f6 f7 f8 f9 f10 f11 f12 f13 f14 f15 f16
  obtain ⟨⟨f1, f2, f3, f4⟩, ⟨f5, f6, f7, f8⟩, ⟨f9, f10, f11, f12⟩, f13, f14, f15, f16⟩ := G4.out
  go_wp2_with fail
  refine (HMul.out _).mono ?_
  rintro e v5 ⟨rfl, d5⟩
  have G5 := Lib.hid (f4_keep d5 rfl (f4_sety t kb2 (by omega) (by omega) G4.out))
  clear f1 f2 f3 f4 f5 f6 f7 f8 f9 f10 f11 f12 f13 f14 f15 f16
  obtain ⟨⟨f1, f2, f3, f4⟩, ⟨f5, f6, f7, f8⟩, ⟨f9, f10, f11, f12⟩, f13, f14, f15, f16⟩ := G5.out
  go_wp2_with fail
  refine (HMul2.out _).mono ?_
  rintro e v6 ⟨rfl, d6⟩
  have G6 := Lib.hid (f4_keep d6 rfl (f4_setx p kb2 (by omega) (by omega) G5.out))
  clear f1 f2 f3 f4 f5 f6 f7 f8 f9 f10 f11 f12 f13 f14 f15 f16
  obtain ⟨⟨f1, f2, f3, f4⟩, ⟨f5, f6, f7, f8⟩, ⟨f9, f10, f11, f12⟩, f13, f14, f15, f16⟩ := G6.out
  go_wp2_with fail
  refine (HDiv.out _).mono ?_
  rintro e v7 ⟨rfl, d7⟩
  have G7 := Lib.hid (f4_keep d7 rfl (f4_sety p kb2 (by omega) (by omega) G6.out))
  clear f1 f2 f3 f4 f5 f6 f7 f8 f9 f10 f11 f12 f13 f14 f15 f16
  obtain ⟨⟨f1, f2, f3, f4⟩, ⟨f5, f6, f7, f8⟩, ⟨f9, f10, f11, f12⟩, f13, f14, f15, f16⟩ := G7.out
  go_wp2_with fail
  refine (HDiv2.out _).mono ?_
  rintro e v8 ⟨rfl, d8⟩
  have G8 := Lib.hid (f4_keep d8 rfl (f4_setx q kb2 (by omega) (by omega) G7.out))
  clear f1 f2 f3 f4 f5 f6 f7 f8 f9 f10 f11 f12 f13 f14 f15 f16
  obtain ⟨⟨f1, f2, f3, f4⟩, ⟨f5, f6, f7, f8⟩, ⟨f9, f10, f11, f12⟩, f13, f14, f15, f16⟩ := G8.out
  go_wp2_with fail
  obtain ⟨w5, hw5⟩ : ∃ w5, w5 = (v8.setCell ⟨w3.heap.size, 0, none⟩ (.int .i64 q.n)).setCell ⟨w3.heap.size, 1, none⟩ (.int .i64 q.d) := ⟨_, rfl⟩
  have F5 := Lib.hid (show (w5.cell? ⟨w.heap.size, 0, none⟩ = some (.int .i64 a.n) ∧ w5.cell? ⟨w.heap.size, 1, none⟩ = some (.int .i64 a.d) ∧ w5.cell? ⟨w.heap.size + 1, 0, none⟩ = some (.int .i64 b.n) ∧ w5.cell? ⟨w.heap.size + 1, 1, none⟩ = some (.int .i64 b.d)) ∧ (w5.cell? ⟨w2.heap.size, 0, none⟩ = some (.int .i64 q.n) ∧ w5.cell? ⟨w2.heap.size, 1, none⟩ = some (.int .i64 q.d) ∧ w5.frozen? ⟨w2.heap.size, 0, none⟩ = false ∧ w5.frozen? ⟨w2.heap.size, 1, none⟩ = false) ∧ (w5.cell? ⟨w3.heap.size, 0, none⟩ = some (.int .i64 q.n) ∧ w5.cell? ⟨w3.heap.size, 1, none⟩ = some (.int .i64 q.d) ∧ w5.frozen? ⟨w3.heap.size, 0, none⟩ = false ∧ w5.frozen? ⟨w3.heap.size, 1, none⟩ = false) ∧ w.heap.size + 2 ≤ w5.heap.size ∧ w2.heap.size < w5.heap.size ∧ w3.heap.size < w5.heap.size ∧ Below w.heap.size w w5 by rw [hw5]; exact f4_sety q kb2 (by omega) (by omega) G8.out)
  rw [← hw5]
  clear hw5 f1 f2 f3 f4 f5 f6 f7 f8 f9 f10 f11 f12 f13 f14 f15 f16
  have FF := F5.out
  refine wp_region_held_drew (S := fun w' => (w'.cell? ⟨w.heap.size, 0, none⟩ = some (.int .i64 a.n) ∧ w'.cell? ⟨w.heap.size, 1, none⟩ = some (.int .i64 a.d) ∧ w'.cell? ⟨w.heap.size + 1, 0, none⟩ = some (.int .i64 b.n) ∧ w'.cell? ⟨w.heap.size + 1, 1, none⟩ = some (.int .i64 b.d)) ∧ (w'.cell? ⟨w2.heap.size, 0, none⟩ = some (.int .i64 q.n) ∧ w'.cell? ⟨w2.heap.size, 1, none⟩ = some (.int .i64 q.d) ∧ w'.frozen? ⟨w2.heap.size, 0, none⟩ = false ∧ w'.frozen? ⟨w2.heap.size, 1, none⟩ = false) ∧ (w'.cell? ⟨w3.heap.size, 0, none⟩ = some (.int .i64 q.n) ∧ w'.cell? ⟨w3.heap.size, 1, none⟩ = some (.int .i64 q.d) ∧ w'.frozen? ⟨w3.heap.size, 0, none⟩ = false ∧ w'.frozen? ⟨w3.heap.size, 1, none⟩ = false) ∧ w.heap.size + 2 ≤ w'.heap.size ∧ w2.heap.size < w'.heap.size ∧ w3.heap.size < w'.heap.size ∧ Below w.heap.size w w') (by kernel_rfl) ?_ (fun hHeld => ?_)
  · first
      | assumption
      | exact f4_keep bt rfl (by assumption)
      | exact f4_keep (Below.drew (Below.refl _ _)) rfl FF
  refine wpAnyH_take (i := 0) (v := ?_) rfl (by kernel_rfl) (by kernel_rfl) (by kernel_rfl) (fun _ _ _ h => h) (Or.inl ⟨by kernel_rfl, ?_⟩) (by assumption) ?_
  rotate_left
  · (intro w hSw; (try dsimp only at hSw); go_simp; first | done | with_reducible rfl)
  try simp only [Act.put, List.setIfInBounds_toArray, List.set_cons_zero, List.set_cons_succ]
  refine wpAnyH_take (i := 1) (v := ?_) rfl (by kernel_rfl) (by kernel_rfl) (by kernel_rfl) (fun _ _ _ h => h) (Or.inl ⟨by kernel_rfl, ?_⟩) (by assumption) ?_
  rotate_left
  · (intro w hSw; (try dsimp only at hSw); go_simp; first | done | with_reducible rfl)
  try simp only [Act.put, List.setIfInBounds_toArray, List.set_cons_zero, List.set_cons_succ]
  refine wpAnyH_take (i := 2) (v := ?_) rfl (by kernel_rfl) (by kernel_rfl) (by kernel_rfl) (fun _ _ _ h => h) (Or.inl ⟨by kernel_rfl, ?_⟩) (by assumption) ?_
  rotate_left
  · (intro w hSw; (try dsimp only at hSw); go_simp; first | done | with_reducible rfl)
  try simp only [Act.put, List.setIfInBounds_toArray, List.set_cons_zero, List.set_cons_succ]
  refine wpAnyH_take (i := 3) (v := ?_) rfl (by kernel_rfl) (by kernel_rfl) (by kernel_rfl) (fun _ _ _ h => h) (Or.inl ⟨by kernel_rfl, ?_⟩) (by assumption) ?_
  rotate_left
  · (intro w hSw; (try dsimp only at hSw); go_simp; first | done | with_reducible rfl)
  try simp only [Act.put, List.setIfInBounds_toArray, List.set_cons_zero, List.set_cons_succ]
  refine wpAnyH_take (i := 4) (v := ?_) rfl (by kernel_rfl) (by kernel_rfl) (by kernel_rfl) (fun _ _ _ h => h) (Or.inl ⟨by kernel_rfl, ?_⟩) (by assumption) ?_
  rotate_left
  · (intro w hSw; (try dsimp only at hSw); go_simp; first | done | with_reducible rfl)
  try simp only [Act.put, List.setIfInBounds_toArray, List.set_cons_zero, List.set_cons_succ]
  refine wpAnyH_take (i := 5) (v := ?_) rfl (by kernel_rfl) (by kernel_rfl) (by kernel_rfl) (fun _ _ _ h => h) (Or.inl ⟨by kernel_rfl, ?_⟩) (by assumption) ?_
  rotate_left
  · (intro w hSw; (try dsimp only at hSw); go_simp; first | done | with_reducible rfl)
  try simp only [Act.put, List.setIfInBounds_toArray, List.set_cons_zero, List.set_cons_succ]
  refine wpAnyH_take (i := 6) (v := ?_) rfl (by kernel_rfl) (by kernel_rfl) (by kernel_rfl) (fun _ _ _ h => h) (Or.inl ⟨by kernel_rfl, ?_⟩) (by assumption) ?_
  rotate_left
  · (intro w hSw; (try dsimp only at hSw); go_simp; first | done | with_reducible rfl)
  try simp only [Act.put, List.setIfInBounds_toArray, List.set_cons_zero, List.set_cons_succ]
  refine wpAnyH_take (i := 7) (v := ?_) rfl (by kernel_rfl) (by kernel_rfl) (by kernel_rfl) (fun _ _ _ h => h) (Or.inl ⟨by kernel_rfl, ?_⟩) (by assumption) ?_
  rotate_left
  · (intro w hSw; (try dsimp only at hSw); go_simp; first | done | with_reducible rfl)
  try simp only [Act.put, List.setIfInBounds_toArray, List.set_cons_zero, List.set_cons_succ]
  refine wpAnyH_take (i := 8) (v := ?_) rfl (by kernel_rfl) (by kernel_rfl) (by kernel_rfl) (fun _ _ _ h => h) (Or.inl ⟨by kernel_rfl, ?_⟩) (by assumption) ?_
  rotate_left
  · (intro w hSw; (try dsimp only at hSw); go_simp; first | done | with_reducible rfl)
  try simp only [Act.put, List.setIfInBounds_toArray, List.set_cons_zero, List.set_cons_succ]
  refine wpAnyH_take (i := 9) (v := ?_) rfl (by kernel_rfl) (by kernel_rfl) (by kernel_rfl) (fun _ _ _ h => h) (Or.inl ⟨by kernel_rfl, ?_⟩) (by assumption) ?_
  rotate_left
  · (intro w hSw; (try dsimp only at hSw); go_simp; first | done | with_reducible rfl)
  try simp only [Act.put, List.setIfInBounds_toArray, List.set_cons_zero, List.set_cons_succ]
  refine wpAnyH_take (i := 10) (v := ?_) rfl (by kernel_rfl) (by kernel_rfl) (by kernel_rfl) (fun _ _ _ h => h) (Or.inl ⟨by kernel_rfl, ?_⟩) (by assumption) ?_
  rotate_left
  · (intro w hSw; (try dsimp only at hSw); go_simp; first | done | with_reducible rfl)
  try simp only [Act.put, List.setIfInBounds_toArray, List.set_cons_zero, List.set_cons_succ]
  refine wpAnyH_take (i := 12) (v := ?_) rfl (by kernel_rfl) (by kernel_rfl) (by kernel_rfl) (fun _ _ _ h => h) (Or.inl ⟨by kernel_rfl, ?_⟩) (by assumption) ?_
  rotate_left
  · (intro w hSw; (try dsimp only at hSw); go_simp; first | done | with_reducible rfl)
  try simp only [Act.put, List.setIfInBounds_toArray, List.set_cons_zero, List.set_cons_succ]
  refine wpAnyH_take (i := 13) (v := ?_) rfl (by kernel_rfl) (by kernel_rfl) (by kernel_rfl) (fun _ _ _ h => h) (Or.inl ⟨by kernel_rfl, ?_⟩) (by assumption) ?_
  rotate_left
  · (intro w hSw; (try dsimp only at hSw); go_simp; first | done | with_reducible rfl)
  try simp only [Act.put, List.setIfInBounds_toArray, List.set_cons_zero, List.set_cons_succ]
  refine wpAnyH_ready (rs := [11]) (by kernel_rfl) (by simp) ?_
  refine AllReadyH.cons rfl (fun K hK => ?_) AllReadyH.nil
  go_simp
  go_at_call 24; refine (HC.out _).mono ?_; rintro e wt ⟨rfl, bt⟩
  (try go_wp2_with fail)
  refine hK.out _ _ ?_ (fun hHeld => ?_)
  · first
      | assumption
      | exact f4_keep bt rfl (by assumption)
      | exact f4_keep (Below.drew (Below.refl _ _)) rfl FF
  clear hK K
  try simp only [Act.put, List.setIfInBounds_toArray, List.set_cons_zero, List.set_cons_succ]
  refine wpAnyH_ready (rs := [14]) (by kernel_rfl) (by simp) ?_
  refine AllReadyH.cons rfl (fun K hK => ?_) AllReadyH.nil
  go_simp
  go_at_call 25; refine (HC2.out _).mono ?_; rintro e wt ⟨rfl, bt⟩
  (try go_wp2_with fail)
  refine hK.out _ _ ?_ (fun hHeld => ?_)
  · first
      | assumption
      | exact f4_keep bt rfl (by assumption)
      | exact f4_keep (Below.drew (Below.refl _ _)) rfl FF
  clear hK K
  try simp only [Act.put, List.setIfInBounds_toArray, List.set_cons_zero, List.set_cons_succ]
  refine wpAnyH_take (i := 15) (v := ?_) rfl (by kernel_rfl) (by kernel_rfl) (by kernel_rfl) (fun _ _ _ h => h) (Or.inl ⟨by kernel_rfl, ?_⟩) (by assumption) ?_
  rotate_left
  · (intro w hSw; (try dsimp only at hSw); go_simp; first | done | with_reducible rfl)
  try simp only [Act.put, List.setIfInBounds_toArray, List.set_cons_zero, List.set_cons_succ]
  refine wpAnyH_ready (rs := [16]) (by kernel_rfl) (by simp) ?_
  refine AllReadyH.cons rfl (fun K hK => ?_) AllReadyH.nil
  go_simp
  refine hK.out _ _ ?_ (fun hHeld => ?_)
  · first
      | assumption
      | exact f4_keep bt rfl (by assumption)
      | exact f4_keep (Below.drew (Below.refl _ _)) rfl FF
  clear hK K
  try simp only [Act.put, List.setIfInBounds_toArray, List.set_cons_zero, List.set_cons_succ]
  refine wpAnyH_done (by kernel_rfl) ?_ _
  have F6 := Lib.hid (show (wt.cell? ⟨w.heap.size, 0, none⟩ = some (.int .i64 a.n) ∧ wt.cell? ⟨w.heap.size, 1, none⟩ = some (.int .i64 a.d) ∧ wt.cell? ⟨w.heap.size + 1, 0, none⟩ = some (.int .i64 b.n) ∧ wt.cell? ⟨w.heap.size + 1, 1, none⟩ = some (.int .i64 b.d)) ∧ (wt.cell? ⟨w2.heap.size, 0, none⟩ = some (.int .i64 q.n) ∧ wt.cell? ⟨w2.heap.size, 1, none⟩ = some (.int .i64 q.d) ∧ wt.frozen? ⟨w2.heap.size, 0, none⟩ = false ∧ wt.frozen? ⟨w2.heap.size, 1, none⟩ = false) ∧ (wt.cell? ⟨w3.heap.size, 0, none⟩ = some (.int .i64 q.n) ∧ wt.cell? ⟨w3.heap.size, 1, none⟩ = some (.int .i64 q.d) ∧ wt.frozen? ⟨w3.heap.size, 0, none⟩ = false ∧ wt.frozen? ⟨w3.heap.size, 1, none⟩ = false) ∧ w.heap.size + 2 ≤ wt.heap.size ∧ w2.heap.size < wt.heap.size ∧ w3.heap.size < wt.heap.size ∧ Below w.heap.size w wt from hHeld)
  clear hHeld FF
  generalize wt = v9 at *
  have FF := F6.out
  go_wp2_with fail
  refine wp_region_held_drew (S := fun w' => (w'.cell? ⟨w.heap.size, 0, none⟩ = some (.int .i64 a.n) ∧ w'.cell? ⟨w.heap.size, 1, none⟩ = some (.int .i64 a.d) ∧ w'.cell? ⟨w.heap.size + 1, 0, none⟩ = some (.int .i64 b.n) ∧ w'.cell? ⟨w.heap.size + 1, 1, none⟩ = some (.int .i64 b.d)) ∧ (w'.cell? ⟨w2.heap.size, 0, none⟩ = some (.int .i64 q.n) ∧ w'.cell? ⟨w2.heap.size, 1, none⟩ = some (.int .i64 q.d) ∧ w'.frozen? ⟨w2.heap.size, 0, none⟩ = false ∧ w'.frozen? ⟨w2.heap.size, 1, none⟩ = false) ∧ (w'.cell? ⟨w3.heap.size, 0, none⟩ = some (.int .i64 q.n) ∧ w'.cell? ⟨w3.heap.size, 1, none⟩ = some (.int .i64 q.d) ∧ w'.frozen? ⟨w3.heap.size, 0, none⟩ = false ∧ w'.frozen? ⟨w3.heap.size, 1, none⟩ = false) ∧ w.heap.size + 2 ≤ w'.heap.size ∧ w2.heap.size < w'.heap.size ∧ w3.heap.size < w'.heap.size ∧ Below w.heap.size w w') (by kernel_rfl) ?_ (fun hHeld => ?_)
  · first
      | assumption
      | exact f4_keep bt rfl (by assumption)
      | exact f4_keep (Below.drew (Below.refl _ _)) rfl FF
  refine wpAnyH_take (i := 0) (v := ?_) rfl (by kernel_rfl) (by kernel_rfl) (by kernel_rfl) (fun _ _ _ h => h) (Or.inl ⟨by kernel_rfl, ?_⟩) (by assumption) ?_
  rotate_left
  · (intro w hSw; (try dsimp only at hSw); go_simp; first | done | with_reducible rfl)
  try simp only [Act.put, List.setIfInBounds_toArray, List.set_cons_zero, List.set_cons_succ]
  refine wpAnyH_take (i := 1) (v := ?_) rfl (by kernel_rfl) (by kernel_rfl) (by kernel_rfl) (fun _ _ _ h => h) (Or.inl ⟨by kernel_rfl, ?_⟩) (by assumption) ?_
  rotate_left
  · (intro w hSw; (try dsimp only at hSw); go_simp; first | done | with_reducible rfl)
  try simp only [Act.put, List.setIfInBounds_toArray, List.set_cons_zero, List.set_cons_succ]
  refine wpAnyH_take (i := 2) (v := ?_) rfl (by kernel_rfl) (by kernel_rfl) (by kernel_rfl) (fun _ _ _ h => h) (Or.inl ⟨by kernel_rfl, ?_⟩) (by assumption) ?_
  rotate_left
  · (intro w hSw; (try dsimp only at hSw); go_simp; first | done | with_reducible rfl)
  try simp only [Act.put, List.setIfInBounds_toArray, List.set_cons_zero, List.set_cons_succ]
  refine wpAnyH_take (i := 4) (v := ?_) rfl (by kernel_rfl) (by kernel_rfl) (by kernel_rfl) (fun _ _ _ h => h) (Or.inl ⟨by kernel_rfl, ?_⟩) (by assumption) ?_
  rotate_left
  · (intro w hSw; (try dsimp only at hSw); go_simp; first | done | with_reducible rfl)
  try simp only [Act.put, List.setIfInBounds_toArray, List.set_cons_zero, List.set_cons_succ]
  refine wpAnyH_ready (rs := [3]) (by kernel_rfl) (by simp) ?_
  refine AllReadyH.cons rfl (fun K hK => ?_) AllReadyH.nil
  go_simp
  go_at_call 26; refine (HFloor.out _).mono ?_; rintro e wt ⟨rfl, bt⟩
  (try go_wp2_with fail)
  refine hK.out _ _ ?_ (fun hHeld => ?_)
  · first
      | assumption
      | exact f4_keep bt rfl (by assumption)
      | exact f4_keep (Below.drew (Below.refl _ _)) rfl FF
  clear hK K
  try simp only [Act.put, List.setIfInBounds_toArray, List.set_cons_zero, List.set_cons_succ]
  refine wpAnyH_ready (rs := [5]) (by kernel_rfl) (by simp) ?_
  refine AllReadyH.cons rfl (fun K hK => ?_) AllReadyH.nil
  go_simp
  go_at_call 27; refine (HFloor2.out _).mono ?_; rintro e wt ⟨rfl, bt⟩
  (try go_wp2_with fail)
  refine hK.out _ _ ?_ (fun hHeld => ?_)
  · first
      | assumption
      | exact f4_keep bt rfl (by assumption)
      | exact f4_keep (Below.drew (Below.refl _ _)) rfl FF
  clear hK K
  try simp only [Act.put, List.setIfInBounds_toArray, List.set_cons_zero, List.set_cons_succ]
  refine wpAnyH_take (i := 6) (v := ?_) rfl (by kernel_rfl) (by kernel_rfl) (by kernel_rfl) (fun _ _ _ h => h) (Or.inl ⟨by kernel_rfl, ?_⟩) (by assumption) ?_
  rotate_left
  · (intro w hSw; (try dsimp only at hSw); go_simp; first | done | with_reducible rfl)
  try simp only [Act.put, List.setIfInBounds_toArray, List.set_cons_zero, List.set_cons_succ]
  refine wpAnyH_take (i := 7) (v := ?_) rfl (by kernel_rfl) (by kernel_rfl) (by kernel_rfl) (fun _ _ _ h => h) (Or.inl ⟨by kernel_rfl, ?_⟩) (by assumption) ?_
  rotate_left
  · (intro w hSw; (try dsimp only at hSw); go_simp; first | done | with_reducible rfl)
  try simp only [Act.put, List.setIfInBounds_toArray, List.set_cons_zero, List.set_cons_succ]
  refine wpAnyH_take (i := 8) (v := ?_) rfl (by kernel_rfl) (by kernel_rfl) (by kernel_rfl) (fun _ _ _ h => h) (Or.inl ⟨by kernel_rfl, ?_⟩) (by assumption) ?_
  rotate_left
  · (intro w hSw; (try dsimp only at hSw); go_simp; first | done | with_reducible rfl)
  try simp only [Act.put, List.setIfInBounds_toArray, List.set_cons_zero, List.set_cons_succ]
  refine wpAnyH_take (i := 9) (v := ?_) rfl (by kernel_rfl) (by kernel_rfl) (by kernel_rfl) (fun _ _ _ h => h) (Or.inl ⟨by kernel_rfl, ?_⟩) (by assumption) ?_
  rotate_left
  · (intro w hSw; (try dsimp only at hSw); go_simp; first | done | with_reducible rfl)
  try simp only [Act.put, List.setIfInBounds_toArray, List.set_cons_zero, List.set_cons_succ]
  refine wpAnyH_take (i := 11) (v := ?_) rfl (by kernel_rfl) (by kernel_rfl) (by kernel_rfl) (fun _ _ _ h => h) (Or.inl ⟨by kernel_rfl, ?_⟩) (by assumption) ?_
  rotate_left
  · (intro w hSw; (try dsimp only at hSw); go_simp; first | done | with_reducible rfl)
  try simp only [Act.put, List.setIfInBounds_toArray, List.set_cons_zero, List.set_cons_succ]
  refine wpAnyH_ready (rs := [10]) (by kernel_rfl) (by simp) ?_
  refine AllReadyH.cons rfl (fun K hK => ?_) AllReadyH.nil
  go_simp
  go_at_call 28; refine (HCeil.out _).mono ?_; rintro e wt ⟨rfl, bt⟩
  (try go_wp2_with fail)
  refine hK.out _ _ ?_ (fun hHeld => ?_)
  · first
      | assumption
      | exact f4_keep bt rfl (by assumption)
      | exact f4_keep (Below.drew (Below.refl _ _)) rfl FF
  clear hK K
  try simp only [Act.put, List.setIfInBounds_toArray, List.set_cons_zero, List.set_cons_succ]
  refine wpAnyH_ready (rs := [12]) (by kernel_rfl) (by simp) ?_
  refine AllReadyH.cons rfl (fun K hK => ?_) AllReadyH.nil
  go_simp
  go_at_call 29; refine (HCeil2.out _).mono ?_; rintro e wt ⟨rfl, bt⟩
  (try go_wp2_with fail)
  refine hK.out _ _ ?_ (fun hHeld => ?_)
  · first
      | assumption
      | exact f4_keep bt rfl (by assumption)
      | exact f4_keep (Below.drew (Below.refl _ _)) rfl FF
  clear hK K
  try simp only [Act.put, List.setIfInBounds_toArray, List.set_cons_zero, List.set_cons_succ]
  refine wpAnyH_take (i := 13) (v := ?_) rfl (by kernel_rfl) (by kernel_rfl) (by kernel_rfl) (fun _ _ _ h => h) (Or.inl ⟨by kernel_rfl, ?_⟩) (by assumption) ?_
  rotate_left
  · (intro w hSw; (try dsimp only at hSw); go_simp; first | done | with_reducible rfl)
  try simp only [Act.put, List.setIfInBounds_toArray, List.set_cons_zero, List.set_cons_succ]
  refine wpAnyH_take (i := 14) (v := ?_) rfl (by kernel_rfl) (by kernel_rfl) (by kernel_rfl) (fun _ _ _ h => h) (Or.inl ⟨by kernel_rfl, ?_⟩) (by assumption) ?_
  rotate_left
  · (intro w hSw; (try dsimp only at hSw); go_simp; first | done | with_reducible rfl)
  try simp only [Act.put, List.setIfInBounds_toArray, List.set_cons_zero, List.set_cons_succ]
  refine wpAnyH_take (i := 15) (v := ?_) rfl (by kernel_rfl) (by kernel_rfl) (by kernel_rfl) (fun _ _ _ h => h) (Or.inl ⟨by kernel_rfl, ?_⟩) (by assumption) ?_
  rotate_left
  · (intro w hSw; (try dsimp only at hSw); go_simp; first | done | with_reducible rfl)
  try simp only [Act.put, List.setIfInBounds_toArray, List.set_cons_zero, List.set_cons_succ]
  refine wpAnyH_take (i := 16) (v := ?_) rfl (by kernel_rfl) (by kernel_rfl) (by kernel_rfl) (fun _ _ _ h => h) (Or.inl ⟨by kernel_rfl, ?_⟩) (by assumption) ?_
  rotate_left
  · (intro w hSw; (try dsimp only at hSw); go_simp; first | done | with_reducible rfl)
  try simp only [Act.put, List.setIfInBounds_toArray, List.set_cons_zero, List.set_cons_succ]
  refine wpAnyH_take (i := 18) (v := ?_) rfl (by kernel_rfl) (by kernel_rfl) (by kernel_rfl) (fun _ _ _ h => h) (Or.inl ⟨by kernel_rfl, ?_⟩) (by assumption) ?_
  rotate_left
  · (intro w hSw; (try dsimp only at hSw); go_simp; first | done | with_reducible rfl)
  try simp only [Act.put, List.setIfInBounds_toArray, List.set_cons_zero, List.set_cons_succ]
  refine wpAnyH_ready (rs := [17]) (by kernel_rfl) (by simp) ?_
  refine AllReadyH.cons rfl (fun K hK => ?_) AllReadyH.nil
  go_simp
  go_at_call 30; refine (HNearest.out _).mono ?_; rintro e wt ⟨rfl, bt⟩
  (try go_wp2_with fail)
  refine hK.out _ _ ?_ (fun hHeld => ?_)
  · first
      | assumption
      | exact f4_keep bt rfl (by assumption)
      | exact f4_keep (Below.drew (Below.refl _ _)) rfl FF
  clear hK K
  try simp only [Act.put, List.setIfInBounds_toArray, List.set_cons_zero, List.set_cons_succ]
  refine wpAnyH_ready (rs := [19]) (by kernel_rfl) (by simp) ?_
  refine AllReadyH.cons rfl (fun K hK => ?_) AllReadyH.nil
  go_simp
  go_at_call 31; refine (HNearest2.out _).mono ?_; rintro e wt ⟨rfl, bt⟩
  (try go_wp2_with fail)
  refine hK.out _ _ ?_ (fun hHeld => ?_)
  · first
      | assumption
      | exact f4_keep bt rfl (by assumption)
      | exact f4_keep (Below.drew (Below.refl _ _)) rfl FF
  clear hK K
  try simp only [Act.put, List.setIfInBounds_toArray, List.set_cons_zero, List.set_cons_succ]
  refine wpAnyH_take (i := 20) (v := ?_) rfl (by kernel_rfl) (by kernel_rfl) (by kernel_rfl) (fun _ _ _ h => h) (Or.inl ⟨by kernel_rfl, ?_⟩) (by assumption) ?_
  rotate_left
  · (intro w hSw; (try dsimp only at hSw); go_simp; first | done | with_reducible rfl)
  try simp only [Act.put, List.setIfInBounds_toArray, List.set_cons_zero, List.set_cons_succ]
  refine wpAnyH_take (i := 21) (v := ?_) rfl (by kernel_rfl) (by kernel_rfl) (by kernel_rfl) (fun _ _ _ h => h) (Or.inl ⟨by kernel_rfl, ?_⟩) (by assumption) ?_
  rotate_left
  · (intro w hSw; (try dsimp only at hSw); go_simp; first | done | with_reducible rfl)
  try simp only [Act.put, List.setIfInBounds_toArray, List.set_cons_zero, List.set_cons_succ]
  refine wpAnyH_ready (rs := [22]) (by kernel_rfl) (by simp) ?_
  refine AllReadyH.cons rfl (fun K hK => ?_) AllReadyH.nil
  go_simp
  refine hK.out _ _ ?_ (fun hHeld => ?_)
  · first
      | assumption
      | exact f4_keep bt rfl (by assumption)
      | exact f4_keep (Below.drew (Below.refl _ _)) rfl FF
  clear hK K
  try simp only [Act.put, List.setIfInBounds_toArray, List.set_cons_zero, List.set_cons_succ]
  refine wpAnyH_done (by kernel_rfl) ?_ _
  have F7 := Lib.hid (show (wt.cell? ⟨w.heap.size, 0, none⟩ = some (.int .i64 a.n) ∧ wt.cell? ⟨w.heap.size, 1, none⟩ = some (.int .i64 a.d) ∧ wt.cell? ⟨w.heap.size + 1, 0, none⟩ = some (.int .i64 b.n) ∧ wt.cell? ⟨w.heap.size + 1, 1, none⟩ = some (.int .i64 b.d)) ∧ (wt.cell? ⟨w2.heap.size, 0, none⟩ = some (.int .i64 q.n) ∧ wt.cell? ⟨w2.heap.size, 1, none⟩ = some (.int .i64 q.d) ∧ wt.frozen? ⟨w2.heap.size, 0, none⟩ = false ∧ wt.frozen? ⟨w2.heap.size, 1, none⟩ = false) ∧ (wt.cell? ⟨w3.heap.size, 0, none⟩ = some (.int .i64 q.n) ∧ wt.cell? ⟨w3.heap.size, 1, none⟩ = some (.int .i64 q.d) ∧ wt.frozen? ⟨w3.heap.size, 0, none⟩ = false ∧ wt.frozen? ⟨w3.heap.size, 1, none⟩ = false) ∧ w.heap.size + 2 ≤ wt.heap.size ∧ w2.heap.size < wt.heap.size ∧ w3.heap.size < wt.heap.size ∧ Below w.heap.size w wt from hHeld)
  clear hHeld FF
  go_wp2_with fail
  go_ret
  exact ⟨rfl, F7.out.2.2.2.2.2.2⟩

end Go.Proofs.Ytfchbkhgoebagaa

namespace Go.Proofs.Ytfchbkhgoebagaa
open Go.RowKit Ra

theorem tells_any (num den : Int) (a b : Q) (W : World) (h0 : -9223372036854775808 ≤ num ∧ num ≤ 9223372036854775807) (h1 : -9223372036854775808 ≤ den ∧ den ≤ 9223372036854775807) (ha : Q64 a) (hb : Q64 b) :
    Calls Try.prog 4 #[.int .i64 num, .int .i64 den, .agg #[.int .i64 a.n, .int .i64 a.d], .agg #[.int .i64 b.n, .int .i64 b.d]] W fun e w' => e = .returned (.bool true) ∧ Below W.heap.size W w' :=
  tells_core num den a b (makeV num den) (addV a b) (subV a b) (mulV a b) (divV a b) (makeE num den) (addE a b) (subE a b) (mulE a b) (divE a b) (cmpV a b) (floorV a) (ceilV a) (nearV a) (rightB a) W
    (Lib.hid sane_any) (Lib.hid fun w => make_any num den w h0.1 h0.2 h1.1 h1.2) (Lib.hid fun w => rmake_any num den w h0.1 h0.2 h1.1 h1.2)
    (Lib.hid fun w => right_any a w ha) (Lib.hid fun w => rright_any a w ha)
    (Lib.hid fun w => add_any a b w ha hb) (Lib.hid fun w => radd_any a b w ha hb) (Lib.hid fun w => sub_any a b w ha hb) (Lib.hid fun w => rsub_any a b w ha hb)
    (Lib.hid fun w => mul_any a b w ha hb) (Lib.hid fun w => rmul_any a b w ha hb) (Lib.hid fun w => div_any a b w ha hb) (Lib.hid fun w => rdiv_any a b w ha hb)
    (Lib.hid fun w => cmp_any a b w ha hb) (Lib.hid fun w => rcmp_any a b w ha hb)
    (Lib.hid fun w => floor_any a w ha) (Lib.hid fun w => rfloor_any a w ha) (Lib.hid fun w => ceil_any a w ha) (Lib.hid fun w => rceil_any a w ha) (Lib.hid fun w => near_any a w ha) (Lib.hid fun w => rnear_any a w ha)

end Go.Proofs.Ytfchbkhgoebagaa

namespace Go.Proofs.Ytfchbkhgoebagaa.tells
open Go.ChangeShapes Go.WideShapes Go.ChangeAt Go.RowKit Go.Deep Ra

set_option maxRecDepth 100000 in
theorem lifted (os : Os) (started : os.Started) (H : Type) (enc : TypeId × Value → H) :
    ReturnsInHanded {} Try.checked os 4 .any (Rows.ratioTellsSpec.pre6 enc Try.prog Try.f4 Rows.ratioTellsRow.domain false) (Rows.ratioTellsSpec.post enc Try.prog Try.f4 false true false false) := by
  refine returnsInHanded_of_change (C := Try.checked) own started (by kernel_rfl) Try.func4
    (ChangeSpec.witness6 (enc := enc) (C := Try.checked) false ⟨#[], #[.int .i64 0, .int .i64 0, .agg #[.int .i64 0, .int .i64 0], .agg #[.int .i64 0, .int .i64 0]], []⟩ 8 (by kernel_rfl) (by kernel_rfl) (by kernel_rfl) (by kernel_rfl)) ?_
  intro W base args ds gs before hval0 hW hcnd _
  have hval : ∀ (j : Nat) t v, Try.f4.params[j]? = some t → args[j]? = some v → Value.okWide Try.prog W .any base t v := hval0
  have hW' := hW
  obtain ⟨p, q, hA0, hV, rfl, hfz, hnd⟩ := hW
  have hA : DataW.TrodAll enc Try.prog W 0 (fun _ => true) true Try.f4.params.toList args.toList ds p := hA0
  rw [Try.params4] at hA hval
  obtain ⟨v0, vs0, d0, ds0, p0, q0, hargs, rfl, rfl, h0, r0⟩ := trodAll_cons hA
  obtain ⟨v1, vs1, d1, ds1, p1, q1, rfl, rfl, rfl, h1, r1⟩ := trodAll_cons r0
  obtain ⟨v2, vs2, d2, ds2, p2, q2, rfl, rfl, rfl, h2, r2⟩ := trodAll_cons r1
  obtain ⟨v3, vs3, d3, ds3, p3, q3, rfl, rfl, rfl, h3, r3⟩ := trodAll_cons r2
  obtain ⟨rfl, rfl, rfl⟩ := trodAll_nil r3
  obtain rfl : args = #[v0, v1, v2, v3] := by cases args; simp_all
  obtain ⟨rfl, rfl⟩ := trodVars_none hV
  have k0 := h0
  have lt0 : ∀ x ∈ p0, x.block < W.heap.size := by obtain ⟨m, hm⟩ := k0; exact DataW.trod_lt m _ _ _ hm
  have k1 := h1
  have lt1 : ∀ x ∈ p1, x.block < W.heap.size := by obtain ⟨m, hm⟩ := k1; exact DataW.trod_lt m _ _ _ hm
  have k2 := h2
  have lt2 : ∀ x ∈ p2, x.block < W.heap.size := by obtain ⟨m, hm⟩ := k2; exact DataW.trod_lt m _ _ _ hm
  have k3 := h3
  have lt3 : ∀ x ∈ p3, x.block < W.heap.size := by obtain ⟨m, hm⟩ := k3; exact DataW.trod_lt m _ _ _ hm
  obtain ⟨a0, rfl, rfl, rfl, w0⟩ := open_int Try.underlying3 (hval 0 3 v0 rfl rfl) h0
  obtain ⟨a1, rfl, rfl, rfl, w1⟩ := open_int Try.underlying3 (hval 1 3 v1 rfl rfl) h1
  obtain ⟨one2, rfl, hone2⟩ := open_q (hval 2 23 v2 rfl rfl) h2
  obtain ⟨one3, rfl, hone3⟩ := open_q (hval 3 23 v3 rfl rfl) h3
  clear hA0 hval0
  refine (tells_any a0 a1 one2 one3 W (bounds_i64 w0) (bounds_i64 w1) hone2 hone3).mono fun e W' ⟨he, bel⟩ => ?_
  subst he
  exact ⟨_, rfl, _, _, _, [], _, [], hW', trodAll_mk1 (shut_bool Try.underlying4 _), (trodAll_cons_mk (Below.trod laidOut (by kernel_rfl) (of_decide_eq_true (by kernel_rfl)) k0 bel lt0) (trodAll_cons_mk (Below.trod laidOut (by kernel_rfl) (of_decide_eq_true (by kernel_rfl)) k1 bel lt1) (trodAll_cons_mk (Below.trod laidOut (by kernel_rfl) (of_decide_eq_true (by kernel_rfl)) k2 bel lt2) (trodAll_cons_mk (Below.trod laidOut (by kernel_rfl) (of_decide_eq_true (by kernel_rfl)) k3 bel lt3) trodAll_mk0)))), rfl, bel.frame _, fun h => by cases h⟩

theorem proved : Rows.RatioTellsSaid :=
  OpenClaim.holds_of_wide 4 Try.f4 rfl rfl rfl rfl rfl rfl rfl ⟨rfl, rfl, rfl, rfl, rfl⟩ rfl rfl rfl rfl rfl (by kernel_rfl) Try.func4 (by kernel_rfl)
    (of_decide_eq_true (by kernel_rfl)) (by unfold Func.isWrapper; first | (rw [if_pos (by decide +kernel)]; kernel_rfl) | (rw [if_neg (by decide +kernel)]; exact ⟨rfl, rfl⟩))
    (fun os started H enc _ => lifted os started H enc)

end Go.Proofs.Ytfchbkhgoebagaa.tells

