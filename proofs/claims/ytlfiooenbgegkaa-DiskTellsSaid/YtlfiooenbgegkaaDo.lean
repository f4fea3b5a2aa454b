/- The reference's zeros, up, Read, Arm, Cut, Start, walked. -/
import Derived.Test.YtlfiooenbgegkaaDn
namespace Go.Proofs.Ytlfiooenbgegkaa
open Go.RowKit Ds
set_option linter.unusedSimpArgs false
set_option linter.unusedVariables false

theorem disk_set1 {w : World} {g : Nat} {p1 p2 : Option Addr} {n1 c1 n2 c2 : Nat} {i : Int} {b : Bool} {t : TypeId} {A : Option Addr} {c : Nat} {A' : Option Addr} {c' : Nat} {d : Dk} (hg : w.heap[g]? = some (.cells #[.slice p1 n1 c1, .slice p2 n2 c2, .int .i64 i, .bool b] t (0, 0))) (h : DiskAt w w.heap.size A c A' c' d) {k : Nat} {y : Value} :
    DiskAt (w.setCell ⟨g, k, none⟩ y) (w.setCell ⟨g, k, none⟩ y).heap.size A c A' c' d :=
  ⟨fun hn => (((h.secs.set (p := ⟨g, k, none⟩) (box_not_secs hg h.secs hn) y).more (by simp)) hn), fun hn => (((h.pend.set (p := ⟨g, k, none⟩) (box_not_pend hg h.pend hn) y).more (by simp)) hn), h.lS, h.lP, h.cP⟩
theorem zeros_succ (k : Nat) : zeros k ++ ⟨#[0]⟩ = zeros (k + 1) := by
  unfold zeros
  apply ByteArray.ext
  rw [ByteArray.data_append]
  apply Array.toList_inj.1
  simp [List.replicate_succ']
set_option maxHeartbeats 4000000 in
theorem rzeros_any (n : Nat) (w : World) (hn : n ≤ 100) : Calls Try.prog 32 #[.int .i64 n] w fun e w' => e = .returned (.string (zeros n)) ∧ w = w' := by
  go_enter Try.func32, Try.ntmps32
  go_wp2_with fail
  go_loop [3, 4] (fun v i => ∃ (k : Nat) (z : ByteArray), i = .int .i64 k ∧ v = .string z ∧ k ≤ n ∧ Hid (z = zeros k)) (fun _ i => n - (intOf i).toNat)
  case atStart => exact ⟨0, _, rfl, rfl, by omega, Lib.hid rfl⟩
  case round =>
    obtain ⟨k, z, rfl, rfl, hk, HZ⟩ := hrel
    have hzs : z.size = k := by rw [HZ.out, zeros_size]
    by_cases hlt : k < n
    · have hb : ¬ 9223372036854775807 < z.size + 1 := by omega
      clear hzs
      go_wp2_with fail
      go_round
      case rel => exact ⟨k + 1, _, by go_num, rfl, by omega, Lib.hid (by rw [HZ.out]; exact zeros_succ k)⟩
      case measure => simp [intOf]; omega
    · obtain rfl : n = k := by omega
      clear hzs
      go_wp2_with fail
      go_ret
      exact ⟨by rw [HZ.out]; rfl, rfl⟩

theorem rup_core (A : Option Addr) (n c : Nat) (A' : Option Addr) (n' c' : Nat) (left er : Int) (dd : Bool) (w : World)
    (HR : Hid (∀ wx, Below w.heap.size w wx → Calls Try.prog 14 #[.agg #[.slice A n c, .slice A' n' c', .int .i64 left, .bool dd]] wx fun e w' => e = .returned (.int .i64 er) ∧ Below wx.heap.size wx w')) (h : er = 0 ∨ er = 1) :
    Calls Try.prog 36 #[.agg #[.slice A n c, .slice A' n' c', .int .i64 left, .bool dd]] w fun e w' => e = .returned (.int .i64 (if er = 0 ∧ dd = true then 8 else er)) ∧ Below w.heap.size w w' := by
  rcases h with rfl | rfl <;> cases dd <;> simp only [if_true, if_false, Bool.false_eq_true, reduceIte, and_true, and_false, true_and, false_and, Int.one_ne_zero, ite_self]
  all_goals
    go_enter Try.func36, Try.ntmps36
    go_wp2_with fail
    refine (HR.out _ ((Below.refl _ _).alloc (Nat.le_refl _) _)).mono ?_
    rintro e w1 ⟨rfl, b1⟩
    obtain ⟨⟨c0, c1, c2, c3⟩, f, hz, hb⟩ := box_four b1 (by simp)
    have HB := Lib.hid hb
    clear b1 hb f
    go_wp2_with fail
    go_ret
    exact ⟨rfl, HB.out⟩
theorem rup_any (A : Option Addr) (c : Nat) (A' : Option Addr) (c' : Nat) (d : Dk) (w : World) (h : DiskAt w w.heap.size A c A' c' d) :
    Calls Try.prog 36 #[dv A c A' c' d] w fun e w' => e = .returned (.int .i64 (upE d)) ∧ Below w.heap.size w w' := by
  have := rup_core A _ c A' _ c' d.left (checkE d) d.down w (Lib.hid fun wx hx => rcheck_any A c A' c' d wx (h.step hx)) (by unfold checkE; split; exact .inl rfl; exact .inr rfl)
  have e : (if checkE d = 0 ∧ d.down = true then 8 else checkE d) = upE d := by
    unfold checkE upE
    cases rightB d <;> cases d.down <;> rfl
  rw [e] at this
  exact this
abbrev RUp (A : Option Addr) (n c : Nat) (A' : Option Addr) (n' c' : Nat) (left : Int) (down : Bool) (er : Int) (w : World) : Prop :=
  ∀ wx, Below w.heap.size w wx → Calls Try.prog 36 #[.agg #[.slice A n c, .slice A' n' c', .int .i64 left, .bool down]] wx fun e w' => e = .returned (.int .i64 er) ∧ Below wx.heap.size wx w'

theorem rarm_bad (A : Option Addr) (n c : Nat) (A' : Option Addr) (n' c' : Nat) (left : Int) (down : Bool) (k : Int) (er : Int) (w : World) (HU : Hid (RUp A n c A' n' c' left down er w)) (h : er ≠ 0) :
    Calls Try.prog 22 #[.agg #[.slice A n c, .slice A' n' c', .int .i64 left, .bool down], .int .i64 k] w (DiskEnd w nilD er) := by
  have t1 : (er != 0) = true := by simpa using h
  clear h
  go_enter Try.func22, Try.ntmps22
  go_wp2_with fail
  refine (HU.out _ (by repeat first | with_reducible exact Below.refl _ _ | refine Below.alloc ?_ (by simp <;> omega) _)).mono ?_
  rintro e w1 ⟨rfl, b1⟩
  obtain ⟨⟨k1, k2⟩, hb, hz⟩ := boxes2 b1 (by simp)
  obtain ⟨⟨a0, a1, a2, a3⟩, f0, f1, f2, f3⟩ := blk4 k2
  have HB := Lib.hid hb
  clear k1 k2 b1 hb
  go_wp2_with fail
  refine bodyPost_ret (v := .tuple #[dv none 0 none 0 nilD, .int .i64 er]) (by simp [results, Try.results22, go_sem, dv, dcells, nilD, *]) rfl (DiskEnd.none_ ?_)
  repeat first | with_reducible exact HB.out | refine Below.setCell ?_ (by simp only; omega) _

theorem rarm_out (A : Option Addr) (n c : Nat) (A' : Option Addr) (n' c' : Nat) (left : Int) (down : Bool) (k : Int) (er : Int) (w : World) (HU : Hid (RUp A n c A' n' c' left down 0 w)) (h : (k < 0 ∧ er = 1) ∨ (0 ≤ k ∧ 512 < k ∧ er = 1)) :
    Calls Try.prog 22 #[.agg #[.slice A n c, .slice A' n' c', .int .i64 left, .bool down], .int .i64 k] w (DiskEnd w nilD er) := by
  rcases h with ⟨h, rfl⟩ | ⟨h, h2, rfl⟩
  all_goals
    go_enter Try.func22, Try.ntmps22
    go_wp2_with fail
    refine (HU.out _ (by repeat first | with_reducible exact Below.refl _ _ | refine Below.alloc ?_ (by simp <;> omega) _)).mono ?_
    rintro e w1 ⟨rfl, b1⟩
    obtain ⟨⟨k1, k2⟩, hb, hz⟩ := boxes2 b1 (by simp)
    obtain ⟨⟨a0, a1, a2, a3⟩, f0, f1, f2, f3⟩ := blk4 k2
    obtain ⟨⟨a4, a5, a6, a7⟩, f4⟩ := blk4 k1
    have HB := Lib.hid hb
    clear k1 k2 b1 hb f4
    go_wp2_with fail
    refine bodyPost_ret (v := .tuple #[dv none 0 none 0 nilD, .int .i64 _]) (by simp [results, Try.results22, go_sem, dv, dcells, nilD, *]) rfl (DiskEnd.none_ ?_)
    repeat first | with_reducible exact HB.out | refine Below.setCell ?_ (by simp only; omega) _

theorem rcut_bad (A : Option Addr) (n c : Nat) (A' : Option Addr) (n' c' : Nat) (left : Int) (down : Bool) (er : Int) (w : World) (HU : Hid (RUp A n c A' n' c' left down er w)) (h : er ≠ 0) :
    Calls Try.prog 24 #[.agg #[.slice A n c, .slice A' n' c', .int .i64 left, .bool down]] w (DiskEnd w nilD er) := by
  have t1 : (er != 0) = true := by simpa using h
  clear h
  go_enter Try.func24, Try.ntmps24
  go_wp2_with fail
  refine (HU.out _ (by repeat first | with_reducible exact Below.refl _ _ | refine Below.alloc ?_ (by simp <;> omega) _)).mono ?_
  rintro e w1 ⟨rfl, b1⟩
  obtain ⟨⟨k1, k2⟩, hb, hz⟩ := boxes2 b1 (by simp)
  obtain ⟨⟨a0, a1, a2, a3⟩, f0, f1, f2, f3⟩ := blk4 k2
  have HB := Lib.hid hb
  clear k1 k2 b1 hb
  go_wp2_with fail
  refine bodyPost_ret (v := .tuple #[dv none 0 none 0 nilD, .int .i64 er]) (by simp [results, Try.results24, go_sem, dv, dcells, nilD, *]) rfl (DiskEnd.none_ ?_)
  repeat first | with_reducible exact HB.out | refine Below.setCell ?_ (by simp only; omega) _

set_option maxHeartbeats 4000000 in
theorem rarm_good (A : Option Addr) (c : Nat) (A' : Option Addr) (c' : Nat) (d : Dk) (k : Int) (w : World) (h : DiskAt w w.heap.size A c A' c' d) (hu : upE d = 0) (h0 : 0 ≤ k) (h1 : k ≤ 512) :
    Calls Try.prog 22 #[dv A c A' c' d, .int .i64 k] w (DiskEnd w { d with left := k } 0) := by
  have HU := Lib.hid (fun wx (hx : Below w.heap.size w wx) => by have := rup_any A c A' c' d wx (h.step hx); rw [hu] at this; exact this)
  have HD := Lib.hid h
  obtain ⟨l, p, left, down⟩ := d
  unfold dv dcells at *
  simp only at *
  clear h hu
  go_enter Try.func22, Try.ntmps22
  go_wp2_with fail
  refine (HU.out _ (by repeat first | with_reducible exact Below.refl _ _ | refine Below.alloc ?_ (by simp <;> omega) _)).mono ?_
  rintro e w1 ⟨rfl, b1⟩
  obtain ⟨⟨k1, k2⟩, hb, hz⟩ := boxes2 b1 (by simp)
  have K1 := Lib.hid k1
  have K2 := Lib.hid k2
  have HB := Lib.hid hb
  have HD1 := Lib.hid (HD.out.step hb)
  obtain ⟨⟨a0, a1, a2, a3⟩, f0, f1, f2, f3⟩ := blk4 k1
  obtain ⟨⟨s0, s1, s2, s3⟩, sf0, sf1, sf2, sf3⟩ := blk4 k2
  clear k1 k2 b1 hb
  go_wp2_with fail
  refine bodyPost_ret (v := .tuple #[.agg #[.slice A l.length c, .slice A' p.length c', .int .i64 k, .bool down], .int .i64 0]) (by simp [results, Try.results22, go_sem, *]) rfl ?_
  have hX : (((w1.setCell ⟨w.heap.size, 2, none⟩ (.int .i64 k))).heap[w.heap.size + 1]?) = some (.cells #[.slice none 0 0, .slice none 0 0, .int .i64 0, .bool false] 25 (0, 0)) := blk_other K2.out (by simp)
  have hD1 : DiskAt (w1.setCell ⟨w.heap.size, 2, none⟩ (.int .i64 k)) (w1.setCell ⟨w.heap.size, 2, none⟩ (.int .i64 k)).heap.size A c A' c' ⟨l, p, left, down⟩ := disk_set1 K1.out HD1.out
  have hD2 := disk_set4 hX hD1 (y0 := (.slice A l.length c)) (y1 := (.slice A' p.length c')) (y2 := (.int .i64 k)) (y3 := (.bool down))
  have hB2 : Below w.heap.size w (((((w1.setCell ⟨w.heap.size, 2, none⟩ (.int .i64 k)).setCell ⟨w.heap.size + 1, 0, none⟩ (.slice A l.length c)).setCell ⟨w.heap.size + 1, 1, none⟩ (.slice A' p.length c')).setCell ⟨w.heap.size + 1, 2, none⟩ (.int .i64 k)).setCell ⟨w.heap.size + 1, 3, none⟩ (.bool down)) := ((((HB.out.setCell (by simp) _).setCell (by simp) _).setCell (by simp) _).setCell (by simp) _).setCell (by simp) _
  exact ⟨A, c, A', c', by simp [dv, dcells], ⟨hD2.secs, hD2.pend, hD2.lS, hD2.lP, hD2.cP⟩, hB2⟩

set_option maxHeartbeats 4000000 in
theorem rstart_good (A : Option Addr) (c : Nat) (A' : Option Addr) (c' : Nat) (d : Dk) (w : World) (h : DiskAt w w.heap.size A c A' c' d) (hu : rightB d = true) (hd : d.down = true) :
    Calls Try.prog 26 #[dv A c A' c' d] w (DiskEnd w { d with down := false } 0) := by
  have HR := Lib.hid (fun wx (hx : Below w.heap.size w wx) => by have := rcheck_any A c A' c' d wx (h.step hx); rw [show checkE d = 0 by unfold checkE; rw [if_pos hu]] at this; exact this)
  have HD := Lib.hid h
  obtain ⟨l, p, left, down⟩ := d
  unfold dv dcells at *
  simp only at *
  clear h hu
  subst hd
  go_enter Try.func26, Try.ntmps26
  go_wp2_with fail
  refine (HR.out _ (by repeat first | with_reducible exact Below.refl _ _ | refine Below.alloc ?_ (by simp <;> omega) _)).mono ?_
  rintro e w1 ⟨rfl, b1⟩
  obtain ⟨⟨k1, k2⟩, hb, hz⟩ := boxes2 b1 (by simp)
  have K1 := Lib.hid k1
  have K2 := Lib.hid k2
  have HB := Lib.hid hb
  have HD1 := Lib.hid (HD.out.step hb)
  obtain ⟨⟨a0, a1, a2, a3⟩, f0, f1, f2, f3⟩ := blk4 k1
  obtain ⟨⟨s0, s1, s2, s3⟩, sf0, sf1, sf2, sf3⟩ := blk4 k2
  clear k1 k2 b1 hb
  go_wp2_with fail
  refine bodyPost_ret (v := .tuple #[.agg #[.slice A l.length c, .slice A' p.length c', .int .i64 left, .bool false], .int .i64 0]) (by simp [results, Try.results26, go_sem, *]) rfl ?_
  have hX : (((w1.setCell ⟨w.heap.size, 3, none⟩ (.bool false))).heap[w.heap.size + 1]?) = some (.cells #[.slice none 0 0, .slice none 0 0, .int .i64 0, .bool false] 25 (0, 0)) := blk_other K2.out (by simp)
  have hD1 : DiskAt (w1.setCell ⟨w.heap.size, 3, none⟩ (.bool false)) (w1.setCell ⟨w.heap.size, 3, none⟩ (.bool false)).heap.size A c A' c' ⟨l, p, left, true⟩ := disk_set1 K1.out HD1.out
  have hD2 := disk_set4 hX hD1 (y0 := (.slice A l.length c)) (y1 := (.slice A' p.length c')) (y2 := (.int .i64 left)) (y3 := (.bool false))
  have hB2 : Below w.heap.size w (((((w1.setCell ⟨w.heap.size, 3, none⟩ (.bool false)).setCell ⟨w.heap.size + 1, 0, none⟩ (.slice A l.length c)).setCell ⟨w.heap.size + 1, 1, none⟩ (.slice A' p.length c')).setCell ⟨w.heap.size + 1, 2, none⟩ (.int .i64 left)).setCell ⟨w.heap.size + 1, 3, none⟩ (.bool false)) := ((((HB.out.setCell (by simp) _).setCell (by simp) _).setCell (by simp) _).setCell (by simp) _).setCell (by simp) _
  exact ⟨A, c, A', c', by simp [dv, dcells], ⟨hD2.secs, hD2.pend, hD2.lS, hD2.lP, hD2.cP⟩, hB2⟩

set_option maxHeartbeats 4000000 in
theorem rcut_good (A : Option Addr) (c : Nat) (A' : Option Addr) (c' : Nat) (d : Dk) (w : World) (h : DiskAt w w.heap.size A c A' c' d) (hu : upE d = 0) :
    Calls Try.prog 24 #[dv A c A' c' d] w (DiskEnd w ⟨d.secs, [], -1, true⟩ 0) := by
  have HU := Lib.hid (fun wx (hx : Below w.heap.size w wx) => by have := rup_any A c A' c' d wx (h.step hx); rw [hu] at this; exact this)
  have HD := Lib.hid h
  obtain ⟨l, p, left, down⟩ := d
  unfold dv dcells at *
  simp only at *
  clear h hu
  go_enter Try.func24, Try.ntmps24
  go_wp2_with fail
  refine (HU.out _ (by repeat first | with_reducible exact Below.refl _ _ | refine Below.alloc ?_ (by simp <;> omega) _)).mono ?_
  rintro e w1 ⟨rfl, b1⟩
  obtain ⟨⟨k1, k2⟩, hb, hz⟩ := boxes2 b1 (by simp)
  have K1 := Lib.hid k1
  have K2 := Lib.hid k2
  have HB := Lib.hid hb
  have HD1 := Lib.hid (HD.out.step hb)
  obtain ⟨⟨a0, a1, a2, a3⟩, f0, f1, f2, f3⟩ := blk4 k1
  obtain ⟨⟨s0, s1, s2, s3⟩, sf0, sf1, sf2, sf3⟩ := blk4 k2
  clear k1 k2 b1 hb
  go_wp2_with fail
  refine bodyPost_ret (v := .tuple #[.agg #[.slice A l.length c, .slice none 0 0, .int .i64 (-1), .bool true], .int .i64 0]) (by simp [results, Try.results24, go_sem, *]) rfl ?_
  have hD2 := disk_set4 K2.out HD1.out (y0 := (.slice A l.length c)) (y1 := (.slice none 0 0)) (y2 := (.int .i64 (-1))) (y3 := (.bool true))
  have hB2 : Below w.heap.size w ((((w1.setCell ⟨w.heap.size + 1, 0, none⟩ (.slice A l.length c)).setCell ⟨w.heap.size + 1, 1, none⟩ (.slice none 0 0)).setCell ⟨w.heap.size + 1, 2, none⟩ (.int .i64 (-1))).setCell ⟨w.heap.size + 1, 3, none⟩ (.bool true)) := (((HB.out.setCell (by simp) _).setCell (by simp) _).setCell (by simp) _).setCell (by simp) _
  exact ⟨A, c, none, 0, by simp [dv, dcells], ⟨hD2.secs, RowOf.nil, hD2.lS, by simp, by simp⟩, hB2⟩

theorem rstart_bad (A : Option Addr) (n c : Nat) (A' : Option Addr) (n' c' : Nat) (left : Int) (down : Bool) (ce er : Int) (w : World)
    (HR : Hid (∀ wx, Below w.heap.size w wx → Calls Try.prog 14 #[.agg #[.slice A n c, .slice A' n' c', .int .i64 left, .bool down]] wx fun e w' => e = .returned (.int .i64 ce) ∧ Below wx.heap.size wx w')) (h : (ce = 1 ∧ er = 1) ∨ (ce = 0 ∧ down = false ∧ er = 7)) :
    Calls Try.prog 26 #[.agg #[.slice A n c, .slice A' n' c', .int .i64 left, .bool down]] w (DiskEnd w nilD er) := by
  rcases h with ⟨rfl, rfl⟩ | ⟨rfl, rfl, rfl⟩
  all_goals
    go_enter Try.func26, Try.ntmps26
    go_wp2_with fail
    refine (HR.out _ (by repeat first | with_reducible exact Below.refl _ _ | refine Below.alloc ?_ (by simp <;> omega) _)).mono ?_
    rintro e w1 ⟨rfl, b1⟩
    obtain ⟨⟨k1, k2⟩, hb, hz⟩ := boxes2 b1 (by simp)
    obtain ⟨⟨a0, a1, a2, a3⟩, f0, f1, f2, f3⟩ := blk4 k2
    obtain ⟨⟨a4, a5, a6, a7⟩, f4⟩ := blk4 k1
    have HB := Lib.hid hb
    clear k1 k2 b1 hb f4
    go_wp2_with fail
    refine bodyPost_ret (v := .tuple #[dv none 0 none 0 nilD, .int .i64 _]) (by simp [results, Try.results26, go_sem, dv, dcells, nilD, *]) rfl (DiskEnd.none_ ?_)
    repeat first | with_reducible exact HB.out | refine Below.setCell ?_ (by simp only; omega) _

theorem rarm_any (A : Option Addr) (c : Nat) (A' : Option Addr) (c' : Nat) (d : Dk) (k : Int) (w : World) (h : DiskAt w w.heap.size A c A' c' d) :
    Calls Try.prog 22 #[dv A c A' c' d, .int .i64 k] w (DiskEnd w (armD d k) (armE d k)) := by
  have HU := Lib.hid (fun wx (hx : Below w.heap.size w wx) => rup_any A c A' c' d wx (h.step hx))
  by_cases hu : upE d = 0
  · by_cases hk : 0 ≤ k ∧ k ≤ 512
    · rw [(arm_ok hu hk.1 hk.2).1, (arm_ok hu hk.1 hk.2).2]
      exact rarm_good A c A' c' d k w h hu hk.1 hk.2
    · have e1 : armE d k = 1 := by unfold armE; rw [if_pos hu, if_neg hk]
      have e2 : armD d k = nilD := by unfold armD; rw [if_neg (by rw [e1]; decide)]
      rw [e1, e2]
      rw [hu] at HU
      exact rarm_out A _ c A' _ c' d.left d.down k 1 w HU (by omega)
  · have e1 : armE d k = upE d := by unfold armE; rw [if_neg hu]
    have e2 : armD d k = nilD := by unfold armD; rw [if_neg (by rw [e1]; exact hu)]
    rw [e1, e2]
    exact rarm_bad A _ c A' _ c' d.left d.down k _ w HU hu
theorem rcut_any (A : Option Addr) (c : Nat) (A' : Option Addr) (c' : Nat) (d : Dk) (w : World) (h : DiskAt w w.heap.size A c A' c' d) :
    Calls Try.prog 24 #[dv A c A' c' d] w (DiskEnd w (cutD d) (upE d)) := by
  have HU := Lib.hid (fun wx (hx : Below w.heap.size w wx) => rup_any A c A' c' d wx (h.step hx))
  by_cases hu : upE d = 0
  · have e2 : cutD d = ⟨d.secs, [], -1, true⟩ := by unfold cutD; rw [if_pos hu]
    rw [hu, e2]
    exact rcut_good A c A' c' d w h hu
  · have e2 : cutD d = nilD := by unfold cutD; rw [if_neg hu]
    rw [e2]
    exact rcut_bad A _ c A' _ c' d.left d.down _ w HU hu
theorem rstart_any (A : Option Addr) (c : Nat) (A' : Option Addr) (c' : Nat) (d : Dk) (w : World) (h : DiskAt w w.heap.size A c A' c' d) :
    Calls Try.prog 26 #[dv A c A' c' d] w (DiskEnd w (startD d) (startE d)) := by
  have HR := Lib.hid (fun wx (hx : Below w.heap.size w wx) => rcheck_any A c A' c' d wx (h.step hx))
  cases hr : rightB d with
  | false =>
    have e1 : startE d = 1 := by unfold startE; rw [if_neg (by simp [hr])]
    have e2 : startD d = nilD := by unfold startD; rw [if_neg (by rw [e1]; decide)]
    rw [e1, e2]
    exact rstart_bad A _ c A' _ c' d.left d.down _ 1 w HR (.inl ⟨check_one hr, rfl⟩)
  | true =>
    have e0 : checkE d = 0 := by unfold checkE; rw [if_pos hr]
    cases hd : d.down with
    | false =>
      have e1 : startE d = 7 := by unfold startE; rw [if_pos hr, if_neg (by simp [hd])]
      have e2 : startD d = nilD := by unfold startD; rw [if_neg (by rw [e1]; decide)]
      rw [e1, e2]
      exact rstart_bad A _ c A' _ c' d.left d.down _ 7 w HR (.inr ⟨e0, hd, rfl⟩)
    | true =>
      rw [(start_ok hr hd).1, (start_ok hr hd).2]
      exact rstart_good A c A' c' d w h hr hd

end Go.Proofs.Ytlfiooenbgegkaa
