/- Walks by the logic of calls, and plain laws. -/
import Derived.Test.YtffffkfcbjobnaaGreatGCrR
namespace Go.Gh
open Go Go.Proofs
set_option maxRecDepth 1000000
set_option maxHeartbeats 2000000
set_option linter.unusedSimpArgs false
set_option linter.unusedVariables false
set_option linter.unnecessarySimpa false
open Go.RowKit

theorem rcheck2_ok (r : Rlm) (hr : FitR r) (i : Nat) (hi : i < r.cities.length) : GC Tryz.prog 64 [iG i, .ep (rlC r)] (bG (cityV r (r.cities.getD i default))) := by
  have h1 := hr.cities
  refine gc_of_gk Tryz.func64 ?_
  refine gk_region env false [] [0, 1, 3] ?_ -- 0
  refine gk_region env false [.call (city_ok r (r.cities.getD i default) (hr.city _ (getD_mem hi)))] [3] ?_ -- 1
  refine gk_ret env ?_
  rfl

theorem rcheck3_ok (r : Rlm) (hr : FitR r) (i : Nat) (hi : i < r.firms.length) : GC Tryz.prog 67 [iG i, .ep (rlC r)] (bG (firmV r (r.firms.getD i default))) := by
  have h1 := hr.firms
  have h2 := hr.cities
  have h3 := hr.groups
  refine gc_of_gk Tryz.func67 ?_
  refine gk_region env false [] [0, 1, 3] ?_ -- 0
  refine gk_region env false [.call (in_ok (r.firms.getD i default).city r.cities.length), .call (in_ok (r.firms.getD i default).group r.groups.length)] [3] ?_ -- 1
  refine gk_ret env ?_
  unfold firmV
  cases inV (r.firms.getD i default).city r.cities.length <;> rfl

theorem rcheck4_ok (r : Rlm) (hr : FitR r) (i : Nat) (hi : i < r.orders.length) : GC Tryz.prog 68 [iG i, .ep (rlC r)] (bG (orderV (r.orders.getD i default))) := by
  have h1 := hr.orders
  refine gc_of_gk Tryz.func68 ?_
  refine gk_region env false [] [0, 1, 3] ?_ -- 0
  refine gk_region env false [.call (order_ok (r.orders.getD i default) (hr.order _ (getD_mem hi)).2.1 (hr.order _ (getD_mem hi)).2.2)] [3] ?_ -- 1
  refine gk_ret env ?_
  rfl

theorem fits1_ok (l : List ByteArray) (hl : l.length ≤ 1000) (hs : ∀ s, s ∈ l → s.size ≤ 9223372036854775807) (n : Int)  : GC Tryz.prog 62 [rowS l, iG n, fG 63] (iG (fitsE l n (fun _ => true))) := by
  refine gc_of_gk Tryz.func62 ?_
  refine gk_region env false [] [0, 1, 2, 6] ?_ -- 0
  refine gk_region env false [] [0, 2, 6, 12] ?_ -- 1
  refine gk_ifd (fun c1 => ?_) (fun c1 => ?_)
  · try simp only [toN] at c1
    refine gk_region env false [] [0, 2, 6] ?_ -- 2
    refine gk_ret env ?_
    rw [fitsE, if_pos (by omega)]; rfl
  · try simp only [toN] at c1
    refine gk_region env false [] [0, 2, 6, 14, 15] ?_ -- 3
    refine gk_loop (α := Nat) (fun i => i ≤ l.length ∧ fitsF l (fun _ => true) 0 = fitsF l (fun _ => true) i) (fun i => [(15, iG i)]) (fun _ => []) (fun i => l.length - i) 0 ⟨by omega, rfl⟩ ?_ -- loop 4
    rintro i ⟨hi, he⟩
    refine gk_region env false [] [0, 2, 6, 14, 15, 16] ?_ -- 4
    refine gk_ifd (fun c2 => ?_) (fun c2 => ?_)
    · try simp only [toN] at c2
      refine gk_region env false [] [0, 2, 6, 7, 14, 15] ?_ -- 5
      refine gk_region env false [.call (named_ok l (by omega) hs i (by omega))] [0, 2, 6, 7, 8, 14, 15] ?_ -- 6
      refine gk_region env false [] [0, 2, 6, 7, 8, 14, 15, 22] ?_ -- 7
      refine gk_ifn (fun c3 => ?_) (fun c3 => ?_)
      · try simp only [toN] at c3
        refine gk_region env false [] [0, 2, 6, 7, 14, 15] ?_ -- 8
        refine gk_ret env ?_
        rw [fitsE, if_neg (by omega), he, fitsF, if_pos (by omega), if_neg (by simpa using c3)]; rfl
      · try simp only [toN] at c3
        refine gk_region env false [.call (rcheck1_ok i)] [0, 2, 6, 14, 15, 27] ?_ -- 9
        refine gk_if (fun c4 => ?_) (fun c4 => ?_)
        · try simp only [bb, toN] at c4
          refine gk_region env false [] [0, 2, 6, 14, 15] ?_ -- 10
          refine gk_ret env ?_
          rw [fitsE, if_neg (by omega), he, fitsF, if_pos (by omega), if_pos (by simpa using c3), if_neg (by simpa using c4)]; rfl
        · try simp only [bb, toN] at c4
          refine gk_region env false [] [0, 2, 6, 14, 15] ?_ -- 11
          refine gk_round (i + 1) ?_
          refine ⟨by omega, he.trans ?_⟩
          rw [fitsF, if_pos (by omega), if_pos (by simpa using c3), if_pos (by simpa using c4)]
    · try simp only [toN] at c2
      refine gk_region env false [] [6] ?_ -- 12
      refine gk_ret env ?_
      rw [fitsE, if_neg (by omega), he, fitsF, if_neg (by omega)]; rfl

theorem fits2_ok (l : List ByteArray) (hl : l.length ≤ 1000) (hs : ∀ s, s ∈ l → s.size ≤ 9223372036854775807) (n : Int) (r : Rlm) (hr : FitR r) (hb : l.length ≤ r.cities.length) : GC Tryz.prog 62 [rowS l, iG n, .fn (.func 64) [] [.ep (rlC r)]] (iG (fitsE l n (fun i => cityV r (r.cities.getD i default)))) := by
  refine gc_of_gk Tryz.func62 ?_
  refine gk_region env false [] [0, 1, 2, 6] ?_ -- 0
  refine gk_region env false [] [0, 2, 6, 12] ?_ -- 1
  refine gk_ifd (fun c1 => ?_) (fun c1 => ?_)
  · try simp only [toN] at c1
    refine gk_region env false [] [0, 2, 6] ?_ -- 2
    refine gk_ret env ?_
    rw [fitsE, if_pos (by omega)]; rfl
  · try simp only [toN] at c1
    refine gk_region env false [] [0, 2, 6, 14, 15] ?_ -- 3
    refine gk_loop (α := Nat) (fun i => i ≤ l.length ∧ fitsF l (fun i => cityV r (r.cities.getD i default)) 0 = fitsF l (fun i => cityV r (r.cities.getD i default)) i) (fun i => [(15, iG i)]) (fun _ => []) (fun i => l.length - i) 0 ⟨by omega, rfl⟩ ?_ (hp := by simp [AllP]; rfl) -- loop 4
    rintro i ⟨hi, he⟩
    refine gk_region env false [] [0, 2, 6, 14, 15, 16] ?_ -- 4
    refine gk_ifd (fun c2 => ?_) (fun c2 => ?_)
    · try simp only [toN] at c2
      refine gk_region env false [] [0, 2, 6, 7, 14, 15] ?_ -- 5
      refine gk_region env false [.call (named_ok l (by omega) hs i (by omega))] [0, 2, 6, 7, 8, 14, 15] ?_ -- 6
      refine gk_region env false [] [0, 2, 6, 7, 8, 14, 15, 22] ?_ -- 7
      refine gk_ifn (fun c3 => ?_) (fun c3 => ?_)
      · try simp only [toN] at c3
        refine gk_region env false [] [0, 2, 6, 7, 14, 15] ?_ -- 8
        refine gk_ret env ?_
        rw [fitsE, if_neg (by omega), he, fitsF, if_pos (by omega), if_neg (by simpa using c3)]; rfl
      · try simp only [toN] at c3
        refine gk_region env false [.call (rcheck2_ok r hr i (by omega))] [0, 2, 6, 14, 15, 27] ?_ -- 9
        refine gk_if (fun c4 => ?_) (fun c4 => ?_)
        · try simp only [bb, toN] at c4
          refine gk_region env false [] [0, 2, 6, 14, 15] ?_ -- 10
          refine gk_ret env ?_
          rw [fitsE, if_neg (by omega), he, fitsF, if_pos (by omega), if_pos (by simpa using c3), if_neg (by simpa using c4)]; rfl
        · try simp only [bb, toN] at c4
          refine gk_region env false [] [0, 2, 6, 14, 15] ?_ -- 11
          refine gk_round (i + 1) ?_ (hp := by simp [AllP]; rfl)
          refine ⟨by omega, he.trans ?_⟩
          rw [fitsF, if_pos (by omega), if_pos (by simpa using c3), if_pos (by simpa using c4)]
    · try simp only [toN] at c2
      refine gk_region env false [] [6] ?_ -- 12
      refine gk_ret env ?_
      rw [fitsE, if_neg (by omega), he, fitsF, if_neg (by omega)]; rfl

theorem fits3_ok (l : List ByteArray) (hl : l.length ≤ 1000) (hs : ∀ s, s ∈ l → s.size ≤ 9223372036854775807) (n : Int) (r : Rlm) (hr : FitR r) (hb : l.length ≤ r.firms.length) : GC Tryz.prog 62 [rowS l, iG n, .fn (.func 67) [] [.ep (rlC r)]] (iG (fitsE l n (fun i => firmV r (r.firms.getD i default)))) := by
  refine gc_of_gk Tryz.func62 ?_
  refine gk_region env false [] [0, 1, 2, 6] ?_ -- 0
  refine gk_region env false [] [0, 2, 6, 12] ?_ -- 1
  refine gk_ifd (fun c1 => ?_) (fun c1 => ?_)
  · try simp only [toN] at c1
    refine gk_region env false [] [0, 2, 6] ?_ -- 2
    refine gk_ret env ?_
    rw [fitsE, if_pos (by omega)]; rfl
  · try simp only [toN] at c1
    refine gk_region env false [] [0, 2, 6, 14, 15] ?_ -- 3
    refine gk_loop (α := Nat) (fun i => i ≤ l.length ∧ fitsF l (fun i => firmV r (r.firms.getD i default)) 0 = fitsF l (fun i => firmV r (r.firms.getD i default)) i) (fun i => [(15, iG i)]) (fun _ => []) (fun i => l.length - i) 0 ⟨by omega, rfl⟩ ?_ (hp := by simp [AllP]; rfl) -- loop 4
    rintro i ⟨hi, he⟩
    refine gk_region env false [] [0, 2, 6, 14, 15, 16] ?_ -- 4
    refine gk_ifd (fun c2 => ?_) (fun c2 => ?_)
    · try simp only [toN] at c2
      refine gk_region env false [] [0, 2, 6, 7, 14, 15] ?_ -- 5
      refine gk_region env false [.call (named_ok l (by omega) hs i (by omega))] [0, 2, 6, 7, 8, 14, 15] ?_ -- 6
      refine gk_region env false [] [0, 2, 6, 7, 8, 14, 15, 22] ?_ -- 7
      refine gk_ifn (fun c3 => ?_) (fun c3 => ?_)
      · try simp only [toN] at c3
        refine gk_region env false [] [0, 2, 6, 7, 14, 15] ?_ -- 8
        refine gk_ret env ?_
        rw [fitsE, if_neg (by omega), he, fitsF, if_pos (by omega), if_neg (by simpa using c3)]; rfl
      · try simp only [toN] at c3
        refine gk_region env false [.call (rcheck3_ok r hr i (by omega))] [0, 2, 6, 14, 15, 27] ?_ -- 9
        refine gk_if (fun c4 => ?_) (fun c4 => ?_)
        · try simp only [bb, toN] at c4
          refine gk_region env false [] [0, 2, 6, 14, 15] ?_ -- 10
          refine gk_ret env ?_
          rw [fitsE, if_neg (by omega), he, fitsF, if_pos (by omega), if_pos (by simpa using c3), if_neg (by simpa using c4)]; rfl
        · try simp only [bb, toN] at c4
          refine gk_region env false [] [0, 2, 6, 14, 15] ?_ -- 11
          refine gk_round (i + 1) ?_ (hp := by simp [AllP]; rfl)
          refine ⟨by omega, he.trans ?_⟩
          rw [fitsF, if_pos (by omega), if_pos (by simpa using c3), if_pos (by simpa using c4)]
    · try simp only [toN] at c2
      refine gk_region env false [] [6] ?_ -- 12
      refine gk_ret env ?_
      rw [fitsE, if_neg (by omega), he, fitsF, if_neg (by omega)]; rfl

theorem fits4_ok (l : List ByteArray) (hl : l.length ≤ 1000) (hs : ∀ s, s ∈ l → s.size ≤ 9223372036854775807) (n : Int) (r : Rlm) (hr : FitR r) (hb : l.length ≤ r.orders.length) : GC Tryz.prog 62 [rowS l, iG n, .fn (.func 68) [] [.ep (rlC r)]] (iG (fitsE l n (fun i => orderV (r.orders.getD i default)))) := by
  refine gc_of_gk Tryz.func62 ?_
  refine gk_region env false [] [0, 1, 2, 6] ?_ -- 0
  refine gk_region env false [] [0, 2, 6, 12] ?_ -- 1
  refine gk_ifd (fun c1 => ?_) (fun c1 => ?_)
  · try simp only [toN] at c1
    refine gk_region env false [] [0, 2, 6] ?_ -- 2
    refine gk_ret env ?_
    rw [fitsE, if_pos (by omega)]; rfl
  · try simp only [toN] at c1
    refine gk_region env false [] [0, 2, 6, 14, 15] ?_ -- 3
    refine gk_loop (α := Nat) (fun i => i ≤ l.length ∧ fitsF l (fun i => orderV (r.orders.getD i default)) 0 = fitsF l (fun i => orderV (r.orders.getD i default)) i) (fun i => [(15, iG i)]) (fun _ => []) (fun i => l.length - i) 0 ⟨by omega, rfl⟩ ?_ (hp := by simp [AllP]; rfl) -- loop 4
    rintro i ⟨hi, he⟩
    refine gk_region env false [] [0, 2, 6, 14, 15, 16] ?_ -- 4
    refine gk_ifd (fun c2 => ?_) (fun c2 => ?_)
    · try simp only [toN] at c2
      refine gk_region env false [] [0, 2, 6, 7, 14, 15] ?_ -- 5
      refine gk_region env false [.call (named_ok l (by omega) hs i (by omega))] [0, 2, 6, 7, 8, 14, 15] ?_ -- 6
      refine gk_region env false [] [0, 2, 6, 7, 8, 14, 15, 22] ?_ -- 7
      refine gk_ifn (fun c3 => ?_) (fun c3 => ?_)
      · try simp only [toN] at c3
        refine gk_region env false [] [0, 2, 6, 7, 14, 15] ?_ -- 8
        refine gk_ret env ?_
        rw [fitsE, if_neg (by omega), he, fitsF, if_pos (by omega), if_neg (by simpa using c3)]; rfl
      · try simp only [toN] at c3
        refine gk_region env false [.call (rcheck4_ok r hr i (by omega))] [0, 2, 6, 14, 15, 27] ?_ -- 9
        refine gk_if (fun c4 => ?_) (fun c4 => ?_)
        · try simp only [bb, toN] at c4
          refine gk_region env false [] [0, 2, 6, 14, 15] ?_ -- 10
          refine gk_ret env ?_
          rw [fitsE, if_neg (by omega), he, fitsF, if_pos (by omega), if_pos (by simpa using c3), if_neg (by simpa using c4)]; rfl
        · try simp only [bb, toN] at c4
          refine gk_region env false [] [0, 2, 6, 14, 15] ?_ -- 11
          refine gk_round (i + 1) ?_ (hp := by simp [AllP]; rfl)
          refine ⟨by omega, he.trans ?_⟩
          rw [fitsF, if_pos (by omega), if_pos (by simpa using c3), if_pos (by simpa using c4)]
    · try simp only [toN] at c2
      refine gk_region env false [] [6] ?_ -- 12
      refine gk_ret env ?_
      rw [fitsE, if_neg (by omega), he, fitsF, if_neg (by omega)]; rfl

theorem usances_ok (r : Rlm) (hr : FitR r) : GC Tryz.prog 70 [rlG r] (iG (usE r)) := by
  have h1 := hr.usances
  have h2 := hr.cities
  refine gc_of_gk Tryz.func70 ?_
  refine gk_region env false [] [1, 2] ?_ -- 0
  refine gk_region env false [] [1, 2, 10] ?_ -- 1
  refine gk_ifd (fun c1 => ?_) (fun c1 => ?_)
  · try simp only [toN] at c1
    refine gk_region env false [] [1, 2] ?_ -- 2
    refine gk_ret env ?_
    rw [usE, if_pos (by omega)]; rfl
  · try simp only [toN] at c1
    refine gk_region env false [] [1, 2, 12, 13, 14] ?_ -- 3
    refine gk_loop (α := Nat) (fun i => i ≤ r.usances.length ∧ usF r 0 = usF r i) (fun i => [(14, iG i)]) (fun _ => []) (fun i => r.usances.length - i) 0 ⟨by omega, rfl⟩ ?_ -- loop 4
    rintro i ⟨hi, he⟩
    refine gk_region env false [] [1, 2, 12, 13, 14, 15] ?_ -- 4
    refine gk_ifd (fun c2 => ?_) (fun c2 => ?_)
    · try simp only [toN] at c2
      refine gk_region env false [] [1, 2, 3, 4, 12, 13, 14] ?_ -- 5
      refine gk_region env false [.call (in_ok (r.usances.getD i default).fr r.cities.length), .call (in_ok (r.usances.getD i default).dst r.cities.length)] [1, 2, 3, 4, 12, 13, 14, 44] ?_ -- 6
      refine gk_if (fun c3 => ?_) (fun c3 => ?_)
      · try simp only [bb, toN] at c3
        refine gk_region env false [] [1, 2, 3, 4, 12, 13, 14] ?_ -- 7
        refine gk_ret env ?_
        rw [usE, if_neg (by omega), he, usF, if_pos (by omega), if_pos (by simpa [usBad] using c3)]; rfl
      · try simp only [bb, toN] at c3
        refine gk_region env false [] [1, 2, 4, 12, 13, 14, 48, 49, 50] ?_ (hp := (by simp only [AllP, bb, toN, loI, hiI]; repeat' first | exact trivial | exact EntL.refl _ | exact BEntL.refl _ | exact rfl | omega | apply And.intro | intro _)) -- 8
        have hcut : cutL r.usances none (some (i : Int)) = r.usances.take i := by simp [cutL, loI, hiI]
        simp only [hcut]
        refine gk_loop (α := Nat) (fun k => k ≤ i ∧ usI (r.usances.take i) (r.usances.getD i default) 0 = usI (r.usances.take i) (r.usances.getD i default) k) (fun k => [(50, iG k)]) (fun _ => []) (fun k => i - k) 0 ⟨by omega, rfl⟩ ?_ -- loop 9
        rintro k ⟨hk1, hk⟩
        have htl : (r.usances.take i).length = i := getD_take' (by omega)
        refine gk_region env false [] [1, 2, 4, 12, 13, 14, 48, 49, 50, 51] ?_ -- 9
        refine gk_ifd (fun c4 => ?_) (fun c4 => ?_)
        · try simp only [toN] at c4
          refine gk_region env false [] [1, 2, 4, 6, 12, 13, 14, 48, 49, 50] ?_ -- 10
          refine gk_region env false [] [1, 2, 4, 12, 13, 14, 48, 49, 50, 65] ?_ -- 11
          refine gk_if (fun c5 => ?_) (fun c5 => ?_)
          · try simp only [bb, toN] at c5
            refine gk_region env false [] [1, 2, 4, 12, 13, 14, 48, 49, 50] ?_ -- 12
            refine gk_ret env ?_
            rw [usE, if_neg (by omega), he, usF, if_pos (by omega), if_neg (by simpa [usBad] using c3), if_pos (by rw [hk, usI, if_pos (by omega), if_pos (by simpa [usHit] using c5)])]; rfl
          · try simp only [bb, toN] at c5
            refine gk_region env false [] [1, 2, 4, 12, 13, 14, 48, 49, 50] ?_ -- 13
            refine gk_round (k + 1) ?_
            refine ⟨by omega, hk.trans ?_⟩
            rw [usI, if_pos (by omega), if_neg (by simp [usHit]; simp at c5; grind)]
        · try simp only [toN] at c4
          refine gk_region env false [] [1, 2, 12, 13, 14] ?_ -- 14
          refine gk_round (i + 1) ?_
          refine ⟨by omega, he.trans ?_⟩
          rw [usF, if_pos (by omega), if_neg (by simpa [usBad] using c3), if_neg (by rw [hk, usI, if_neg (by omega)]; simp)]
    · try simp only [toN] at c2
      refine gk_region env false [] [2] ?_ -- 15
      refine gk_ret env ?_
      rw [usE, if_neg (by omega), he, usF, if_neg (by omega)]; rfl

theorem inV_less {n m : Int} (hn : In64 n) (hm : m ≤ 9223372036854775806) : inV (IntKind.i64.wrap (n - 1)) m = inV (n - 1) m := by
  obtain ⟨h1, h2⟩ := hn
  by_cases h : n = -9223372036854775808
  · subst h
    have e : IntKind.i64.wrap ((-9223372036854775808 : Int) - 1) = 9223372036854775807 := by decide
    rw [e]
    unfold inV
    have a : decide ((9223372036854775807 : Int) < m) = false := decide_eq_false (by omega)
    have b : decide ((0 : Int) ≤ -9223372036854775808 - 1) = false := by decide
    rw [a, b]; simp
  · have e : IntKind.i64.wrap (n - 1) = n - 1 := by
      exact IntWalk.i64_in _ ⟨by omega, by omega⟩
    rw [e]

theorem rest_ok (r : Rlm) (hr : FitR r) : GC Tryz.prog 71 [rlG r] (iG (restE r)) := by
  have h1 := hr.rates
  have h2 := hr.halts
  have h3 := hr.cur
  have h4 := hr.orders
  refine gc_of_gk Tryz.func71 ?_
  refine gk_region env false [] [1, 2] ?_ -- 0
  refine gk_region env false [] [1, 2, 10] ?_ -- 1
  refine gk_ifd (fun c1 => ?_) (fun c1 => ?_)
  · try simp only [toN] at c1
    refine gk_region env false [] [1, 2] ?_ -- 2
    refine gk_ret env ?_
    rw [restE, if_pos (by omega)]; rfl
  · try simp only [toN] at c1
    refine gk_region env false [] [1, 2, 12, 13, 14] ?_ -- 3
    refine gk_loop (α := Nat) (fun i => i ≤ r.rates.length ∧ rtF r 0 = rtF r i) (fun i => [(14, iG i)]) (fun _ => []) (fun i => r.rates.length - i) 0 ⟨by omega, rfl⟩ ?_ -- loop 4
    rintro i ⟨hi, he⟩
    have hw1 := fun h : i < r.rates.length => inV_less (hr.rate _ (getD_mem h)).1 (m := 1073741824) (by decide)
    have hw2 := fun h : i < r.rates.length => inV_less (hr.rate _ (getD_mem h)).2 (m := 1073741824) (by decide)
    refine gk_region env false [] [1, 2, 12, 13, 14, 15] ?_ -- 4
    refine gk_ifd (fun c2 => ?_) (fun c2 => ?_)
    · try simp only [toN] at c2
      refine gk_region env false [] [1, 2, 4, 12, 13, 14] ?_ -- 5
      refine gk_region env true [.call (in_ok (r.rates.getD i default).fr r.currencies.length), .call (in_ok (r.rates.getD i default).dst r.currencies.length), .call (in_ok (IntKind.i64.wrap ((r.rates.getD i default).num - 1)) 1073741824), .call (in_ok (IntKind.i64.wrap ((r.rates.getD i default).den - 1)) 1073741824), .call (in_ok (r.rates.getD i default).since 100001)] [1, 2, 12, 13, 14, 60] ?_ -- 6
      simp only [hw1 (show i < r.rates.length by omega), hw2 (show i < r.rates.length by omega)]
      refine gk_if (fun c3 => ?_) (fun c3 => ?_)
      · try simp only [bb, toN] at c3
        refine gk_region env false [] [1, 2, 12, 13, 14] ?_ -- 7
        refine gk_ret env ?_
        rw [restE, if_neg (by omega), if_neg (by rw [he, rtF, if_pos (by omega), if_pos (by simpa [rtBad] using c3)]; simp)]; rfl
      · try simp only [bb, toN] at c3
        refine gk_region env false [] [1, 2, 12, 13, 14] ?_ -- 8
        refine gk_round (i + 1) ?_
        refine ⟨by omega, he.trans ?_⟩
        rw [rtF, if_pos (by omega), if_neg (by simpa [rtBad] using c3)]
    · try simp only [toN] at c2
      refine gk_region env false [] [1, 2, 65] ?_ -- 9
      refine gk_ifd (fun c4 => ?_) (fun c4 => ?_)
      · try simp only [toN] at c4
        refine gk_region env false [] [1, 2] ?_ -- 10
        refine gk_ret env ?_
        have e : rtF r 0 = true := by rw [he, rtF, if_neg (by omega)]
        rw [restE, if_neg (by omega), if_pos e, if_pos (by omega)]; rfl
      · try simp only [toN] at c4
        refine gk_region env false [] [1, 2, 67, 68, 69] ?_ -- 11
        refine gk_loop (α := Nat) (fun i => i ≤ r.halts.length ∧ htF r 0 = htF r i) (fun i => [(69, iG i)]) (fun _ => []) (fun i => r.halts.length - i) 0 ⟨by omega, rfl⟩ ?_ -- loop 12
        rintro k ⟨hk, hke⟩
        refine gk_region env false [] [1, 2, 67, 68, 69, 70] ?_ -- 12
        refine gk_ifd (fun c5 => ?_) (fun c5 => ?_)
        · try simp only [toN] at c5
          refine gk_region env false [] [1, 2, 6, 67, 68, 69] ?_ -- 13
          refine gk_region env false [.call (in_ok (r.halts.getD k default).ord r.orders.length)] [1, 2, 67, 68, 69, 96] ?_ -- 14
          refine gk_if (fun c6 => ?_) (fun c6 => ?_)
          · try simp only [bb, toN] at c6
            refine gk_region env false [] [1, 2, 67, 68, 69] ?_ -- 15
            refine gk_ret env ?_
            have e : rtF r 0 = true := by rw [he, rtF, if_neg (by omega)]
            rw [restE, if_neg (by omega), if_pos e, if_neg (by omega), if_neg (by rw [hke, htF, if_pos (by omega), if_pos (by simpa [htBad] using c6)]; simp)]; rfl
          · try simp only [bb, toN] at c6
            refine gk_region env false [] [1, 2, 67, 68, 69] ?_ -- 16
            refine gk_round (k + 1) ?_
            refine ⟨by omega, hke.trans ?_⟩
            rw [htF, if_pos (by omega), if_neg (by simpa [htBad] using c6)]
        · try simp only [toN] at c5
          refine gk_region env false [] [2] ?_ -- 17
          refine gk_ret env ?_
          have e : rtF r 0 = true := by rw [he, rtF, if_neg (by omega)]
          rw [restE, if_neg (by omega), if_pos e, if_neg (by omega), if_pos (by rw [hke, htF, if_neg (by omega)])]; rfl

theorem names_ok (r : Rlm) (hr : FitR r) : GC Tryz.prog 61 [rlG r] (.tup [rowS (cityN r), rowS (firmN r), rowS (orderN r)]) := by
  have h1 := hr.cities
  have h2 := hr.firms
  have h3 := hr.orders
  refine gc_of_gk Tryz.func61 ?_
  refine gk_region env false [] [1, 2, 3, 4] ?_ -- 0
  refine gk_nil 2 9 1 (default : ByteArray) strC (by rfl) (by rfl) ?_
  refine gk_nil 3 9 1 (default : ByteArray) strC (by rfl) (by rfl) ?_
  refine gk_nil 4 9 1 (default : ByteArray) strC (by rfl) (by rfl) ?_
  refine gk_region env false [] [1, 2, 3, 4, 12, 13, 14] ?_ -- 1
  refine gk_loop (α := Nat) (fun i => i ≤ r.cities.length) (fun i => [(14, iG i), (2, .sl 1 1 0 ((r.cities.take i).map fun c => c.name).length)]) (fun i => [(1, some (.row 9 1 default strC ((r.cities.take i).map fun c => c.name) 0))]) (fun i => r.cities.length - i) 0 (Nat.zero_le _) ?_ -- loop 2
  rintro i hi
  have hl : ((r.cities.take i).map fun c => c.name).length = i := by rw [List.length_map, getD_take' hi]
  refine gk_region env false [] [1, 2, 3, 4, 12, 13, 14, 15] ?_ -- 2
  refine gk_ifd (fun c1 => ?_) (fun c1 => ?_)
  · try simp only [toN] at c1
    refine gk_region env false [] [1, 2, 3, 4, 6, 12, 13, 14] ?_ -- 3
    refine gk_region env false [.el default strC [(r.cities.getD i default).name], .el default strC (((r.cities.take i).map fun c => c.name) ++ [(r.cities.getD i default).name])] [1, 2, 3, 4, 12, 13, 14] ?_ (hp := (by simp only [AllP, Int.toNat_natCast]; repeat' first | exact trivial | exact EntL.refl _ | exact BEntL.refl _ | exact rfl | omega | apply And.intro | intro _ | (simp [rowL]; done) | (simp only [List.length_append, List.length_cons, List.length_nil]; omega) | (simp [*]; done))) -- 4
    refine gk_region env false [] [1, 2, 3, 4, 12, 13, 14] ?_ -- 5
    refine gk_round (i + 1) ?_ (hp := by simp [AllP, take_map (show i < r.cities.length by omega)])
    omega
  · try simp only [toN] at c1
    refine gk_region env false [] [1, 2, 3, 4, 25, 26, 27] ?_ -- 6
    refine gk_loop (α := Nat) (fun i => i ≤ r.firms.length) (fun i => [(27, iG i), (3, .sl 2 1 0 ((r.firms.take i).map fun c => c.name).length)]) (fun i => [(2, some (.row 9 1 default strC ((r.firms.take i).map fun c => c.name) 0))]) (fun i => r.firms.length - i) 0 (Nat.zero_le _) ?_ -- loop 7
    rintro i hi
    have hl : ((r.firms.take i).map fun c => c.name).length = i := by rw [List.length_map, getD_take' hi]
    refine gk_region env false [] [1, 2, 3, 4, 25, 26, 27, 28] ?_ -- 7
    refine gk_ifd (fun c2 => ?_) (fun c2 => ?_)
    · try simp only [toN] at c2
      refine gk_region env false [] [1, 2, 3, 4, 8, 25, 26, 27] ?_ -- 8
      refine gk_region env false [.el default strC [(r.firms.getD i default).name], .el default strC (((r.firms.take i).map fun c => c.name) ++ [(r.firms.getD i default).name])] [1, 2, 3, 4, 25, 26, 27] ?_ (hp := (by simp only [AllP, Int.toNat_natCast]; repeat' first | exact trivial | exact EntL.refl _ | exact BEntL.refl _ | exact rfl | omega | apply And.intro | intro _ | (simp [rowL]; done) | (simp only [List.length_append, List.length_cons, List.length_nil]; omega) | (simp [*]; done))) -- 9
      refine gk_region env false [] [1, 2, 3, 4, 25, 26, 27] ?_ -- 10
      refine gk_round (i + 1) ?_ (hp := by simp [AllP, take_map (show i < r.firms.length by omega)])
      omega
    · try simp only [toN] at c2
      refine gk_region env false [] [2, 3, 4, 38, 39, 40] ?_ -- 11
      refine gk_loop (α := Nat) (fun i => i ≤ r.orders.length) (fun i => [(40, iG i), (4, .sl 3 1 0 ((r.orders.take i).map fun c => c.name).length)]) (fun i => [(3, some (.row 9 1 default strC ((r.orders.take i).map fun c => c.name) 0))]) (fun i => r.orders.length - i) 0 (Nat.zero_le _) ?_ -- loop 12
      rintro i hi
      have hl : ((r.orders.take i).map fun c => c.name).length = i := by rw [List.length_map, getD_take' hi]
      refine gk_region env false [] [2, 3, 4, 38, 39, 40, 41] ?_ -- 12
      refine gk_ifd (fun c3 => ?_) (fun c3 => ?_)
      · try simp only [toN] at c3
        refine gk_region env false [] [2, 3, 4, 10, 38, 39, 40] ?_ -- 13
        refine gk_region env false [.el default strC [(r.orders.getD i default).name], .el default strC (((r.orders.take i).map fun c => c.name) ++ [(r.orders.getD i default).name])] [2, 3, 4, 38, 39, 40] ?_ (hp := (by simp only [AllP, Int.toNat_natCast]; repeat' first | exact trivial | exact EntL.refl _ | exact BEntL.refl _ | exact rfl | omega | apply And.intro | intro _ | (simp [rowL]; done) | (simp only [List.length_append, List.length_cons, List.length_nil]; omega) | (simp [*]; done))) -- 14
        refine gk_region env false [] [2, 3, 4, 38, 39, 40] ?_ -- 15
        refine gk_round (i + 1) ?_ (hp := by simp [AllP, take_map (show i < r.orders.length by omega)])
        omega
      · try simp only [toN] at c3
        refine gk_region env false [] [2, 3, 4] ?_ -- 16
        refine gk_ret env ?_
        simp [cityN, firmN, orderN, tupG]
        exact ⟨List.take_of_length_le (by rw [List.length_map]; omega), List.take_of_length_le (by rw [List.length_map]; omega), List.take_of_length_le (by rw [List.length_map]; omega)⟩
end Go.Gh
