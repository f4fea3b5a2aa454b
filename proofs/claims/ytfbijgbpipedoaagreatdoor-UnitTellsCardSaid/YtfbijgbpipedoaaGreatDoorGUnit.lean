/- Walks by the logic of calls, and plain laws. -/
import Derived.Test.YtfbijgbpipedoaaGreatDoorGRat
import Derived.Test.YtfbijgbpipedoaaGreatDoorGStr
namespace Go.Gh
open Go Go.Proofs
set_option maxRecDepth 1000000
set_option maxHeartbeats 2000000
set_option linter.unusedSimpArgs false
set_option linter.unusedVariables false
open Go.Proofs.YtfbijgbpipedoaaGreatDoor Go.Proofs.YtfbijgbpipedoaaGreatDoor.Ra

structure Un where
  name : ByteArray
  base : Int
  num : Int
  den : Int
instance : Inhabited Un := ⟨⟨⟨#[]⟩, 0, 0, 0⟩⟩
def unC (u : Un) : List D := [.sc (.string u.name), .sc (.int .i64 u.base), .sc (.int .i64 u.num), .sc (.int .i64 u.den)]
abbrev rowU (t : List Un) : G := .d (.row default unC t)
def find (t : List Un) (s : ByteArray) (i : Nat) : Int := if i < t.length then if (t.getD i default).name = s then i else find t s (i + 1) else -1
termination_by t.length - i
def baseOk (t : List Un) (i : Int) : Bool := decide (0 ≤ i) && decide (i < t.length) && decide ((t.getD i.toNat default).base = i) && decide ((t.getD i.toNat default).num = 1) && decide ((t.getD i.toNat default).den = 1)
def unBad (t : List Un) (u : Un) : Bool := decide (u.num < 1) || decide (100000 < u.num) || decide (u.den < 1) || decide (100000 < u.den) || !baseOk t u.base
def named (t : List Un) (s : ByteArray) : Bool := t.any fun u => decide (u.name = s)
def names (t : List Un) : List (Value × Value) := t.map fun u => (.string u.name, .bool true)
def chkF (t : List Un) (i : Nat) : Int :=
  if i < t.length then
    if nameOk (t.getD i default).name then if named (t.take i) (t.getD i default).name then 5 else if unBad t (t.getD i default) then 1 else chkF t (i + 1) else 2
  else 0
termination_by t.length - i
def chk (t : List Un) : Int := if 40 < (t.length : Int) then 6 else chkF t 0
theorem look_names (s : ByteArray) : ∀ t : List Un, lookP (.string s) (names t) (.bool false) (.bool (named t s)) (named t s) := by
  intro t
  induction t with
  | nil => exact .inr ⟨rfl, rfl, rfl⟩
  | cons u t ih =>
    by_cases h : u.name = s
    · refine .inl ⟨by simp [named, h], ?_⟩
      simp [names, mget, keySame, h, named]
    · have h' : ¬ s = u.name := fun e => h e.symm
      have e : named (u :: t) s = named t s := by simp [named, h]
      rw [e]
      rcases ih with ⟨h1, h2⟩ | ⟨h1, h2, h3⟩
      · exact .inl ⟨h1, by simp only [names, List.map_cons, mget, keySame, h', decide_false]; exact h2⟩
      · exact .inr ⟨h1, h2, by simp only [names, List.map_cons, mget, keySame, h', decide_false]; exact h3⟩
theorem put_names (s : ByteArray) : ∀ t : List Un, named t s = false → mput (.string s) (.bool true) (names t) = some (names t ++ [(.string s, .bool true)]) := by
  intro t
  induction t with
  | nil => intro _; rfl
  | cons u t ih =>
    intro h
    simp only [named, List.any_cons, Bool.or_eq_false_iff, decide_eq_false_iff_not] at h
    have h' : ¬ s = u.name := fun e => h.1 e.symm
    simp only [names, List.map_cons, mput, keySame, h', decide_false]
    have := ih h.2
    simp only [names] at this
    rw [this]; rfl
theorem names_take {t : List Un} {i : Nat} (h : i < t.length) : names (t.take (i + 1)) = names (t.take i) ++ [(.string (t.getD i default).name, .bool true)] := by
  unfold names
  rw [List.take_add_one, List.map_append, List.getD_eq_getElem?_getD, List.getElem?_eq_getElem h]
  rfl

theorem find_ok (t : List Un) (s : ByteArray) (ht : t.length ≤ 9223372036854775807) : GC Tryz.prog 8 [rowU t, sG s] (iG (find t s 0)) := by
  refine gc_of_gk Tryz.func8 ?_
  refine gk_region env false [] [0, 1, 4] ?_ -- 0
  refine gk_region env false [] [1, 4, 7, 8, 9] ?_ -- 1
  refine gk_loop (α := Nat) (fun i => i ≤ t.length ∧ find t s 0 = find t s i) (fun i => [(9, iG i)]) (fun _ => []) (fun i => t.length - i) 0 ⟨by omega, rfl⟩ ?_ -- loop 2
  rintro i ⟨hi, he⟩
  refine gk_region env false [] [1, 4, 7, 8, 9, 10] ?_ -- 2
  refine gk_ifd (fun c1 => ?_) (fun c1 => ?_)
  · try simp only [toN] at c1
    refine gk_region env false [] [1, 4, 5, 6, 7, 8, 9] ?_ -- 3
    refine gk_region env false [] [1, 4, 5, 7, 8, 9, 17] ?_ -- 4
    refine gk_ifd (fun c2 => ?_) (fun c2 => ?_)
    · try simp only [toN] at c2
      refine gk_region env false [] [1, 4, 7, 8, 9] ?_ -- 5
      refine gk_ret env ?_
      rw [he, find, if_pos (by omega), if_pos (by simpa using c2)]; rfl
    · try simp only [toN] at c2
      refine gk_region env false [] [1, 4, 7, 8, 9] ?_ -- 6
      refine gk_round (i + 1) ?_
      refine ⟨by omega, he.trans ?_⟩
      rw [find, if_pos (by omega), if_neg (by simpa using c2)]
  · try simp only [toN] at c1
    refine gk_region env false [] [4] ?_ -- 7
    refine gk_ret env ?_
    rw [he, find, if_neg (by omega)]; rfl

theorem base_ok (t : List Un) (i : Int) : GC Tryz.prog 28 [rowU t, iG i] (bG (baseOk t i)) := by
  refine gc_of_gk Tryz.func28 ?_
  refine gk_region env false [] [0, 1, 4] ?_ -- 0
  refine gk_region env false [] [4] ?_ -- 1
  refine gk_ret env ?_
  simp [baseOk, tupG]

theorem check_ok (t : List Un) (ht : t.length ≤ 9223372036854775807) (hs : ∀ u, u ∈ t → u.name.size ≤ 9223372036854775807) : GC Tryz.prog 6 [rowU t] (iG (chk t)) := by
  refine gc_of_gk Tryz.func6 ?_
  refine gk_region env false [] [0, 2] ?_ -- 0
  refine gk_region env false [] [0, 2, 8] ?_ -- 1
  refine gk_ifd (fun c1 => ?_) (fun c1 => ?_)
  · try simp only [toN] at c1
    refine gk_region env false [] [0, 2] ?_ -- 2
    refine gk_ret env ?_
    rw [chk, if_pos c1]; rfl
  · try simp only [toN] at c1
    refine gk_region env false [] [0, 2, 3] ?_ -- 3
    refine gk_region env false [] [0, 2, 3, 10, 11, 12] ?_ -- 4
    refine gk_loop (α := Nat) (fun i => i ≤ t.length ∧ chk t = chkF t i) (fun i => [(12, iG i)]) (fun i => [(0, some (.mp (names (t.take i))))]) (fun i => t.length - i) 0 ⟨by omega, by rw [chk, if_neg c1]⟩ ?_ (hp := by simp [AllP, names]) -- loop 5
    rintro i ⟨hi, he⟩
    refine gk_region env false [] [0, 2, 3, 10, 11, 12, 13] ?_ -- 5
    refine gk_ifd (fun c2 => ?_) (fun c2 => ?_)
    · try simp only [toN] at c2
      refine gk_region env false [] [0, 2, 3, 5, 10, 11, 12] ?_ -- 6
      have hm : t.getD i default ∈ t := by rw [List.getD_eq_getElem?_getD, List.getElem?_eq_getElem (by omega)]; simp
      refine gk_region env false [.call (name_ok _ (hs _ hm))] [0, 2, 3, 5, 10, 11, 12, 16] ?_ -- 7
      refine gk_if (fun c3 => ?_) (fun c3 => ?_)
      · try simp only [bb, toN] at c3
        refine gk_region env false [] [0, 2, 3, 5, 10, 11, 12] ?_ -- 8
        refine gk_ret env ?_
        rw [he, chkF, if_pos (by omega), if_neg (by simpa using c3)]; rfl
      · try simp only [bb, toN] at c3
        refine gk_region env false [.look (.bool (named (t.take i) (t.getD i default).name)) (named (t.take i) (t.getD i default).name)] [0, 2, 3, 5, 10, 11, 12, 21] ?_ (hp := by exact look_names _ _) -- 9
        refine gk_if (fun c4 => ?_) (fun c4 => ?_)
        · try simp only [bb, toN] at c4
          refine gk_region env false [] [0, 2, 3, 5, 10, 11, 12] ?_ -- 10
          refine gk_ret env ?_
          rw [he, chkF, if_pos (by omega), if_pos (by simpa using c3), if_pos (by simpa using c4)]; rfl
        · try simp only [bb, toN] at c4
          refine gk_region env false [.call (base_ok t _)] [0, 2, 3, 5, 10, 11, 12, 26] ?_ -- 11
          refine gk_if (fun c5 => ?_) (fun c5 => ?_)
          · try simp only [bb, toN] at c5
            refine gk_region env false [] [0, 2, 3, 5, 10, 11, 12] ?_ -- 12
            refine gk_ret env ?_
            rw [he, chkF, if_pos (by omega), if_pos (by simpa using c3), if_neg (by simpa using c4), if_pos (by simpa [unBad] using c5)]; rfl
          · try simp only [bb, toN] at c5
            refine gk_region env false [.mp (names (t.take (i + 1)))] [0, 2, 3, 10, 11, 12] ?_ (hp := by rw [names_take (by omega)]; exact put_names _ _ (by simpa using c4)) -- 13
            refine gk_region env false [] [0, 2, 3, 10, 11, 12] ?_ -- 14
            refine gk_round (i + 1) ?_ (hp := by simp [AllP, names])
            refine ⟨by omega, ?_⟩
            rw [he, chkF, if_pos (by omega), if_pos (by simpa using c3), if_neg (by simpa using c4), if_neg (by simpa [unBad] using c5)]
    · try simp only [toN] at c2
      refine gk_region env false [] [2] ?_ -- 15
      refine gk_ret env ?_
      rw [he, chkF, if_neg (by omega)]; rfl

structure Qu where
  n : Int
  u : Int
instance : Inhabited Qu := ⟨⟨0, 0⟩⟩
def quC (q : Qu) : List D := [.sc (.int .i64 q.n), .sc (.int .i64 q.u)]
abbrev rowQ (l : List Qu) : G := .d (.row default quC l)
abbrev quG (q : Qu) : G := .agg [iG q.n, iG q.u]
abbrev uSG (u : Un) : G := .agg [sG u.name, iG u.base, iG u.num, iG u.den]
abbrev uAt (t : List Un) (i : Int) : Un := t.getD i.toNat default
def quBad (t : List Un) (q : Qu) : Bool := decide (q.u < 0) || decide ((t.length : Int) ≤ q.u) || decide (q.n < 0) || decide (1000000000 < q.n)
def rghtF (t : List Un) (l : List Qu) (i : Nat) : Int := if i < l.length then if quBad t (l.getD i default) then 1 else rghtF t l (i + 1) else 0
termination_by l.length - i
def rght (t : List Un) (l : List Qu) : Int := if chk t = 0 then rghtF t l 0 else chk t
def valV (t : List Un) (q : Qu) : Q := makeV (q.n * (uAt t q.u).num) (uAt t q.u).den
def oneV (u : Un) : Q := makeV u.num u.den
theorem getD_mem {t : List Un} {i : Nat} (h : i < t.length) : t.getD i default ∈ t := by
  rw [List.getD_eq_getElem?_getD, List.getElem?_eq_getElem h]; simp
theorem chkF_all {t : List Un} : ∀ (k i : Nat), t.length - i = k → chkF t i = 0 → ∀ j, i ≤ j → j < t.length → unBad t (t.getD j default) = false := by
  intro k
  induction k with
  | zero => intro i h _ j h1 h2; omega
  | succ k ih =>
    intro i h hc j h1 h2
    rw [chkF, if_pos (by omega)] at hc
    split at hc
    · split at hc
      · omega
      · split at hc
        · omega
        · rename_i hb
          by_cases e : j = i
          · subst e; simpa using hb
          · exact ih (i + 1) (by omega) hc j (by omega) h2
    · omega
structure UnOk (u : Un) : Prop where
  n1 : 1 ≤ u.num
  n2 : u.num ≤ 100000
  d1 : 1 ≤ u.den
  d2 : u.den ≤ 100000
theorem chk_ok {t : List Un} (h : chk t = 0) {i : Int} (h0 : 0 ≤ i) (h1 : i < t.length) : UnOk (uAt t i) := by
  unfold chk at h
  split at h
  · omega
  · have := chkF_all _ 0 rfl h i.toNat (Nat.zero_le _) (by omega)
    simp only [unBad, Bool.or_eq_false_iff, decide_eq_false_iff_not] at this
    unfold uAt
    exact ⟨by omega, by omega, by omega, by omega⟩
structure QuOk (t : List Un) (q : Qu) : Prop where
  u0 : 0 ≤ q.u
  u1 : q.u < t.length
  n0 : 0 ≤ q.n
  n1 : q.n ≤ 1000000000
  un : UnOk (uAt t q.u)
theorem QuOk.mul {t : List Un} {q : Qu} (h : QuOk t q) : 0 ≤ q.n * (uAt t q.u).num ∧ q.n * (uAt t q.u).num ≤ 100000000000000 :=
  ⟨Int.mul_nonneg h.n0 (by have := h.un.n1; omega), Int.le_trans (Int.mul_le_mul h.n1 h.un.n2 (by have := h.un.n1; omega) (by omega)) (by omega)⟩
theorem rghtF_all {t : List Un} {l : List Qu} (hc : chk t = 0) : ∀ (k i : Nat), l.length - i = k → rghtF t l i = 0 → ∀ j, i ≤ j → j < l.length → QuOk t (l.getD j default) := by
  intro k
  induction k with
  | zero => intro i h _ j h1 h2; omega
  | succ k ih =>
    intro i h hr j h1 h2
    rw [rghtF, if_pos (by omega)] at hr
    split at hr
    · omega
    · rename_i hb
      by_cases e : j = i
      · subst e
        simp only [quBad, Bool.or_eq_true, decide_eq_true_eq, not_or] at hb
        exact ⟨by omega, by omega, by omega, by omega, chk_ok hc (by omega) (by omega)⟩
      · exact ih (i + 1) (by omega) hr j (by omega) h2
theorem rght_chk {t : List Un} {l : List Qu} (h : rght t l = 0) : chk t = 0 := by
  unfold rght at h; split at h <;> assumption
theorem rght_all {t : List Un} {l : List Qu} (h : rght t l = 0) {j : Nat} (hj : j < l.length) : QuOk t (l.getD j default) := by
  have hc := rght_chk h
  unfold rght at h
  rw [if_pos hc] at h
  exact rghtF_all hc _ 0 rfl h j (Nat.zero_le _) hj

theorem right_ok (t : List Un) (ht : t.length ≤ 9223372036854775807) (hs : ∀ u, u ∈ t → u.name.size ≤ 9223372036854775807) (l : List Qu) (hl : l.length ≤ 9223372036854775807) : GC Tryz.prog 31 [rowU t, rowQ l] (iG (rght t l)) := by
  refine gc_of_gk Tryz.func31 ?_
  refine gk_region env false [] [0, 1, 4] ?_ -- 0
  refine gk_region env false [.call (check_ok t ht hs)] [0, 1, 4, 5] ?_ -- 1
  refine gk_region env false [] [0, 1, 4, 5, 11] ?_ -- 2
  refine gk_ifn (fun c1 => ?_) (fun c1 => ?_)
  · try simp only [toN] at c1
    refine gk_region env false [] [0, 1, 4] ?_ -- 3
    refine gk_ret env ?_
    rw [rght, if_neg c1]; rfl
  · try simp only [toN] at c1
    refine gk_region env false [] [0, 4, 13, 14, 15] ?_ -- 4
    refine gk_loop (α := Nat) (fun i => i ≤ l.length ∧ rght t l = rghtF t l i) (fun i => [(15, iG i)]) (fun _ => []) (fun i => l.length - i) 0 ⟨by omega, by rw [rght, if_pos c1]⟩ ?_ -- loop 5
    rintro i ⟨hi, he⟩
    refine gk_region env false [] [0, 4, 13, 14, 15, 16] ?_ -- 5
    refine gk_ifd (fun c2 => ?_) (fun c2 => ?_)
    · try simp only [toN] at c2
      refine gk_region env false [] [0, 4, 7, 13, 14, 15] ?_ -- 6
      refine gk_region env false [] [0, 4, 13, 14, 15, 38] ?_ -- 7
      refine gk_if (fun c3 => ?_) (fun c3 => ?_)
      · try simp only [bb, toN] at c3
        refine gk_region env false [] [0, 4, 13, 14, 15] ?_ -- 8
        refine gk_ret env ?_
        rw [he, rghtF, if_pos (by omega), if_pos (by simpa [quBad] using c3)]; rfl
      · try simp only [bb, toN] at c3
        refine gk_region env false [] [0, 4, 13, 14, 15] ?_ -- 9
        refine gk_round (i + 1) ?_
        refine ⟨by omega, ?_⟩
        rw [he, rghtF, if_pos (by omega), if_neg (by simpa [quBad] using c3)]
    · try simp only [toN] at c2
      refine gk_region env false [] [4] ?_ -- 10
      refine gk_ret env ?_
      rw [he, rghtF, if_neg (by omega)]; rfl

theorem value_ok (t : List Un) (q : Qu) (h : QuOk t q) : GC Tryz.prog 35 [rowU t, quG q] (qG (valV t q)) := by
  have hm := h.mul
  have h1 := h.un
  obtain ⟨a1, a2, a3, a4⟩ := h
  obtain ⟨b1, b2, b3, b4⟩ := h1
  unfold uAt at *
  refine gc_of_gk Tryz.func35 ?_
  refine gk_region env false [] [0, 3, 4] ?_ -- 0
  refine gk_region env false [.call (make_ok (q.n * (t.getD q.u.toNat default).num) (t.getD q.u.toNat default).den ⟨by omega, by omega⟩ ⟨by omega, by omega⟩)] [4, 5] ?_ -- 1
  refine gk_region env false [] [4] ?_ -- 2
  refine gk_ret env ?_
  rfl

theorem one_ok (u : Un) (h : UnOk u) : GC Tryz.prog 38 [uSG u] (qG (oneV u)) := by
  obtain ⟨b1, b2, b3, b4⟩ := h
  refine gc_of_gk Tryz.func38 ?_
  refine gk_region env false [] [1, 2] ?_ -- 0
  refine gk_region env false [.call (make_ok u.num u.den ⟨by omega, by omega⟩ ⟨by omega, by omega⟩)] [2, 3] ?_ -- 1
  refine gk_region env false [] [2] ?_ -- 2
  refine gk_ret env ?_
  rfl

def valueR (t : List Un) (q : Qu) : Q × Int := if rght t [q] = 0 then (valV t q, 0) else (⟨0, 0⟩, rght t [q])
def cmpR (t : List Un) (a b : Qu) : Int × Int := if rght t [a, b] = 0 then if (uAt t a.u).base = (uAt t b.u).base then (cmpV (valV t a) (valV t b), 0) else (0, 11) else (0, rght t [a, b])
def convR (t : List Un) (q : Qu) (u : Int) : Q × Int := if rght t [q, ⟨0, u⟩] = 0 then if (uAt t u).base = (uAt t q.u).base then (divV (valV t q) (oneV (uAt t u)), divE (valV t q) (oneV (uAt t u))) else (⟨0, 0⟩, 11) else (⟨0, 0⟩, rght t [q, ⟨0, u⟩])
def lowV (t : List Un) (q : Qu) (k : Int) : Q := makeV (q.n * (uAt t q.u).num * k) ((uAt t q.u).den * 1000)
def withR (t : List Un) (a : Qu) (less more : Int) (b : Qu) : Bool × Int :=
  if rght t [a, b] = 0 then
    if less < 0 ∨ 1000 < less ∨ more < 0 ∨ 1000 < more then (false, 1)
    else if (uAt t a.u).base = (uAt t b.u).base then (decide (cmpV (lowV t a (1000 - less)) (valV t b) ≤ 0) && decide (cmpV (valV t b) (lowV t a (1000 + more)) ≤ 0), 0) else (false, 11)
  else (false, rght t [a, b])
def sameF (t : List Un) (l : List Qu) (i : Nat) : Bool := if i < l.length then if (uAt t (l.getD i default).u).base = (uAt t (l.getD 0 default).u).base then sameF t l (i + 1) else false else true
termination_by l.length - i
def sumF (t : List Un) (l : List Qu) (i : Nat) (a : Q) : Q × Int := if i < l.length then if addE a (valV t (l.getD i default)) = 0 then sumF t l (i + 1) (addV a (valV t (l.getD i default))) else (⟨0, 0⟩, addE a (valV t (l.getD i default))) else (a, 0)
termination_by l.length - i
def sumR (t : List Un) (l : List Qu) : Q × Int :=
  if chk t = 0 then if 100 < (l.length : Int) then (⟨0, 0⟩, 6) else if rght t l = 0 then if sameF t l 0 then sumF t l 0 ⟨0, 1⟩ else (⟨0, 0⟩, 11) else (⟨0, 0⟩, rght t l) else (⟨0, 0⟩, chk t)
theorem QuOk.mul3 {t : List Un} {q : Qu} (h : QuOk t q) {k : Int} (h0 : 0 ≤ k) (h1 : k ≤ 2000) : 0 ≤ q.n * (uAt t q.u).num * k ∧ q.n * (uAt t q.u).num * k ≤ 200000000000000000 := by
  obtain ⟨m1, m2⟩ := h.mul
  exact ⟨Int.mul_nonneg m1 h0, Int.le_trans (Int.mul_le_mul m2 h1 h0 (by omega)) (by omega)⟩
theorem rght_two {t : List Un} {a b : Qu} (h : rght t [a, b] = 0) : QuOk t a ∧ QuOk t b := ⟨rght_all h (j := 0) (by simp), rght_all h (j := 1) (by simp)⟩
theorem rght_one {t : List Un} {a : Qu} (h : rght t [a] = 0) : QuOk t a := rght_all h (j := 0) (by simp)

theorem Value_ok (t : List Un) (ht : t.length ≤ 9223372036854775807) (hs : ∀ u, u ∈ t → u.name.size ≤ 9223372036854775807) (q : Qu) : GC Tryz.prog 12 [rowU t, quG q] (.tup [qG (valueR t q).1, iG (valueR t q).2]) := by
  refine gc_of_gk Tryz.func12 ?_
  refine gk_region env false [] [0, 3, 4, 5] ?_ -- 0
  refine gk_region env false [.el default quC [q], .call (right_ok t ht hs [q] (by simp))] [0, 3, 4, 5, 6] ?_ -- 1
  refine gk_region env false [] [0, 3, 4, 5, 6, 12] ?_ -- 2
  refine gk_ifn (fun c1 => ?_) (fun c1 => ?_)
  · try simp only [toN] at c1
    refine gk_region env false [] [0, 3, 4, 5] ?_ -- 3
    refine gk_ret env ?_
    simp [valueR, c1, tupG]
  · try simp only [toN] at c1
    refine gk_region env false [.call (value_ok t q (rght_one c1))] [4, 5] ?_ -- 4
    refine gk_ret env ?_
    simp [valueR, c1, tupG]

theorem compare_ok (t : List Un) (ht : t.length ≤ 9223372036854775807) (hs : ∀ u, u ∈ t → u.name.size ≤ 9223372036854775807) (a b : Qu) : GC Tryz.prog 18 [rowU t, quG a, quG b] (.tup [iG (cmpR t a b).1, iG (cmpR t a b).2]) := by
  refine gc_of_gk Tryz.func18 ?_
  refine gk_region env false [] [0, 4, 5, 6, 7] ?_ -- 0
  refine gk_region env false [.el default quC [a, b], .call (right_ok t ht hs [a, b] (by simp))] [0, 4, 5, 6, 7, 8] ?_ -- 1
  refine gk_region env false [] [0, 4, 5, 6, 7, 8, 15] ?_ -- 2
  refine gk_ifn (fun c1 => ?_) (fun c1 => ?_)
  · try simp only [toN] at c1
    refine gk_region env false [] [0, 4, 5, 6, 7] ?_ -- 3
    refine gk_ret env ?_
    rw [cmpR, if_neg c1]; rfl
  · try simp only [toN] at c1
    obtain ⟨oa, ob⟩ := rght_two c1
    obtain ⟨a1, a2, a3, a4, a5⟩ := id oa
    obtain ⟨b1, b2, b3, b4, b5⟩ := id ob
    refine gk_region env false [] [0, 4, 5, 6, 7, 29] ?_ -- 4
    refine gk_ifn (fun c2 => ?_) (fun c2 => ?_)
    · try simp only [toN] at c2
      refine gk_region env false [] [0, 4, 5, 6, 7] ?_ -- 5
      refine gk_ret env ?_
      rw [cmpR, if_pos c1, if_neg c2]; rfl
    · try simp only [toN] at c2
      refine gk_region env false [.call (value_ok t a oa), .call (value_ok t b ob), .call (cmp_ok (valV t a) (valV t b) (make_64 _ _) (make_64 _ _))] [6, 7] ?_ -- 6
      refine gk_ret env ?_
      rw [cmpR, if_pos c1, if_pos c2]; rfl

theorem convert_ok (t : List Un) (ht : t.length ≤ 9223372036854775807) (hs : ∀ u, u ∈ t → u.name.size ≤ 9223372036854775807) (q : Qu) (u : Int) : GC Tryz.prog 14 [rowU t, quG q, iG u] (.tup [qG (convR t q u).1, iG (convR t q u).2]) := by
  refine gc_of_gk Tryz.func14 ?_
  refine gk_region env false [] [0, 2, 4, 6, 7] ?_ -- 0
  refine gk_region env false [.el default quC [q, ⟨0, u⟩], .call (right_ok t ht hs [q, ⟨0, u⟩] (by simp))] [0, 2, 4, 6, 7, 8] ?_ -- 1
  refine gk_region env false [] [0, 2, 4, 6, 7, 8, 16] ?_ -- 2
  refine gk_ifn (fun c1 => ?_) (fun c1 => ?_)
  · try simp only [toN] at c1
    refine gk_region env false [] [0, 2, 4, 6, 7] ?_ -- 3
    refine gk_ret env ?_
    rw [convR, if_neg c1]; rfl
  · try simp only [toN] at c1
    obtain ⟨oa, ob⟩ := rght_two c1
    obtain ⟨a1, a2, a3, a4, a5⟩ := id oa
    obtain ⟨b1, b2, b3, b4, b5⟩ := id ob
    dsimp only at *
    refine gk_region env false [] [0, 2, 4, 6, 7, 30] ?_ -- 4
    refine gk_ifn (fun c2 => ?_) (fun c2 => ?_)
    · try simp only [toN] at c2
      refine gk_region env false [] [0, 2, 4, 6, 7] ?_ -- 5
      refine gk_ret env ?_
      rw [convR, if_pos c1, if_neg c2]; rfl
    · try simp only [toN] at c2
      refine gk_region env false [.call (value_ok t q oa), .call (one_ok (uAt t u) (chk_ok (rght_chk c1) b1 b2)), .call (div_ok (valV t q) (oneV (uAt t u)) (make_64 _ _) (make_64 _ _))] [6, 7] ?_ -- 6
      refine gk_ret env ?_
      rw [convR, if_pos c1, if_pos c2]; rfl

theorem within_ok (t : List Un) (ht : t.length ≤ 9223372036854775807) (hs : ∀ u, u ∈ t → u.name.size ≤ 9223372036854775807) (a : Qu) (less more : Int) (b : Qu) : GC Tryz.prog 20 [rowU t, quG a, iG less, iG more, quG b] (.tup [bG (withR t a less more b).1, iG (withR t a less more b).2]) := by
  refine gc_of_gk Tryz.func20 ?_
  refine gk_region env false [] [0, 2, 3, 6, 9, 10, 11] ?_ -- 0
  refine gk_region env false [.el default quC [a, b], .call (right_ok t ht hs [a, b] (by simp))] [0, 2, 3, 6, 9, 10, 11, 12] ?_ -- 1
  refine gk_region env false [] [0, 2, 3, 6, 9, 10, 11, 12, 25] ?_ -- 2
  refine gk_ifn (fun c1 => ?_) (fun c1 => ?_)
  · try simp only [toN] at c1
    refine gk_region env false [] [0, 2, 3, 6, 9, 10, 11] ?_ -- 3
    refine gk_ret env ?_
    rw [withR, if_neg c1]; rfl
  · try simp only [toN] at c1
    refine gk_region env false [] [0, 2, 3, 6, 9, 10, 11, 40] ?_ -- 4
    refine gk_if (fun c2 => ?_) (fun c2 => ?_)
    · try simp only [bb, toN] at c2
      refine gk_region env false [] [0, 2, 3, 6, 9, 10, 11] ?_ -- 5
      refine gk_ret env ?_
      rw [withR, if_pos c1, if_pos (by omega)]; rfl
    · try simp only [bb, toN] at c2
      obtain ⟨oa, ob⟩ := rght_two c1
      obtain ⟨a1, a2, a3, a4, a5⟩ := id oa
      obtain ⟨b1, b2, b3, b4, b5⟩ := id ob
      have m0 := oa.mul
      have m1 := oa.mul3 (k := 1000 - less) (by omega) (by omega)
      have m2 := oa.mul3 (k := 1000 + more) (by omega) (by omega)
      obtain ⟨e1, e2, e3, e4⟩ := a5
      unfold uAt at *
      refine gk_region env false [] [0, 2, 3, 6, 9, 10, 11, 53] ?_ -- 6
      refine gk_ifn (fun c3 => ?_) (fun c3 => ?_)
      · try simp only [toN] at c3
        refine gk_region env false [] [0, 2, 3, 6, 9, 10, 11] ?_ -- 7
        refine gk_ret env ?_
        rw [withR, if_pos c1, if_neg (by omega), if_neg c3]; rfl
      · try simp only [toN] at c3
        refine gk_region env false [] [0, 2, 3, 6, 9, 10, 11, 13] ?_ -- 8
        refine gk_region env false [.call (value_ok t b ob)] [2, 3, 6, 10, 11, 13, 14] ?_ -- 9
        refine gk_region env false [.call (make_ok (a.n * (t.getD a.u.toNat default).num * (1000 - less)) ((t.getD a.u.toNat default).den * 1000) ⟨by omega, by omega⟩ ⟨by omega, by omega⟩)] [3, 6, 10, 11, 13, 14, 15] ?_ -- 10
        refine gk_region env false [.call (make_ok (a.n * (t.getD a.u.toNat default).num * (1000 + more)) ((t.getD a.u.toNat default).den * 1000) ⟨by omega, by omega⟩ ⟨by omega, by omega⟩)] [10, 11, 14, 15, 17] ?_ -- 11
        refine gk_region env false [.call (cmp_ok (lowV t a (1000 - less)) (valV t b) (make_64 _ _) (make_64 _ _)), .call (cmp_ok (valV t b) (lowV t a (1000 + more)) (make_64 _ _) (make_64 _ _))] [10, 11] ?_ -- 12
        refine gk_ret env ?_
        rw [withR, if_pos c1, if_neg (by omega), if_pos c3]; simp [tupG, lowV, uAt]

theorem sum_ok (t : List Un) (ht : t.length ≤ 9223372036854775807) (hs : ∀ u, u ∈ t → u.name.size ≤ 9223372036854775807) (l : List Qu) (hl : l.length ≤ 9223372036854775807) : GC Tryz.prog 16 [rowU t, rowQ l] (.tup [qG (sumR t l).1, iG (sumR t l).2]) := by
  refine gc_of_gk Tryz.func16 ?_
  refine gk_region env false [] [0, 1, 4, 5] ?_ -- 0
  refine gk_region env false [.call (check_ok t ht hs)] [0, 1, 4, 5, 6] ?_ -- 1
  refine gk_region env false [] [0, 1, 4, 5, 6, 18] ?_ -- 2
  refine gk_ifn (fun c1 => ?_) (fun c1 => ?_)
  · try simp only [toN] at c1
    refine gk_region env false [] [0, 1, 4, 5] ?_ -- 3
    refine gk_ret env ?_
    rw [sumR, if_neg c1]; rfl
  · try simp only [toN] at c1
    refine gk_region env false [] [0, 1, 4, 5, 23] ?_ -- 4
    refine gk_ifd (fun c2 => ?_) (fun c2 => ?_)
    · try simp only [toN] at c2
      refine gk_region env false [] [0, 1, 4, 5] ?_ -- 5
      refine gk_ret env ?_
      rw [sumR, if_pos c1, if_pos c2]; rfl
    · try simp only [toN] at c2
      refine gk_region env false [.call (right_ok t ht hs l hl)] [0, 1, 4, 5, 7] ?_ -- 6
      refine gk_region env false [] [0, 1, 4, 5, 7, 29] ?_ -- 7
      refine gk_ifn (fun c3 => ?_) (fun c3 => ?_)
      · try simp only [toN] at c3
        refine gk_region env false [] [0, 1, 4, 5] ?_ -- 8
        refine gk_ret env ?_
        rw [sumR, if_pos c1, if_neg c2, if_neg c3]; rfl
      · try simp only [toN] at c3
        refine gk_region env false [] [0, 1, 4, 5, 32, 33, 34] ?_ -- 9
        refine gk_loop (α := Nat) (fun i => i ≤ l.length ∧ sameF t l 0 = sameF t l i) (fun i => [(34, iG i)]) (fun _ => []) (fun i => l.length - i) 0 ⟨by omega, rfl⟩ ?_ -- loop 10
        rintro i ⟨hi, he⟩
        have hq := fun j (hj : j < l.length) => rght_all c3 hj
        refine gk_region env false [] [0, 1, 4, 5, 32, 33, 34, 35] ?_ -- 10
        refine gk_ifd (fun c4 => ?_) (fun c4 => ?_)
        · try simp only [toN] at c4
          refine gk_region env false [] [0, 1, 4, 5, 9, 32, 33, 34] ?_ -- 11
          have q1 := hq i (by omega)
          have q0 := hq 0 (by omega)
          obtain ⟨a1, a2, a3, a4, a5⟩ := q1
          obtain ⟨b1, b2, b3, b4, b5⟩ := q0
          refine gk_region env false [] [0, 1, 4, 5, 32, 33, 34, 52] ?_ -- 12
          refine gk_ifn (fun c5 => ?_) (fun c5 => ?_)
          · try simp only [toN] at c5
            refine gk_region env false [] [0, 1, 4, 5, 32, 33, 34] ?_ -- 13
            refine gk_ret env ?_
            have e : sameF t l 0 = false := by rw [he, sameF, if_pos (by omega), if_neg c5]
            rw [sumR, if_pos c1, if_neg c2, if_pos c3, e]; rfl
          · try simp only [toN] at c5
            refine gk_region env false [] [0, 1, 4, 5, 32, 33, 34] ?_ -- 14
            refine gk_round (i + 1) ?_
            refine ⟨by omega, ?_⟩
            rw [he, sameF, if_pos (by omega), if_pos c5]
        · try simp only [toN] at c4
          refine gk_region env false [] [0, 1, 4, 5, 10] ?_ -- 15
          refine gk_region env false [] [0, 4, 5, 10, 56, 57, 58] ?_ -- 16
          refine gk_loop (α := Nat × Q) (fun x => x.1 ≤ l.length ∧ Q64 x.2 ∧ sumR t l = sumF t l x.1 x.2) (fun x => [(58, iG x.1)]) (fun x => [(1, some (.box [iG x.2.n, iG x.2.d]))]) (fun x => l.length - x.1) (0, ⟨0, 1⟩) ⟨by simp, ⟨by simp, by simp, by simp, by simp⟩, by rw [sumR, if_pos c1, if_neg c2, if_pos c3, if_pos (by rw [he, sameF, if_neg (by omega)])]⟩ ?_ -- loop 17
          rintro ⟨i, a⟩ ⟨hi, ha, he⟩
          dsimp only at *
          refine gk_region env false [] [0, 4, 5, 10, 56, 57, 58, 59] ?_ -- 17
          refine gk_ifd (fun c6 => ?_) (fun c6 => ?_)
          · try simp only [toN] at c6
            refine gk_region env false [] [0, 4, 5, 10, 12, 56, 57, 58] ?_ -- 18
            refine gk_region env false [.call (value_ok t (l.getD i default) (hq i (by omega))), .call (add_ok a (valV t (l.getD i default)) ha (make_64 _ _))] [0, 4, 5, 10, 13, 14, 56, 57, 58] ?_ -- 19
            refine gk_region env false [] [0, 4, 5, 10, 13, 14, 56, 57, 58, 71] ?_ -- 20
            refine gk_ifn (fun c7 => ?_) (fun c7 => ?_)
            · try simp only [toN] at c7
              refine gk_region env false [] [0, 4, 5, 10, 13, 56, 57, 58] ?_ -- 21
              refine gk_ret env ?_
              rw [he, sumF, if_pos (by omega), if_neg c7]; rfl
            · try simp only [toN] at c7
              refine gk_region env false [] [0, 4, 5, 10, 56, 57, 58] ?_ -- 22
              refine gk_region env false [] [0, 4, 5, 10, 56, 57, 58] ?_ -- 23
              refine gk_round ((i + 1, addV a (valV t (l.getD i default)))) ?_
              refine ⟨by simp only; omega, add_64 _ _, ?_⟩
              rw [he, sumF, if_pos (by omega), if_pos c7]
          · try simp only [toN] at c6
            refine gk_region env false [] [4, 5] ?_ -- 24
            refine gk_ret env ?_
            rw [he, sumF, if_neg (by omega)]; rfl

def wPc : ByteArray := ⟨#[32, 112, 101, 114, 99, 101, 110, 116, 32]⟩
def wMol : ByteArray := ⟨#[109, 111, 114, 101, 32, 111, 114, 32, 108, 101, 115, 115]⟩
def wMore : ByteArray := ⟨#[109, 111, 114, 101]⟩
def wLess : ByteArray := ⟨#[108, 101, 115, 115]⟩
def wAbout : ByteArray := ⟨#[97, 98, 111, 117, 116]⟩
def pcBad (s e : ByteArray) : Bool := !hasS s (wPc ++ e) || !numOk (cutS s (wPc ++ e)) || decide (numV (cutS s (wPc ++ e)) < 1) || decide (100 < numV (cutS s (wPc ++ e)))
def pcV (s e : ByteArray) : Int := if pcBad s e then 0 else 10 * numV (cutS s (wPc ++ e))
structure Tol where
  less : Int
  more : Int
  ok : Bool
def tolV (s : ByteArray) : Tol :=
  if s = ⟨#[]⟩ then ⟨0, 0, true⟩ else if s = wAbout then ⟨100, 100, true⟩
  else if 0 < pcV s wMol then ⟨pcV s wMol, pcV s wMol, true⟩ else if 0 < pcV s wMore then ⟨0, pcV s wMore, true⟩ else if 0 < pcV s wLess then ⟨pcV s wLess, 0, true⟩ else ⟨0, 0, false⟩

theorem percent_ok (s e : ByteArray) (hs : s.size ≤ 9223372036854775807) (he : e.size ≤ 1000) : GC Tryz.prog 47 [sG e, .ep [.sc (.string s)]] (iG (pcV s e)) := by
  refine gc_of_gk Tryz.func47 ?_
  refine gk_region env false [] [0, 1, 3] ?_ -- 0
  refine gk_region env false [.call (cutSuffix_ok s (wPc ++ e) hs)] [3, 4, 5] ?_ (hp := by refine ⟨?_, EntL.refl _⟩; show 9 + e.size ≤ _; omega) -- 1
  refine gk_region env false [.call (number_ok (cutS s (wPc ++ e)) (Nat.le_trans (cutS_size _ _) hs))] [3, 5, 6, 7] ?_ -- 2
  refine gk_region env false [] [3, 6, 33] ?_ -- 3
  refine gk_if (fun c1 => ?_) (fun c1 => ?_)
  · try simp only [bb, toN] at c1
    refine gk_region env false [] [3, 6] ?_ -- 4
    refine gk_ret env ?_
    rw [pcV, if_pos (by simpa [pcBad] using c1)]; rfl
  · try simp only [bb, toN] at c1
    refine gk_region env false [] [3] ?_ -- 5
    refine gk_ret env ?_
    rw [pcV, if_neg (by simpa [pcBad, and_assoc] using c1)]; rfl

theorem tolerance_ok (s : ByteArray) (hs : s.size ≤ 9223372036854775807) : GC Tryz.prog 22 [sG s] (.tup [iG (tolV s).less, iG (tolV s).more, bG (tolV s).ok]) := by
  refine gc_of_gk Tryz.func22 ?_
  refine gk_region env false [] [1, 2, 3, 4] ?_ -- 0
  refine gk_region env false [] [1, 2, 3, 4, 9] ?_ -- 1
  refine gk_region env false [] [1, 2, 3, 4, 9, 10] ?_ -- 2
  refine gk_ifd (fun c1 => ?_) (fun c1 => ?_)
  · try simp only [toN] at c1
    refine gk_region env false [] [1, 2, 3, 4] ?_ -- 3
    refine gk_ret env ?_
    rw [tolV, if_pos c1]; rfl
  · try simp only [toN] at c1
    refine gk_region env false [] [1, 2, 3, 4, 12] ?_ -- 4
    refine gk_ifd (fun c2 => ?_) (fun c2 => ?_)
    · try simp only [toN] at c2
      refine gk_region env false [] [1, 2, 3, 4] ?_ -- 5
      refine gk_ret env ?_
      rw [tolV, if_neg c1, if_pos (show s = wAbout from c2)]; rfl
    · try simp only [toN] at c2
      refine gk_region env false [] [2, 3, 4, 5] ?_ -- 6
      refine gk_box 0 ?_
      refine gk_region env false [.call (percent_ok s wMol hs (by decide))] [2, 3, 4, 5, 6] ?_ -- 7
      refine gk_region env false [] [2, 3, 4, 5, 6, 18] ?_ -- 8
      refine gk_ifd (fun c3 => ?_) (fun c3 => ?_)
      · try simp only [toN] at c3
        refine gk_region env false [] [2, 3, 4, 5] ?_ -- 9
        refine gk_ret env ?_
        rw [tolV, if_neg c1, if_neg (show ¬ s = wAbout from c2), if_pos c3]; rfl
      · try simp only [toN] at c3
        refine gk_region env false [.call (percent_ok s wMore hs (by decide))] [2, 3, 4, 5, 7] ?_ -- 10
        refine gk_region env false [] [2, 3, 4, 5, 7, 24] ?_ -- 11
        refine gk_ifd (fun c4 => ?_) (fun c4 => ?_)
        · try simp only [toN] at c4
          refine gk_region env false [] [2, 3, 4, 5] ?_ -- 12
          refine gk_ret env ?_
          rw [tolV, if_neg c1, if_neg (show ¬ s = wAbout from c2), if_neg c3, if_pos c4]; rfl
        · try simp only [toN] at c4
          refine gk_region env false [.call (percent_ok s wLess hs (by decide))] [2, 3, 4, 8] ?_ -- 13
          refine gk_region env false [] [2, 3, 4, 8, 29] ?_ -- 14
          refine gk_ifd (fun c5 => ?_) (fun c5 => ?_)
          · try simp only [toN] at c5
            refine gk_region env false [] [2, 3, 4] ?_ -- 15
            refine gk_ret env ?_
            rw [tolV, if_neg c1, if_neg (show ¬ s = wAbout from c2), if_neg c3, if_neg c4, if_pos c5]; rfl
          · try simp only [toN] at c5
            refine gk_region env false [] [2, 3, 4] ?_ -- 16
            refine gk_ret env ?_
            rw [tolV, if_neg c1, if_neg (show ¬ s = wAbout from c2), if_neg c3, if_neg c4, if_neg c5]; rfl

def readR (t : List Un) (s : ByteArray) : Qu × Int :=
  if chk t = 0 then if (!numOk (cutA s 32) || decide (1000000000 < numV (cutA s 32)) || decide (find t (cutB s 32) 0 = -1)) = true then (⟨0, 0⟩, 9) else (⟨numV (cutA s 32), find t (cutB s 32) 0⟩, 0) else (⟨0, 0⟩, chk t)

theorem read_ok (t : List Un) (ht : t.length ≤ 9223372036854775807) (hs : ∀ u, u ∈ t → u.name.size ≤ 9223372036854775807) (s : ByteArray) (hz : s.size ≤ 9223372036854775807) : GC Tryz.prog 24 [rowU t, sG s] (.tup [quG (readR t s).1, iG (readR t s).2]) := by
  refine gc_of_gk Tryz.func24 ?_
  refine gk_region env false [] [0, 1, 4, 5] ?_ -- 0
  refine gk_region env false [.call (check_ok t ht hs)] [0, 1, 4, 5, 6] ?_ -- 1
  refine gk_region env false [] [0, 1, 4, 5, 6, 16] ?_ -- 2
  refine gk_ifn (fun c1 => ?_) (fun c1 => ?_)
  · try simp only [toN] at c1
    refine gk_region env false [] [0, 1, 4, 5] ?_ -- 3
    refine gk_ret env ?_
    rw [readR, if_neg c1]; rfl
  · try simp only [toN] at c1
    refine gk_region env false [.call (cut1_ok s 32 hz)] [0, 4, 5, 7, 8] ?_ -- 4
    refine gk_region env false [.call (number_ok (cutA s 32) (Nat.le_trans (cutA_size s 32) hz))] [0, 4, 5, 8, 10, 11] ?_ -- 5
    refine gk_region env false [.call (find_ok t (cutB s 32) ht)] [4, 5, 10, 11, 12] ?_ -- 6
    refine gk_region env false [] [4, 5, 10, 12, 42] ?_ -- 7
    refine gk_if (fun c2 => ?_) (fun c2 => ?_)
    · try simp only [bb, toN] at c2
      refine gk_region env false [] [4, 5, 10, 12] ?_ -- 8
      refine gk_ret env ?_
      rw [readR, if_pos c1, if_pos (by simpa using c2)]; rfl
    · try simp only [bb, toN] at c2
      refine gk_region env false [] [4, 5] ?_ -- 9
      refine gk_ret env ?_
      rw [readR, if_pos c1, if_neg (by simpa using c2)]; rfl
end Go.Gh
