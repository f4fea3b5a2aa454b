/- Walks by the logic of calls, and plain laws. -/
import Derived.Test.YtffffkfcbjobnaaGreatGCd
namespace Go.Gh
open Go Go.Proofs
set_option maxRecDepth 1000000
set_option maxHeartbeats 2000000
set_option linter.unusedSimpArgs false
set_option linter.unusedVariables false
open Go.RowKit

structure Cty where
  name : ByteArray
  ord : Int
  cur : Int
  rest : List Int
  feasts : List Int
  shut : List Int
instance : Inhabited Cty := ⟨⟨⟨#[]⟩, 0, 0, [], [], []⟩⟩

def ctC (c : Cty) : List D := [.sc (.string c.name), .sc (.int .i64 c.ord), .sc (.int .i64 c.cur), .row default inC c.rest, .row default inC c.feasts, .row default inC c.shut]
abbrev ctG (c : Cty) : G := .agg [sG c.name, iG c.ord, iG c.cur, rowI c.rest, rowI c.feasts, rowI c.shut]

structure Frm where
  name : ByteArray
  city : Int
  group : Int
instance : Inhabited Frm := ⟨⟨⟨#[]⟩, 0, 0⟩⟩

def fmC (f : Frm) : List D := [.sc (.string f.name), .sc (.int .i64 f.city), .sc (.int .i64 f.group)]
abbrev fmG (f : Frm) : G := .agg [sG f.name, iG f.city, iG f.group]

structure Us where
  fr : Int
  dst : Int
  days : Int
instance : Inhabited Us := ⟨⟨0, 0, 0⟩⟩

def usC (u : Us) : List D := [.sc (.int .i64 u.fr), .sc (.int .i64 u.dst), .sc (.int .i64 u.days)]
abbrev usG (u : Us) : G := .agg [iG u.fr, iG u.dst, iG u.days]

structure Rt where
  fr : Int
  dst : Int
  num : Int
  den : Int
  since : Int
instance : Inhabited Rt := ⟨⟨0, 0, 0, 0, 0⟩⟩

def rtC (x : Rt) : List D := [.sc (.int .i64 x.fr), .sc (.int .i64 x.dst), .sc (.int .i64 x.num), .sc (.int .i64 x.den), .sc (.int .i64 x.since)]
abbrev rtG (x : Rt) : G := .agg [iG x.fr, iG x.dst, iG x.num, iG x.den, iG x.since]

structure Ht where
  ord : Int
  fr : Int
  dst : Int
instance : Inhabited Ht := ⟨⟨0, 0, 0⟩⟩

def htC (x : Ht) : List D := [.sc (.int .i64 x.ord), .sc (.int .i64 x.fr), .sc (.int .i64 x.dst)]
abbrev htG (x : Ht) : G := .agg [iG x.ord, iG x.fr, iG x.dst]

structure Cho where
  ask : Int
  by_ : Int
  whole : Bool
instance : Inhabited Cho := ⟨⟨0, 0, false⟩⟩

def choC (c : Cho) : List D := [.sc (.int .i64 c.ask), .sc (.int .i64 c.by_), .sc (.bool c.whole)]
abbrev choG (c : Cho) : G := .agg [iG c.ask, iG c.by_, bG c.whole]

structure Rul where
  ask : Int
  op : Int
  n : Int
  args : Value
instance : Inhabited Rul := ⟨⟨0, 0, 0, .slice none 0 0⟩⟩

def rulC (x : Rul) : List D := [.sc (.int .i64 x.ask), .sc (.int .i64 x.op), .sc (.int .i64 x.n), .sc x.args]
abbrev rulG (x : Rul) : G := .agg [iG x.ask, iG x.op, iG x.n, .d (.sc x.args)]

structure Od where
  name : ByteArray
  acc : Bool
  choices : List Cho
  rules : List Rul
instance : Inhabited Od := ⟨⟨⟨#[]⟩, false, [], []⟩⟩

def odC (o : Od) : List D := [.sc (.string o.name), .sc (.bool o.acc), .row default choC o.choices, .row default rulC o.rules]
abbrev odG (o : Od) : G := .agg [sG o.name, bG o.acc, .d (.row default choC o.choices), .d (.row default rulC o.rules)]

structure Rlm where
  currencies : List ByteArray
  cities : List Cty
  groups : List Int
  firms : List Frm
  orders : List Od
  usances : List Us
  rates : List Rt
  halts : List Ht
instance : Inhabited Rlm := ⟨⟨[], [], [], [], [], [], [], []⟩⟩

def rlC (r : Rlm) : List D := [rowSD r.currencies, .row default ctC r.cities, .row default inC r.groups, .row default fmC r.firms, .row default odC r.orders, .row default usC r.usances, .row default rtC r.rates, .row default htC r.halts]
abbrev rlG (r : Rlm) : G := .agg [rowS r.currencies, .d (.row default ctC r.cities), rowI r.groups, .d (.row default fmC r.firms), .d (.row default odC r.orders), .d (.row default usC r.usances), .d (.row default rtC r.rates), .d (.row default htC r.halts)]

def inV (i n : Int) : Bool := decide (0 ≤ i) && decide (i < n)
def riseBad (l : List Int) (lo hi : Int) (i : Nat) : Bool := (decide (l.getD i default < lo) || decide (hi < l.getD i default)) || (decide ((0 : Int) < i) && decide (l.getD i default ≤ l.getD ((i : Int) - 1).toNat default))
def riseF (l : List Int) (lo hi : Int) (i : Nat) : Bool := if i < l.length then if riseBad l lo hi i = true then false else riseF l lo hi (i + 1) else true
termination_by l.length - i
def rnBad (s : ByteArray) (i : Nat) : Bool := !letter (byteAt s i) && (decide ((i : Int) = 0) || (!decide (byteAt s i = 95) && !digit (byteAt s i)))
def rnF (s : ByteArray) (i : Nat) : Bool := if i < s.size then if rnBad s i = true then false else rnF s (i + 1) else true
termination_by s.size - i
def rnameV (s : ByteArray) : Bool := if s = ⟨#[]⟩ ∨ (20 : Int) < s.size then false else rnF s 0
def namedE (l : List ByteArray) (i : Nat) : Int := if rnameV (l.getD i default) = false then 2 else if (l.take i).any (fun x => decide (x = l.getD i default)) then 5 else 0
def fitsF (l : List ByteArray) (fine : Nat → Bool) (i : Nat) : Int := if i < l.length then if namedE l i = 0 then if fine i = true then fitsF l fine (i + 1) else 1 else namedE l i else 0
termination_by l.length - i
def fitsE (l : List ByteArray) (most : Int) (fine : Nat → Bool) : Int := if most < l.length then 6 else fitsF l fine 0
def feastB (n : Int) : Bool := decide (n.tmod 100 < 1) || decide (31 < n.tmod 100)
def feastF (l : List Int) (i : Nat) : Bool := if i < l.length then if feastB (l.getD i default) = true then false else feastF l (i + 1) else true
termination_by l.length - i
def cityBad (r : Rlm) (c : Cty) : Bool := (((decide ((60 : Int) < c.feasts.length) || decide ((200 : Int) < c.shut.length)) || !inV c.ord r.orders.length) || !inV c.cur r.currencies.length)
def cityV (r : Rlm) (c : Cty) : Bool := if feastF c.feasts 0 = true then if cityBad r c = true then false else (riseF c.rest 0 6 0 && riseF c.feasts 101 1231 0) && riseF c.shut 0 100000 0 else false
def choF (l : List Cho) (i : Nat) : Bool := if i < l.length then if inV (l.getD i default).by_ 5 = true then choF l (i + 1) else false else true
termination_by l.length - i
def orderV (o : Od) : Bool := if choF o.choices 0 = true then riseF (o.choices.map fun c => c.ask) 0 21 0 && riseF (o.rules.map fun x => x.ask) 0 21 0 else false
def firmV (r : Rlm) (f : Frm) : Bool := inV f.city r.cities.length && inV f.group r.groups.length
def gradeF (l : List Int) (i : Nat) : Bool := if i < l.length then if inV (l.getD i default) 10 = true then gradeF l (i + 1) else false else true
termination_by l.length - i
def usBad (r : Rlm) (u : Us) : Bool := ((!inV u.fr r.cities.length || !inV u.dst r.cities.length) || decide (u.days < 1)) || decide (20000 < u.days)
def usHit (u x : Us) : Bool := decide (x.fr = u.fr) && decide (x.dst = u.dst)
def usI (l : List Us) (u : Us) (k : Nat) : Bool := if k < l.length then if usHit u (l.getD k default) = true then true else usI l u (k + 1) else false
termination_by l.length - k
def usF (r : Rlm) (i : Nat) : Int := if i < r.usances.length then if usBad r (r.usances.getD i default) = true then 1 else if usI (r.usances.take i) (r.usances.getD i default) 0 = true then 5 else usF r (i + 1) else 0
termination_by r.usances.length - i
def usE (r : Rlm) : Int := if (100 : Int) < r.usances.length then 6 else usF r 0
def rtBad (r : Rlm) (x : Rt) : Bool := (((((!inV x.fr r.currencies.length || !inV x.dst r.currencies.length) || decide (x.fr = x.dst)) || !inV (x.num - 1) 1073741824) || !inV (x.den - 1) 1073741824) || !inV x.since 100001)
def rtF (r : Rlm) (i : Nat) : Bool := if i < r.rates.length then if rtBad r (r.rates.getD i default) = true then false else rtF r (i + 1) else true
termination_by r.rates.length - i
def htBad (r : Rlm) (x : Ht) : Bool := (((!inV x.ord r.orders.length || decide (x.fr < 0)) || decide (x.dst < x.fr)) || decide (100000 < x.dst))
def htF (r : Rlm) (i : Nat) : Bool := if i < r.halts.length then if htBad r (r.halts.getD i default) = true then false else htF r (i + 1) else true
termination_by r.halts.length - i
def restE (r : Rlm) : Int := if (100 : Int) < r.rates.length then 6 else if rtF r 0 = true then if (20 : Int) < r.halts.length then 6 else if htF r 0 = true then 0 else 1 else 1
def cityN (r : Rlm) : List ByteArray := r.cities.map fun c => c.name
def firmN (r : Rlm) : List ByteArray := r.firms.map fun c => c.name
def orderN (r : Rlm) : List ByteArray := r.orders.map fun c => c.name
def orE (a b : Int) : Int := if a = 0 then b else a
def realmE (r : Rlm) : Int := orE (fitsE r.currencies 8 fun _ => true) (orE (fitsE (cityN r) 40 fun i => cityV r (r.cities.getD i default))
  (if (20 : Int) < r.groups.length then 6 else if gradeF r.groups 0 = true then orE (fitsE (firmN r) 200 fun i => firmV r (r.firms.getD i default)) (orE (fitsE (orderN r) 20 fun i => orderV (r.orders.getD i default)) (orE (usE r) (restE r))) else 1))
/-- what memory says of a realm, and what few say -/
structure FitC (c : Cty) : Prop where
  name : c.name.size ≤ 9223372036854775807
  rest : c.rest.length ≤ 9223372036854775807
  feasts : c.feasts.length ≤ 9223372036854775807
  shut : c.shut.length ≤ 9223372036854775807
structure FitR (r : Rlm) : Prop where
  cur : r.currencies.length ≤ 1000
  curS : ∀ s, s ∈ r.currencies → s.size ≤ 9223372036854775807
  cities : r.cities.length ≤ 1000
  city : ∀ c, c ∈ r.cities → FitC c
  groups : r.groups.length ≤ 1000
  firms : r.firms.length ≤ 1000
  firm : ∀ c, c ∈ r.firms → c.name.size ≤ 9223372036854775807
  orders : r.orders.length ≤ 1000
  order : ∀ o, o ∈ r.orders → o.name.size ≤ 9223372036854775807 ∧ o.choices.length ≤ 1000 ∧ o.rules.length ≤ 1000
  usances : r.usances.length ≤ 1000
  rates : r.rates.length ≤ 1000
  rate : ∀ x, x ∈ r.rates → In64 x.num ∧ In64 x.den
  halts : r.halts.length ≤ 1000
theorem mem_at {α : Type} [Inhabited α] {l : List α} {p : α → Prop} (h : ∀ x, x ∈ l → p x) {i : Nat} (hi : i < l.length) : p (l.getD i default) := h _ (getD_mem hi)
theorem take_map {α β : Type} [Inhabited α] [Inhabited β] {l : List α} {f : α → β} {k : Nat} (h : k < l.length) : (l.take (k + 1)).map f = (l.take k).map f ++ [f (l.getD k default)] := by
  rw [take_getD h, List.map_append]; rfl
theorem getD_take' {α : Type} [Inhabited α] {l : List α} {i : Nat} (h : i ≤ l.length) : (l.take i).length = i := by rw [List.length_take]; omega

theorem in_ok (i n : Int) : GC Tryz.prog 66 [iG i, iG n] (bG (inV i n)) := by
  refine gc_of_gk Tryz.func66 ?_
  refine gk_region env false [] [0, 1, 4] ?_ -- 0
  refine gk_region env false [] [4] ?_ -- 1
  refine gk_ret env ?_
  simp [inV, tupG]

theorem rising_ok (l : List Int) (hl : l.length ≤ 9223372036854775807) (lo hi : Int) : GC Tryz.prog 100 [rowI l, iG lo, iG hi] (bG (riseF l lo hi 0)) := by
  refine gc_of_gk Tryz.func100 ?_
  refine gk_region env false [] [0, 1, 2, 6] ?_ -- 0
  refine gk_region env false [] [0, 1, 2, 6, 9, 10, 11] ?_ -- 1
  refine gk_loop (α := Nat) (fun i => i ≤ l.length ∧ riseF l lo hi 0 = riseF l lo hi i) (fun i => [(11, iG i)]) (fun _ => []) (fun i => l.length - i) 0 ⟨by omega, rfl⟩ ?_ -- loop 2
  rintro i ⟨hj, he⟩
  refine gk_region env false [] [0, 1, 2, 6, 9, 10, 11, 12] ?_ -- 2
  refine gk_ifd (fun c1 => ?_) (fun c1 => ?_)
  · try simp only [toN] at c1
    refine gk_region env false [] [0, 1, 2, 6, 7, 8, 9, 10, 11] ?_ -- 3
    refine gk_region env false [] [0, 1, 2, 6, 9, 10, 11, 36] ?_ -- 4
    refine gk_if (fun c2 => ?_) (fun c2 => ?_)
    · try simp only [bb, toN] at c2
      refine gk_region env false [] [0, 1, 2, 6, 9, 10, 11] ?_ -- 5
      refine gk_ret env ?_
      rw [he, riseF, if_pos (by omega), if_pos (by simp [riseBad]; simp at c2; grind)]; rfl
    · try simp only [bb, toN] at c2
      refine gk_region env false [] [0, 1, 2, 6, 9, 10, 11] ?_ -- 6
      refine gk_round (i + 1) ?_
      refine ⟨by omega, he.trans ?_⟩
      rw [riseF, if_pos (by omega), if_neg (by simp [riseBad]; simp at c2; grind)]
  · try simp only [toN] at c1
    refine gk_region env false [] [6] ?_ -- 7
    refine gk_ret env ?_
    rw [he, riseF, if_neg (by omega)]; rfl

def byC (c : UInt8) : List D := [.sc (.int .u8 (c.toNat : Int))]
theorem byC_row (s : ByteArray) : rowL byC (bs s) = byteL s := rfl

theorem isName_ok (s : ByteArray) (hs : s.size ≤ 9223372036854775807) : GC Tryz.prog 130 [sG s] (bG (rnameV s)) := by
  have hbl := bs_size s
  refine gc_of_gk Tryz.func130 ?_
  refine gk_region env false [] [0, 2] ?_ -- 0
  refine gk_region env false [] [0, 2, 12] ?_ -- 1
  refine gk_if (fun c1 => ?_) (fun c1 => ?_)
  · try simp only [bb, toN] at c1
    refine gk_region env false [] [0, 2] ?_ -- 2
    refine gk_ret env ?_
    rw [rnameV, if_pos (by simpa using c1)]; rfl
  · try simp only [bb, toN] at c1
    refine gk_region env false [.el (0 : UInt8) byC (bs s)] [2, 14, 15, 16] ?_ (hp := (by simp only [AllP]; exact byC_row s)) -- 3
    refine gk_loop (α := Nat) (fun i => i ≤ s.size ∧ rnF s 0 = rnF s i) (fun i => [(16, iG i)]) (fun _ => []) (fun i => s.size - i) 0 ⟨by omega, rfl⟩ ?_ -- loop 4
    rintro i ⟨hi, he⟩
    have hby : (((bs s).getD i 0).toNat : Int) = byteAt s i := rfl
    refine gk_region env false [] [2, 14, 15, 16, 17] ?_ -- 4
    refine gk_ifd (fun c2 => ?_) (fun c2 => ?_)
    · try simp only [toN] at c2
      refine gk_region env false [] [2, 3, 4, 14, 15, 16] ?_ -- 5
      refine gk_region env false [] [2, 3, 4, 5, 14, 15, 16] ?_ -- 6
      refine gk_region env false [] [2, 14, 15, 16, 52] ?_ -- 7
      refine gk_if (fun c3 => ?_) (fun c3 => ?_)
      · try simp only [bb, toN] at c3
        refine gk_region env false [] [2, 14, 15, 16] ?_ -- 8
        refine gk_ret env ?_
        simp only [hby] at c3
        rw [rnameV, if_neg (by simpa using c1), he, rnF, if_pos (by omega), if_pos (by simp [rnBad, letter, digit]; simp at c3; grind)]; rfl
      · try simp only [bb, toN] at c3
        refine gk_region env false [] [2, 14, 15, 16] ?_ -- 9
        refine gk_round (i + 1) ?_
        refine ⟨by omega, he.trans ?_⟩
        simp only [hby] at c3
        rw [rnF, if_pos (by omega), if_neg (by simp [rnBad, letter, digit]; simp at c3; grind)]
    · try simp only [toN] at c2
      refine gk_region env false [] [2] ?_ -- 10
      refine gk_ret env ?_
      rw [rnameV, if_neg (by simpa using c1), he, rnF, if_neg (by omega)]; rfl

theorem named_ok (l : List ByteArray) (hl : l.length ≤ 9223372036854775807) (hs : ∀ s, s ∈ l → s.size ≤ 9223372036854775807) (i : Nat) (hi : i < l.length) : GC Tryz.prog 99 [rowS l, iG i] (iG (namedE l i)) := by
  refine gc_of_gk Tryz.func99 ?_
  refine gk_region env false [] [0, 1, 4] ?_ -- 0
  refine gk_region env false [.call (isName_ok (l.getD i default) (hs _ (getD_mem hi)))] [0, 1, 4, 10] ?_ -- 1
  refine gk_if (fun c1 => ?_) (fun c1 => ?_)
  · try simp only [bb, toN] at c1
    refine gk_region env false [] [0, 1, 4] ?_ -- 2
    refine gk_ret env ?_
    rw [namedE, if_pos (by simpa using c1)]; rfl
  · try simp only [bb, toN] at c1
    refine gk_region env false [.call (contains_ok (l.take i) (by rw [List.length_take]; omega) (l.getD i default))] [4, 18] ?_ (hp := (by simp only [AllP, bb, toN, loI, hiI]; repeat' first | exact trivial | exact EntL.refl _ | exact BEntL.refl _ | exact rfl | omega | apply And.intro | intro _)) -- 3
    refine gk_if (fun c2 => ?_) (fun c2 => ?_)
    · try simp only [bb, toN] at c2
      refine gk_region env false [] [4] ?_ -- 4
      refine gk_ret env ?_
      rw [namedE, if_neg (by simpa using c1), if_pos c2]; rfl
    · try simp only [bb, toN] at c2
      refine gk_region env false [] [4] ?_ -- 5
      refine gk_ret env ?_
      rw [namedE, if_neg (by simpa using c1), if_neg (by rw [c2]; simp)]; rfl

theorem rcheck1_ok (i : Int) : GC Tryz.prog 63 [iG i] (bG true) := by
  refine gc_of_gk Tryz.func63 ?_
  refine gk_region env false [] [2] ?_ -- 0
  refine gk_region env false [] [2] ?_ -- 1
  refine gk_ret env ?_
  rfl

theorem city_ok (r : Rlm) (c : Cty) (hc : FitC c) : GC Tryz.prog 65 [rlG r, ctG c] (bG (cityV r c)) := by
  obtain ⟨_, h2, h3, h4⟩ := hc
  refine gc_of_gk Tryz.func65 ?_
  refine gk_region env false [] [2, 3, 4] ?_ -- 0
  refine gk_region env false [] [2, 3, 4, 8, 9, 10] ?_ -- 1
  refine gk_loop (α := Nat) (fun i => i ≤ c.feasts.length ∧ feastF c.feasts 0 = feastF c.feasts i) (fun i => [(10, iG i)]) (fun _ => []) (fun i => c.feasts.length - i) 0 ⟨by omega, rfl⟩ ?_ -- loop 2
  rintro i ⟨hi, he⟩
  refine gk_region env false [] [2, 3, 4, 8, 9, 10, 11] ?_ -- 2
  refine gk_ifd (fun c1 => ?_) (fun c1 => ?_)
  · try simp only [toN] at c1
    refine gk_region env false [] [2, 3, 4, 6, 8, 9, 10] ?_ -- 3
    refine gk_region env true [] [2, 3, 4, 8, 9, 10, 21] ?_ -- 4
    refine gk_if (fun c2 => ?_) (fun c2 => ?_)
    · try simp only [bb, toN] at c2
      refine gk_region env false [] [2, 3, 4, 8, 9, 10] ?_ -- 5
      refine gk_ret env ?_
      rw [cityV, if_neg (by rw [he, feastF, if_pos (by omega), if_pos (by simpa [feastB] using c2)]; simp)]; rfl
    · try simp only [bb, toN] at c2
      refine gk_region env false [] [2, 3, 4, 8, 9, 10] ?_ -- 6
      refine gk_round (i + 1) ?_
      refine ⟨by omega, he.trans ?_⟩
      rw [feastF, if_pos (by omega), if_neg (by simpa [feastB] using c2)]
  · try simp only [toN] at c1
    refine gk_region env false [.call (in_ok c.ord r.orders.length), .call (in_ok c.cur r.currencies.length)] [3, 4, 50] ?_ -- 7
    refine gk_if (fun c3 => ?_) (fun c3 => ?_)
    · try simp only [bb, toN] at c3
      refine gk_region env false [] [3, 4] ?_ -- 8
      refine gk_ret env ?_
      rw [cityV, if_pos (by rw [he, feastF, if_neg (by omega)]), if_pos (by simpa [cityBad] using c3)]; rfl
    · try simp only [bb, toN] at c3
      refine gk_region env false [.call (rising_ok c.rest h2 0 6), .call (rising_ok c.feasts h3 101 1231), .call (rising_ok c.shut h4 0 100000)] [4] ?_ -- 9
      refine gk_ret env ?_
      rw [cityV, if_pos (by rw [he, feastF, if_neg (by omega)]), if_neg (by simpa [cityBad] using c3)]
      cases riseF c.rest 0 6 0 <;> cases riseF c.feasts 101 1231 0 <;> rfl

theorem order_ok (o : Od) (h1 : o.choices.length ≤ 1000) (h2 : o.rules.length ≤ 1000) : GC Tryz.prog 69 [odG o] (bG (orderV o)) := by
  refine gc_of_gk Tryz.func69 ?_
  refine gk_region env false [] [1, 2] ?_ -- 0
  refine gk_region env false [] [1, 2, 3, 4] ?_ -- 1
  refine gk_nil 3 3 1 (default : Int) inC (by rfl) (by rfl) ?_
  refine gk_nil 4 3 1 (default : Int) inC (by rfl) (by rfl) ?_
  refine gk_region env false [] [1, 2, 3, 4, 10, 11, 12] ?_ -- 2
  refine gk_loop (α := Nat) (fun i => i ≤ o.choices.length ∧ choF o.choices 0 = choF o.choices i) (fun i => [(12, iG i), (3, .sl 1 1 0 ((o.choices.take i).map fun c => c.ask).length)]) (fun i => [(1, some (.row 3 1 default inC ((o.choices.take i).map fun c => c.ask) 0))]) (fun i => o.choices.length - i) 0 ⟨by omega, rfl⟩ ?_ -- loop 3
  rintro i ⟨hi, he⟩
  have hl : ((o.choices.take i).map fun c => c.ask).length = i := by rw [List.length_map, getD_take' hi]
  refine gk_region env false [] [1, 2, 3, 4, 10, 11, 12, 13] ?_ -- 3
  refine gk_ifd (fun c1 => ?_) (fun c1 => ?_)
  · try simp only [toN] at c1
    refine gk_region env false [] [1, 2, 3, 4, 6, 10, 11, 12] ?_ -- 4
    refine gk_region env false [.el default inC [(o.choices.getD i default).ask], .el default inC (((o.choices.take i).map fun c => c.ask) ++ [(o.choices.getD i default).ask])] [1, 2, 3, 4, 6, 10, 11, 12] ?_ (hp := (by simp only [AllP, Int.toNat_natCast]; repeat' first | exact trivial | exact EntL.refl _ | exact BEntL.refl _ | exact rfl | omega | apply And.intro | intro _ | (simp [rowL]; done) | (simp only [List.length_append, List.length_cons, List.length_nil]; omega) | (simp [*]; done))) -- 5
    refine gk_region env false [.call (in_ok (o.choices.getD i default).by_ 5)] [1, 2, 3, 4, 10, 11, 12, 24] ?_ -- 6
    refine gk_if (fun c2 => ?_) (fun c2 => ?_)
    · try simp only [bb, toN] at c2
      refine gk_region env false [] [1, 2, 3, 4, 10, 11, 12] ?_ -- 7
      refine gk_ret env ?_
      rw [orderV, if_neg (by rw [he, choF, if_pos (by omega), if_neg (by simpa using c2)]; simp)]; rfl
    · try simp only [bb, toN] at c2
      refine gk_region env false [] [1, 2, 3, 4, 10, 11, 12] ?_ -- 8
      refine gk_round (i + 1) ?_ (hp := by simp [AllP, take_map (show i < o.choices.length by omega)])
      refine ⟨by omega, he.trans ?_⟩
      rw [choF, if_pos (by omega), if_pos (by simpa using c2)]
  · try simp only [toN] at c1
    refine gk_region env false [] [2, 3, 4, 27, 28, 29] ?_ -- 9
    refine gk_loop (α := Nat) (fun i => i ≤ o.rules.length) (fun i => [(29, iG i), (4, .sl 2 1 0 ((o.rules.take i).map fun c => c.ask).length)]) (fun i => [(2, some (.row 3 1 default inC ((o.rules.take i).map fun c => c.ask) 0))]) (fun i => o.rules.length - i) 0 (Nat.zero_le _) ?_ -- loop 10
    rintro k hk
    have hlk : ((o.rules.take k).map fun c => c.ask).length = k := by rw [List.length_map, getD_take' hk]
    refine gk_region env false [] [2, 3, 4, 27, 28, 29, 30] ?_ -- 10
    refine gk_ifd (fun c3 => ?_) (fun c3 => ?_)
    · try simp only [toN] at c3
      refine gk_region env false [] [2, 3, 4, 8, 27, 28, 29] ?_ -- 11
      refine gk_region env false [.el default inC [(o.rules.getD k default).ask], .el default inC (((o.rules.take k).map fun c => c.ask) ++ [(o.rules.getD k default).ask])] [2, 3, 4, 27, 28, 29] ?_ (hp := (by simp only [AllP, Int.toNat_natCast]; repeat' first | exact trivial | exact EntL.refl _ | exact BEntL.refl _ | exact rfl | omega | apply And.intro | intro _ | (simp [rowL]; done) | (simp only [List.length_append, List.length_cons, List.length_nil]; omega) | (simp [*]; done))) -- 12
      refine gk_region env false [] [2, 3, 4, 27, 28, 29] ?_ -- 13
      refine gk_round (k + 1) ?_ (hp := by simp [AllP, take_map (show k < o.rules.length by omega)])
      omega
    · try simp only [toN] at c3
      refine gk_row 1 ?_
      refine gk_row 2 ?_
      refine gk_region env false [.call (rising_ok ((o.choices.take i).map fun c => c.ask) (by omega) 0 21), .call (rising_ok ((o.rules.take k).map fun c => c.ask) (by omega) 0 21)] [2] ?_ -- 14
      refine gk_ret env ?_
      rw [orderV, if_pos (by rw [he, choF, if_neg (by omega)]), List.take_of_length_le (show o.choices.length ≤ i by omega), List.take_of_length_le (show o.rules.length ≤ k by omega)]
      cases riseF (o.choices.map fun c => c.ask) 0 21 0 <;> rfl
end Go.Gh
