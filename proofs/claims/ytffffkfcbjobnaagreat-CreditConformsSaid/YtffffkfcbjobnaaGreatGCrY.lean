/- Walks by the logic of calls, and plain laws. -/
import Derived.Test.YtffffkfcbjobnaaGreatGCrX
import Derived.Test.YtffffkfcbjobnaaGreatGCrT
namespace Go.Gh
open Go Go.Proofs
set_option maxRecDepth 1000000
set_option maxHeartbeats 2000000
set_option linter.unusedSimpArgs false
set_option linter.unusedVariables false
set_option linter.unnecessarySimpa false
set_option linter.unusedSectionVars false
variable [PowTab] [ItoaU]
open Go.RowKit

structure Crd where
  app : Int
  iss : Int
  conf : Int
  ben : Int
  cur : Int
  sum : Int
  exp : Int
  city : Int
  part : Bool
  trans : Bool
  rev : Int
  terms : List Dm
def crdC (c : Crd) : List D := [.sc (.int .i64 c.app), .sc (.int .i64 c.iss), .sc (.int .i64 c.conf), .sc (.int .i64 c.ben), .sc (.int .i64 c.cur), .sc (.int .i64 c.sum), .sc (.int .i64 c.exp), .sc (.int .i64 c.city), .sc (.bool c.part), .sc (.bool c.trans), .sc (.int .i64 c.rev), .row default dmC c.terms]
abbrev crdG (c : Crd) : G := .agg [iG c.app, iG c.iss, iG c.conf, iG c.ben, iG c.cur, iG c.sum, iG c.exp, iG c.city, bG c.part, bG c.trans, iG c.rev, rowD c.terms]
structure Trn where
  kind : Int
  day : Int
  by_ : Int
  to_ : Int
  sum : Int
  no : Int
  terms : List Dm
  docs : List Dc
instance : Inhabited Trn := ⟨⟨0, 0, 0, 0, 0, 0, [], []⟩⟩
def trnC (t : Trn) : List D := [.sc (.int .i64 t.kind), .sc (.int .i64 t.day), .sc (.int .i64 t.by_), .sc (.int .i64 t.to_), .sc (.int .i64 t.sum), .sc (.int .i64 t.no), .row default dmC t.terms, .row default dcC t.docs]
abbrev trnG (t : Trn) : G := .agg [iG t.kind, iG t.day, iG t.by_, iG t.to_, iG t.sum, iG t.no, rowD t.terms, rowDc t.docs]
structure Amd where
  terms : List Dm
  sum : Int
  pend : Bool
instance : Inhabited Amd := ⟨⟨[], 0, false⟩⟩
def amC (a : Amd) : List D := [.row default dmC a.terms, .sc (.int .i64 a.sum), .sc (.bool a.pend)]
abbrev amG (a : Amd) : G := .agg [rowD a.terms, iG a.sum, bG a.pend]
structure Sta where
  firms : Int
  c : Crd
  terms : List Dm
  drawn : Int
  paid : Int
  left : Int
  moved : Int
  amended : List Int
  second : Int
  amds : List Amd
  conf : Bool
  rest : Int
  day : Int
abbrev staB (i j : Nat) (s : Sta) : Blk := .box [iG s.firms, iG s.c.app, iG s.c.iss, iG s.c.conf, iG s.c.ben, iG s.c.cur, iG s.c.sum, iG s.c.exp, iG s.c.city, bG s.c.part, bG s.c.trans, iG s.c.rev, rowD s.c.terms, rowD s.terms, iG s.drawn, iG s.paid, iG s.left, iG s.moved, .sl j 1 0 s.amended.length, iG s.second, .sl i 3 0 s.amds.length, bG s.conf, iG s.rest, iG s.day]
abbrev amdB (s : Sta) : Blk := .row 194 3 default amC s.amds 0
abbrev amnB (s : Sta) : Blk := .row 3 1 (default : Int) inC s.amended 0
/-- memory is large enough -/
structure Fits (k : Nat) (s : Sta) : Prop where
  few : k ≤ 1000
  left : -((k + 1) * 8796093022208) ≤ s.left ∧ s.left ≤ (k + 1) * 8796093022208
  moved : -((k + 1) * 8796093022208) ≤ s.moved ∧ s.moved ≤ (k + 1) * 8796093022208
  drawn : -((k + 1) * 8796093022208) ≤ s.drawn ∧ s.drawn ≤ (k + 1) * 8796093022208
  paid : -((k + 1) * 8796093022208) ≤ s.paid ∧ s.paid ≤ (k + 1) * 8796093022208
  amds : s.amds.length ≤ 8
  amd : ∀ a, a ∈ s.amds → (0 ≤ a.sum ∧ a.sum ≤ 1099511627776) ∧ a.terms.length ≤ 30 ∧ ∀ d, d ∈ a.terms → FewD d
  terms : s.terms.length ≤ 30 ∧ ∀ d, d ∈ s.terms → FewD d
  amended : s.amended.length ≤ k
  sum : 1 ≤ s.c.sum ∧ s.c.sum ≤ 1099511627776
  rest : -10 ≤ s.rest ∧ s.rest ≤ 10
theorem Fits.at_ {k : Nat} {s : Sta} (h : Fits k s) {i : Nat} (hi : i < s.amds.length) : (0 ≤ (s.amds.getD i default).sum ∧ (s.amds.getD i default).sum ≤ 1099511627776) ∧ (s.amds.getD i default).terms.length ≤ 30 ∧ ∀ d, d ∈ (s.amds.getD i default).terms → FewD d := h.amd _ (getD_mem hi)
def inB (n lim : Int) : Bool := bif decide (0 ≤ n) then decide (n < lim) else false
theorem inB_iff {n lim : Int} : inB n lim = true ↔ 0 ≤ n ∧ n < lim := by simp [inB, Bool.cond_false_right]
def fitsB (s : Sta) (sum amount : Int) : Bool := bif decide (sum = amount) then true else bif s.c.part then decide (sum < amount) else false
def takeS (s : Sta) (no : Int) : Sta := { s with terms := (s.amds.getD no.toNat default).terms, left := s.left + (s.amds.getD no.toNat default).sum, amended := s.amended ++ [no], amds := s.amds.set no.toNat { s.amds.getD no.toNat default with pend := false } }
theorem putD_am {l : List Amd} {i : Nat} (hi : i < l.length) : putD (rowL amC l) i 2 [.sc (.bool false)] = rowL amC (l.set i { l.getD i default with pend := false }) := by
  have e : (rowL amC l).getD i [] = amC (l.getD i default) := by
    simp [rowL, List.getD_eq_getElem?_getD, List.getElem?_eq_getElem hi]
  rw [putD, e]
  simp only [rowL, List.map_set]
  rfl
def pendE (s : Sta) (t : Trn) : Int := if t.by_ = s.c.ben then if 0 ≤ t.no ∧ t.no < s.amds.length ∧ (s.amds.getD t.no.toNat default).pend = true then 0 else 4 else 18

theorem cin_ok (n lim : Int) : GC Tryz.prog 43 [iG n, iG lim] (bG (inB n lim)) := by
  refine gc_of_gk Tryz.func43 ?_
  refine gk_region env false [] [0, 1, 4] ?_ -- 0
  refine gk_region env false [] [4] ?_ -- 1
  refine gk_ret env ?_
  rfl

theorem written_ok (l : List Dm) (hl : l.length ≤ 30) (hf : ∀ d, d ∈ l → FewD d) : GC Tryz.prog 44 [rowD l] (bG (printOk l)) := by
  refine gc_of_gk Tryz.func44 ?_
  refine gk_region env false [] [0, 2] ?_ -- 0
  refine gk_region env false [.call (print_ok l (by omega) hf)] [2, 4] ?_ -- 1
  refine gk_region env false [] [2] ?_ -- 2
  refine gk_ret env ?_
  rfl

theorem cloneD_ok (l : List Dm) (hl : l.length ≤ 1000) : GC Tryz.prog 53 [rowD l] (rowD l) := by
  refine gc_of_gk Tryz.func53 ?_
  refine gk_region env false [] [0, 2] ?_ -- 0
  refine gk_isnil env (fun q hq => ?_) -- 1
  refine gk_if (fun c1 => ?_) (fun c1 => ?_)
  · try simp only [bb, toN] at c1
    refine gk_region env false [] [0, 2] ?_ -- 2
    refine gk_retE env ?_
    rw [hq c1]; exact Ent.nil
  · try simp only [bb, toN] at c1
    refine gk_region env false [.el default dmC [], .el default dmC l] [2] ?_ (hp := (by simp only [AllP, Int.toNat_natCast]; repeat' first | exact trivial | exact EntL.refl _ | exact BEntL.refl _ | exact rfl | omega | apply And.intro | intro _ | (simp [rowL]; done) | (simp only [List.length_append, List.length_cons, List.length_nil]; omega) | (simp [*]; done))) -- 3
    refine gk_ret env ?_
    rfl

theorem fits_ok (s : Sta) (a b : Int) : GM Tryz.prog 121 [.ptr 0 0 0 0, iG a, iG b] [staB 1 2 s, amdB s, amnB s] (bG (fitsB s a b)) [some (staB 1 2 s), some (amdB s), some (amnB s)] := by
  refine gm_of_gk Tryz.func121 ?_
  refine gk_region env false [] [0, 1, 2, 6] ?_ -- 0
  refine gk_region env false [] [6] ?_ -- 1
  refine gk_retM env [bG (fitsB s a b)] (hp := ?_)
  simp [AllP, fitsB]

theorem pending_ok (s : Sta) (hs : s.amds.length ≤ 8) (t : Trn) : GM Tryz.prog 126 [.ptr 0 0 0 0, trnG t] [staB 1 2 s, amdB s, amnB s] (iG (pendE s t)) [some (staB 1 2 s), some (amdB s), some (amnB s)] := by
  refine gm_of_gk Tryz.func126 ?_
  refine gk_region env false [] [0, 3, 4] ?_ -- 0
  refine gk_box 3 ?_
  refine gk_region env false [] [0, 3, 4, 12] ?_ -- 1
  refine gk_ifn (fun c1 => ?_) (fun c1 => ?_)
  · try simp only [toN] at c1
    refine gk_region env false [] [0, 3, 4] ?_ -- 2
    refine gk_retM env [iG (pendE s t)] (hp := ?_)
    simp [AllP, pendE, c1]
  · try simp only [toN] at c1
    refine gk_region env false [.call (cin_ok t.no s.amds.length)] [4, 33] ?_ (hp := (by simp only [AllP, bb, toN, inB_iff]; repeat' first | exact trivial | exact EntL.refl _ | exact BEntL.refl _ | exact rfl | omega | apply And.intro | intro _)) -- 3
    refine gk_if (fun c2 => ?_) (fun c2 => ?_)
    · try simp only [bb, toN] at c2
      refine gk_region env false [] [4] ?_ -- 4
      refine gk_retM env [iG (pendE s t)] (hp := ?_)
      have h : ¬ (0 ≤ t.no ∧ t.no < (s.amds.length : Int) ∧ (s.amds.getD t.no.toNat default).pend = true) := fun ⟨h1, h2, h3⟩ => by
        rw [Nat.zero_add] at c2
        rcases c2 with c2 | c2
        · rw [inB_iff.2 ⟨h1, h2⟩] at c2; cases c2
        · rw [h3] at c2; cases c2
      rw [pendE, if_pos c1, if_neg h]; simp [AllP]
    · try simp only [bb, toN] at c2
      refine gk_region env false [] [4] ?_ -- 5
      refine gk_retM env [iG (pendE s t)] (hp := ?_)
      rw [Nat.zero_add, inB_iff] at c2
      rw [pendE, if_pos c1, if_pos ⟨c2.1.1, c2.1.2, c2.2⟩]; simp [AllP]

theorem take_ok (k : Nat) (s : Sta) (hs : Fits k s) (no : Int) (h0 : 0 ≤ no) (h1 : no < s.amds.length) : GM Tryz.prog 125 [.ptr 0 0 0 0, iG no] [staB 1 2 s, amdB s, amnB s] (.tup []) [some (staB 3 4 (takeS s no)), none, none, some (amdB (takeS s no)), some (amnB (takeS s no))] := by
  have hal := hs.amds
  have ham := hs.at_ (i := no.toNat) (by omega)
  have hll := hs.left
  have hkk := hs.few
  have hln := hs.amended
  obtain ⟨A, hA, hA1, hA2⟩ : ∃ A, A = s.amds.set no.toNat { s.amds.getD no.toNat default with pend := false } ∧ A.length = s.amds.length ∧ A.getD (0 + no.toNat) default = { s.amds.getD no.toNat default with pend := false } := ⟨_, rfl, by simp, by rw [Nat.zero_add, List.getD_eq_getElem?_getD, List.getElem?_set_self (by omega)]; rfl⟩
  refine gm_of_gk Tryz.func125 ?_
  refine gk_region env false [] [0, 1, 4] ?_ -- 0
  refine gk_region env false [.el default amC A] [0, 1, 4] ?_ (hp := (by simp only [AllP, bb, toN]; exact ⟨by omega, by omega, by decide, by rw [hA, Nat.zero_add]; exact (putD_am (by omega)).symm⟩)) -- 1
  refine gk_region env false [] [0, 1, 4] ?_ (hp := (by simp only [AllP, bb, toN, hA1, hA2]; repeat' first | exact trivial | exact EntL.refl _ | exact BEntL.refl _ | exact rfl | omega | apply And.intro | intro _)) -- 2
  refine gk_region env false [] [0, 1] ?_ (hp := (by simp only [AllP, bb, toN, hA1, hA2]; repeat' first | exact trivial | exact EntL.refl _ | exact BEntL.refl _ | exact rfl | omega | apply And.intro | intro _)) -- 3
  refine gk_region env false [.el default inC [no], .el default inC (s.amended ++ [no])] [] ?_ (hp := (by simp only [AllP, Int.toNat_natCast]; repeat' first | exact trivial | exact EntL.refl _ | exact BEntL.refl _ | exact rfl | omega | apply And.intro | intro _ | (simp [rowL]; done) | (simp only [List.length_append, List.length_cons, List.length_nil]; omega) | (simp [*]; done))) -- 4
  refine gk_endX env [] (hp := ?_)
  simp only [AllP, hA2]
  repeat' first | exact rfl | apply And.intro | (simp [takeS, hA]; done)

theorem pendE_0 {s : Sta} {t : Trn} (h : pendE s t = 0) : t.by_ = s.c.ben ∧ 0 ≤ t.no ∧ t.no < s.amds.length ∧ (s.amds.getD t.no.toNat default).pend = true := by
  unfold pendE at h
  split at h
  · rename_i h1
    split at h
    · rename_i h2; exact ⟨h1, h2⟩
    · omega
  · omega
def acceptS (s : Sta) (t : Trn) : Sta × Int := if pendE s t = 0 then if s.c.exp < t.day then (s, 16) else (takeS s t.no, 0) else (s, pendE s t)
def dropS (s : Sta) (no : Int) : Sta := { s with amds := s.amds.set no.toNat { s.amds.getD no.toNat default with pend := false } }
def rejectS (s : Sta) (t : Trn) : Sta × Int := if pendE s t = 0 then (dropS s t.no, 0) else (s, pendE s t)
def confirmS (s : Sta) (t : Trn) : Sta × Int := if t.by_ = s.c.conf then if s.conf = true then (s, 5) else ({ s with conf := true }, 0) else (s, 18)
def amendS (s : Sta) (t : Trn) : Sta × Int := if t.by_ = s.c.iss then if printOk t.terms = true then if t.sum < 0 ∨ 1099511627776 < t.sum then (s, 3) else if s.amds.length = 8 then (s, 6) else ({ s with amds := s.amds ++ [⟨t.terms, t.sum, true⟩] }, 0) else (s, 2) else (s, 18)
def transS (s : Sta) (t : Trn) : Sta := { s with second := t.to_, moved := t.sum, left := s.left - t.sum }
def transferS (s : Sta) (t : Trn) : Sta × Int := if t.by_ = s.c.ben ∧ s.c.trans = true then if s.second = -1 then if inB t.to_ s.firms = true ∧ t.to_ ≠ s.c.ben then if s.c.exp < t.day then (s, 16) else if t.sum < 1 ∨ s.left < t.sum then (s, 3) else (transS s t, 0) else (s, 1) else (s, 5) else (s, 18)
def paidS (s : Sta) (x : Int) : Sta := if s.left = 0 ∧ s.moved = 0 ∧ s.paid + x = s.drawn ∧ 0 < s.rest then { s with paid := s.paid + x, rest := s.rest - 1, left := s.c.sum } else { s with paid := s.paid + x }
def payS (s : Sta) (t : Trn) : Sta × Int := if t.by_ = s.c.iss ∨ (s.conf = true ∧ t.by_ = s.c.conf) then if t.sum < 1 ∨ s.drawn - s.paid < t.sum then (s, 3) else (paidS s t.sum, 0) else (s, 18)

theorem accept_st (k : Nat) (s : Sta) (hs : Fits k s) (t : Trn) : GM Tryz.prog 88 [.ptr 0 0 0 0, trnG t] [staB 1 2 s, amdB s, amnB s] (iG (acceptS s t).2) [some (staB 3 4 (acceptS s t).1), none, none, some (amdB (acceptS s t).1), some (amnB (acceptS s t).1)] := by
  refine gm_of_gk Tryz.func88 ?_
  refine gk_region env false [] [0, 3, 4] ?_ -- 0
  refine gk_box 3 ?_
  refine gk_region env false [.callm [0, 1, 2] (pending_ok s hs.amds t)] [0, 3, 4, 5] ?_ -- 1
  refine gk_region env false [] [0, 3, 4, 5, 10] ?_ -- 2
  refine gk_ifn (fun c1 => ?_) (fun c1 => ?_)
  · try simp only [toN] at c1
    refine gk_region env false [] [0, 3, 4] ?_ -- 3
    refine gk_retX env [iG (acceptS s t).2] (hp := ?_)
    have e : acceptS s t = (s, pendE s t) := by rw [acceptS, if_neg c1]
    simp only [AllP, e]
    repeat' first | exact trivial | exact rfl | apply And.intro | (simp; done)
  · try simp only [toN] at c1
    refine gk_region env false [] [0, 3, 4, 19] ?_ -- 4
    refine gk_ifd (fun c2 => ?_) (fun c2 => ?_)
    · try simp only [toN] at c2
      refine gk_region env false [] [0, 3, 4] ?_ -- 5
      refine gk_retX env [iG (acceptS s t).2] (hp := ?_)
      have e : acceptS s t = (s, 16) := by rw [acceptS, if_pos c1, if_pos c2]
      simp only [AllP, e]
      repeat' first | exact trivial | exact rfl | apply And.intro | (simp; done)
    · try simp only [toN] at c2
      have hp := pendE_0 c1
      refine gk_region env false [.callm [0, 1, 2] (take_ok k s hs t.no hp.2.1 hp.2.2.1)] [4] ?_ -- 6
      refine gk_region env false [] [4] ?_ -- 7
      refine gk_retX env [iG (acceptS s t).2] (hp := ?_)
      have e : acceptS s t = (takeS s t.no, 0) := by rw [acceptS, if_pos c1, if_neg c2]
      simp only [AllP, e]
      repeat' first | exact trivial | exact rfl | apply And.intro | (simp; done)

theorem reject_st (k : Nat) (s : Sta) (hs : Fits k s) (t : Trn) : GM Tryz.prog 89 [.ptr 0 0 0 0, trnG t] [staB 1 2 s, amdB s, amnB s] (iG (rejectS s t).2) [some (staB 3 4 (rejectS s t).1), none, none, some (amdB (rejectS s t).1), some (amnB (rejectS s t).1)] := by
  have hal := hs.amds
  refine gm_of_gk Tryz.func89 ?_
  refine gk_region env false [] [0, 3, 4] ?_ -- 0
  refine gk_box 3 ?_
  refine gk_region env false [.callm [0, 1, 2] (pending_ok s hs.amds t)] [0, 3, 4, 5] ?_ -- 1
  refine gk_region env false [] [0, 3, 4, 5, 10] ?_ -- 2
  refine gk_ifn (fun c1 => ?_) (fun c1 => ?_)
  · try simp only [toN] at c1
    refine gk_region env false [] [0, 3, 4] ?_ -- 3
    refine gk_retX env [iG (rejectS s t).2] (hp := ?_)
    have e : rejectS s t = (s, pendE s t) := by rw [rejectS, if_neg c1]
    simp only [AllP, e]
    repeat' first | exact trivial | exact rfl | apply And.intro | (simp; done)
  · try simp only [toN] at c1
    have hp := pendE_0 c1
    refine gk_region env false [.el default amC (s.amds.set t.no.toNat { s.amds.getD t.no.toNat default with pend := false })] [4] ?_ (hp := (by simp only [AllP, bb, toN]; repeat' first | omega | exact trivial | decide | (rw [Nat.zero_add]; exact (putD_am (by omega)).symm) | apply And.intro)) -- 4
    refine gk_region env false [] [4] ?_ -- 5
    refine gk_retX env [iG (rejectS s t).2] (hp := ?_)
    have e : rejectS s t = (dropS s t.no, 0) := by rw [rejectS, if_pos c1]
    simp only [AllP, e]
    repeat' first | exact trivial | exact rfl | apply And.intro | (simp [dropS]; done)

theorem confirm_st (k : Nat) (s : Sta) (hs : Fits k s) (t : Trn) : GM Tryz.prog 91 [.ptr 0 0 0 0, trnG t] [staB 1 2 s, amdB s, amnB s] (iG (confirmS s t).2) [some (staB 3 4 (confirmS s t).1), none, none, some (amdB (confirmS s t).1), some (amnB (confirmS s t).1)] := by
  refine gm_of_gk Tryz.func91 ?_
  refine gk_region env false [] [0, 3, 4] ?_ -- 0
  refine gk_box 3 ?_
  refine gk_region env false [] [0, 4, 5] ?_ -- 1
  refine gk_ifn (fun c1 => ?_) (fun c1 => ?_)
  · try simp only [toN] at c1
    refine gk_region env false [] [0, 4] ?_ -- 2
    refine gk_retX env [iG (confirmS s t).2] (hp := ?_)
    have e : confirmS s t = (s, 18) := by rw [confirmS, if_neg c1]
    simp only [AllP, e]
    repeat' first | exact trivial | exact rfl | apply And.intro | (simp; done)
  · try simp only [toN] at c1
    refine gk_region env false [] [0, 4, 14] ?_ -- 3
    refine gk_if (fun c2 => ?_) (fun c2 => ?_)
    · try simp only [bb, toN] at c2
      refine gk_region env false [] [0, 4] ?_ -- 4
      refine gk_retX env [iG (confirmS s t).2] (hp := ?_)
      have e : confirmS s t = (s, 5) := by rw [confirmS, if_pos c1, if_pos c2]
      simp only [AllP, e]
      repeat' first | exact trivial | exact rfl | apply And.intro | (simp; done)
    · try simp only [bb, toN] at c2
      refine gk_region env false [] [4] ?_ -- 5
      refine gk_region env false [] [4] ?_ -- 6
      refine gk_retX env [iG (confirmS s t).2] (hp := ?_)
      have e : confirmS s t = ({ s with conf := true }, 0) := by rw [confirmS, if_pos c1, if_neg (by rw [c2]; simp)]
      simp only [AllP, e]
      repeat' first | exact trivial | exact rfl | apply And.intro | (simp; done)

theorem transfer_st (k : Nat) (s : Sta) (hs : Fits k s) (t : Trn) : GM Tryz.prog 90 [.ptr 0 0 0 0, trnG t] [staB 1 2 s, amdB s, amnB s] (iG (transferS s t).2) [some (staB 3 4 (transferS s t).1), none, none, some (amdB (transferS s t).1), some (amnB (transferS s t).1)] := by
  have h1 := hs.left
  have hkk := hs.few
  refine gm_of_gk Tryz.func90 ?_
  refine gk_region env false [] [0, 3, 4] ?_ -- 0
  refine gk_box 3 ?_
  refine gk_region env false [] [0, 3, 4, 5] ?_ -- 1
  refine gk_if (fun c1 => ?_) (fun c1 => ?_)
  · try simp only [bb, toN] at c1
    refine gk_region env false [] [0, 3, 4] ?_ -- 2
    refine gk_retX env [iG (transferS s t).2] (hp := ?_)
    have e : transferS s t = (s, 18) := by rw [transferS, if_neg (by rcases c1 with c | c <;> simp [c])]
    simp only [AllP, e]
    repeat' first | exact trivial | exact rfl | apply And.intro | (simp; done)
  · try simp only [bb, toN] at c1
    refine gk_region env false [] [0, 3, 4, 22] ?_ -- 3
    refine gk_ifn (fun c2 => ?_) (fun c2 => ?_)
    · try simp only [toN] at c2
      refine gk_region env false [] [0, 3, 4] ?_ -- 4
      refine gk_retX env [iG (transferS s t).2] (hp := ?_)
      have e : transferS s t = (s, 5) := by rw [transferS, if_pos c1, if_neg c2]
      simp only [AllP, e]
      repeat' first | exact trivial | exact rfl | apply And.intro | (simp; done)
    · try simp only [toN] at c2
      refine gk_region env false [.call (cin_ok t.to_ s.firms)] [0, 3, 4, 29] ?_ -- 5
      refine gk_if (fun c3 => ?_) (fun c3 => ?_)
      · try simp only [bb, toN] at c3
        refine gk_region env false [] [0, 3, 4] ?_ -- 6
        refine gk_retX env [iG (transferS s t).2] (hp := ?_)
        have e : transferS s t = (s, 1) := by rw [transferS, if_pos c1, if_pos c2, if_neg (by rcases c3 with c | c <;> simp [c])]
        simp only [AllP, e]
        repeat' first | exact trivial | exact rfl | apply And.intro | (simp; done)
      · try simp only [bb, toN] at c3
        refine gk_region env false [] [0, 3, 4, 48] ?_ -- 7
        refine gk_ifd (fun c4 => ?_) (fun c4 => ?_)
        · try simp only [toN] at c4
          refine gk_region env false [] [0, 3, 4] ?_ -- 8
          refine gk_retX env [iG (transferS s t).2] (hp := ?_)
          have e : transferS s t = (s, 16) := by rw [transferS, if_pos c1, if_pos c2, if_pos c3, if_pos c4]
          simp only [AllP, e]
          repeat' first | exact trivial | exact rfl | apply And.intro | (simp; done)
        · try simp only [toN] at c4
          refine gk_region env false [] [0, 3, 4, 57] ?_ -- 9
          refine gk_if (fun c5 => ?_) (fun c5 => ?_)
          · try simp only [bb, toN] at c5
            refine gk_region env false [] [0, 3, 4] ?_ -- 10
            refine gk_retX env [iG (transferS s t).2] (hp := ?_)
            have e : transferS s t = (s, 3) := by rw [transferS, if_pos c1, if_pos c2, if_pos c3, if_neg c4, if_pos c5]
            simp only [AllP, e]
            repeat' first | exact trivial | exact rfl | apply And.intro | (simp; done)
          · try simp only [bb, toN] at c5
            refine gk_region env false [] [0, 3, 4] ?_ -- 11
            have ht : 1 ≤ t.sum ∧ t.sum ≤ s.left := by omega
            refine gk_region env false [] [4] ?_ -- 12
            refine gk_region env false [] [4] ?_ -- 13
            refine gk_retX env [iG (transferS s t).2] (hp := ?_)
            have e : transferS s t = (transS s t, 0) := by rw [transferS, if_pos c1, if_pos c2, if_pos c3, if_neg c4, if_neg (by omega)]
            simp only [AllP, e]
            repeat' first | exact trivial | exact rfl | apply And.intro | (simp; done)

theorem pay_st (k : Nat) (s : Sta) (hs : Fits k s) (t : Trn) : GM Tryz.prog 92 [.ptr 0 0 0 0, trnG t] [staB 1 2 s, amdB s, amnB s] (iG (payS s t).2) [some (staB 3 4 (payS s t).1), none, none, some (amdB (payS s t).1), some (amnB (payS s t).1)] := by
  have h1 := hs.drawn
  have h2 := hs.paid
  have hkk := hs.few
  have h3 := hs.rest
  refine gm_of_gk Tryz.func92 ?_
  refine gk_region env false [] [0, 3, 4] ?_ -- 0
  refine gk_box 3 ?_
  refine gk_region env false [] [0, 3, 4, 5] ?_ -- 1
  refine gk_if (fun c1 => ?_) (fun c1 => ?_)
  · try simp only [bb, toN] at c1
    refine gk_region env false [] [0, 3, 4] ?_ -- 2
    refine gk_retX env [iG (payS s t).2] (hp := ?_)
    have e : payS s t = (s, 18) := by rw [payS, if_neg (by rintro (h | ⟨h1, h2⟩); exact c1.1 h; rcases c1.2 with h | h; rw [h] at h1; cases h1; exact h h2)]
    simp only [AllP, e]
    repeat' first | exact trivial | exact rfl | apply And.intro | (simp; done)
  · try simp only [bb, toN] at c1
    refine gk_region env false [] [0, 3, 4, 31] ?_ -- 3
    refine gk_if (fun c2 => ?_) (fun c2 => ?_)
    · try simp only [bb, toN] at c2
      refine gk_region env false [] [0, 3, 4] ?_ -- 4
      refine gk_retX env [iG (payS s t).2] (hp := ?_)
      have e : payS s t = (s, 3) := by rw [payS, if_pos c1, if_pos c2]
      simp only [AllP, e]
      repeat' first | exact trivial | exact rfl | apply And.intro | (simp; done)
    · try simp only [bb, toN] at c2
      refine gk_region env false [] [0, 4] ?_ -- 5
      refine gk_region env false [] [0, 4, 95] ?_ -- 6
      refine gk_if (fun c3 => ?_) (fun c3 => ?_)
      · try simp only [bb, toN] at c3
        refine gk_region env false [] [0, 4] ?_ -- 7
        refine gk_region env false [] [4] ?_ -- 8
        refine gk_region env false [] [4] ?_ -- 9
        refine gk_retX env [iG (payS s t).2] (hp := ?_)
        have e : payS s t = ({ s with paid := s.paid + t.sum, rest := s.rest - 1, left := s.c.sum }, 0) := by rw [payS, if_pos c1, if_neg (by omega), paidS, if_pos ⟨c3.1.1.1, c3.1.1.2, c3.1.2, c3.2⟩]
        simp only [AllP, e]
        repeat' first | exact trivial | exact rfl | apply And.intro | (simp; done)
      · try simp only [bb, toN] at c3
        refine gk_region env false [] [4] ?_ -- 9
        refine gk_retX env [iG (payS s t).2] (hp := ?_)
        have e : payS s t = ({ s with paid := s.paid + t.sum }, 0) := by rw [payS, if_pos c1, if_neg (by omega), paidS, if_neg (by omega)]
        simp only [AllP, e]
        repeat' first | exact trivial | exact rfl | apply And.intro | (simp; done)

theorem amend_st (k : Nat) (s : Sta) (hs : Fits k s) (t : Trn) (ht : t.terms.length ≤ 30) (htf : ∀ d, d ∈ t.terms → FewD d) : GM Tryz.prog 87 [.ptr 0 0 0 0, trnG t] [staB 1 2 s, amdB s, amnB s] (iG (amendS s t).2) [some (staB 3 4 (amendS s t).1), none, none, some (amdB (amendS s t).1), some (amnB (amendS s t).1)] := by
  have hal := hs.amds
  refine gm_of_gk Tryz.func87 ?_
  refine gk_region env false [] [0, 3, 4] ?_ -- 0
  refine gk_box 3 ?_
  refine gk_region env false [] [0, 3, 4, 5] ?_ -- 1
  refine gk_ifn (fun c1 => ?_) (fun c1 => ?_)
  · try simp only [toN] at c1
    refine gk_region env false [] [0, 3, 4] ?_ -- 2
    refine gk_retX env [iG (amendS s t).2] (hp := ?_)
    have e : amendS s t = (s, 18) := by rw [amendS, if_neg c1]
    simp only [AllP, e]
    repeat' first | exact trivial | exact rfl | apply And.intro | (simp; done)
  · try simp only [toN] at c1
    refine gk_region env false [.call (written_ok t.terms ht htf)] [0, 3, 4, 14] ?_ -- 3
    refine gk_if (fun c2 => ?_) (fun c2 => ?_)
    · try simp only [bb, toN] at c2
      refine gk_region env false [] [0, 3, 4] ?_ -- 4
      refine gk_retX env [iG (amendS s t).2] (hp := ?_)
      have e : amendS s t = (s, 2) := by rw [amendS, if_pos c1, if_neg (by rw [c2]; simp)]
      simp only [AllP, e]
      repeat' first | exact trivial | exact rfl | apply And.intro | (simp; done)
    · try simp only [bb, toN] at c2
      refine gk_region env false [] [0, 3, 4, 19] ?_ -- 5
      refine gk_if (fun c3 => ?_) (fun c3 => ?_)
      · try simp only [bb, toN] at c3
        refine gk_region env false [] [0, 3, 4] ?_ -- 6
        refine gk_retX env [iG (amendS s t).2] (hp := ?_)
        have e : amendS s t = (s, 3) := by rw [amendS, if_pos c1, if_pos c2, if_pos c3]
        simp only [AllP, e]
        repeat' first | exact trivial | exact rfl | apply And.intro | (simp; done)
      · try simp only [bb, toN] at c3
        refine gk_region env false [] [0, 3, 4, 28] ?_ -- 7
        refine gk_ifd (fun c4 => ?_) (fun c4 => ?_)
        · try simp only [toN] at c4
          refine gk_region env false [] [0, 3, 4] ?_ -- 8
          refine gk_retX env [iG (amendS s t).2] (hp := ?_)
          have e : amendS s t = (s, 6) := by rw [amendS, if_pos c1, if_pos c2, if_neg (by omega), if_pos (by omega)]
          simp only [AllP, e]
          repeat' first | exact trivial | exact rfl | apply And.intro | (simp; done)
        · try simp only [toN] at c4
          refine gk_region env false [.call (cloneD_ok t.terms (by omega)), .el default amC [⟨t.terms, t.sum, true⟩], .el default amC (s.amds ++ [⟨t.terms, t.sum, true⟩])] [4] ?_ (hp := (by simp only [AllP, Int.toNat_natCast]; repeat' first | exact trivial | exact EntL.refl _ | exact BEntL.refl _ | exact rfl | omega | apply And.intro | intro _ | (simp [rowL]; done) | (simp only [List.length_append, List.length_cons, List.length_nil]; omega) | (simp [*]; done))) -- 9
          refine gk_region env false [] [4] ?_ -- 10
          refine gk_retX env [iG (amendS s t).2] (hp := ?_)
          have e : amendS s t = ({ s with amds := s.amds ++ [⟨t.terms, t.sum, true⟩] }, 0) := by rw [amendS, if_pos c1, if_pos c2, if_neg (by omega), if_neg (by omega)]
          simp only [AllP, e]
          repeat' first | exact trivial | exact rfl | apply And.intro | (simp; done)

def candB (s : Sta) (t : Trn) (a : Amd) : Bool := bif a.pend then (bif fitsB s t.sum (s.left + a.sum) then confV a.terms t.docs else false) else false
def firstB (s : Sta) (t : Trn) : Bool := decide (t.by_ = s.c.ben)
def amtS (s : Sta) (t : Trn) : Int := if t.by_ = s.c.ben then s.left else s.moved
def subS (s : Sta) (t : Trn) (first : Prop) [Decidable first] : Sta := if first then { s with left := s.left - t.sum, drawn := s.drawn + t.sum } else { s with moved := s.moved - t.sum, drawn := s.drawn + t.sum }
def noS (s : Sta) (t : Trn) : Int := findI (candB s t) s.amds 0
def drawS (s : Sta) (t : Trn) : Sta × Int :=
  if ¬ t.by_ = s.c.ben ∧ (s.second = -1 ∨ ¬ t.by_ = s.second) then (s, 18) else if s.c.exp < t.day then (s, 16) else if t.sum < 1 ∨ 1099511627776 < t.sum then (s, 3)
  else if fitsB s t.sum (amtS s t) = true ∧ confV s.terms t.docs = true then (subS s t (t.by_ = s.c.ben), 0)
  else if ¬ t.by_ = s.c.ben ∨ noS s t < 0 then (s, 19) else (subS (takeS s (noS s t)) t (t.by_ = s.c.ben), 0)

theorem draw1_ok (k : Nat) (s : Sta) (hs : Fits k s) (t : Trn) (hd : FitL t.docs) (ats : List Dm) (asm : Int) (ap : Bool) (ha : (0 ≤ asm ∧ asm ≤ 1099511627776) ∧ ats.length ≤ 30 ∧ ∀ d, d ∈ ats → FewD d) : GM Tryz.prog 124 [amG ⟨ats, asm, ap⟩, .ptr 3 0 0 0, .ep (trnC t)] [staB 1 2 s, amdB s, amnB s, .box [.ptr 0 0 0 0]] (bG (candB s t ⟨ats, asm, ap⟩)) [some (staB 1 2 s), some (amdB s), some (amnB s), some (.box [.ptr 0 0 0 0])] := by
  have h1 := hs.left
  have hkk := hs.few
  refine gm_of_gk Tryz.func124 ?_
  refine gk_region env false [] [1, 2, 3, 4] ?_ -- 0
  cases ap
  · refine gk_box 4 ?_
    refine gk_region env false [.no, .no] [4] ?_ (hp := (by simp only [AllP, bb, toN]; repeat' first | exact trivial | exact EntL.refl _ | exact BEntL.refl _ | exact rfl | omega | apply And.intro | intro _ | exact Or.inl trivial)) -- 1
    refine gk_retM env [bG _] (hp := ?_)
    simp only [AllP]
    repeat' first | exact trivial | exact rfl | apply And.intro | (simp [candB]; done)
  · refine gk_box 4 ?_
    refine gk_region env false [.callm [0, 1, 2] (fits_ok s t.sum (s.left + asm)), .call (conform_ok ats ha.2.1 ha.2.2 t.docs hd)] [4] ?_ -- 1
    refine gk_retM env [bG _] (hp := ?_)
    simp only [AllP]
    repeat' first | exact trivial | exact rfl | apply And.intro | (simp [candB]; done)

theorem indexD_ok (k : Nat) (s : Sta) (hs : Fits k s) (t : Trn) (hd : FitL t.docs) : GM Tryz.prog 123 [.sl 1 3 0 s.amds.length, .fn (.func 124) [] [.ptr 3 0 0 0, .ep (trnC t)]] [staB 1 2 s, amdB s, amnB s, .box [.ptr 0 0 0 0]] (iG (noS s t)) [some (staB 1 2 s), some (amdB s), some (amnB s), some (.box [.ptr 0 0 0 0])] := by
  have hal := hs.amds
  refine gm_of_gk Tryz.func123 ?_
  refine gk_region env false [] [0, 1, 4] ?_ -- 0
  refine gk_region env false [] [0, 1, 4, 7, 8] ?_ -- 1
  refine gk_loop (α := Nat) (fun i => i ≤ s.amds.length ∧ noS s t = findI (candB s t) s.amds i) (fun i => [(8, iG i)]) (fun _ => []) (fun i => s.amds.length - i) 0 ⟨by omega, rfl⟩ ?_ (hp := by simp [AllP]; rfl) -- loop 2
  rintro i ⟨hi, he⟩
  refine gk_region env false [] [0, 1, 4, 7, 8, 9] ?_ -- 2
  refine gk_ifd (fun c1 => ?_) (fun c1 => ?_)
  · try simp only [toN] at c1
    refine gk_region env false [] [0, 1, 4, 5, 7, 8] ?_ -- 3
    refine gk_region env false [.callm [0, 1, 2, 3] (draw1_ok k s hs t hd (s.amds.getD (0 + i) default).terms (s.amds.getD (0 + i) default).sum (s.amds.getD (0 + i) default).pend (hs.at_ (by omega)))] [0, 1, 4, 5, 7, 8, 16] ?_ -- 4
    refine gk_if (fun c2 => ?_) (fun c2 => ?_)
    · try simp only [bb, toN] at c2
      refine gk_region env false [] [0, 1, 4, 7, 8] ?_ -- 5
      refine gk_retM env [iG (noS s t)] (hp := ?_)
      rw [Nat.zero_add] at c2
      simp only [AllP]
      rw [he, findI, if_pos (by omega), if_pos (show candB s t (s.amds.getD i default) = true from c2)]
      simp
    · try simp only [bb, toN] at c2
      refine gk_region env false [] [0, 1, 4, 7, 8] ?_ -- 6
      refine gk_round (i + 1) ?_ (hp := by simp [AllP]; rfl)
      rw [Nat.zero_add] at c2
      refine ⟨by omega, he.trans ?_⟩
      rw [findI, if_pos (by omega), if_neg (by rw [show candB s t (s.amds.getD i default) = false from c2]; simp)]
  · try simp only [toN] at c1
    refine gk_region env false [] [4] ?_ -- 7
    refine gk_retM env [iG (noS s t)] (hp := ?_)
    simp only [AllP]
    rw [he, findI, if_neg (by omega)]
    simp

theorem noS_at {s : Sta} {t : Trn} (h : ¬ noS s t < 0) : 0 ≤ noS s t ∧ noS s t < s.amds.length ∧ candB s t (s.amds.getD (noS s t).toNat default) = true := by
  rcases findI_range (candB s t) s.amds _ 0 rfl with ⟨h1, _⟩ | ⟨j, h1, h2, h3, h4, _⟩
  · unfold noS at h; omega
  · unfold noS
    rw [h3]
    exact ⟨by omega, by omega, by simpa using h4⟩

theorem draw_st (k : Nat) (s : Sta) (hs : Fits k s) (t : Trn) (hd : FitL t.docs) : GM Tryz.prog 86 [.ptr 0 0 0 0, trnG t] [staB 1 2 s, amdB s, amnB s] (iG (drawS s t).2) [some (staB 3 4 (drawS s t).1), none, none, some (amdB (drawS s t).1), some (amnB (drawS s t).1)] := by
  have h1 := hs.left
  have hkk := hs.few
  have h2 := hs.moved
  have h3 := hs.drawn
  refine gm_of_gk Tryz.func86 ?_
  refine gk_region env false [] [2, 3, 4] ?_ -- 0
  refine gk_box 4 ?_
  refine gk_region env false [] [2, 3, 4, 5] ?_ -- 1
  refine gk_region env false [] [2, 3, 4, 5, 16] ?_ -- 2
  refine gk_if (fun c1 => ?_) (fun c1 => ?_)
  · try simp only [bb, toN] at c1
    refine gk_region env false [] [2, 3, 4, 5] ?_ -- 3
    refine gk_retX env [iG (drawS s t).2] (hp := ?_)
    have e : drawS s t = (s, 18) := by rw [drawS, if_pos c1]
    simp only [AllP, e]
    repeat' first | exact trivial | exact rfl | apply And.intro | (simp [subS, c4]; done)
  · try simp only [bb, toN] at c1
    refine gk_region env false [] [2, 3, 4, 5, 37] ?_ -- 4
    refine gk_ifd (fun c2 => ?_) (fun c2 => ?_)
    · try simp only [toN] at c2
      refine gk_region env false [] [2, 3, 4, 5] ?_ -- 5
      refine gk_retX env [iG (drawS s t).2] (hp := ?_)
      have e : drawS s t = (s, 16) := by rw [drawS, if_neg (by omega), if_pos c2]
      simp only [AllP, e]
      repeat' first | exact trivial | exact rfl | apply And.intro | (simp [subS, c4]; done)
    · try simp only [toN] at c2
      refine gk_region env false [] [2, 3, 4, 5, 46] ?_ -- 6
      refine gk_if (fun c3 => ?_) (fun c3 => ?_)
      · try simp only [bb, toN] at c3
        refine gk_region env false [] [2, 3, 4, 5] ?_ -- 7
        refine gk_retX env [iG (drawS s t).2] (hp := ?_)
        have e : drawS s t = (s, 3) := by rw [drawS, if_neg (by omega), if_neg c2, if_pos c3]
        simp only [AllP, e]
        repeat' first | exact trivial | exact rfl | apply And.intro | (simp [subS, c4]; done)
      · try simp only [bb, toN] at c3
        refine gk_region env false [] [2, 3, 4, 5, 6] ?_ -- 8
        refine gk_region env false [] [2, 3, 4, 5, 6, 60] ?_ -- 9
        refine gk_if (fun c4 => ?_) (fun c4 => ?_)
        · try simp only [bb, toN] at c4
          refine gk_region env false [] [2, 3, 4, 5, 6] ?_ -- 10
          refine gk_region env false [.callm [0, 1, 2] (fits_ok s t.sum s.moved), .call (conform_ok s.terms hs.terms.1 hs.terms.2 t.docs hd)] [2, 3, 4, 5, 6, 82] ?_ -- 11
          refine gk_if (fun c5 => ?_) (fun c5 => ?_)
          · try simp only [bb, toN] at c5
            refine gk_region env false [.callm [0, 1, 2, 3] (indexD_ok k s hs t hd)] [2, 3, 4, 5, 6, 7] ?_ -- 12
            refine gk_region env false [] [2, 3, 4, 6, 7, 94] ?_ -- 13
            refine gk_if (fun c6 => ?_) (fun c6 => ?_)
            · try simp only [bb, toN] at c6
              refine gk_region env false [] [2, 3, 4, 6, 7] ?_ -- 14
              refine gk_retX env [iG (drawS s t).2] (hp := ?_)
              have e : drawS s t = (s, 19) := by rw [drawS, if_neg (by omega), if_neg c2, if_neg (by omega), if_neg (by rw [show amtS s t = s.moved from if_neg c4]; rcases c5 with h | h <;> simp [h]), if_pos (.inl c4)]
              simp only [AllP, e]
              repeat' first | exact trivial | exact rfl | apply And.intro | (simp [subS, c4]; done)
            · try simp only [bb, toN] at c6
              exact absurd c6.1 c4
          · try simp only [bb, toN] at c5
            refine gk_region env false [] [2, 3, 4] ?_ -- 16
            refine gk_region env false [] [4] ?_ -- 17
            refine gk_region env false [] [4] ?_ -- 18
            refine gk_retX env [iG (drawS s t).2] (hp := ?_)
            have e : drawS s t = (subS s t (t.by_ = s.c.ben), 0) := by rw [drawS, if_neg (by omega), if_neg c2, if_neg (by omega), if_pos (by rw [show amtS s t = s.moved from if_neg c4]; exact c5)]
            simp only [AllP, e]
            repeat' first | exact trivial | exact rfl | apply And.intro | (simp [subS, c4]; done)
        · try simp only [bb, toN] at c4
          refine gk_region env false [.callm [0, 1, 2] (fits_ok s t.sum s.left), .call (conform_ok s.terms hs.terms.1 hs.terms.2 t.docs hd)] [2, 3, 4, 5, 6, 82] ?_ -- 11
          refine gk_if (fun c7 => ?_) (fun c7 => ?_)
          · try simp only [bb, toN] at c7
            refine gk_region env false [.callm [0, 1, 2, 3] (indexD_ok k s hs t hd)] [2, 3, 4, 5, 6, 7] ?_ -- 12
            refine gk_region env false [] [2, 3, 4, 6, 7, 94] ?_ -- 13
            refine gk_if (fun c8 => ?_) (fun c8 => ?_)
            · try simp only [bb, toN] at c8
              refine gk_region env false [] [2, 3, 4, 6, 7] ?_ -- 14
              refine gk_retX env [iG (drawS s t).2] (hp := ?_)
              have e : drawS s t = (s, 19) := by rw [drawS, if_neg (by omega), if_neg c2, if_neg (by omega), if_neg (by rw [show amtS s t = s.left from if_pos c4]; rcases c7 with h | h <;> simp [h]), if_pos c8]
              simp only [AllP, e]
              repeat' first | exact trivial | exact rfl | apply And.intro | (simp [subS, c4]; done)
            · try simp only [bb, toN] at c8
              have hno := noS_at (s := s) (t := t) (by omega)
              refine gk_region env false [.callm [0, 1, 2] (take_ok k s hs (noS s t) hno.1 hno.2.1)] [2, 3, 4, 6] ?_ -- 15
              have htl : (takeS s (noS s t)).left = s.left + (s.amds.getD (noS s t).toNat default).sum := rfl
              have htd : (takeS s (noS s t)).drawn = s.drawn := rfl
              have hat := (hs.at_ (i := (noS s t).toNat) (by omega)).1
              refine gk_region env false [] [2, 3, 4] ?_ -- 16
              refine gk_region env false [] [4] ?_ -- 17
              refine gk_region env false [] [4] ?_ -- 18
              refine gk_retX env [iG (drawS s t).2] (hp := ?_)
              have e : drawS s t = (subS (takeS s (noS s t)) t (t.by_ = s.c.ben), 0) := by rw [drawS, if_neg (by omega), if_neg c2, if_neg (by omega), if_neg (by rw [show amtS s t = s.left from if_pos c4]; rcases c7 with h | h <;> simp [h]), if_neg (by omega)]
              simp only [AllP, e]
              repeat' first | exact trivial | exact rfl | apply And.intro | (simp [subS, c4]; done)
          · try simp only [bb, toN] at c7
            refine gk_region env false [] [2, 3, 4] ?_ -- 16
            refine gk_region env false [] [4] ?_ -- 17
            refine gk_region env false [] [4] ?_ -- 18
            refine gk_retX env [iG (drawS s t).2] (hp := ?_)
            have e : drawS s t = (subS s t (t.by_ = s.c.ben), 0) := by rw [drawS, if_neg (by omega), if_neg c2, if_neg (by omega), if_pos (by rw [show amtS s t = s.left from if_pos c4]; exact c7)]
            simp only [AllP, e]
            repeat' first | exact trivial | exact rfl | apply And.intro | (simp [subS, c4]; done)
end Go.Gh
