/- Walks by the logic of calls, and plain laws (several texts in one). -/
import Derived.Test.YtffffkfcbjobnaaGreatM5
import Derived.Test.YtffffkfcbjobnaaGreatM3
namespace Go.Gh
open Go Go.Proofs
set_option maxRecDepth 1000000
set_option maxHeartbeats 2000000
set_option linter.unusedSimpArgs false
set_option linter.unusedVariables false
set_option linter.unnecessarySimpa false
set_option linter.unusedSectionVars false
variable [PowTab] [ItoaU]
open Go.RowKit
abbrev rowU (l:List Int):G:= .d (.row default uC l)
def dedL (xs:List Int):List Int:=xs.foldl (fun acc x=>if acc.contains x then acc else acc++ [x]) []
theorem dedL_step (xs:List Int) (x:Int):dedL (xs++ [x])=if (dedL xs).contains x then dedL xs else dedL xs++ [x]:=by simp[dedL]
theorem dedL_len (xs:List Int):(dedL xs).length≤xs.length:=by
 have key:∀(xs acc:List Int),(xs.foldl (fun acc x=>if acc.contains x then acc else acc++ [x]) acc).length≤acc.length+xs.length:=by
  intro xs
  induction xs with
  |nil=>intro acc;simp
  |cons x l ih=>
   intro acc
   refine Nat.le_trans (ih _) ?_
   show (if acc.contains x=true then acc else acc++ [x]).length+l.length≤acc.length+(l.length+1)
   by_cases h:acc.contains x=true
   ·rw[if_pos h];simp
   ·rw[if_neg h];simp;omega
 simpa [dedL]using key xs []
def mpL (d:List Int):List (Value×Value):=d.map fun s=>(Value.int .u64 s,Value.bool true)
theorem mget_ded (x:Int):∀d:List Int,mget (.int .u64 x) (mpL d)=if d.contains x then some (some (.bool true))else some none:=by
 intro d
 induction d with
 |nil=>rfl
 |cons y d ih=>
  show (match keySame (.int .u64 x) (.int .u64 y)with
   |some true=>some (some (Value.bool true))
   |some false=>mget (.int .u64 x) (mpL d)
   |none=>none)=_
  show (match (some (decide (x=y)):Option Bool)with
   |some true=>some (some (Value.bool true))
   |some false=>mget (.int .u64 x) (mpL d)
   |none=>none)=_
  by_cases h:x=y
  ·simp[h]
  ·simp only[decide_eq_false h,ih]
   simp[h]
theorem mput_ded (x:Int):∀d:List Int,d.contains x=false→mput (.int .u64 x) (.bool true) (mpL d)=some (mpL (d++ [x])):=by
 intro d
 induction d with
 |nil=>intro _;rfl
 |cons y d ih=>
  intro h
  simp only[List.contains_cons,Bool.or_eq_false_iff,beq_eq_false_iff_ne,ne_eq]at h
  show (match (some (decide (x=y)):Option Bool)with
   |some true=>some ((Value.int .u64 x,Value.bool true)::mpL d)
   |some false=>(match mput (.int .u64 x) (.bool true) (mpL d)with
    |some l'=>some ((Value.int .u64 y,Value.bool true)::l')
    |none=>none)
   |none=>none)=_
  simp only[decide_eq_false h.1,ih h.2]
  rfl
theorem look_ded (x:Int) (d:List Int):lookP (.int .u64 x) (mpL d) (.bool false) (.bool (d.contains x)) (d.contains x):=by
 cases h:d.contains x with
 |true=>exact .inl ⟨rfl,by rw[mget_ded,h];rfl⟩
 |false=>exact .inr ⟨rfl,rfl,by rw[mget_ded,h];rfl⟩
def nv0 (n:Nat):Int:=IntKind.u64.wrap (shlI .u64 1 (n:Int)-1)
def setsL (l:List Dm) (docs:List Dc):List Int:=(List.range (countsE docs).2.1.toNat).map (setAt l docs (countsE docs).1)
def andL (xs:List Int) (a:Int):Int:=xs.foldl (andI .u64) a
def orL (xs:List Int):Int:=xs.foldl (orI .u64) 0
theorem andL_step (xs:List Int) (x a:Int):andL (xs++ [x]) a=andI .u64 (andL xs a) x:=by simp[andL]
theorem orL_step (xs:List Int) (x:Int):orL (xs++ [x])=orI .u64 (orL xs) x:=by simp[orL]
def neverE (l:List Dm) (docs:List Dc):Int:=andL (setsL l docs) (nv0 l.length)
def doubtE (l:List Dm) (docs:List Dc):Int:=andNotI .u64 (orL (setsL l docs)) (neverE l docs)
def lookErr (l:List Dm) (docs:List Dc):Int:=if printOk l=false then 2 else if (countsE docs).2.2=0 then if 10<onesE (doubtE l docs)then 6 else 0 else (countsE docs).2.2
def lookS (l:List Dm) (docs:List Dc):List Int:=if lookErr l docs=0 then dedL (setsL l docs)else []
def lookN (l:List Dm) (docs:List Dc):Int:=if lookErr l docs=0 then neverE l docs else 0
def lookD (l:List Dm) (docs:List Dc):Int:=if lookErr l docs=0 then doubtE l docs else 0
theorem look_bad {l:List Dm} {docs:List Dc} (h:lookErr l docs≠0):lookS l docs= []∧lookN l docs=0∧lookD l docs=0:=⟨if_neg h,if_neg h,if_neg h⟩
abbrev lookG (l:List Dm) (docs:List Dc):G:= .agg [rowU (lookS l docs),uG (lookN l docs),uG (lookD l docs)]
theorem look_ok (l:List Dm) (hl:l.length≤30) (hf:∀d,d∈l→FewD d) (docs:List Dc) (hd:FitL docs):GC Tryz.prog 156 [rowD l,rowDc docs] (.tup [lookG l docs,iG (lookErr l docs)]):=by
 have hdl:=hd.len
 refine gc_of_gk Tryz.func156 ?_
 refine gk_region env false [] [0,1,4,5] ?_
 refine gk_region env false [.call (print_ok l (by omega) hf)] [0,1,4,5,7] ?_
 refine gk_region env false [] [0,1,4,5,21] ?_
 refine gk_if (fun c1=> ?_) (fun c1=> ?_)
 ·try simp only[bb,toN]at c1
  refine gk_region env false [] [0,1,4,5] ?_
  refine gk_retE env ?_
  have e:lookErr l docs=2:=if_pos c1
  obtain ⟨e1,e2,e3⟩:=look_bad (l:=l) (docs:=docs) (by omega)
  rw[lookG,e,e1,e2,e3];exact Ent.tup ⟨Ent.agg ⟨Ent.nil,Ent.refl _,Ent.refl _,trivial⟩,Ent.refl _,trivial⟩
 ·try simp only[bb,toN]at c1
  refine gk_region env false [.call (GC.lift (counts_ok docs hd))] [0,1,4,5,8,9,10] ?_
  refine gk_region env false [] [0,1,4,5,8,9,10,30] ?_
  refine gk_ifn (fun c2=> ?_) (fun c2=> ?_)
  ·try simp only[toN]at c2
   refine gk_region env false [] [0,1,4,5,8,9] ?_
   refine gk_retE env ?_
   have e:lookErr l docs=(countsE docs).2.2:=by unfold lookErr;rw[if_neg (by simp[c1]),if_neg c2]
   obtain ⟨e1,e2,e3⟩:=look_bad (l:=l) (docs:=docs) (by omega)
   rw[lookG,e,e1,e2,e3];exact Ent.tup ⟨Ent.agg ⟨Ent.nil,Ent.refl _,Ent.refl _,trivial⟩,Ent.refl _,trivial⟩
  ·try simp only[toN]at c2
   refine gk_region env true [] [0,1,4,5,8,9,11] ?_
   refine gk_region env false [] [0,1,4,5,8,9,11,12] ?_
   refine gk_region env false [] [0,1,4,5,8,9,11,12,13] ?_
   refine gk_nilB 1 0 223 1 (default:Int) uC ?_
   have hc:=countsE_ok c2
   have hn:(((countsE docs).2.1.toNat:Nat):Int)=(countsE docs).2.1:=by have:=hc.n0;omega
   have hn1:=hc.n1
   refine gk_region env false [.call (failings_ok l docs (countsE docs).1 (countsE docs).2.1)] [4,5,11,12,13,43] ?_
   refine gk_range 5 6 (fun i:Nat=>[uG (setAt l docs (countsE docs).1 i)]) (List.range (countsE docs).2.1.toNat) (fun pre=>[(0,some (.box [.d (.sc (.slice none 0 0)),uG 0,uG 0])),(1,some (.box [.sl 5 1 0 (dedL (pre.map (setAt l docs (countsE docs).1))).length,uG (andL (pre.map (setAt l docs (countsE docs).1)) (nv0 l.length)),uG 0])),(2,some (.mp (mpL (dedL (pre.map (setAt l docs (countsE docs).1)))))),(3,some (.box [.mp 2])),(4,some (.box [uG (orL (pre.map (setAt l docs (countsE docs).1)))])),(5,some (.row 223 1 default uC (dedL (pre.map (setAt l docs (countsE docs).1))) 0))]) (hn▸failings_iter l (by omega) docs hd (countsE docs).1 (countsE docs).2.1 hc (countsE docs).2.1.toNat (by omega)) ?_ ?_ (hps:=by simp only[AllP];repeat' first|exact trivial|exact rfl|apply And.intro)
   ·rintro pre x hpre
    rw[List.length_range]at hpre
    have hdl2:(dedL (pre.map (setAt l docs (countsE docs).1))).length≤4096:=by have:=dedL_len (pre.map (setAt l docs (countsE docs).1));rw[List.length_map]at this;omega
    refine gk_region env false [] [11,12,13,14] ?_
    refine gk_asn ?_
    refine gk_region env false [.look (.bool ((dedL (pre.map (setAt l docs (countsE docs).1))).contains (setAt l docs (countsE docs).1 x))) ((dedL (pre.map (setAt l docs (countsE docs).1))).contains (setAt l docs (countsE docs).1 x))] [11,12,13,14,48] ?_ (hp:=(by simp only[AllP];exact look_ded _ _))
    refine gk_if (fun c3=> ?_) (fun c3=> ?_)
    ·try simp only[bb,toN]at c3
     refine gk_region env false [.mp (mpL (dedL (pre.map (setAt l docs (countsE docs).1))++ [setAt l docs (countsE docs).1 x]))] [11,13,14] ?_ (hp:=(by simp only[AllP];exact mput_ded _ _ c3))
     refine gk_region env false [.el default uC [setAt l docs (countsE docs).1 x],.el default uC (dedL (pre.map (setAt l docs (countsE docs).1))++ [setAt l docs (countsE docs).1 x])] [11,13,14] ?_ (hp:=(by simp only[AllP,Int.toNat_natCast];repeat' first|exact trivial|exact EntL.refl _|exact BEntL.refl _|exact rfl|omega|apply And.intro|intro _|(simp[rowL];done)|(simp only[List.length_append,List.length_cons,List.length_nil];omega)|(simp[*];done)))
     have hd2:dedL ((pre.map (setAt l docs (countsE docs).1))++ [setAt l docs (countsE docs).1 x])=dedL (pre.map (setAt l docs (countsE docs).1))++ [setAt l docs (countsE docs).1 x]:=by rw[dedL_step,c3];rfl
     refine gk_region env false [] [13,14] ?_
     refine gk_region env false [] [] ?_
     exact gk_back (hps:=by simp only[AllP,List.map_append,List.map_cons,List.map_nil,andL_step,orL_step,hd2];repeat' first|exact trivial|exact EntL.refl _|exact BEntL.refl _|exact rfl|omega|apply And.intro|intro _|(simp;done))
    ·try simp only[bb,toN]at c3
     have hd2:dedL ((pre.map (setAt l docs (countsE docs).1))++ [setAt l docs (countsE docs).1 x])=dedL (pre.map (setAt l docs (countsE docs).1)):=by rw[dedL_step,c3];rfl
     refine gk_region env false [] [13,14] ?_
     refine gk_region env false [] [] ?_
     exact gk_back (hps:=by simp only[AllP,List.map_append,List.map_cons,List.map_nil,andL_step,orL_step,hd2];repeat' first|exact trivial|exact EntL.refl _|exact BEntL.refl _|exact rfl|omega|apply And.intro|intro _|(simp;done))
   ·refine gk_region env false [] [4,5,11] ?_
    refine gk_region env false [.call (ones_ok (doubtE l docs))] [4,5,11,73] ?_
    refine gk_ifd (fun c4=> ?_) (fun c4=> ?_)
    ·try simp only[toN]at c4
     refine gk_region env false [] [4,5,11] ?_
     refine gk_retE env ?_
     have e:lookErr l docs=6:=by unfold lookErr;rw[if_neg (by simp[c1]),if_pos c2,if_pos c4]
     obtain ⟨e1,e2,e3⟩:=look_bad (l:=l) (docs:=docs) (by omega)
     rw[lookG,e,e1,e2,e3];exact Ent.tup ⟨Ent.agg ⟨Ent.nil,Ent.refl _,Ent.refl _,trivial⟩,Ent.refl _,trivial⟩
    ·try simp only[toN]at c4
     refine gk_region env false [] [4,5] ?_
     refine gk_retE env ?_
     have e:lookErr l docs=0:=by unfold lookErr;rw[if_neg (by simp[c1]),if_pos c2,if_neg c4]
     have e1:lookS l docs=dedL (setsL l docs):=if_pos e
     have e2:lookN l docs=neverE l docs:=if_pos e
     have e3:lookD l docs=doubtE l docs:=if_pos e
     rw[lookG,e,e1,e2,e3];exact Ent.refl _
def stateE (l:List Dm) (docs:List Dc):Int:=if lookErr l docs=0 then if ((lookS l docs).any fun y=>decide (y=0))=true then if (lookS l docs).length=1 then 1 else 2 else 0 else 0
theorem lookS_len (l:List Dm) (docs:List Dc):(lookS l docs).length≤4096:=by
 unfold lookS
 split
 ·rename_i h
  have h2:(countsE docs).2.2=0:=by
   unfold lookErr at h
   split at h
   ·omega
   ·split at h
    ·assumption
    ·contradiction
  have h3:=(countsE_ok h2).n1
  have:=dedL_len (setsL l docs)
  unfold setsL at this⊢
  rw[List.length_map,List.length_range]at this
  omega
 ·simp
theorem indexU_ok (l:List Int) (hl:l.length≤9223372036854775807) (x:Int):GC Tryz.prog 165 [rowU l,uG x] (iG (findI (fun y=>decide (y=x)) l 0)):=by
 refine gc_of_gk Tryz.func165 ?_
 refine gk_region env false [] [0,1,4] ?_
 refine gk_region env false [] [0,1,4,7,8] ?_
 refine gk_loop (α:=Nat) (fun i=>i≤l.length∧findI (fun y=>decide (y=x)) l 0=findI (fun y=>decide (y=x)) l i) (fun i=>[(8,iG i)]) (fun _=>[]) (fun i=>l.length-i) 0 ⟨by omega,rfl⟩ ?_
 rintro i ⟨hi,he⟩
 refine gk_region env false [] [0,1,4,7,8,9] ?_
 refine gk_ifd (fun c1=> ?_) (fun c1=> ?_)
 ·try simp only[toN]at c1
  refine gk_region env false [] [0,1,4,5,7,8] ?_
  refine gk_region env false [] [0,1,4,5,7,8,16] ?_
  refine gk_ifd (fun c2=> ?_) (fun c2=> ?_)
  ·try simp only[toN]at c2
   refine gk_region env false [] [0,1,4,7,8] ?_
   refine gk_ret env ?_
   rw[he,findI,if_pos (by omega),if_pos (by simpa using c2.symm)];rfl
  ·try simp only[toN]at c2
   refine gk_region env false [] [0,1,4,7,8] ?_
   refine gk_round (i+1) ?_
   refine ⟨by omega,he.trans ?_⟩
   rw[findI,if_pos (by omega),if_neg (by simpa using fun e=>c2 e.symm)]
 ·try simp only[toN]at c1
  refine gk_region env false [] [4] ?_
  refine gk_ret env ?_
  rw[he,findI,if_neg (by omega)];rfl
theorem hasU_ok (l:List Int) (hl:l.length≤9223372036854775807) (x:Int):GC Tryz.prog 157 [rowU l,uG x] (bG (l.any fun y=>decide (y=x))):=by
 refine gc_of_gk Tryz.func157 ?_
 refine gk_region env false [] [0,1,4] ?_
 refine gk_region env false [.call (indexU_ok l hl x)] [4] ?_
 refine gk_ret env ?_
 rw[←findI_any];rfl
theorem estate_ok (l:List Dm) (hl:l.length≤30) (hf:∀d,d∈l→FewD d) (docs:List Dc) (hd:FitL docs):GC Tryz.prog 147 [rowD l,rowDc docs] (.tup [iG (stateE l docs),iG (lookErr l docs)]):=by
 have hls:=lookS_len l docs
 refine gc_of_gk Tryz.func147 ?_
 refine gk_region env false [] [0,1,4,5] ?_
 refine gk_region env false [.call (look_ok l hl hf docs hd)] [4,5,6,7] ?_
 refine gk_region env false [] [4,5,6,7,15] ?_
 refine gk_ifn (fun c1=> ?_) (fun c1=> ?_)
 ·try simp only[toN]at c1
  refine gk_region env false [] [4,5,6] ?_
  refine gk_ret env ?_
  rw[stateE,if_neg c1];rfl
 ·try simp only[toN]at c1
  refine gk_region env false [.call (hasU_ok (lookS l docs) (by omega) 0)] [4,5,6,17] ?_
  refine gk_if (fun c2=> ?_) (fun c2=> ?_)
  ·try simp only[bb,toN]at c2
   refine gk_region env false [] [4,5] ?_
   refine gk_ret env ?_
   rw[stateE,if_pos c1,if_neg (by rw[c2];simp),c1];rfl
  ·try simp only[bb,toN]at c2
   refine gk_region env false [] [4,5,22] ?_
   refine gk_ifd (fun c3=> ?_) (fun c3=> ?_)
   ·try simp only[toN]at c3
    refine gk_region env false [] [4,5] ?_
    refine gk_ret env ?_
    rw[stateE,if_pos c1,if_pos c2,if_pos (by omega),c1];rfl
   ·try simp only[toN]at c3
    refine gk_region env false [] [4,5] ?_
    refine gk_ret env ?_
    rw[stateE,if_pos c1,if_pos c2,if_neg (by omega),c1];rfl
def confV (l:List Dm) (docs:List Dc):Bool:=bif decide (lookErr l docs=0)then decide (stateE l docs=1)else false
theorem conform_ok (l:List Dm) (hl:l.length≤30) (hf:∀d,d∈l→FewD d) (docs:List Dc) (hd:FitL docs):GC Tryz.prog 122 [rowD l,rowDc docs] (bG (confV l docs)):=by
 refine gc_of_gk Tryz.func122 ?_
 refine gk_region env false [] [0,1,4] ?_
 refine gk_region env false [.call (estate_ok l hl hf docs hd)] [4,5,6] ?_
 refine gk_region env false [] [4] ?_
 refine gk_ret env ?_
 rfl
end Go.Gh
namespace Go.Gh
open Go Go.Proofs
set_option maxRecDepth 1000000
set_option maxHeartbeats 2000000
set_option linter.unusedSimpArgs false
set_option linter.unusedVariables false
set_option linter.unnecessarySimpa false
set_option linter.unusedSectionVars false
variable [PowTab] [ItoaU]
open Go.RowKit
structure Crd where
 app:Int
 iss:Int
 conf:Int
 ben:Int
 cur:Int
 sum:Int
 exp:Int
 city:Int
 part:Bool
 trans:Bool
 rev:Int
 terms:List Dm
abbrev crdG (c:Crd):G:= .agg [iG c.app,iG c.iss,iG c.conf,iG c.ben,iG c.cur,iG c.sum,iG c.exp,iG c.city,bG c.part,bG c.trans,iG c.rev,rowD c.terms]
structure Trn where
 kind:Int
 day:Int
 by_:Int
 to_:Int
 sum:Int
 no:Int
 terms:List Dm
 docs:List Dc
instance :Inhabited Trn:=⟨⟨0,0,0,0,0,0,[],[]⟩⟩
def trnC (t:Trn):List D:=[.sc (.int .i64 t.kind),.sc (.int .i64 t.day),.sc (.int .i64 t.by_),.sc (.int .i64 t.to_),.sc (.int .i64 t.sum),.sc (.int .i64 t.no),.row default dmC t.terms,.row default dcC t.docs]
abbrev trnG (t:Trn):G:= .agg [iG t.kind,iG t.day,iG t.by_,iG t.to_,iG t.sum,iG t.no,rowD t.terms,rowDc t.docs]
structure Amd where
 terms:List Dm
 sum:Int
 pend:Bool
instance :Inhabited Amd:=⟨⟨[],0,false⟩⟩
def amC (a:Amd):List D:=[.row default dmC a.terms,.sc (.int .i64 a.sum),.sc (.bool a.pend)]
abbrev amG (a:Amd):G:= .agg [rowD a.terms,iG a.sum,bG a.pend]
structure Sta where
 firms:Int
 c:Crd
 terms:List Dm
 drawn:Int
 paid:Int
 left:Int
 moved:Int
 amended:List Int
 second:Int
 amds:List Amd
 conf:Bool
 rest:Int
 day:Int
abbrev staB (i j:Nat) (s:Sta):Blk:= .box [iG s.firms,iG s.c.app,iG s.c.iss,iG s.c.conf,iG s.c.ben,iG s.c.cur,iG s.c.sum,iG s.c.exp,iG s.c.city,bG s.c.part,bG s.c.trans,iG s.c.rev,rowD s.c.terms,rowD s.terms,iG s.drawn,iG s.paid,iG s.left,iG s.moved,.sl j 1 0 s.amended.length,iG s.second,.sl i 3 0 s.amds.length,bG s.conf,iG s.rest,iG s.day]
abbrev amdB (s:Sta):Blk:= .row 194 3 default amC s.amds 0
abbrev amnB (s:Sta):Blk:= .row 3 1 (default:Int) inC s.amended 0
structure Fits (k:Nat) (s:Sta):Prop where
 few:k≤1000
 left: -((k+1)*8796093022208)≤s.left∧s.left≤(k+1)*8796093022208
 moved: -((k+1)*8796093022208)≤s.moved∧s.moved≤(k+1)*8796093022208
 drawn: -((k+1)*8796093022208)≤s.drawn∧s.drawn≤(k+1)*8796093022208
 paid: -((k+1)*8796093022208)≤s.paid∧s.paid≤(k+1)*8796093022208
 amds:s.amds.length≤8
 amd:∀a,a∈s.amds→(0≤a.sum∧a.sum≤1099511627776)∧a.terms.length≤30∧∀d,d∈a.terms→FewD d
 terms:s.terms.length≤30∧∀d,d∈s.terms→FewD d
 amended:s.amended.length≤k
 sum:1≤s.c.sum∧s.c.sum≤1099511627776
 rest: -10≤s.rest∧s.rest≤10
theorem Fits.at_ {k:Nat} {s:Sta} (h:Fits k s) {i:Nat} (hi:i<s.amds.length):(0≤(s.amds.getD i default).sum∧(s.amds.getD i default).sum≤1099511627776)∧(s.amds.getD i default).terms.length≤30∧∀d,d∈(s.amds.getD i default).terms→FewD d:=h.amd _ (getD_mem hi)
def inB (n lim:Int):Bool:=bif decide (0≤n)then decide (n<lim)else false
theorem inB_iff {n lim:Int} :inB n lim=true↔0≤n∧n<lim:=by simp[inB,Bool.cond_false_right]
def fitsB (s:Sta) (sum amount:Int):Bool:=bif decide (sum=amount)then true else bif s.c.part then decide (sum<amount)else false
def takeS (s:Sta) (no:Int):Sta:= {s with terms:=(s.amds.getD no.toNat default).terms,left:=s.left+(s.amds.getD no.toNat default).sum,amended:=s.amended++ [no],amds:=s.amds.set no.toNat {s.amds.getD no.toNat default with pend:=false} }
theorem putD_am {l:List Amd} {i:Nat} (hi:i<l.length):putD (rowL amC l) i 2 [.sc (.bool false)]=rowL amC (l.set i {l.getD i default with pend:=false}):=by
 have e:(rowL amC l).getD i []=amC (l.getD i default):=by
  simp[rowL,List.getD_eq_getElem?_getD,List.getElem?_eq_getElem hi]
 rw[putD,e]
 simp only[rowL,List.map_set]
 rfl
def pendE (s:Sta) (t:Trn):Int:=if t.by_=s.c.ben then if 0≤t.no∧t.no<s.amds.length∧(s.amds.getD t.no.toNat default).pend=true then 0 else 4 else 18
theorem cin_ok (n lim:Int):GC Tryz.prog 43 [iG n,iG lim] (bG (inB n lim)):=by
 refine gc_of_gk Tryz.func43 ?_
 refine gk_region env false [] [0,1,4] ?_
 refine gk_region env false [] [4] ?_
 refine gk_ret env ?_
 rfl
theorem written_ok (l:List Dm) (hl:l.length≤30) (hf:∀d,d∈l→FewD d):GC Tryz.prog 44 [rowD l] (bG (printOk l)):=by
 refine gc_of_gk Tryz.func44 ?_
 refine gk_region env false [] [0,2] ?_
 refine gk_region env false [.call (print_ok l (by omega) hf)] [2,4] ?_
 refine gk_region env false [] [2] ?_
 refine gk_ret env ?_
 rfl
theorem cloneD_ok (l:List Dm) (hl:l.length≤1000):GC Tryz.prog 53 [rowD l] (rowD l):=by
 refine gc_of_gk Tryz.func53 ?_
 refine gk_region env false [] [0,2] ?_
 refine gk_isnil env (fun q hq=> ?_)
 refine gk_if (fun c1=> ?_) (fun c1=> ?_)
 ·try simp only[bb,toN]at c1
  refine gk_region env false [] [0,2] ?_
  refine gk_retE env ?_
  rw[hq c1];exact Ent.nil
 ·try simp only[bb,toN]at c1
  refine gk_region env false [.el default dmC [],.el default dmC l] [2] ?_ (hp:=(by simp only[AllP,Int.toNat_natCast];repeat' first|exact trivial|exact EntL.refl _|exact BEntL.refl _|exact rfl|omega|apply And.intro|intro _|(simp[rowL];done)|(simp only[List.length_append,List.length_cons,List.length_nil];omega)|(simp[*];done)))
  refine gk_ret env ?_
  rfl
theorem fits_ok (s:Sta) (a b:Int):GM Tryz.prog 121 [.ptr 0 0 0 0,iG a,iG b] [staB 1 2 s,amdB s,amnB s] (bG (fitsB s a b)) [some (staB 1 2 s),some (amdB s),some (amnB s)]:=by
 refine gm_of_gk Tryz.func121 ?_
 refine gk_region env false [] [0,1,2,6] ?_
 refine gk_region env false [] [6] ?_
 refine gk_retM env [bG (fitsB s a b)] (hp:= ?_)
 simp[AllP,fitsB]
theorem pending_ok (s:Sta) (hs:s.amds.length≤8) (t:Trn):GM Tryz.prog 126 [.ptr 0 0 0 0,trnG t] [staB 1 2 s,amdB s,amnB s] (iG (pendE s t)) [some (staB 1 2 s),some (amdB s),some (amnB s)]:=by
 refine gm_of_gk Tryz.func126 ?_
 refine gk_region env false [] [0,3,4] ?_
 refine gk_box 3 ?_
 refine gk_region env false [] [0,3,4,12] ?_
 refine gk_ifn (fun c1=> ?_) (fun c1=> ?_)
 ·try simp only[toN]at c1
  refine gk_region env false [] [0,3,4] ?_
  refine gk_retM env [iG (pendE s t)] (hp:= ?_)
  simp[AllP,pendE,c1]
 ·try simp only[toN]at c1
  refine gk_region env false [.call (cin_ok t.no s.amds.length)] [4,33] ?_ (hp:=(by simp only[AllP,bb,toN,inB_iff];repeat' first|exact trivial|exact EntL.refl _|exact BEntL.refl _|exact rfl|omega|apply And.intro|intro _))
  refine gk_if (fun c2=> ?_) (fun c2=> ?_)
  ·try simp only[bb,toN]at c2
   refine gk_region env false [] [4] ?_
   refine gk_retM env [iG (pendE s t)] (hp:= ?_)
   have h:¬(0≤t.no∧t.no<(s.amds.length:Int)∧(s.amds.getD t.no.toNat default).pend=true):=fun ⟨h1,h2,h3⟩=>by
    rw[Nat.zero_add]at c2
    rcases c2 with c2|c2
    ·rw[inB_iff.2 ⟨h1,h2⟩]at c2;cases c2
    ·rw[h3]at c2;cases c2
   rw[pendE,if_pos c1,if_neg h];simp[AllP]
  ·try simp only[bb,toN]at c2
   refine gk_region env false [] [4] ?_
   refine gk_retM env [iG (pendE s t)] (hp:= ?_)
   rw[Nat.zero_add,inB_iff]at c2
   rw[pendE,if_pos c1,if_pos ⟨c2.1.1,c2.1.2,c2.2⟩];simp[AllP]
theorem take_ok (k:Nat) (s:Sta) (hs:Fits k s) (no:Int) (h0:0≤no) (h1:no<s.amds.length):GM Tryz.prog 125 [.ptr 0 0 0 0,iG no] [staB 1 2 s,amdB s,amnB s] (.tup []) [some (staB 3 4 (takeS s no)),none,none,some (amdB (takeS s no)),some (amnB (takeS s no))]:=by
 have hal:=hs.amds
 have ham:=hs.at_ (i:=no.toNat) (by omega)
 have hll:=hs.left
 have hkk:=hs.few
 have hln:=hs.amended
 obtain ⟨A,hA,hA1,hA2⟩:∃A,A=s.amds.set no.toNat {s.amds.getD no.toNat default with pend:=false} ∧A.length=s.amds.length∧A.getD (0+no.toNat) default= {s.amds.getD no.toNat default with pend:=false} :=⟨_,rfl,by simp,by rw[Nat.zero_add,List.getD_eq_getElem?_getD,List.getElem?_set_self (by omega)];rfl⟩
 refine gm_of_gk Tryz.func125 ?_
 refine gk_region env false [] [0,1,4] ?_
 refine gk_region env false [.el default amC A] [0,1,4] ?_ (hp:=(by simp only[AllP,bb,toN];exact ⟨by omega,by omega,by decide,by rw[hA,Nat.zero_add];exact (putD_am (by omega)).symm⟩))
 refine gk_region env false [] [0,1,4] ?_ (hp:=(by simp only[AllP,bb,toN,hA1,hA2];repeat' first|exact trivial|exact EntL.refl _|exact BEntL.refl _|exact rfl|omega|apply And.intro|intro _))
 refine gk_region env false [] [0,1] ?_ (hp:=(by simp only[AllP,bb,toN,hA1,hA2];repeat' first|exact trivial|exact EntL.refl _|exact BEntL.refl _|exact rfl|omega|apply And.intro|intro _))
 refine gk_region env false [.el default inC [no],.el default inC (s.amended++ [no])] [] ?_ (hp:=(by simp only[AllP,Int.toNat_natCast];repeat' first|exact trivial|exact EntL.refl _|exact BEntL.refl _|exact rfl|omega|apply And.intro|intro _|(simp[rowL];done)|(simp only[List.length_append,List.length_cons,List.length_nil];omega)|(simp[*];done)))
 refine gk_endX env [] (hp:= ?_)
 simp only[AllP,hA2]
 repeat' first|exact rfl|apply And.intro|(simp[takeS,hA];done)
theorem pendE_0 {s:Sta} {t:Trn} (h:pendE s t=0):t.by_=s.c.ben∧0≤t.no∧t.no<s.amds.length∧(s.amds.getD t.no.toNat default).pend=true:=by
 unfold pendE at h
 split at h
 ·rename_i h1
  split at h
  ·rename_i h2;exact ⟨h1,h2⟩
  ·omega
 ·omega
def acceptS (s:Sta) (t:Trn):Sta×Int:=if pendE s t=0 then if s.c.exp<t.day then (s,16)else (takeS s t.no,0)else (s,pendE s t)
def dropS (s:Sta) (no:Int):Sta:= {s with amds:=s.amds.set no.toNat {s.amds.getD no.toNat default with pend:=false} }
def rejectS (s:Sta) (t:Trn):Sta×Int:=if pendE s t=0 then (dropS s t.no,0)else (s,pendE s t)
def confirmS (s:Sta) (t:Trn):Sta×Int:=if t.by_=s.c.conf then if s.conf=true then (s,5)else ({s with conf:=true},0)else (s,18)
def amendS (s:Sta) (t:Trn):Sta×Int:=if t.by_=s.c.iss then if printOk t.terms=true then if t.sum<0∨1099511627776<t.sum then (s,3)else if s.amds.length=8 then (s,6)else ({s with amds:=s.amds++ [⟨t.terms,t.sum,true⟩]},0)else (s,2)else (s,18)
def transS (s:Sta) (t:Trn):Sta:= {s with second:=t.to_,moved:=t.sum,left:=s.left-t.sum}
def transferS (s:Sta) (t:Trn):Sta×Int:=if t.by_=s.c.ben∧s.c.trans=true then if s.second= -1 then if inB t.to_ s.firms=true∧t.to_≠s.c.ben then if s.c.exp<t.day then (s,16)else if t.sum<1∨s.left<t.sum then (s,3)else (transS s t,0)else (s,1)else (s,5)else (s,18)
def paidS (s:Sta) (x:Int):Sta:=if s.left=0∧s.moved=0∧s.paid+x=s.drawn∧0<s.rest then {s with paid:=s.paid+x,rest:=s.rest-1,left:=s.c.sum} else {s with paid:=s.paid+x}
def payS (s:Sta) (t:Trn):Sta×Int:=if t.by_=s.c.iss∨(s.conf=true∧t.by_=s.c.conf)then if t.sum<1∨s.drawn-s.paid<t.sum then (s,3)else (paidS s t.sum,0)else (s,18)
theorem accept_st (k:Nat) (s:Sta) (hs:Fits k s) (t:Trn):GM Tryz.prog 88 [.ptr 0 0 0 0,trnG t] [staB 1 2 s,amdB s,amnB s] (iG (acceptS s t).2) [some (staB 3 4 (acceptS s t).1),none,none,some (amdB (acceptS s t).1),some (amnB (acceptS s t).1)]:=by
 refine gm_of_gk Tryz.func88 ?_
 refine gk_region env false [] [0,3,4] ?_
 refine gk_box 3 ?_
 refine gk_region env false [.callm [0,1,2] (pending_ok s hs.amds t)] [0,3,4,5] ?_
 refine gk_region env false [] [0,3,4,5,10] ?_
 refine gk_ifn (fun c1=> ?_) (fun c1=> ?_)
 ·try simp only[toN]at c1
  refine gk_region env false [] [0,3,4] ?_
  refine gk_retX env [iG (acceptS s t).2] (hp:= ?_)
  have e:acceptS s t=(s,pendE s t):=by rw[acceptS,if_neg c1]
  simp only[AllP,e]
  repeat' first|exact trivial|exact rfl|apply And.intro|(simp;done)
 ·try simp only[toN]at c1
  refine gk_region env false [] [0,3,4,19] ?_
  refine gk_ifd (fun c2=> ?_) (fun c2=> ?_)
  ·try simp only[toN]at c2
   refine gk_region env false [] [0,3,4] ?_
   refine gk_retX env [iG (acceptS s t).2] (hp:= ?_)
   have e:acceptS s t=(s,16):=by rw[acceptS,if_pos c1,if_pos c2]
   simp only[AllP,e]
   repeat' first|exact trivial|exact rfl|apply And.intro|(simp;done)
  ·try simp only[toN]at c2
   have hp:=pendE_0 c1
   refine gk_region env false [.callm [0,1,2] (take_ok k s hs t.no hp.2.1 hp.2.2.1)] [4] ?_
   refine gk_region env false [] [4] ?_
   refine gk_retX env [iG (acceptS s t).2] (hp:= ?_)
   have e:acceptS s t=(takeS s t.no,0):=by rw[acceptS,if_pos c1,if_neg c2]
   simp only[AllP,e]
   repeat' first|exact trivial|exact rfl|apply And.intro|(simp;done)
theorem reject_st (k:Nat) (s:Sta) (hs:Fits k s) (t:Trn):GM Tryz.prog 89 [.ptr 0 0 0 0,trnG t] [staB 1 2 s,amdB s,amnB s] (iG (rejectS s t).2) [some (staB 3 4 (rejectS s t).1),none,none,some (amdB (rejectS s t).1),some (amnB (rejectS s t).1)]:=by
 have hal:=hs.amds
 refine gm_of_gk Tryz.func89 ?_
 refine gk_region env false [] [0,3,4] ?_
 refine gk_box 3 ?_
 refine gk_region env false [.callm [0,1,2] (pending_ok s hs.amds t)] [0,3,4,5] ?_
 refine gk_region env false [] [0,3,4,5,10] ?_
 refine gk_ifn (fun c1=> ?_) (fun c1=> ?_)
 ·try simp only[toN]at c1
  refine gk_region env false [] [0,3,4] ?_
  refine gk_retX env [iG (rejectS s t).2] (hp:= ?_)
  have e:rejectS s t=(s,pendE s t):=by rw[rejectS,if_neg c1]
  simp only[AllP,e]
  repeat' first|exact trivial|exact rfl|apply And.intro|(simp;done)
 ·try simp only[toN]at c1
  have hp:=pendE_0 c1
  refine gk_region env false [.el default amC (s.amds.set t.no.toNat {s.amds.getD t.no.toNat default with pend:=false})] [4] ?_ (hp:=(by simp only[AllP,bb,toN];repeat' first|omega|exact trivial|decide|(rw[Nat.zero_add];exact (putD_am (by omega)).symm)|apply And.intro))
  refine gk_region env false [] [4] ?_
  refine gk_retX env [iG (rejectS s t).2] (hp:= ?_)
  have e:rejectS s t=(dropS s t.no,0):=by rw[rejectS,if_pos c1]
  simp only[AllP,e]
  repeat' first|exact trivial|exact rfl|apply And.intro|(simp[dropS];done)
theorem confirm_st (k:Nat) (s:Sta) (hs:Fits k s) (t:Trn):GM Tryz.prog 91 [.ptr 0 0 0 0,trnG t] [staB 1 2 s,amdB s,amnB s] (iG (confirmS s t).2) [some (staB 3 4 (confirmS s t).1),none,none,some (amdB (confirmS s t).1),some (amnB (confirmS s t).1)]:=by
 refine gm_of_gk Tryz.func91 ?_
 refine gk_region env false [] [0,3,4] ?_
 refine gk_box 3 ?_
 refine gk_region env false [] [0,4,5] ?_
 refine gk_ifn (fun c1=> ?_) (fun c1=> ?_)
 ·try simp only[toN]at c1
  refine gk_region env false [] [0,4] ?_
  refine gk_retX env [iG (confirmS s t).2] (hp:= ?_)
  have e:confirmS s t=(s,18):=by rw[confirmS,if_neg c1]
  simp only[AllP,e]
  repeat' first|exact trivial|exact rfl|apply And.intro|(simp;done)
 ·try simp only[toN]at c1
  refine gk_region env false [] [0,4,14] ?_
  refine gk_if (fun c2=> ?_) (fun c2=> ?_)
  ·try simp only[bb,toN]at c2
   refine gk_region env false [] [0,4] ?_
   refine gk_retX env [iG (confirmS s t).2] (hp:= ?_)
   have e:confirmS s t=(s,5):=by rw[confirmS,if_pos c1,if_pos c2]
   simp only[AllP,e]
   repeat' first|exact trivial|exact rfl|apply And.intro|(simp;done)
  ·try simp only[bb,toN]at c2
   refine gk_region env false [] [4] ?_
   refine gk_region env false [] [4] ?_
   refine gk_retX env [iG (confirmS s t).2] (hp:= ?_)
   have e:confirmS s t=({s with conf:=true},0):=by rw[confirmS,if_pos c1,if_neg (by rw[c2];simp)]
   simp only[AllP,e]
   repeat' first|exact trivial|exact rfl|apply And.intro|(simp;done)
theorem transfer_st (k:Nat) (s:Sta) (hs:Fits k s) (t:Trn):GM Tryz.prog 90 [.ptr 0 0 0 0,trnG t] [staB 1 2 s,amdB s,amnB s] (iG (transferS s t).2) [some (staB 3 4 (transferS s t).1),none,none,some (amdB (transferS s t).1),some (amnB (transferS s t).1)]:=by
 have h1:=hs.left
 have hkk:=hs.few
 refine gm_of_gk Tryz.func90 ?_
 refine gk_region env false [] [0,3,4] ?_
 refine gk_box 3 ?_
 refine gk_region env false [] [0,3,4,5] ?_
 refine gk_if (fun c1=> ?_) (fun c1=> ?_)
 ·try simp only[bb,toN]at c1
  refine gk_region env false [] [0,3,4] ?_
  refine gk_retX env [iG (transferS s t).2] (hp:= ?_)
  have e:transferS s t=(s,18):=by rw[transferS,if_neg (by rcases c1 with c|c<;>simp[c])]
  simp only[AllP,e]
  repeat' first|exact trivial|exact rfl|apply And.intro|(simp;done)
 ·try simp only[bb,toN]at c1
  refine gk_region env false [] [0,3,4,22] ?_
  refine gk_ifn (fun c2=> ?_) (fun c2=> ?_)
  ·try simp only[toN]at c2
   refine gk_region env false [] [0,3,4] ?_
   refine gk_retX env [iG (transferS s t).2] (hp:= ?_)
   have e:transferS s t=(s,5):=by rw[transferS,if_pos c1,if_neg c2]
   simp only[AllP,e]
   repeat' first|exact trivial|exact rfl|apply And.intro|(simp;done)
  ·try simp only[toN]at c2
   refine gk_region env false [.call (cin_ok t.to_ s.firms)] [0,3,4,29] ?_
   refine gk_if (fun c3=> ?_) (fun c3=> ?_)
   ·try simp only[bb,toN]at c3
    refine gk_region env false [] [0,3,4] ?_
    refine gk_retX env [iG (transferS s t).2] (hp:= ?_)
    have e:transferS s t=(s,1):=by rw[transferS,if_pos c1,if_pos c2,if_neg (by rcases c3 with c|c<;>simp[c])]
    simp only[AllP,e]
    repeat' first|exact trivial|exact rfl|apply And.intro|(simp;done)
   ·try simp only[bb,toN]at c3
    refine gk_region env false [] [0,3,4,48] ?_
    refine gk_ifd (fun c4=> ?_) (fun c4=> ?_)
    ·try simp only[toN]at c4
     refine gk_region env false [] [0,3,4] ?_
     refine gk_retX env [iG (transferS s t).2] (hp:= ?_)
     have e:transferS s t=(s,16):=by rw[transferS,if_pos c1,if_pos c2,if_pos c3,if_pos c4]
     simp only[AllP,e]
     repeat' first|exact trivial|exact rfl|apply And.intro|(simp;done)
    ·try simp only[toN]at c4
     refine gk_region env false [] [0,3,4,57] ?_
     refine gk_if (fun c5=> ?_) (fun c5=> ?_)
     ·try simp only[bb,toN]at c5
      refine gk_region env false [] [0,3,4] ?_
      refine gk_retX env [iG (transferS s t).2] (hp:= ?_)
      have e:transferS s t=(s,3):=by rw[transferS,if_pos c1,if_pos c2,if_pos c3,if_neg c4,if_pos c5]
      simp only[AllP,e]
      repeat' first|exact trivial|exact rfl|apply And.intro|(simp;done)
     ·try simp only[bb,toN]at c5
      refine gk_region env false [] [0,3,4] ?_
      have ht:1≤t.sum∧t.sum≤s.left:=by omega
      refine gk_region env false [] [4] ?_
      refine gk_region env false [] [4] ?_
      refine gk_retX env [iG (transferS s t).2] (hp:= ?_)
      have e:transferS s t=(transS s t,0):=by rw[transferS,if_pos c1,if_pos c2,if_pos c3,if_neg c4,if_neg (by omega)]
      simp only[AllP,e]
      repeat' first|exact trivial|exact rfl|apply And.intro|(simp;done)
theorem pay_st (k:Nat) (s:Sta) (hs:Fits k s) (t:Trn):GM Tryz.prog 92 [.ptr 0 0 0 0,trnG t] [staB 1 2 s,amdB s,amnB s] (iG (payS s t).2) [some (staB 3 4 (payS s t).1),none,none,some (amdB (payS s t).1),some (amnB (payS s t).1)]:=by
 have h1:=hs.drawn
 have h2:=hs.paid
 have hkk:=hs.few
 have h3:=hs.rest
 refine gm_of_gk Tryz.func92 ?_
 refine gk_region env false [] [0,3,4] ?_
 refine gk_box 3 ?_
 refine gk_region env false [] [0,3,4,5] ?_
 refine gk_if (fun c1=> ?_) (fun c1=> ?_)
 ·try simp only[bb,toN]at c1
  refine gk_region env false [] [0,3,4] ?_
  refine gk_retX env [iG (payS s t).2] (hp:= ?_)
  have e:payS s t=(s,18):=by rw[payS,if_neg (by rintro (h|⟨h1,h2⟩);exact c1.1 h;rcases c1.2 with h|h;rw[h]at h1;cases h1;exact h h2)]
  simp only[AllP,e]
  repeat' first|exact trivial|exact rfl|apply And.intro|(simp;done)
 ·try simp only[bb,toN]at c1
  refine gk_region env false [] [0,3,4,31] ?_
  refine gk_if (fun c2=> ?_) (fun c2=> ?_)
  ·try simp only[bb,toN]at c2
   refine gk_region env false [] [0,3,4] ?_
   refine gk_retX env [iG (payS s t).2] (hp:= ?_)
   have e:payS s t=(s,3):=by rw[payS,if_pos c1,if_pos c2]
   simp only[AllP,e]
   repeat' first|exact trivial|exact rfl|apply And.intro|(simp;done)
  ·try simp only[bb,toN]at c2
   refine gk_region env false [] [0,4] ?_
   refine gk_region env false [] [0,4,95] ?_
   refine gk_if (fun c3=> ?_) (fun c3=> ?_)
   ·try simp only[bb,toN]at c3
    refine gk_region env false [] [0,4] ?_
    refine gk_region env false [] [4] ?_
    refine gk_region env false [] [4] ?_
    refine gk_retX env [iG (payS s t).2] (hp:= ?_)
    have e:payS s t=({s with paid:=s.paid+t.sum,rest:=s.rest-1,left:=s.c.sum},0):=by rw[payS,if_pos c1,if_neg (by omega),paidS,if_pos ⟨c3.1.1.1,c3.1.1.2,c3.1.2,c3.2⟩]
    simp only[AllP,e]
    repeat' first|exact trivial|exact rfl|apply And.intro|(simp;done)
   ·try simp only[bb,toN]at c3
    refine gk_region env false [] [4] ?_
    refine gk_retX env [iG (payS s t).2] (hp:= ?_)
    have e:payS s t=({s with paid:=s.paid+t.sum},0):=by rw[payS,if_pos c1,if_neg (by omega),paidS,if_neg (by omega)]
    simp only[AllP,e]
    repeat' first|exact trivial|exact rfl|apply And.intro|(simp;done)
theorem amend_st (k:Nat) (s:Sta) (hs:Fits k s) (t:Trn) (ht:t.terms.length≤30) (htf:∀d,d∈t.terms→FewD d):GM Tryz.prog 87 [.ptr 0 0 0 0,trnG t] [staB 1 2 s,amdB s,amnB s] (iG (amendS s t).2) [some (staB 3 4 (amendS s t).1),none,none,some (amdB (amendS s t).1),some (amnB (amendS s t).1)]:=by
 have hal:=hs.amds
 refine gm_of_gk Tryz.func87 ?_
 refine gk_region env false [] [0,3,4] ?_
 refine gk_box 3 ?_
 refine gk_region env false [] [0,3,4,5] ?_
 refine gk_ifn (fun c1=> ?_) (fun c1=> ?_)
 ·try simp only[toN]at c1
  refine gk_region env false [] [0,3,4] ?_
  refine gk_retX env [iG (amendS s t).2] (hp:= ?_)
  have e:amendS s t=(s,18):=by rw[amendS,if_neg c1]
  simp only[AllP,e]
  repeat' first|exact trivial|exact rfl|apply And.intro|(simp;done)
 ·try simp only[toN]at c1
  refine gk_region env false [.call (written_ok t.terms ht htf)] [0,3,4,14] ?_
  refine gk_if (fun c2=> ?_) (fun c2=> ?_)
  ·try simp only[bb,toN]at c2
   refine gk_region env false [] [0,3,4] ?_
   refine gk_retX env [iG (amendS s t).2] (hp:= ?_)
   have e:amendS s t=(s,2):=by rw[amendS,if_pos c1,if_neg (by rw[c2];simp)]
   simp only[AllP,e]
   repeat' first|exact trivial|exact rfl|apply And.intro|(simp;done)
  ·try simp only[bb,toN]at c2
   refine gk_region env false [] [0,3,4,19] ?_
   refine gk_if (fun c3=> ?_) (fun c3=> ?_)
   ·try simp only[bb,toN]at c3
    refine gk_region env false [] [0,3,4] ?_
    refine gk_retX env [iG (amendS s t).2] (hp:= ?_)
    have e:amendS s t=(s,3):=by rw[amendS,if_pos c1,if_pos c2,if_pos c3]
    simp only[AllP,e]
    repeat' first|exact trivial|exact rfl|apply And.intro|(simp;done)
   ·try simp only[bb,toN]at c3
    refine gk_region env false [] [0,3,4,28] ?_
    refine gk_ifd (fun c4=> ?_) (fun c4=> ?_)
    ·try simp only[toN]at c4
     refine gk_region env false [] [0,3,4] ?_
     refine gk_retX env [iG (amendS s t).2] (hp:= ?_)
     have e:amendS s t=(s,6):=by rw[amendS,if_pos c1,if_pos c2,if_neg (by omega),if_pos (by omega)]
     simp only[AllP,e]
     repeat' first|exact trivial|exact rfl|apply And.intro|(simp;done)
    ·try simp only[toN]at c4
     refine gk_region env false [.call (cloneD_ok t.terms (by omega)),.el default amC [⟨t.terms,t.sum,true⟩],.el default amC (s.amds++ [⟨t.terms,t.sum,true⟩])] [4] ?_ (hp:=(by simp only[AllP,Int.toNat_natCast];repeat' first|exact trivial|exact EntL.refl _|exact BEntL.refl _|exact rfl|omega|apply And.intro|intro _|(simp[rowL];done)|(simp only[List.length_append,List.length_cons,List.length_nil];omega)|(simp[*];done)))
     refine gk_region env false [] [4] ?_
     refine gk_retX env [iG (amendS s t).2] (hp:= ?_)
     have e:amendS s t=({s with amds:=s.amds++ [⟨t.terms,t.sum,true⟩]},0):=by rw[amendS,if_pos c1,if_pos c2,if_neg (by omega),if_neg (by omega)]
     simp only[AllP,e]
     repeat' first|exact trivial|exact rfl|apply And.intro|(simp;done)
def candB (s:Sta) (t:Trn) (a:Amd):Bool:=bif a.pend then (bif fitsB s t.sum (s.left+a.sum)then confV a.terms t.docs else false)else false
def amtS (s:Sta) (t:Trn):Int:=if t.by_=s.c.ben then s.left else s.moved
def subS (s:Sta) (t:Trn) (first:Prop) [Decidable first]:Sta:=if first then {s with left:=s.left-t.sum,drawn:=s.drawn+t.sum} else {s with moved:=s.moved-t.sum,drawn:=s.drawn+t.sum}
def noS (s:Sta) (t:Trn):Int:=findI (candB s t) s.amds 0
def drawS (s:Sta) (t:Trn):Sta×Int:=
 if ¬t.by_=s.c.ben∧(s.second= -1∨¬t.by_=s.second)then (s,18)else if s.c.exp<t.day then (s,16)else if t.sum<1∨1099511627776<t.sum then (s,3)
 else if fitsB s t.sum (amtS s t)=true∧confV s.terms t.docs=true then (subS s t (t.by_=s.c.ben),0)
 else if ¬t.by_=s.c.ben∨noS s t<0 then (s,19)else (subS (takeS s (noS s t)) t (t.by_=s.c.ben),0)
theorem draw1_ok (k:Nat) (s:Sta) (hs:Fits k s) (t:Trn) (hd:FitL t.docs) (ats:List Dm) (asm:Int) (ap:Bool) (ha:(0≤asm∧asm≤1099511627776)∧ats.length≤30∧∀d,d∈ats→FewD d):GM Tryz.prog 124 [amG ⟨ats,asm,ap⟩,.ptr 3 0 0 0,.ep (trnC t)] [staB 1 2 s,amdB s,amnB s,.box [.ptr 0 0 0 0]] (bG (candB s t ⟨ats,asm,ap⟩)) [some (staB 1 2 s),some (amdB s),some (amnB s),some (.box [.ptr 0 0 0 0])]:=by
 have h1:=hs.left
 have hkk:=hs.few
 refine gm_of_gk Tryz.func124 ?_
 refine gk_region env false [] [1,2,3,4] ?_
 cases ap
 ·refine gk_box 4 ?_
  refine gk_region env false [.no,.no] [4] ?_ (hp:=(by simp only[AllP,bb,toN];repeat' first|exact trivial|exact EntL.refl _|exact BEntL.refl _|exact rfl|omega|apply And.intro|intro _|exact Or.inl trivial))
  refine gk_retM env [bG _] (hp:= ?_)
  simp only[AllP]
  repeat' first|exact trivial|exact rfl|apply And.intro|(simp[candB];done)
 ·refine gk_box 4 ?_
  refine gk_region env false [.callm [0,1,2] (fits_ok s t.sum (s.left+asm)),.call (conform_ok ats ha.2.1 ha.2.2 t.docs hd)] [4] ?_
  refine gk_retM env [bG _] (hp:= ?_)
  simp only[AllP]
  repeat' first|exact trivial|exact rfl|apply And.intro|(simp[candB];done)
theorem indexD_ok (k:Nat) (s:Sta) (hs:Fits k s) (t:Trn) (hd:FitL t.docs):GM Tryz.prog 123 [.sl 1 3 0 s.amds.length,.fn (.func 124) [] [.ptr 3 0 0 0,.ep (trnC t)]] [staB 1 2 s,amdB s,amnB s,.box [.ptr 0 0 0 0]] (iG (noS s t)) [some (staB 1 2 s),some (amdB s),some (amnB s),some (.box [.ptr 0 0 0 0])]:=by
 have hal:=hs.amds
 refine gm_of_gk Tryz.func123 ?_
 refine gk_region env false [] [0,1,4] ?_
 refine gk_region env false [] [0,1,4,7,8] ?_
 refine gk_loop (α:=Nat) (fun i=>i≤s.amds.length∧noS s t=findI (candB s t) s.amds i) (fun i=>[(8,iG i)]) (fun _=>[]) (fun i=>s.amds.length-i) 0 ⟨by omega,rfl⟩ ?_ (hp:=by simp[AllP];rfl)
 rintro i ⟨hi,he⟩
 refine gk_region env false [] [0,1,4,7,8,9] ?_
 refine gk_ifd (fun c1=> ?_) (fun c1=> ?_)
 ·try simp only[toN]at c1
  refine gk_region env false [] [0,1,4,5,7,8] ?_
  refine gk_region env false [.callm [0,1,2,3] (draw1_ok k s hs t hd (s.amds.getD (0+i) default).terms (s.amds.getD (0+i) default).sum (s.amds.getD (0+i) default).pend (hs.at_ (by omega)))] [0,1,4,5,7,8,16] ?_
  refine gk_if (fun c2=> ?_) (fun c2=> ?_)
  ·try simp only[bb,toN]at c2
   refine gk_region env false [] [0,1,4,7,8] ?_
   refine gk_retM env [iG (noS s t)] (hp:= ?_)
   rw[Nat.zero_add]at c2
   simp only[AllP]
   rw[he,findI,if_pos (by omega),if_pos (show candB s t (s.amds.getD i default)=true from c2)]
   simp
  ·try simp only[bb,toN]at c2
   refine gk_region env false [] [0,1,4,7,8] ?_
   refine gk_round (i+1) ?_ (hp:=by simp[AllP];rfl)
   rw[Nat.zero_add]at c2
   refine ⟨by omega,he.trans ?_⟩
   rw[findI,if_pos (by omega),if_neg (by rw[show candB s t (s.amds.getD i default)=false from c2];simp)]
 ·try simp only[toN]at c1
  refine gk_region env false [] [4] ?_
  refine gk_retM env [iG (noS s t)] (hp:= ?_)
  simp only[AllP]
  rw[he,findI,if_neg (by omega)]
  simp
theorem noS_at {s:Sta} {t:Trn} (h:¬noS s t<0):0≤noS s t∧noS s t<s.amds.length∧candB s t (s.amds.getD (noS s t).toNat default)=true:=by
 rcases findI_range (candB s t) s.amds _ 0 rfl with ⟨h1,_⟩|⟨j,h1,h2,h3,h4,_⟩
 ·unfold noS at h;omega
 ·unfold noS
  rw[h3]
  exact ⟨by omega,by omega,by simpa using h4⟩
theorem draw_st (k:Nat) (s:Sta) (hs:Fits k s) (t:Trn) (hd:FitL t.docs):GM Tryz.prog 86 [.ptr 0 0 0 0,trnG t] [staB 1 2 s,amdB s,amnB s] (iG (drawS s t).2) [some (staB 3 4 (drawS s t).1),none,none,some (amdB (drawS s t).1),some (amnB (drawS s t).1)]:=by
 have h1:=hs.left
 have hkk:=hs.few
 have h2:=hs.moved
 have h3:=hs.drawn
 refine gm_of_gk Tryz.func86 ?_
 refine gk_region env false [] [2,3,4] ?_
 refine gk_box 4 ?_
 refine gk_region env false [] [2,3,4,5] ?_
 refine gk_region env false [] [2,3,4,5,16] ?_
 refine gk_if (fun c1=> ?_) (fun c1=> ?_)
 ·try simp only[bb,toN]at c1
  refine gk_region env false [] [2,3,4,5] ?_
  refine gk_retX env [iG (drawS s t).2] (hp:= ?_)
  have e:drawS s t=(s,18):=by rw[drawS,if_pos c1]
  simp only[AllP,e]
  repeat' first|exact trivial|exact rfl|apply And.intro|(simp[subS,c4];done)
 ·try simp only[bb,toN]at c1
  refine gk_region env false [] [2,3,4,5,37] ?_
  refine gk_ifd (fun c2=> ?_) (fun c2=> ?_)
  ·try simp only[toN]at c2
   refine gk_region env false [] [2,3,4,5] ?_
   refine gk_retX env [iG (drawS s t).2] (hp:= ?_)
   have e:drawS s t=(s,16):=by rw[drawS,if_neg (by omega),if_pos c2]
   simp only[AllP,e]
   repeat' first|exact trivial|exact rfl|apply And.intro|(simp[subS,c4];done)
  ·try simp only[toN]at c2
   refine gk_region env false [] [2,3,4,5,46] ?_
   refine gk_if (fun c3=> ?_) (fun c3=> ?_)
   ·try simp only[bb,toN]at c3
    refine gk_region env false [] [2,3,4,5] ?_
    refine gk_retX env [iG (drawS s t).2] (hp:= ?_)
    have e:drawS s t=(s,3):=by rw[drawS,if_neg (by omega),if_neg c2,if_pos c3]
    simp only[AllP,e]
    repeat' first|exact trivial|exact rfl|apply And.intro|(simp[subS,c4];done)
   ·try simp only[bb,toN]at c3
    refine gk_region env false [] [2,3,4,5,6] ?_
    refine gk_region env false [] [2,3,4,5,6,60] ?_
    refine gk_if (fun c4=> ?_) (fun c4=> ?_)
    ·try simp only[bb,toN]at c4
     refine gk_region env false [] [2,3,4,5,6] ?_
     refine gk_region env false [.callm [0,1,2] (fits_ok s t.sum s.moved),.call (conform_ok s.terms hs.terms.1 hs.terms.2 t.docs hd)] [2,3,4,5,6,82] ?_
     refine gk_if (fun c5=> ?_) (fun c5=> ?_)
     ·try simp only[bb,toN]at c5
      refine gk_region env false [.callm [0,1,2,3] (indexD_ok k s hs t hd)] [2,3,4,5,6,7] ?_
      refine gk_region env false [] [2,3,4,6,7,94] ?_
      refine gk_if (fun c6=> ?_) (fun c6=> ?_)
      ·try simp only[bb,toN]at c6
       refine gk_region env false [] [2,3,4,6,7] ?_
       refine gk_retX env [iG (drawS s t).2] (hp:= ?_)
       have e:drawS s t=(s,19):=by rw[drawS,if_neg (by omega),if_neg c2,if_neg (by omega),if_neg (by rw[show amtS s t=s.moved from if_neg c4];rcases c5 with h|h<;>simp[h]),if_pos (.inl c4)]
       simp only[AllP,e]
       repeat' first|exact trivial|exact rfl|apply And.intro|(simp[subS,c4];done)
      ·try simp only[bb,toN]at c6
       exact absurd c6.1 c4
     ·try simp only[bb,toN]at c5
      refine gk_region env false [] [2,3,4] ?_
      refine gk_region env false [] [4] ?_
      refine gk_region env false [] [4] ?_
      refine gk_retX env [iG (drawS s t).2] (hp:= ?_)
      have e:drawS s t=(subS s t (t.by_=s.c.ben),0):=by rw[drawS,if_neg (by omega),if_neg c2,if_neg (by omega),if_pos (by rw[show amtS s t=s.moved from if_neg c4];exact c5)]
      simp only[AllP,e]
      repeat' first|exact trivial|exact rfl|apply And.intro|(simp[subS,c4];done)
    ·try simp only[bb,toN]at c4
     refine gk_region env false [.callm [0,1,2] (fits_ok s t.sum s.left),.call (conform_ok s.terms hs.terms.1 hs.terms.2 t.docs hd)] [2,3,4,5,6,82] ?_
     refine gk_if (fun c7=> ?_) (fun c7=> ?_)
     ·try simp only[bb,toN]at c7
      refine gk_region env false [.callm [0,1,2,3] (indexD_ok k s hs t hd)] [2,3,4,5,6,7] ?_
      refine gk_region env false [] [2,3,4,6,7,94] ?_
      refine gk_if (fun c8=> ?_) (fun c8=> ?_)
      ·try simp only[bb,toN]at c8
       refine gk_region env false [] [2,3,4,6,7] ?_
       refine gk_retX env [iG (drawS s t).2] (hp:= ?_)
       have e:drawS s t=(s,19):=by rw[drawS,if_neg (by omega),if_neg c2,if_neg (by omega),if_neg (by rw[show amtS s t=s.left from if_pos c4];rcases c7 with h|h<;>simp[h]),if_pos c8]
       simp only[AllP,e]
       repeat' first|exact trivial|exact rfl|apply And.intro|(simp[subS,c4];done)
      ·try simp only[bb,toN]at c8
       have hno:=noS_at (s:=s) (t:=t) (by omega)
       refine gk_region env false [.callm [0,1,2] (take_ok k s hs (noS s t) hno.1 hno.2.1)] [2,3,4,6] ?_
       have htl:(takeS s (noS s t)).left=s.left+(s.amds.getD (noS s t).toNat default).sum:=rfl
       have htd:(takeS s (noS s t)).drawn=s.drawn:=rfl
       have hat:=(hs.at_ (i:=(noS s t).toNat) (by omega)).1
       refine gk_region env false [] [2,3,4] ?_
       refine gk_region env false [] [4] ?_
       refine gk_region env false [] [4] ?_
       refine gk_retX env [iG (drawS s t).2] (hp:= ?_)
       have e:drawS s t=(subS (takeS s (noS s t)) t (t.by_=s.c.ben),0):=by rw[drawS,if_neg (by omega),if_neg c2,if_neg (by omega),if_neg (by rw[show amtS s t=s.left from if_pos c4];rcases c7 with h|h<;>simp[h]),if_neg (by omega)]
       simp only[AllP,e]
       repeat' first|exact trivial|exact rfl|apply And.intro|(simp[subS,c4];done)
     ·try simp only[bb,toN]at c7
      refine gk_region env false [] [2,3,4] ?_
      refine gk_region env false [] [4] ?_
      refine gk_region env false [] [4] ?_
      refine gk_retX env [iG (drawS s t).2] (hp:= ?_)
      have e:drawS s t=(subS s t (t.by_=s.c.ben),0):=by rw[drawS,if_neg (by omega),if_neg c2,if_neg (by omega),if_pos (by rw[show amtS s t=s.left from if_pos c4];exact c7)]
      simp only[AllP,e]
      repeat' first|exact trivial|exact rfl|apply And.intro|(simp[subS,c4];done)
end Go.Gh
namespace Go.Gh
open Go Go.Proofs
set_option maxRecDepth 1000000
set_option maxHeartbeats 2000000
set_option linter.unusedSimpArgs false
set_option linter.unusedVariables false
set_option linter.unnecessarySimpa false
set_option linter.unusedSectionVars false
variable [PowTab] [ItoaU]
open Go.RowKit
def actS (s:Sta) (t:Trn):Sta×Int:=if t.kind=0 then drawS s t else if t.kind=1 then amendS s t else if t.kind=2 then acceptS s t else if t.kind=3 then rejectS s t else if t.kind=4 then transferS s t else if t.kind=5 then confirmS s t else payS s t
def dayS (s:Sta) (d:Int):Sta:= {s with day:=d}
def turnS (s:Sta) (t:Trn):Sta×Int:=
 if (inB t.kind 7=true∧inB t.day 100001=true)∧inB t.by_ s.firms=true then if t.day<s.day then (s,13)else if (actS s t).2=0 then (dayS (actS s t).1 t.day,0)else actS s t else (s,1)
structure FitT (t:Trn):Prop where
 terms:t.terms.length≤30∧∀d,d∈t.terms→FewD d
 docs:FitL t.docs
theorem turn_st (k:Nat) (s:Sta) (hs:Fits k s) (kd dy by_ to_ sm no:Int) (tms:List Dm) (dcs:List Dc) (ht:FitT ⟨kd,dy,by_,to_,sm,no,tms,dcs⟩):GM Tryz.prog 54 [.ptr 0 0 0 0,trnG ⟨kd,dy,by_,to_,sm,no,tms,dcs⟩] [staB 1 2 s,amdB s,amnB s] (iG (turnS s ⟨kd,dy,by_,to_,sm,no,tms,dcs⟩).2) [some (staB 3 4 (turnS s ⟨kd,dy,by_,to_,sm,no,tms,dcs⟩).1),none,none,some (amdB (turnS s ⟨kd,dy,by_,to_,sm,no,tms,dcs⟩).1),some (amnB (turnS s ⟨kd,dy,by_,to_,sm,no,tms,dcs⟩).1)]:=by
 refine gm_of_gk Tryz.func54 ?_
 refine gk_region env false [] [0,3,4] ?_
 refine gk_region env false [.call (cin_ok kd 7),.call (cin_ok dy 100001),.call (cin_ok by_ s.firms)] [0,3,4,7] ?_
 refine gk_if (fun c1=> ?_) (fun c1=> ?_)
 ·try simp only[bb,toN]at c1
  refine gk_region env false [] [0,3,4] ?_
  refine gk_retX env [iG _] (hp:= ?_)
  have e:turnS s ⟨kd,dy,by_,to_,sm,no,tms,dcs⟩=(s,1):=by rw[turnS,if_neg (by rintro ⟨⟨h1,h2⟩,h3⟩;simp_all)]
  simp only[AllP,e]
  repeat' first|exact trivial|exact rfl|apply And.intro|(first|exact c3|exact c3.symm)|(simp;done)
 ·try simp only[bb,toN]at c1
  refine gk_region env false [] [0,3,4,28] ?_
  refine gk_ifd (fun c2=> ?_) (fun c2=> ?_)
  ·try simp only[toN]at c2
   refine gk_region env false [] [0,3,4] ?_
   refine gk_retX env [iG _] (hp:= ?_)
   have e:turnS s ⟨kd,dy,by_,to_,sm,no,tms,dcs⟩=(s,13):=by rw[turnS,if_pos c1,if_pos c2]
   simp only[AllP,e]
   repeat' first|exact trivial|exact rfl|apply And.intro|(first|exact c3|exact c3.symm)|(simp;done)
  ·try simp only[toN]at c2
   refine gk_region env false [] [0,3,4,5] ?_
   obtain rfl|rfl|rfl|rfl|rfl|rfl|rfl:kd=0∨kd=1∨kd=2∨kd=3∨kd=4∨kd=5∨kd=6:=by have:=inB_iff.1 c1.1.1;omega
   ·refine gk_region env false [.bx (iG 0),.bx (.d (.sc (.func (.func 86) #[] #[]))),.callm [0,1,2] (draw_st k s hs ⟨0,dy,by_,to_,sm,no,tms,dcs⟩ ht.docs)] [0,3,4,6] ?_
    refine gk_region env false [] [0,3,4,6,45] ?_
    refine gk_ifd (fun c3=> ?_) (fun c3=> ?_)
    ·try simp only[toN]at c3
     refine gk_region env false [] [4,6] ?_
     refine gk_region env false [] [4] ?_
     refine gk_retX env [iG _] (hp:= ?_)
     have e:turnS s ⟨0,dy,by_,to_,sm,no,tms,dcs⟩=(dayS (drawS s ⟨0,dy,by_,to_,sm,no,tms,dcs⟩).1 dy,0):=by rw[turnS,if_pos ⟨⟨by rw[inB_iff];simp only;omega,c1.1.2⟩,c1.2⟩,if_neg c2,if_pos (show (actS s ⟨0,dy,by_,to_,sm,no,tms,dcs⟩).2=0 from c3)];rfl
     simp only[AllP,e]
     repeat' first|exact trivial|exact rfl|apply And.intro|(first|exact c3|exact c3.symm)|(simp[dayS];done)
    ·try simp only[toN]at c3
     refine gk_region env false [] [4] ?_
     refine gk_retX env [iG _] (hp:= ?_)
     have e:turnS s ⟨0,dy,by_,to_,sm,no,tms,dcs⟩=(drawS s ⟨0,dy,by_,to_,sm,no,tms,dcs⟩):=by rw[turnS,if_pos ⟨⟨by rw[inB_iff];simp only;omega,c1.1.2⟩,c1.2⟩,if_neg c2,if_neg (show ¬(actS s ⟨0,dy,by_,to_,sm,no,tms,dcs⟩).2=0 from c3)];rfl
     simp only[AllP,e]
     repeat' first|exact trivial|exact rfl|apply And.intro|(first|exact c3|exact c3.symm)|(simp;done)
   ·refine gk_region env false [.bx (iG 1),.bx (.d (.sc (.func (.func 87) #[] #[]))),.callm [0,1,2] (amend_st k s hs ⟨1,dy,by_,to_,sm,no,tms,dcs⟩ ht.terms.1 ht.terms.2)] [0,3,4,6] ?_
    refine gk_region env false [] [0,3,4,6,45] ?_
    refine gk_ifd (fun c3=> ?_) (fun c3=> ?_)
    ·try simp only[toN]at c3
     refine gk_region env false [] [4,6] ?_
     refine gk_region env false [] [4] ?_
     refine gk_retX env [iG _] (hp:= ?_)
     have e:turnS s ⟨1,dy,by_,to_,sm,no,tms,dcs⟩=(dayS (amendS s ⟨1,dy,by_,to_,sm,no,tms,dcs⟩).1 dy,0):=by rw[turnS,if_pos ⟨⟨by rw[inB_iff];simp only;omega,c1.1.2⟩,c1.2⟩,if_neg c2,if_pos (show (actS s ⟨1,dy,by_,to_,sm,no,tms,dcs⟩).2=0 from c3)];rfl
     simp only[AllP,e]
     repeat' first|exact trivial|exact rfl|apply And.intro|(first|exact c3|exact c3.symm)|(simp[dayS];done)
    ·try simp only[toN]at c3
     refine gk_region env false [] [4] ?_
     refine gk_retX env [iG _] (hp:= ?_)
     have e:turnS s ⟨1,dy,by_,to_,sm,no,tms,dcs⟩=(amendS s ⟨1,dy,by_,to_,sm,no,tms,dcs⟩):=by rw[turnS,if_pos ⟨⟨by rw[inB_iff];simp only;omega,c1.1.2⟩,c1.2⟩,if_neg c2,if_neg (show ¬(actS s ⟨1,dy,by_,to_,sm,no,tms,dcs⟩).2=0 from c3)];rfl
     simp only[AllP,e]
     repeat' first|exact trivial|exact rfl|apply And.intro|(first|exact c3|exact c3.symm)|(simp;done)
   ·refine gk_region env false [.bx (iG 2),.bx (.d (.sc (.func (.func 88) #[] #[]))),.callm [0,1,2] (accept_st k s hs ⟨2,dy,by_,to_,sm,no,tms,dcs⟩)] [0,3,4,6] ?_
    refine gk_region env false [] [0,3,4,6,45] ?_
    refine gk_ifd (fun c3=> ?_) (fun c3=> ?_)
    ·try simp only[toN]at c3
     refine gk_region env false [] [4,6] ?_
     refine gk_region env false [] [4] ?_
     refine gk_retX env [iG _] (hp:= ?_)
     have e:turnS s ⟨2,dy,by_,to_,sm,no,tms,dcs⟩=(dayS (acceptS s ⟨2,dy,by_,to_,sm,no,tms,dcs⟩).1 dy,0):=by rw[turnS,if_pos ⟨⟨by rw[inB_iff];simp only;omega,c1.1.2⟩,c1.2⟩,if_neg c2,if_pos (show (actS s ⟨2,dy,by_,to_,sm,no,tms,dcs⟩).2=0 from c3)];rfl
     simp only[AllP,e]
     repeat' first|exact trivial|exact rfl|apply And.intro|(first|exact c3|exact c3.symm)|(simp[dayS];done)
    ·try simp only[toN]at c3
     refine gk_region env false [] [4] ?_
     refine gk_retX env [iG _] (hp:= ?_)
     have e:turnS s ⟨2,dy,by_,to_,sm,no,tms,dcs⟩=(acceptS s ⟨2,dy,by_,to_,sm,no,tms,dcs⟩):=by rw[turnS,if_pos ⟨⟨by rw[inB_iff];simp only;omega,c1.1.2⟩,c1.2⟩,if_neg c2,if_neg (show ¬(actS s ⟨2,dy,by_,to_,sm,no,tms,dcs⟩).2=0 from c3)];rfl
     simp only[AllP,e]
     repeat' first|exact trivial|exact rfl|apply And.intro|(first|exact c3|exact c3.symm)|(simp;done)
   ·refine gk_region env false [.bx (iG 3),.bx (.d (.sc (.func (.func 89) #[] #[]))),.callm [0,1,2] (reject_st k s hs ⟨3,dy,by_,to_,sm,no,tms,dcs⟩)] [0,3,4,6] ?_
    refine gk_region env false [] [0,3,4,6,45] ?_
    refine gk_ifd (fun c3=> ?_) (fun c3=> ?_)
    ·try simp only[toN]at c3
     refine gk_region env false [] [4,6] ?_
     refine gk_region env false [] [4] ?_
     refine gk_retX env [iG _] (hp:= ?_)
     have e:turnS s ⟨3,dy,by_,to_,sm,no,tms,dcs⟩=(dayS (rejectS s ⟨3,dy,by_,to_,sm,no,tms,dcs⟩).1 dy,0):=by rw[turnS,if_pos ⟨⟨by rw[inB_iff];simp only;omega,c1.1.2⟩,c1.2⟩,if_neg c2,if_pos (show (actS s ⟨3,dy,by_,to_,sm,no,tms,dcs⟩).2=0 from c3)];rfl
     simp only[AllP,e]
     repeat' first|exact trivial|exact rfl|apply And.intro|(first|exact c3|exact c3.symm)|(simp[dayS];done)
    ·try simp only[toN]at c3
     refine gk_region env false [] [4] ?_
     refine gk_retX env [iG _] (hp:= ?_)
     have e:turnS s ⟨3,dy,by_,to_,sm,no,tms,dcs⟩=(rejectS s ⟨3,dy,by_,to_,sm,no,tms,dcs⟩):=by rw[turnS,if_pos ⟨⟨by rw[inB_iff];simp only;omega,c1.1.2⟩,c1.2⟩,if_neg c2,if_neg (show ¬(actS s ⟨3,dy,by_,to_,sm,no,tms,dcs⟩).2=0 from c3)];rfl
     simp only[AllP,e]
     repeat' first|exact trivial|exact rfl|apply And.intro|(first|exact c3|exact c3.symm)|(simp;done)
   ·refine gk_region env false [.bx (iG 4),.bx (.d (.sc (.func (.func 90) #[] #[]))),.callm [0,1,2] (transfer_st k s hs ⟨4,dy,by_,to_,sm,no,tms,dcs⟩)] [0,3,4,6] ?_
    refine gk_region env false [] [0,3,4,6,45] ?_
    refine gk_ifd (fun c3=> ?_) (fun c3=> ?_)
    ·try simp only[toN]at c3
     refine gk_region env false [] [4,6] ?_
     refine gk_region env false [] [4] ?_
     refine gk_retX env [iG _] (hp:= ?_)
     have e:turnS s ⟨4,dy,by_,to_,sm,no,tms,dcs⟩=(dayS (transferS s ⟨4,dy,by_,to_,sm,no,tms,dcs⟩).1 dy,0):=by rw[turnS,if_pos ⟨⟨by rw[inB_iff];simp only;omega,c1.1.2⟩,c1.2⟩,if_neg c2,if_pos (show (actS s ⟨4,dy,by_,to_,sm,no,tms,dcs⟩).2=0 from c3)];rfl
     simp only[AllP,e]
     repeat' first|exact trivial|exact rfl|apply And.intro|(first|exact c3|exact c3.symm)|(simp[dayS];done)
    ·try simp only[toN]at c3
     refine gk_region env false [] [4] ?_
     refine gk_retX env [iG _] (hp:= ?_)
     have e:turnS s ⟨4,dy,by_,to_,sm,no,tms,dcs⟩=(transferS s ⟨4,dy,by_,to_,sm,no,tms,dcs⟩):=by rw[turnS,if_pos ⟨⟨by rw[inB_iff];simp only;omega,c1.1.2⟩,c1.2⟩,if_neg c2,if_neg (show ¬(actS s ⟨4,dy,by_,to_,sm,no,tms,dcs⟩).2=0 from c3)];rfl
     simp only[AllP,e]
     repeat' first|exact trivial|exact rfl|apply And.intro|(first|exact c3|exact c3.symm)|(simp;done)
   ·refine gk_region env false [.bx (iG 5),.bx (.d (.sc (.func (.func 91) #[] #[]))),.callm [0,1,2] (confirm_st k s hs ⟨5,dy,by_,to_,sm,no,tms,dcs⟩)] [0,3,4,6] ?_
    refine gk_region env false [] [0,3,4,6,45] ?_
    refine gk_ifd (fun c3=> ?_) (fun c3=> ?_)
    ·try simp only[toN]at c3
     refine gk_region env false [] [4,6] ?_
     refine gk_region env false [] [4] ?_
     refine gk_retX env [iG _] (hp:= ?_)
     have e:turnS s ⟨5,dy,by_,to_,sm,no,tms,dcs⟩=(dayS (confirmS s ⟨5,dy,by_,to_,sm,no,tms,dcs⟩).1 dy,0):=by rw[turnS,if_pos ⟨⟨by rw[inB_iff];simp only;omega,c1.1.2⟩,c1.2⟩,if_neg c2,if_pos (show (actS s ⟨5,dy,by_,to_,sm,no,tms,dcs⟩).2=0 from c3)];rfl
     simp only[AllP,e]
     repeat' first|exact trivial|exact rfl|apply And.intro|(first|exact c3|exact c3.symm)|(simp[dayS];done)
    ·try simp only[toN]at c3
     refine gk_region env false [] [4] ?_
     refine gk_retX env [iG _] (hp:= ?_)
     have e:turnS s ⟨5,dy,by_,to_,sm,no,tms,dcs⟩=(confirmS s ⟨5,dy,by_,to_,sm,no,tms,dcs⟩):=by rw[turnS,if_pos ⟨⟨by rw[inB_iff];simp only;omega,c1.1.2⟩,c1.2⟩,if_neg c2,if_neg (show ¬(actS s ⟨5,dy,by_,to_,sm,no,tms,dcs⟩).2=0 from c3)];rfl
     simp only[AllP,e]
     repeat' first|exact trivial|exact rfl|apply And.intro|(first|exact c3|exact c3.symm)|(simp;done)
   ·refine gk_region env false [.bx (iG 6),.bx (.d (.sc (.func (.func 92) #[] #[]))),.callm [0,1,2] (pay_st k s hs ⟨6,dy,by_,to_,sm,no,tms,dcs⟩)] [0,3,4,6] ?_
    refine gk_region env false [] [0,3,4,6,45] ?_
    refine gk_ifd (fun c3=> ?_) (fun c3=> ?_)
    ·try simp only[toN]at c3
     refine gk_region env false [] [4,6] ?_
     refine gk_region env false [] [4] ?_
     refine gk_retX env [iG _] (hp:= ?_)
     have e:turnS s ⟨6,dy,by_,to_,sm,no,tms,dcs⟩=(dayS (payS s ⟨6,dy,by_,to_,sm,no,tms,dcs⟩).1 dy,0):=by rw[turnS,if_pos ⟨⟨by rw[inB_iff];simp only;omega,c1.1.2⟩,c1.2⟩,if_neg c2,if_pos (show (actS s ⟨6,dy,by_,to_,sm,no,tms,dcs⟩).2=0 from c3)];rfl
     simp only[AllP,e]
     repeat' first|exact trivial|exact rfl|apply And.intro|(first|exact c3|exact c3.symm)|(simp[dayS];done)
    ·try simp only[toN]at c3
     refine gk_region env false [] [4] ?_
     refine gk_retX env [iG _] (hp:= ?_)
     have e:turnS s ⟨6,dy,by_,to_,sm,no,tms,dcs⟩=(payS s ⟨6,dy,by_,to_,sm,no,tms,dcs⟩):=by rw[turnS,if_pos ⟨⟨by rw[inB_iff];simp only;omega,c1.1.2⟩,c1.2⟩,if_neg c2,if_neg (show ¬(actS s ⟨6,dy,by_,to_,sm,no,tms,dcs⟩).2=0 from c3)];rfl
     simp only[AllP,e]
     repeat' first|exact trivial|exact rfl|apply And.intro|(first|exact c3|exact c3.symm)|(simp;done)
theorem mem_set_or {α:Type} {l:List α} {i:Nat} {b x:α} (h:x∈l.set i b):x∈l∨x=b:=List.mem_or_eq_of_mem_set h
theorem Fits.up {k:Nat} {s:Sta} (h:Fits k s) (hk:k<1000):Fits (k+1) s:=by
 have h1:=h.left;have h2:=h.moved;have h3:=h.drawn;have h4:=h.paid;have h5:=h.amended
 exact ⟨by omega,by omega,by omega,by omega,by omega,h.amds,h.amd,h.terms,by omega,h.sum,h.rest⟩
theorem Fits.drop_ {k:Nat} {s:Sta} (h:Fits k s) {i:Nat} (hi:i<s.amds.length):∀a,a∈s.amds.set i {s.amds.getD i default with pend:=false} →(0≤a.sum∧a.sum≤1099511627776)∧a.terms.length≤30∧∀d,d∈a.terms→FewD d:=fun a ha=>by
 rcases mem_set_or ha with ha|rfl
 ·exact h.amd a ha
 ·exact h.at_ hi
theorem fits_take {k:Nat} {s:Sta} (h:Fits k s) (hk:k<1000) {no:Int} (h0:0≤no) (h1:no<s.amds.length):Fits (k+1) (takeS s no)∧(takeS s no).left≤s.left+1099511627776∧s.left≤(takeS s no).left:=by
 have hat:=h.at_ (i:=no.toNat) (by omega)
 have e:(takeS s no).left=s.left+(s.amds.getD no.toNat default).sum:=rfl
 have h2:=h.moved;have h3:=h.drawn;have h4:=h.paid;have h5:=h.amended;have h6:=h.left
 refine ⟨⟨by omega,by rw[e];omega,?_,?_,?_,?_,?_,hat.2,?_,h.sum,h.rest⟩,by rw[e];omega,by rw[e];omega⟩
 ·show _≤s.moved∧s.moved≤_;omega
 ·show _≤s.drawn∧s.drawn≤_;omega
 ·show _≤s.paid∧s.paid≤_;omega
 ·show (s.amds.set _ _).length≤8;rw[List.length_set];exact h.amds
 ·exact h.drop_ (by omega)
 ·show (s.amended++ [no]).length≤k+1;simp;omega
theorem fits_sub {k:Nat} {s s0:Sta} {t:Trn} {p:Prop} [Decidable p] (h:Fits (k+1) s) (ht:1≤t.sum∧t.sum≤1099511627776) (h0:Fits k s0) (e1:s0.left≤s.left∧s.left≤s0.left+1099511627776) (e2:s.moved=s0.moved) (e3:s.drawn=s0.drawn):Fits (k+1) (subS s t p):=by
 have h2:=h0.moved;have h3:=h0.drawn;have h6:=h0.left;have h7:=h.few
 unfold subS
 split
 ·exact ⟨h.few,by simp only;omega,h.moved,by simp only;omega,h.paid,h.amds,h.amd,h.terms,h.amended,h.sum,h.rest⟩
 ·exact ⟨h.few,h.left,by simp only;omega,by simp only;omega,h.paid,h.amds,h.amd,h.terms,h.amended,h.sum,h.rest⟩
theorem fits_draw {k:Nat} {s:Sta} {t:Trn} (h:Fits k s) (hk:k<1000):Fits (k+1) (drawS s t).1:=by
 unfold drawS
 split
 ·exact h.up hk
 ·split
  ·exact h.up hk
  ·split
   ·exact h.up hk
   ·rename_i h3
    split
    ·exact fits_sub (h.up hk) (by omega) h (by omega) rfl rfl
    ·split
     ·exact h.up hk
     ·rename_i h5
      have hno:=noS_at (s:=s) (t:=t) (by omega)
      have hf:=fits_take h hk hno.1 hno.2.1
      exact fits_sub hf.1 (by omega) h ⟨hf.2.2,hf.2.1⟩ rfl rfl
theorem fits_act {k:Nat} {s:Sta} {t:Trn} (h:Fits k s) (hk:k<1000) (ht:FitT t):Fits (k+1) (actS s t).1:=by
 have hu:=h.up hk
 unfold actS
 split
 ·exact fits_draw h hk
 ·split
  ·unfold amendS
   split
   ·split
    ·split
     ·exact hu
     ·split
      ·exact hu
      ·rename_i h1 h2
       refine ⟨hu.few,hu.left,hu.moved,hu.drawn,hu.paid,?_,fun a ha=> ?_,hu.terms,hu.amended,hu.sum,hu.rest⟩
       ·have:=h.amds
        show (s.amds++ [_]).length≤8
        simp;omega
       ·rcases List.mem_append.1 ha with ha|ha
        ·exact h.amd a ha
        ·rw[List.mem_singleton.1 ha]
         exact ⟨by simp only;omega,ht.terms⟩
    ·exact hu
   ·exact hu
  ·split
   ·unfold acceptS
    split
    ·rename_i hp
     split
     ·exact hu
     ·have hp:=pendE_0 hp
      exact (fits_take h hk hp.2.1 hp.2.2.1).1
    ·exact hu
   ·split
    ·unfold rejectS
     split
     ·rename_i hp
      have hp:=pendE_0 hp
      refine ⟨hu.few,hu.left,hu.moved,hu.drawn,hu.paid,?_,h.drop_ (by omega),hu.terms,hu.amended,hu.sum,hu.rest⟩
      show (s.amds.set _ _).length≤8;rw[List.length_set];exact h.amds
     ·exact hu
    ·split
     ·unfold transferS
      have h6:=h.left;have h7:=h.moved
      split
      ·split
       ·split
        ·split
         ·exact hu
         ·split
          ·exact hu
          ·exact ⟨hu.few,by show _≤s.left-t.sum∧s.left-t.sum≤_;omega,by show _≤t.sum∧t.sum≤_;omega,hu.drawn,hu.paid,hu.amds,hu.amd,hu.terms,hu.amended,hu.sum,hu.rest⟩
        ·exact hu
       ·exact hu
      ·exact hu
     ·split
      ·unfold confirmS
       split
       ·split
        ·exact hu
        ·exact ⟨hu.few,hu.left,hu.moved,hu.drawn,hu.paid,hu.amds,hu.amd,hu.terms,hu.amended,hu.sum,hu.rest⟩
       ·exact hu
      ·unfold payS
       have h6:=h.drawn;have h7:=h.paid;have h8:=h.sum;have h9:=h.rest;have hkk:=h.few
       split
       ·split
        ·exact hu
        ·unfold paidS
         split
         ·exact ⟨hu.few,by simp only;omega,hu.moved,hu.drawn,by simp only;omega,hu.amds,hu.amd,hu.terms,hu.amended,hu.sum,by simp only;omega⟩
         ·exact ⟨hu.few,hu.left,hu.moved,hu.drawn,by simp only;omega,hu.amds,hu.amd,hu.terms,hu.amended,hu.sum,hu.rest⟩
       ·exact hu
theorem fits_turn {k:Nat} {s:Sta} {t:Trn} (h:Fits k s) (hk:k<1000) (ht:FitT t):Fits (k+1) (turnS s t).1:=by
 have hu:=h.up hk
 have ha:=fits_act h hk ht
 unfold turnS
 split
 ·split
  ·exact hu
  ·split
   ·exact ⟨ha.few,ha.left,ha.moved,ha.drawn,ha.paid,ha.amds,ha.amd,ha.terms,ha.amended,ha.sum,ha.rest⟩
   ·exact ha
 ·exact hu
end Go.Gh
namespace Go.Gh
open Go Go.Proofs
set_option maxRecDepth 1000000
set_option maxHeartbeats 2000000
set_option linter.unusedSimpArgs false
set_option linter.unusedVariables false
set_option linter.unnecessarySimpa false
set_option linter.unusedSectionVars false
variable [PowTab] [ItoaU]
open Go.RowKit
def argB (r:Rlm) (c:Crd):Bool:=((((inB c.app r.firms.length&&inB c.iss r.firms.length)&&inB c.ben r.firms.length)&&(decide (c.conf= -1)||(inB c.conf r.firms.length&& !decide (c.conf=c.iss))))&&inB c.cur r.currencies.length)&&inB c.city r.cities.length
def rngB (c:Crd):Bool:=((decide (1≤c.sum)&&decide (c.sum≤1099511627776))&&inB c.exp 100001)&&inB c.rev 11
def crdE (r:Rlm) (c:Crd):Int:=if realmE r=0 then if argB r c=true then if rngB c=true then if printOk c.terms=true then 0 else 2 else 3 else 1 else realmE r
theorem arg_t {r:Rlm} {c:Crd} :argB r c=true↔((((inB c.app r.firms.length=true∧inB c.iss r.firms.length=true)∧inB c.ben r.firms.length=true)∧(c.conf= -1∨inB c.conf r.firms.length=true∧¬c.conf=c.iss))∧inB c.cur r.currencies.length=true)∧inB c.city r.cities.length=true:=by
 simp only[argB,Bool.and_eq_true,Bool.or_eq_true,decide_eq_true_eq,Bool.not_eq_true',decide_eq_false_iff_not]
theorem arg_f {r:Rlm} {c:Crd} :argB r c=false↔((((inB c.app r.firms.length=false∨inB c.iss r.firms.length=false)∨inB c.ben r.firms.length=false)∨¬c.conf= -1∧(inB c.conf r.firms.length=false∨c.conf=c.iss))∨inB c.cur r.currencies.length=false)∨inB c.city r.cities.length=false:=by
 simp only[argB,Bool.and_eq_false_iff,Bool.or_eq_false_iff,decide_eq_false_iff_not,Bool.not_eq_false',decide_eq_true_eq]
theorem rng_t {c:Crd} :rngB c=true↔((1≤c.sum∧c.sum≤1099511627776)∧inB c.exp 100001=true)∧inB c.rev 11=true:=by
 simp only[rngB,Bool.and_eq_true,decide_eq_true_eq]
theorem rng_f {c:Crd} :rngB c=false↔((c.sum<1∨1099511627776<c.sum)∨inB c.exp 100001=false)∨inB c.rev 11=false:=by
 simp only[rngB,Bool.and_eq_false_iff,decide_eq_false_iff_not,Int.not_le]
structure FitCr (c:Crd):Prop where
 terms:c.terms.length≤30∧∀d,d∈c.terms→FewD d
def fieldB (d f:Dm):Bool:=bif decide (d.doc=f.doc)then decide (d.field=f.field)else false
def swapD (f:Dm):Dm:=⟨f.op,f.other,f.second,f.doc,f.field,f.text,f.lo,f.hi⟩
def followsB (d f:Dm):Bool:=
 if dmEq d f=true then true else if d.op=f.op∧(d.op=2∨d.op=4)then fieldB d f&&(decide (d.lo≤f.lo)&&decide (f.hi≤d.hi))
 else if d.op=3∧f.op=3 then dmEq d (swapD f)else if d.op=2∧f.op=1 then fieldB d f&&(numOk f.text&&(decide (d.lo≤numV f.text)&&decide (numV f.text≤d.hi)))else false
def coversB (a b:List Dm):Bool:=a.all fun d=>b.any fun f=>followsB d f
theorem ccheck_ok (r:Rlm) (hr:FitR r) (c:Crd) (hc:FitCr c):GC Tryz.prog 21 [rlG r,crdG c] (iG (crdE r c)):=by
 refine gc_of_gk Tryz.func21 ?_
 refine gk_region env false [] [2,3,4] ?_
 refine gk_box 0 ?_
 refine gk_box 1 ?_
 refine gk_region env false [.call (GC.lift (rcheck_realm r hr))] [2,3,4,5] ?_
 refine gk_region env false [] [2,3,4,5,11] ?_
 refine gk_ifn (fun c1=> ?_) (fun c1=> ?_)
 ·try simp only[toN]at c1
  refine gk_region env false [] [2,3,4] ?_
  refine gk_ret env ?_
  rw[crdE,if_neg c1];rfl
 ·try simp only[toN]at c1
  refine gk_region env false [] [2,3,4,6] ?_
  refine gk_region env false [.call (cin_ok c.conf r.firms.length)] [2,3,4,6,7] ?_
  refine gk_region env false [.call (cin_ok c.app r.firms.length),.call (cin_ok c.iss r.firms.length),.call (cin_ok c.ben r.firms.length),.call (cin_ok c.cur r.currencies.length),.call (cin_ok c.city r.cities.length)] [3,4,32] ?_
  refine gk_if (fun c2=> ?_) (fun c2=> ?_)
  ·try simp only[bb,toN]at c2
   refine gk_region env false [] [4] ?_
   refine gk_ret env ?_
   rw[crdE,if_pos c1,if_neg (by rw[arg_f.2 c2];simp)];rfl
  ·try simp only[bb,toN]at c2
   refine gk_region env false [.call (cin_ok c.exp 100001),.call (cin_ok c.rev 11)] [3,4,74] ?_
   refine gk_if (fun c3=> ?_) (fun c3=> ?_)
   ·try simp only[bb,toN]at c3
    refine gk_region env false [] [4] ?_
    refine gk_ret env ?_
    rw[crdE,if_pos c1,if_pos (arg_t.2 c2),if_neg (by rw[rng_f.2 c3];simp)];rfl
   ·try simp only[bb,toN]at c3
    refine gk_region env false [.call (written_ok c.terms hc.terms.1 hc.terms.2)] [4,95] ?_
    refine gk_if (fun c4=> ?_) (fun c4=> ?_)
    ·try simp only[bb,toN]at c4
     refine gk_region env false [] [4] ?_
     refine gk_ret env ?_
     rw[crdE,if_pos c1,if_pos (arg_t.2 c2),if_pos (rng_t.2 c3),if_neg (by rw[c4];simp)];rfl
    ·try simp only[bb,toN]at c4
     refine gk_region env false [] [4] ?_
     refine gk_ret env ?_
     rw[crdE,if_pos c1,if_pos (arg_t.2 c2),if_pos (rng_t.2 c3),if_pos c4];rfl
theorem follows_ok (d f:Dm) (hx:f.text.size≤9223372036854775807):GC Tryz.prog 17 [dmG d,dmG f] (bG (followsB d f)):=by
 refine gc_of_gk Tryz.func17 ?_
 refine gk_region env false [] [2,3,4] ?_
 refine gk_region env false [.eq (eq_demand d f)] [2,3,4,10] ?_
 refine gk_if (fun c1=> ?_) (fun c1=> ?_)
 ·try simp only[bb,toN]at c1
  refine gk_region env false [] [2,3,4] ?_
  refine gk_ret env ?_
  rw[followsB,if_pos c1];rfl
 ·try simp only[bb,toN]at c1
  refine gk_region env false [] [2,3,4,5] ?_
  refine gk_region env false [] [2,3,4,5,23] ?_
  refine gk_if (fun c2=> ?_) (fun c2=> ?_)
  ·try simp only[bb,toN]at c2
   refine gk_region env false [] [4] ?_
   refine gk_ret env ?_
   rw[followsB,if_neg (by rw[c1];simp),if_pos c2];simp only[tupG,fieldB,Bool.cond_false_right,Bool.and_assoc]
  ·try simp only[bb,toN]at c2
   refine gk_region env false [] [2,3,4,5,54] ?_
   refine gk_if (fun c3=> ?_) (fun c3=> ?_)
   ·try simp only[bb,toN]at c3
    refine gk_region env false [] [2,3,4] ?_
    refine gk_region env false [.eq (eq_demand d (swapD f))] [4] ?_
    refine gk_ret env ?_
    rw[followsB,if_neg (by rw[c1];simp),if_neg (by omega),if_pos c3];rfl
   ·try simp only[bb,toN]at c3
    refine gk_region env false [] [2,3,4,5,78] ?_
    refine gk_if (fun c4=> ?_) (fun c4=> ?_)
    ·try simp only[bb,toN]at c4
     refine gk_region env false [.call (GC.lift (number_ok f.text hx))] [2,4,5,6,7] ?_
     refine gk_region env false [] [4] ?_
     refine gk_ret env ?_
     rw[followsB,if_neg (by rw[c1];simp),if_neg (by omega),if_neg (by omega),if_pos c4];simp only[tupG,fieldB,Bool.cond_false_right,Bool.and_assoc]
    ·try simp only[bb,toN]at c4
     refine gk_region env false [] [4] ?_
     refine gk_ret env ?_
     rw[followsB,if_neg (by rw[c1];simp),if_neg (by omega),if_neg (by omega),if_neg (by omega)];rfl
theorem covers1_ok (d f:Dm) (hx:f.text.size≤9223372036854775807):GC Tryz.prog 41 [dmG f,.ep (dmC d)] (bG (followsB d f)):=by
 refine gc_of_gk Tryz.func41 ?_
 refine gk_region env false [] [1,2,3] ?_
 refine gk_region env false [.call (follows_ok d f hx)] [3] ?_
 refine gk_ret env ?_
 rfl
theorem indexC_ok (l:List Dm) (hl:l.length≤9223372036854775807) (hx:∀f,f∈l→f.text.size≤9223372036854775807) (d:Dm):GC Tryz.prog 60 [rowD l,.fn (.func 41) [] [.ep (dmC d)]] (iG (findI (fun f=>followsB d f) l 0)):=by
 refine gc_of_gk Tryz.func60 ?_
 refine gk_region env false [] [0,1,4] ?_
 refine gk_region env false [] [0,1,4,7,8] ?_
 refine gk_loop (α:=Nat) (fun i=>i≤l.length∧findI (fun f=>followsB d f) l 0=findI (fun f=>followsB d f) l i) (fun i=>[(8,iG i)]) (fun _=>[]) (fun i=>l.length-i) 0 ⟨by omega,rfl⟩ ?_ (hp:=by simp[AllP];rfl)
 rintro i ⟨hi,he⟩
 refine gk_region env false [] [0,1,4,7,8,9] ?_
 refine gk_ifd (fun c1=> ?_) (fun c1=> ?_)
 ·try simp only[toN]at c1
  refine gk_region env false [] [0,1,4,5,7,8] ?_
  refine gk_region env false [.call (covers1_ok d (l.getD i default) (hx _ (getD_mem (by omega))))] [0,1,4,5,7,8,16] ?_
  refine gk_if (fun c2=> ?_) (fun c2=> ?_)
  ·try simp only[bb,toN]at c2
   refine gk_region env false [] [0,1,4,7,8] ?_
   refine gk_ret env ?_
   rw[he,findI,if_pos (by omega),if_pos (by simpa using c2)];rfl
  ·try simp only[bb,toN]at c2
   refine gk_region env false [] [0,1,4,7,8] ?_
   refine gk_round (i+1) ?_ (hp:=by simp[AllP];rfl)
   refine ⟨by omega,he.trans ?_⟩
   rw[findI,if_pos (by omega),if_neg (by simpa using c2)]
 ·try simp only[toN]at c1
  refine gk_region env false [] [4] ?_
  refine gk_ret env ?_
  rw[he,findI,if_neg (by omega)];rfl
theorem hasC_ok (l:List Dm) (hl:l.length≤9223372036854775807) (hx:∀f,f∈l→f.text.size≤9223372036854775807) (d:Dm):GC Tryz.prog 40 [rowD l,.fn (.func 41) [] [.ep (dmC d)]] (bG (l.any fun f=>followsB d f)):=by
 refine gc_of_gk Tryz.func40 ?_
 refine gk_region env false [] [0,1,4] ?_
 refine gk_region env false [.call (indexC_ok l hl hx d)] [4] ?_
 refine gk_ret env ?_
 rw[←findI_any];rfl
def coversF (a b:List Dm) (i:Nat):Bool:=if i<a.length then if (b.any fun f=>followsB (a.getD i default) f)=true then coversF a b (i+1)else false else true
termination_by a.length-i
theorem coversF_eq {a b:List Dm} :∀(k i:Nat),a.length-i=k→coversF a b i=(a.drop i).all fun d=>b.any fun f=>followsB d f:=by
 intro k
 induction k with
 |zero=>intro i h;rw[coversF,if_neg (by omega),List.drop_eq_nil_of_le (by omega)];rfl
 |succ k ih=>
  intro i h
  rw[coversF,if_pos (by omega),List.drop_eq_getElem_cons (show i<a.length by omega),List.all_cons,←ih (i+1) (by omega)]
  have e:a.getD i default=a[i]:=by rw[List.getD_eq_getElem?_getD,List.getElem?_eq_getElem (show i<a.length by omega)];rfl
  rw[e]
  split
  ·rename_i h1;rw[h1];rfl
  ·rename_i h1
   rw[show (b.any fun f=>followsB a[i] f)=false from by simpa using h1];rfl
theorem covers_eq (a b:List Dm):coversF a b 0=coversB a b:=by rw[coversF_eq _ 0 rfl];rfl
theorem covers_ok (a b:List Dm) (ha:a.length≤9223372036854775807) (hb:b.length≤9223372036854775807) (hx:∀f,f∈b→f.text.size≤9223372036854775807):GC Tryz.prog 19 [rowD a,rowD b] (bG (coversB a b)):=by
 refine gc_of_gk Tryz.func19 ?_
 refine gk_region env false [] [0,1,4] ?_
 refine gk_region env false [] [1,4,7,8,9] ?_
 refine gk_loop (α:=Nat) (fun i=>i≤a.length∧coversF a b 0=coversF a b i) (fun i=>[(9,iG i)]) (fun _=>[]) (fun i=>a.length-i) 0 ⟨by omega,rfl⟩ ?_
 rintro i ⟨hi,he⟩
 refine gk_region env false [] [1,4,7,8,9,10] ?_
 refine gk_ifd (fun c1=> ?_) (fun c1=> ?_)
 ·try simp only[toN]at c1
  refine gk_region env false [] [1,4,6,7,8,9] ?_
  refine gk_box 0 ?_
  refine gk_region env false [.call (hasC_ok b hb hx (a.getD i default))] [1,4,7,8,9,16] ?_
  refine gk_if (fun c2=> ?_) (fun c2=> ?_)
  ·try simp only[bb,toN]at c2
   refine gk_region env false [] [1,4,7,8,9] ?_
   refine gk_ret env ?_
   rw[←covers_eq,he,coversF,if_pos (by omega),if_neg (by simpa using c2)];rfl
  ·try simp only[bb,toN]at c2
   refine gk_region env false [] [1,4,7,8,9] ?_
   refine gk_round (i+1) ?_
   refine ⟨by omega,he.trans ?_⟩
   rw[coversF,if_pos (by omega),if_pos (by simpa using c2)]
 ·try simp only[toN]at c1
  refine gk_region env false [] [4] ?_
  refine gk_ret env ?_
  rw[←covers_eq,he,coversF,if_neg (by omega)];rfl
end Go.Gh
namespace Go.Gh
open Go Go.Proofs
set_option maxRecDepth 1000000
set_option maxHeartbeats 2000000
set_option linter.unusedSimpArgs false
set_option linter.unusedVariables false
set_option linter.unnecessarySimpa false
set_option linter.unusedSectionVars false
variable [PowTab] [ItoaU]
open Go.RowKit
abbrev rowTn (l:List Trn):G:= .d (.row default trnC l)
def runF (l:List Trn) (i:Nat) (s:Sta) (out:List Int):Sta×List Int:=if i<l.length then runF l (i+1) (turnS s (l.getD i default)).1 (out++ [(turnS s (l.getD i default)).2])else (s,out)
termination_by l.length-i
def sta0 (r:Rlm) (c:Crd):Sta:=⟨r.firms.length,c,c.terms,0,0,c.sum,0,[],-1,[],false,c.rev,0⟩
def runS (r:Rlm) (c:Crd) (l:List Trn):Sta×List Int:=runF l 0 (sta0 r c) []
def runE (r:Rlm) (c:Crd) (l:List Trn):Int:=if crdE r c=0 then if (60:Int)<l.length then 6 else 0 else crdE r c
theorem fits_0 {r:Rlm} {c:Crd} (h:crdE r c=0) (hc:FitCr c):Fits 0 (sta0 r c):=by
 have hr:rngB c=true:=by
  unfold crdE at h
  split at h
  ·split at h
   ·split at h
    ·assumption
    ·omega
   ·omega
  ·contradiction
 rw[rng_t,inB_iff,inB_iff]at hr
 exact ⟨by omega,by simp only[sta0];omega,by simp only[sta0];omega,by simp only[sta0];omega,by simp only[sta0];omega,by simp[sta0],fun a h=>(by cases h),hc.terms,by simp[sta0],by simp only[sta0];omega,by simp only[sta0];omega⟩
structure RunI (l:List Trn) (i:Nat) (s:Sta) (out:List Int):Prop where
 le:i≤l.length
 fits:Fits i s
 out:out.length=i
structure Led where
 drawn:Int
 paid:Int
 left:Int
 moved:Int
 amended:List Int
 second:Int
abbrev ledG (x:Led):G:= .agg [iG x.drawn,iG x.paid,iG x.left,iG x.moved,rowI x.amended,iG x.second]
def ledS (s:Sta):Led:=⟨s.drawn,s.paid,s.left,s.moved,s.amended,s.second⟩
def led0:Led:=⟨0,0,0,0,[],0⟩
def runL (r:Rlm) (c:Crd) (l:List Trn):Led:=if runE r c l=0 then ledS (runS r c l).1 else led0
def runX (r:Rlm) (c:Crd) (l:List Trn):List Int:=if runE r c l=0 then (runS r c l).2 else []
def termsR (r:Rlm) (c:Crd) (l:List Trn):List Dm:=if runE r c l=0 then (runS r c l).1.terms else []
theorem runE_0 {r:Rlm} {c:Crd} {l:List Trn} (h:runE r c l=0):crdE r c=0∧l.length≤60:=by
 unfold runE at h
 split at h
 ·rename_i h1;split at h
  ·omega
  ·exact ⟨h1,by omega⟩
 ·contradiction
theorem run_bad (r:Rlm) (hr:FitR r) (c:Crd) (hc:FitCr c) (l:List Trn) (hb:¬runE r c l=0):GC Tryz.prog 34 [rlG r,crdG c,rowTn l] (.tup [.d (.sc (.pointer none)),.d (.sc (.slice none 0 0)),iG (runE r c l)]):=by
 refine gc_of_gk Tryz.func34 ?_
 refine gk_region env false [] [2,3,4,6,7,8] ?_
 refine gk_box 0 ?_
 refine gk_box 1 ?_
 refine gk_region env false [.call (ccheck_ok r hr c hc)] [2,3,4,6,7,8,9] ?_
 refine gk_region env false [] [2,3,4,6,7,8,9,18] ?_
 refine gk_ifn (fun c1=> ?_) (fun c1=> ?_)
 ·try simp only[toN]at c1
  refine gk_region env false [] [2,3,4,6,7,8] ?_
  refine gk_ret env ?_
  rw[runE,if_neg c1];rfl
 ·try simp only[toN]at c1
  refine gk_region env false [] [2,3,4,6,7,8,22] ?_
  refine gk_ifd (fun c2=> ?_) (fun c2=> ?_)
  ·try simp only[toN]at c2
   refine gk_region env false [] [2,3,4,6,7,8] ?_
   refine gk_ret env ?_
   rw[runE,if_pos c1,if_pos c2];rfl
  ·try simp only[toN]at c2
   exact absurd (by rw[runE,if_pos c1,if_neg c2]) hb
theorem run_good (r:Rlm) (hr:FitR r) (c:Crd) (hc:FitCr c) (l:List Trn) (ht:l.length≤60→∀t,t∈l→FitT t) (h0:runE r c l=0):GM Tryz.prog 34 [rlG r,crdG c,rowTn l] [] (.tup [.ptr 0 0 0 0,.sl 3 1 0 (runS r c l).2.length,iG 0]) [some (staB 1 2 (runS r c l).1),some (amdB (runS r c l).1),some (amnB (runS r c l).1),some (.row 44 1 (default:Int) inC (runS r c l).2 0)]:=by
 obtain ⟨h1,h2⟩:=runE_0 h0
 refine gm_of_gk Tryz.func34 ?_
 refine gk_region env false [] [2,3,4,6,7,8] ?_
 refine gk_box 0 ?_
 refine gk_box 1 ?_
 refine gk_region env false [.call (ccheck_ok r hr c hc)] [2,3,4,6,7,8,9] ?_
 refine gk_region env false [] [2,3,4,6,7,8,9,18] ?_
 refine gk_ifn (fun c1=> ?_) (fun c1=> ?_)
 ·try simp only[toN]at c1
  exact absurd h1 c1
 ·try simp only[toN]at c1
  refine gk_region env false [] [2,3,4,6,7,8,22] ?_
  refine gk_ifd (fun c2=> ?_) (fun c2=> ?_)
  ·try simp only[toN]at c2
   omega
  ·try simp only[toN]at c2
   refine gk_region env false [.call (cloneD_ok c.terms (by have:=hc.terms.1;omega))] [2,6,7,8,10] ?_
   refine gk_nilB 2 20 194 3 (default:Amd) amC ?_
   refine gk_nilB 2 18 3 1 (default:Int) inC ?_
   refine gk_region env false [] [2,6,7,8,10,11] ?_
   refine gk_nil 11 44 1 (default:Int) inC (by rfl) (by rfl) ?_
   refine gk_region env false [] [6,7,8,10,11,37,38,39] ?_
   refine gk_loop (α:=Nat×Sta×List Int) (fun x=>RunI l x.1 x.2.1 x.2.2∧runS r c l=runF l x.1 x.2.1 x.2.2) (fun x=>[(39,iG x.1),(11,.sl 5 1 0 x.2.2.length)]) (fun x=>[(2,some (staB 3 4 x.2.1)),(3,some (amdB x.2.1)),(4,some (amnB x.2.1)),(5,some (.row 44 1 (default:Int) inC x.2.2 0))]) (fun x=>l.length-x.1) (0,sta0 r c,[]) ⟨⟨Nat.zero_le _,fits_0 h1 hc,rfl⟩,rfl⟩ ?_ (hp:=by simp only[AllP];repeat' first|exact trivial|exact EntL.refl _|exact BEntL.refl _|exact rfl|omega|apply And.intro|intro _)
   rintro ⟨i,s,out⟩ ⟨hI,he⟩
   dsimp only at*
   have hI1:=hI.le
   have hI2:=hI.out
   refine gk_region env false [] [6,7,8,10,11,37,38,39,40] ?_
   refine gk_ifd (fun c3=> ?_) (fun c3=> ?_)
   ·try simp only[toN]at c3
    refine gk_region env false [] [6,7,8,10,11,13,37,38,39] ?_
    have htt:=ht h2 _ (getD_mem (l:=l) (i:=i) (by omega))
    refine gk_region env false [.callm [2,3,4] (turn_st i s hI.fits (l.getD i default).kind (l.getD i default).day (l.getD i default).by_ (l.getD i default).to_ (l.getD i default).sum (l.getD i default).no (l.getD i default).terms (l.getD i default).docs htt),.el default inC [(turnS s (l.getD i default)).2],.el default inC (out++ [(turnS s (l.getD i default)).2])] [6,7,8,10,11,37,38,39] ?_ (hp:=(by simp only[AllP,Int.toNat_natCast];repeat' first|exact trivial|exact EntL.refl _|exact BEntL.refl _|exact rfl|omega|apply And.intro|intro _|(simp[rowL];done)|(simp only[List.length_append,List.length_cons,List.length_nil];omega)|(simp[*];done)))
    refine gk_region env false [] [6,7,8,10,11,37,38,39] ?_
    refine gk_round ((i+1,(turnS s (l.getD i default)).1,out++ [(turnS s (l.getD i default)).2])) ?_ (hp:=by simp only[AllP];repeat' first|exact trivial|exact EntL.refl _|exact BEntL.refl _|exact rfl|omega|apply And.intro|intro _|(simp;done))
    refine ⟨⟨by simp only;omega,fits_turn hI.fits (by omega) htt,by simp only[List.length_append,List.length_cons,List.length_nil];omega⟩,he.trans ?_⟩
    rw[runF,if_pos (by omega)]
   ·try simp only[toN]at c3
    refine gk_region env false [] [6,7,8] ?_
    refine gk_retX env [.ptr 0 0 0 0,.sl 3 1 0 (runS r c l).2.length,iG 0] (hp:= ?_)
    have e:runS r c l=(s,out):=by rw[he,runF,if_neg (by omega)]
    simp only[AllP,e]
    repeat' first|exact trivial|exact rfl|apply And.intro
theorem Run_ok (r:Rlm) (hr:FitR r) (c:Crd) (hc:FitCr c) (l:List Trn) (ht:l.length≤60→∀t,t∈l→FitT t):GC Tryz.prog 10 [rlG r,crdG c,rowTn l] (.tup [ledG (runL r c l),rowI (runX r c l),iG (runE r c l)]):=by
 refine gc_of_gk Tryz.func10 ?_
 refine gk_region env false [] [2,3,4,6,7,8] ?_
 by_cases h0:runE r c l=0
 ·refine gk_box 0 ?_
  refine gk_box 1 ?_
  refine gk_region env false [.callm [] (run_good r hr c hc l ht h0)] [6,7,8,9,10,11] ?_
  refine gk_region env false [] [6,7,8,9,10,11,21] ?_
  refine gk_ifn (fun c1=> ?_) (fun c1=> ?_)
  ·try simp only[toN]at c1
   exact absurd trivial c1
  ·try simp only[toN]at c1
   refine gk_region env false [] [6,7,8] ?_
   refine gk_retE env ?_
   rw[show runL r c l=ledS (runS r c l).1 from if_pos h0,show runX r c l=(runS r c l).2 from if_pos h0,h0]
   exact Ent.refl _
 ·refine gk_box 0 ?_
  refine gk_box 1 ?_
  refine gk_region env false [.call (run_bad r hr c hc l h0)] [6,7,8,9,10,11] ?_
  refine gk_region env false [] [6,7,8,9,10,11,21] ?_
  refine gk_ifn (fun c1=> ?_) (fun c1=> ?_)
  ·try simp only[toN]at c1
   refine gk_region env false [] [6,7,8,9,10] ?_
   refine gk_retE env ?_
   rw[show runL r c l=led0 from if_neg h0,show runX r c l= []from if_neg h0]
   exact Ent.tup ⟨Ent.agg ⟨Ent.refl _,Ent.refl _,Ent.refl _,Ent.refl _,Ent.nil,Ent.refl _,trivial⟩,Ent.nil,Ent.refl _,trivial⟩
  ·try simp only[toN]at c1
   exact absurd c1 h0
theorem Terms_ok (r:Rlm) (hr:FitR r) (c:Crd) (hc:FitCr c) (l:List Trn) (ht:l.length≤60→∀t,t∈l→FitT t):GC Tryz.prog 12 [rlG r,crdG c,rowTn l] (.tup [rowD (termsR r c l),iG (runE r c l)]):=by
 refine gc_of_gk Tryz.func12 ?_
 refine gk_region env false [] [2,3,4,6,7] ?_
 by_cases h0:runE r c l=0
 ·refine gk_box 0 ?_
  refine gk_box 1 ?_
  refine gk_region env false [.callm [] (run_good r hr c hc l ht h0)] [6,7,8,10] ?_
  refine gk_region env false [] [6,7,8,10,20] ?_
  refine gk_ifn (fun c1=> ?_) (fun c1=> ?_)
  ·try simp only[toN]at c1
   exact absurd trivial c1
  ·try simp only[toN]at c1
   refine gk_region env false [] [6,7] ?_
   refine gk_retE env ?_
   rw[show termsR r c l=(runS r c l).1.terms from if_pos h0,h0]
   exact Ent.refl _
 ·refine gk_box 0 ?_
  refine gk_box 1 ?_
  refine gk_region env false [.call (run_bad r hr c hc l h0)] [6,7,8,10] ?_
  refine gk_region env false [] [6,7,8,10,20] ?_
  refine gk_ifn (fun c1=> ?_) (fun c1=> ?_)
  ·try simp only[toN]at c1
   refine gk_region env false [] [6,7,8] ?_
   refine gk_retE env ?_
   rw[show termsR r c l= []from if_neg h0]
   exact Ent.tup ⟨Ent.nil,Ent.refl _,trivial⟩
  ·try simp only[toN]at c1
   exact absurd c1 h0
end Go.Gh
