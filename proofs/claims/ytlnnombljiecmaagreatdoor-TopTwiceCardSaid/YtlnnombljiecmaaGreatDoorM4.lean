/- Walks by the logic of calls, and plain laws (several texts in one). -/
import Derived.Test.YtlnnombljiecmaaGreatDoorM3
import Derived.Shelf.Strings.Builder1
import Derived.Shelf.Strings.Builder2
import Derived.Shelf.Strings.OnBuilder
import Derived.Shelf.Small.Bits
import Derived.Shelf.Small.Wraps
import Derived.Shelf.Strings.BuilderF
import Derived.Shelf.Strings.BuilderK
import Derived.Shelf.Strings.Builder2Cap
import Derived.Shelf.Strconv.Itoa0
import Derived.Shelf.Strconv.Itoa1
import Derived.Shelf.LaysM
import Derived.Shelf.Strconv.Itoa2
import Derived.Shelf.Strconv.Itoa3
import Derived.Shelf.Sort.Plain
import Derived.Shelf.Bits.Mul64
import Derived.Shelf.Strings.BuilderCap
import Derived.Shelf.Slices.Turned
import Derived.Ground.Names2Prog
import Derived.Shelf.Slices.CompactI
import Derived.Shelf.Slices.SearchI
import Derived.Shelf.Slices.Cells
import Derived.Shelf.Slices.In.SortNone
import Derived.Test.YtlnnombljiecmaaGreatDoorProg
import Derived.Lib.BitFns
import Derived.Lib.ItoaNum
import Derived.WalkKit
import Derived.WalkSpells
import Derived.WalkLawsBesides
import Derived.Handy
import Derived.Deep.QuietTactic
import Derived.BigQuiet
import Derived.Lib.Hide
namespace Go.Gh
open Go Go.Proofs
set_option maxRecDepth 1000000
set_option maxHeartbeats 2000000
set_option linter.unusedSimpArgs false
set_option linter.unusedVariables false
set_option linter.unnecessarySimpa false
set_option linter.unusedSectionVars false
variable [Dep]
open Go.RowKit
def Xy (r:Rlm) (u:Us):Bool:=(!wiV u.fr 0 ((r.bB.length:Int)-1)|| !wiV u.dst 0 ((r.bB.length:Int)-1))|| !wiV u.days 1 20000
def vP (r:Rlm) (i:Nat):Int:=if i<r.bE.length then if Xy r (r.bE.getD i dF)=true then 1 else if usI (r.bE.take i) (r.bE.getD i dF) 0=true then 5 else vP r (i+1)else 0
termination_by r.bE.length-i
def zDl (r:Rlm):Int:=if (100:Int)<r.bE.length then 6 else vP r 0
def Uc (r:Rlm) (x:Rt):Bool:=((!wiV x.fr 0 ((r.bA.length:Int)-1)|| !wiV x.dst 0 ((r.bA.length:Int)-1))||decide (x.fr=x.dst))||((!wiV x.num 1 1073741824|| !wiV x.den 1 1073741824)|| !wiV x.since 0 100000)
def jK (r:Rlm) (i:Nat):Bool:=if i<r.rates.length then if Uc r (r.rates.getD i dF)=true then false else jK r (i+1)else true
termination_by r.rates.length-i
def Um (r:Rlm) (x:Ht):Bool:=(!wiV x.ord 0 ((r.bD.length:Int)-1)|| !wiV x.fr 0 x.dst)||decide (100000<x.dst)
def Wn (r:Rlm) (i:Nat):Bool:=if i<r.halts.length then if Um r (r.halts.getD i dF)=true then false else Wn r (i+1)else true
termination_by r.halts.length-i
def jp (r:Rlm):Int:=if (100:Int)<r.rates.length then 6 else if jK r 0=true then if (20:Int)<r.halts.length then 6 else if Wn r 0=true then 0 else 1 else 1
def HE (r:Rlm):Int:=orE (zY r.bA 8 fun _=>true) (zY (cityN r) 40 fun i=>qC r (r.bB.getD i dF))
def ZS (r:Rlm):Int:=orE (HE r) (orE (jw r) (orE (jr r) (orE (zDl r) (jp r))))
theorem zOq {α:Type} [Inhabited α] {l:List α} {k j:Nat} (h:j<k):(l.take k).getD j dF=l.getD j dF:=by
 rw[List.getD_eq_getElem?_getD,List.getElem?_take_of_lt h,<-List.getD_eq_getElem?_getD]
theorem Xz (r:Rlm) (hr:FitR r):GC Tryz.prog 55 [rlG r] (iG (zDl r)):=by
 have hr1:=hr.bE
 have hr2:=hr.bB
 refine zA Tryz.func55 ?_
 refine gE [1,2] ?_
 refine zz 0 ?_
 refine gE [1,2,9] ?_
 refine zB ?_ ?_<;>intro c1<;>try simp only[toN]at c1
 ·refine gE [1,2] ?_
  refine gT ?_
  rw[zDl,iP c1];rfl
 refine gE [1,2,3] ?_
 refine zI (α:=Nat) (fun i=>i<=r.bE.length/\vP r 0=vP r i) (fun i=>[(3,iG i)]) (fun _=>[]) (fun i=>r.bE.length-i) 0 ⟨Nat.zero_le _,rfl⟩ ?_ (hp:=t42)
 rintro i ⟨hi,he⟩
 refine gE [1,2,3,14] ?_
 refine zB ?_ ?_<;>intro c2<;>try simp only[toN]at c2
 ·refine gE [1,2,3,4] ?_
  refine gR [.call (zw (r.bE.getD i dF).fr 0 ((r.bB.length:Int)-1)),.call (zw (r.bE.getD i dF).dst 0 ((r.bB.length:Int)-1)),.call (zw (r.bE.getD i dF).days 1 20000)] [1,2,3,4,45] ?_
  refine zF ?_ ?_<;>intro c3<;>try simp only[bb,toN]at c3
  ·refine gE [1,2,3,4] ?_
   refine gT ?_
   rw[zDl,iQ c1,he,vP,iP t11,iP (by rcases c3 with (h|h)|h<;>simp only[Xy,h,Bool.not_false,Bool.true_or,Bool.or_true])];rfl
  refine gE [1,2,3,4,5] ?_
  refine zI (α:=Nat) (fun k=>k<=i/\usI (r.bE.take i) (r.bE.getD i dF) 0=usI (r.bE.take i) (r.bE.getD i dF) k) (fun k=>[(5,iG k)]) (fun _=>[]) (fun k=>i-k) 0 ⟨Nat.zero_le _,rfl⟩ ?_ (hp:=t42)
  rintro k ⟨hk,hf⟩
  refine gE [1,2,3,4,5,48] ?_
  refine zB ?_ ?_<;>intro c4<;>try simp only[toN]at c4
  ·refine gE [1,2,3,4,5,70] ?_
   refine zF ?_ ?_<;>intro c5<;>try simp only[bb,toN]at c5
   ·refine gE [1,2,3,4,5] ?_
    refine gT ?_
    have hus:Xy r (r.bE.getD i dF)=false:=by rw[Xy,c3.1.1,c3.1.2,c3.2];rfl
    have hq:usI (r.bE.take i) (r.bE.getD i dF) 0=true:=by rw[hf,usI,iP t34,iP (by rw[zOq t11];simp only[HR,Bool.and_eq_true,decide_eq_true_eq];omega)]
    rw[zDl,iQ c1,he,vP,iP t11,iQ (by rw[hus];simp),iP hq];rfl
   refine gE [1,2,3,4,5] ?_
   refine zD (k+1) ?_ (hp:=t42)
   refine ⟨by omega,hf.trans ?_⟩
   rw[usI,iP t34,iQ (by rw[zOq t11];simp only[HR,Bool.and_eq_true,decide_eq_true_eq];omega)]
  refine gE [1,2,3] ?_
  refine zD (i+1) ?_ (hp:=t42)
  refine ⟨by omega,he.trans ?_⟩
  have hus:Xy r (r.bE.getD i dF)=false:=by rw[Xy,c3.1.1,c3.1.2,c3.2];rfl
  have hq:usI (r.bE.take i) (r.bE.getD i dF) 0=false:=by rw[hf,usI,iQ t34]
  rw[vP,iP t11,iQ (by rw[hus];simp),iQ (by rw[hq];simp)]
 refine gE [2] ?_
 refine gT ?_
 rw[zDl,iQ c1,he,vP,iQ t11];rfl
theorem qU (r:Rlm) (hr:FitR r):GC Tryz.prog 56 [rlG r] (iG (jp r)):=by
 have hr1:=hr.rates
 have hr2:=hr.halts
 have hr3:=hr.cur
 have hr4:=hr.bD
 refine zA Tryz.func56 ?_
 refine gE [1,2] ?_
 refine zz 0 ?_
 refine gE [1,2,10] ?_
 refine zB ?_ ?_<;>intro c1<;>try simp only[toN]at c1
 ·refine gE [1,2] ?_
  refine gT ?_
  rw[jp,iP c1];rfl
 refine gE [1,2,3] ?_
 refine zI (α:=Nat) (fun i=>i<=r.rates.length/\jK r 0=jK r i) (fun i=>[(3,iG i)]) (fun _=>[]) (fun i=>r.rates.length-i) 0 ⟨Nat.zero_le _,rfl⟩ ?_ (hp:=t42)
 rintro i ⟨hi,he⟩
 refine gE [1,2,3,15] ?_
 refine zB ?_ ?_<;>intro c2<;>try simp only[toN]at c2
 ·refine gE [1,2,3,4] ?_
  refine gR [.call (zw (r.rates.getD i dF).fr 0 ((r.bA.length:Int)-1)),.call (zw (r.rates.getD i dF).dst 0 ((r.bA.length:Int)-1))] [1,2,3,4,47] ?_
  refine zF ?_ ?_<;>intro c3<;>try simp only[bb,toN]at c3
  ·refine gE [1,2,3,4] ?_
   refine gT ?_
   have hx:Uc r (r.rates.getD i dF)=true:=by rcases c3 with (h|h)|h<;>simp only[Uc,h,decide_true,Bool.not_false,Bool.true_or,Bool.or_true]
   have hg:jK r 0=false:=by rw[he,jK,iP t11,iP hx]
   rw[jp,iQ c1,iQ (by rw[hg];simp)];rfl
  refine gR [.call (zw (r.rates.getD i dF).num 1 1073741824),.call (zw (r.rates.getD i dF).den 1 1073741824),.call (zw (r.rates.getD i dF).since 0 100000)] [1,2,3,63] ?_
  refine zF ?_ ?_<;>intro c4<;>try simp only[bb,toN]at c4
  ·refine gE [1,2,3] ?_
   refine gT ?_
   have hx:Uc r (r.rates.getD i dF)=true:=by rcases c4 with (h|h)|h<;>simp only[Uc,h,Bool.not_false,Bool.true_or,Bool.or_true]
   have hg:jK r 0=false:=by rw[he,jK,iP t11,iP hx]
   rw[jp,iQ c1,iQ (by rw[hg];simp)];rfl
  refine gE [1,2,3] ?_
  refine zD (i+1) ?_ (hp:=t42)
  refine ⟨by omega,he.trans ?_⟩
  have hx:Uc r (r.rates.getD i dF)=false:=by rw[Uc,c3.1.1,c3.1.2,decide_eq_false c3.2,c4.1.1,c4.1.2,c4.2];rfl
  rw[jK,iP t11,iQ (by rw[hx];simp)]
 refine gE [1,2,67] ?_
 refine zB ?_ ?_<;>intro c5<;>try simp only[toN]at c5
 ·refine gE [1,2] ?_
  refine gT ?_
  have hg:jK r 0=true:=by rw[he,jK,iQ t11]
  rw[jp,iQ c1,iP hg,iP t12];rfl
 refine gE [1,2,5] ?_
 refine zI (α:=Nat) (fun i=>i<=r.halts.length/\Wn r 0=Wn r i) (fun i=>[(5,iG i)]) (fun _=>[]) (fun i=>r.halts.length-i) 0 ⟨Nat.zero_le _,rfl⟩ ?_ (hp:=t42)
 rintro k ⟨hk,hf⟩
 refine gE [1,2,5,72] ?_
 refine zB ?_ ?_<;>intro c6<;>try simp only[toN]at c6
 ·refine gE [1,2,5,6] ?_
  refine gR [.call (zw (r.halts.getD k dF).ord 0 ((r.bD.length:Int)-1)),.call (zw (r.halts.getD k dF).fr 0 (r.halts.getD k dF).dst)] [1,2,5,100] ?_
  refine zF ?_ ?_<;>intro c7<;>try simp only[bb,toN]at c7
  ·refine gE [1,2,5] ?_
   refine gT ?_
   have hg:jK r 0=true:=by rw[he,jK,iQ t11]
   have hx:Um r (r.halts.getD k dF)=true:=by
    rcases c7 with (h|h)|h
    ·simp only[Um,h,Bool.not_false,Bool.true_or]
    ·simp only[Um,h,Bool.not_false,Bool.true_or,Bool.or_true]
    simp only[Um,decide_eq_true h,Bool.or_true]
   have hh:Wn r 0=false:=by rw[hf,Wn,iP t11,iP hx]
   rw[jp,iQ c1,iP hg,iQ t12,iQ (by rw[hh];simp)];rfl
  refine gE [1,2,5] ?_
  refine zD (k+1) ?_ (hp:=t42)
  have hx:Um r (r.halts.getD k dF)=false:=by rw[Um,c7.1.1,c7.1.2,decide_eq_false t11];rfl
  refine ⟨by omega,hf.trans ?_⟩
  rw[Wn,iP t11,iQ (by rw[hx];simp)]
 refine gE [2] ?_
 refine gT ?_
 have hg:jK r 0=true:=by rw[he,jK,iQ t11]
 have hh:Wn r 0=true:=by rw[hf,Wn,iQ t11]
 rw[jp,iQ c1,iP hg,iQ t12,iP hh];rfl
theorem Xo (r:Rlm) (hr:FitR r):GC Tryz.prog 21 [rlG r] (iG (ZS r)):=by
 refine zA Tryz.func21 ?_
 refine gE [1,2] ?_
 refine zz 0 ?_
 refine gR [.call (show GC Tryz.prog 52 [rlG r] (iG (HE r))from zGf r hr)] [1,2,3] ?_
 refine gE [1,2,3,7] ?_
 refine zB ?_ ?_<;>intro c1<;>try simp only[toN]at c1
 ·refine gR [.call (zNb r hr)] [1,2,3] ?_
  refine gE [1,2,3,11] ?_
  refine zB ?_ ?_<;>intro c2<;>try simp only[toN]at c2
  ·refine gR [.call (uO r hr)] [1,2,3] ?_
   refine gE [1,2,3,15] ?_
   refine zB ?_ ?_<;>intro c3<;>try simp only[toN]at c3
   ·refine gR [.call (Xz r hr)] [1,2,3] ?_
    refine gE [1,2,3,19] ?_
    refine zB ?_ ?_<;>intro c4<;>try simp only[toN]at c4
    ·refine gR [.call (qU r hr)] [2,3] ?_
     refine gE [2] ?_
     refine gT ?_
     first|contradiction|(simp only[yR,ZS,orE];simp[*])
    refine gE [2] ?_
    refine gT ?_
    first|contradiction|(simp only[yR,ZS,orE];simp[*])
   refine gE [1,2,3,19] ?_
   refine zB ?_ ?_<;>intro c5<;>try simp only[toN]at c5
   ·refine gR [.call (qU r hr)] [2,3] ?_
    refine gE [2] ?_
    refine gT ?_
    first|contradiction|(simp only[yR,ZS,orE];simp[*])
   refine gE [2] ?_
   refine gT ?_
   first|contradiction|(simp only[yR,ZS,orE];simp[*])
  refine gE [1,2,3,15] ?_
  refine zB ?_ ?_<;>intro c6<;>try simp only[toN]at c6
  ·refine gR [.call (Xz r hr)] [1,2,3] ?_
   refine gE [1,2,3,19] ?_
   refine zB ?_ ?_<;>intro c7<;>try simp only[toN]at c7
   ·refine gR [.call (qU r hr)] [2,3] ?_
    refine gE [2] ?_
    refine gT ?_
    first|contradiction|(simp only[yR,ZS,orE];simp[*])
   refine gE [2] ?_
   refine gT ?_
   first|contradiction|(simp only[yR,ZS,orE];simp[*])
  refine gE [1,2,3,19] ?_
  refine zB ?_ ?_<;>intro c8<;>try simp only[toN]at c8
  ·refine gR [.call (qU r hr)] [2,3] ?_
   refine gE [2] ?_
   refine gT ?_
   first|contradiction|(simp only[yR,ZS,orE];simp[*])
  refine gE [2] ?_
  refine gT ?_
  first|contradiction|(simp only[yR,ZS,orE];simp[*])
 refine gE [1,2,3,11] ?_
 refine zB ?_ ?_<;>intro c9<;>try simp only[toN]at c9
 ·refine gR [.call (uO r hr)] [1,2,3] ?_
  refine gE [1,2,3,15] ?_
  refine zB ?_ ?_<;>intro c10<;>try simp only[toN]at c10
  ·refine gR [.call (Xz r hr)] [1,2,3] ?_
   refine gE [1,2,3,19] ?_
   refine zB ?_ ?_<;>intro c11<;>try simp only[toN]at c11
   ·refine gR [.call (qU r hr)] [2,3] ?_
    refine gE [2] ?_
    refine gT ?_
    first|contradiction|(simp only[yR,ZS,orE];simp[*])
   refine gE [2] ?_
   refine gT ?_
   first|contradiction|(simp only[yR,ZS,orE];simp[*])
  refine gE [1,2,3,19] ?_
  refine zB ?_ ?_<;>intro c12<;>try simp only[toN]at c12
  ·refine gR [.call (qU r hr)] [2,3] ?_
   refine gE [2] ?_
   refine gT ?_
   first|contradiction|(simp only[yR,ZS,orE];simp[*])
  refine gE [2] ?_
  refine gT ?_
  first|contradiction|(simp only[yR,ZS,orE];simp[*])
 refine gE [1,2,3,15] ?_
 refine zB ?_ ?_<;>intro c13<;>try simp only[toN]at c13
 ·refine gR [.call (Xz r hr)] [1,2,3] ?_
  refine gE [1,2,3,19] ?_
  refine zB ?_ ?_<;>intro c14<;>try simp only[toN]at c14
  ·refine gR [.call (qU r hr)] [2,3] ?_
   refine gE [2] ?_
   refine gT ?_
   first|contradiction|(simp only[yR,ZS,orE];simp[*])
  refine gE [2] ?_
  refine gT ?_
  first|contradiction|(simp only[yR,ZS,orE];simp[*])
 refine gE [1,2,3,19] ?_
 refine zB ?_ ?_<;>intro c15<;>try simp only[toN]at c15
 ·refine gR [.call (qU r hr)] [2,3] ?_
  refine gE [2] ?_
  refine gT ?_
  first|contradiction|(simp only[yR,ZS,orE];simp[*])
 refine gE [2] ?_
 refine gT ?_
 first|contradiction|(simp only[yR,ZS,orE];simp[*])
theorem grF_p {l:List Int} {i:Nat} (h:i<l.length):grF l i=if wiV (l.getD i dF) 0 9=true then grF l (i+1)else false:=by rw[grF,iP h]
theorem zSh {l:List Int} {i:Nat} (h:i<l.length):yN l i=if inV (l.getD i dF) 10=true then yN l (i+1)else false:=by rw[yN,iP h]
theorem odF_p {l:List Cho} {i:Nat} (h:i<l.length):odF l i=if odB l i=true then false else odF l (i+1):=by rw[odF,iP h]
theorem ZEo {l:List Cho} {i:Nat} (h:i<l.length):wU l i=if inV (l.getD i dF).by_ 5=true then wU l (i+1)else false:=by rw[wU,iP h]
theorem zHy {l:List Int} {lo hi:Int} {i:Nat} (h:i<l.length):zj l lo hi i=if yh l lo hi i=true then false else zj l lo hi (i+1):=by rw[zj,iP h]
theorem ruF_p {l:List Rul} {i:Nat} (h:i<l.length):ruF l i=if ruB l i=true then false else ruF l (i+1):=by rw[ruF,iP h]
theorem ZBj {r:Rlm} {i:Nat} (h:i<r.bE.length):vP r i=if Xy r (r.bE.getD i dF)=true then 1 else if usI (r.bE.take i) (r.bE.getD i dF) 0=true then 5 else vP r (i+1):=by rw[vP,iP h]
theorem usF_p {r:Rlm} {i:Nat} (h:i<r.bE.length):usF r i=if Vs r (r.bE.getD i dF)=true then 1 else if usI (r.bE.take i) (r.bE.getD i dF) 0=true then 5 else usF r (i+1):=by rw[usF,iP h]
theorem ZBv {r:Rlm} {i:Nat} (h:i<r.rates.length):jK r i=if Uc r (r.rates.getD i dF)=true then false else jK r (i+1):=by rw[jK,iP h]
theorem rtF_p {r:Rlm} {i:Nat} (h:i<r.rates.length):rtF r i=if WX r (r.rates.getD i dF)=true then false else rtF r (i+1):=by rw[rtF,iP h]
theorem ZDn {r:Rlm} {i:Nat} (h:i<r.halts.length):Wn r i=if Um r (r.halts.getD i dF)=true then false else Wn r (i+1):=by rw[Wn,iP h]
theorem htF_p {r:Rlm} {i:Nat} (h:i<r.halts.length):htF r i=if Wo r (r.halts.getD i dF)=true then false else htF r (i+1):=by rw[htF,iP h]
theorem XI {l:List Int} {lo hi:Int} :∀(k i:Nat),l.length-i=k->zj l lo hi i=true->∀j,i<=j->j<l.length->lo<=l.getD j dF/\l.getD j dF<=hi:=by
 intro k
 induction k with
 |zero=>intro i hk h j h1 h2;omega
 |succ k ih=>
  intro i hk h j h1 h2
  rw[zj,iP t11]at h
  split at h
  ·cases h
  rename_i hb
  simp only[yh,Bool.or_eq_true,Bool.and_eq_true,decide_eq_true_eq]at hb
  by_cases e:j=i
  ·subst e;omega
  exact ih (i+1) t11 h j t11 h2
theorem uF {l:List Int} {lo hi lo' hi':Int} :∀(k i:Nat),l.length-i=k->zj l lo hi i=true->(∀j,i<=j->j<l.length->lo'<=l.getD j dF/\l.getD j dF<=hi')->zj l lo' hi' i=true:=by
 intro k
 induction k with
 |zero=>intro i hk h h2;rw[zj,iQ t11]
 |succ k ih=>
  intro i hk h h2
  rw[zj,iP t11]at h⊢
  split at h
  ·cases h
  rename_i hb
  have h3:=h2 i t11 t11
  rw[iQ (by simp only[yh,Bool.or_eq_true,Bool.and_eq_true,decide_eq_true_eq]at hb⊢;omega)]
  exact ih (i+1) t11 h fun j h1 h4=>h2 j t11 h4
theorem zBp {l:List Int} :∀(k i:Nat),l.length-i=k->(Wt l i=true↔∀j,i<=j->j<l.length->zFs (l.getD j dF)=false):=by
 intro k
 induction k with
 |zero=>intro i hk;rw[Wt,iQ t11];exact ⟨fun _ j h1 h2=>by omega,fun _=>rfl⟩
 |succ k ih=>
  intro i hk
  rw[Wt,iP t11]
  cases hb:zFs (l.getD i dF)with
  |true=>exact ⟨fun h=>by simp at h,fun h=>by rw[h i t11 t11]at hb;cases hb⟩
  |false=>
   rw[iQ t25,ih (i+1) t11]
   exact ⟨fun h j h1 h2=>by
    by_cases e:j=i
    ·subst e;exact hb
    exact h j t11 h2,fun h j h1 h2=>h j t11 h2⟩
theorem uy {l:List Int} :∀(k i:Nat),l.length-i=k->(qN l i=true↔∀j,i<=j->j<l.length->Jr (l.getD j dF)=false):=by
 intro k
 induction k with
 |zero=>intro i hk;rw[qN,iQ t11];exact ⟨fun _ j h1 h2=>by omega,fun _=>rfl⟩
 |succ k ih=>
  intro i hk
  rw[qN,iP t11]
  cases hb:Jr (l.getD i dF)with
  |true=>exact ⟨fun h=>by simp at h,fun h=>by rw[h i t11 t11]at hb;cases hb⟩
  |false=>
   rw[iQ t25,ih (i+1) t11]
   exact ⟨fun h j h1 h2=>by
    by_cases e:j=i
    ·subst e;exact hb
    exact h j t11 h2,fun h j h1 h2=>h j t11 h2⟩
theorem Vn {n:Int} (h0:0<=n) (h1:n<=2000):IntKind.i64.wrap n=n:=by
 have e:n % 18446744073709551616=n:=Int.emod_eq_of_lt h0 t11
 show (if (IntKind.i64.signed&&decide (n % 18446744073709551616≥9223372036854775808))=true then n % 18446744073709551616-18446744073709551616 else n % 18446744073709551616)=n
 rw[e,decide_eq_false t11,Bool.and_false,iQ t25]
theorem zOt {n:Int} (h:0<=n):n.tdiv 100=n/100/\n.tmod 100=n % 100:=⟨Int.tdiv_eq_ediv_of_nonneg h,Int.tmod_eq_emod_of_nonneg h⟩
theorem zTu (r:Rlm) (c:Cty):qC r c=ja r c:=by
 rw[Bool.eq_iff_iff]
 have key:(Wt c.feasts 0=true/\zj c.feasts 0 2000 0=true)↔(qN c.feasts 0=true/\zj c.feasts 101 1231 0=true):=by
  constructor
  ·rintro ⟨h1,h2⟩
   have a1:=(zBp _ 0 rfl).1 h1
   have a2:=XI _ 0 rfl h2
   have a3:∀j,0<=j->j<c.feasts.length->Jr (c.feasts.getD j dF)=false/\101<=c.feasts.getD j dF/\c.feasts.getD j dF<=1231:=fun j hj hl=>by
    have b1:=a1 j hj hl
    have b2:=a2 j hj hl
    obtain ⟨e1,e2⟩:=zOt b2.1
    simp only[zFs,e1,e2,Bool.or_eq_false_iff,Bool.not_eq_false']at b1
    rw[Vn t11 t11,ZJ,ZJ]at b1
    refine ⟨?_,by omega,by omega⟩
    simp only[Jr,e2,Bool.or_eq_false_iff,decide_eq_false_iff_not]
    omega
   exact ⟨(uy _ 0 rfl).2 fun j h h'=>(a3 j h h').1,uF _ 0 rfl h2 fun j h h'=>(a3 j h h').2⟩
  rintro ⟨h1,h2⟩
  have a1:=(uy _ 0 rfl).1 h1
  have a2:=XI _ 0 rfl h2
  refine ⟨(zBp _ 0 rfl).2 fun j h h'=> ?_,uF _ 0 rfl h2 fun j h h'=>by have:=a2 j h h';omega⟩
  have b1:=a1 j h h'
  have b2:=a2 j h h'
  obtain ⟨e1,e2⟩:=zOt (show 0<=c.feasts.getD j dF by omega)
  simp only[Jr,e2,Bool.or_eq_false_iff,decide_eq_false_iff_not]at b1
  simp only[zFs,e1,e2,Bool.or_eq_false_iff,Bool.not_eq_false']
  rw[Vn t11 t11,ZJ,ZJ]
  omega
 have h1:wiV c.ord 0 ((r.bD.length:Int)-1)=inV c.ord r.bD.length:=Vo
 have h2:wiV c.cur 0 ((r.bA.length:Int)-1)=inV c.cur r.bA.length:=Vo
 unfold qC ja vE
 rw[h1,h2]
 generalize inV c.ord r.bD.length=b1
 generalize inV c.cur r.bA.length=b2
 generalize decide ((60:Int)<c.feasts.length)=b3
 generalize decide ((200:Int)<c.shut.length)=b4
 generalize zj c.rest 0 6 0=q1
 generalize zj c.shut 0 100000 0=q2
 revert key
 generalize Wt c.feasts 0=p1
 generalize zj c.feasts 0 2000 0=p2
 generalize qN c.feasts 0=p3
 generalize zj c.feasts 101 1231 0=p4
 intro key
 cases b1<;>cases b2<;>cases b3<;>cases b4<;>cases p1<;>cases p2<;>cases p3<;>cases p4<;>first|(exfalso;revert key;decide)|(cases q1<;>cases q2<;>decide)
theorem zSy (r:Rlm) (f:Frm):jU r f=wj r f:=by rw[jU,wj,Vo,Vo]
theorem ZDv {l:List Int} :∀(k i:Nat),l.length-i=k->grF l i=yN l i:=by
 intro k
 induction k with
 |zero=>intro i hk;rw[grF,yN,iQ t11,iQ t11]
 |succ k ih=>intro i hk;rw[grF_p t11,zSh t11,ih (i+1) t11,zOg (m:=9) (n:=10) rfl]
theorem ZCk {l:List Cho} :∀(k i:Nat),l.length-i=k->odF l i=(wU l i&&zj (l.map fun c=>c.ask) 0 21 i):=by
 intro k
 induction k with
 |zero=>intro i hk;rw[odF,wU,zj,iQ t11,iQ t11,iQ t32];rfl
 |succ k ih=>
  intro i hk
  rw[odF_p t11,ZEo t11,zHy (l:=l.map fun c=>c.ask) t32,ih (i+1) t11]
  have hr:yh (l.map fun c=>c.ask) 0 21 i=(!wiV (l.getD i dF).ask 0 21||(decide ((0:Int)<i)&&decide ((l.getD i dF).ask<=(l.getD ((i:Int)-1).toNat dF).ask))):=by
   rw[yh,qJ t11,qJ t11,Bool.eq_iff_iff]
   simp only[wiV,Bool.or_eq_true,Bool.and_eq_true,Bool.not_eq_true',Bool.and_eq_false_iff,decide_eq_false_iff_not,decide_eq_true_eq]
   omega
  rw[hr,odB,zOg (m:=4) (n:=5) rfl]
  cases wiV (l.getD i dF).ask 0 21<;>cases inV (l.getD i dF).by_ 5<;>cases (decide ((0:Int)<i)&&decide ((l.getD i dF).ask<=(l.getD ((i:Int)-1).toNat dF).ask))<;>simp
theorem ZBt {l:List Rul} :∀(k i:Nat),l.length-i=k->ruF l i=zj (l.map fun c=>c.ask) 0 21 i:=by
 intro k
 induction k with
 |zero=>intro i hk;rw[ruF,zj,iQ t11,iQ t32]
 |succ k ih=>
  intro i hk
  rw[ruF_p t11,zHy (l:=l.map fun c=>c.ask) t32,ih (i+1) t11]
  have hr:yh (l.map fun c=>c.ask) 0 21 i=ruB l i:=by
   rw[yh,qJ t11,qJ t11,Bool.eq_iff_iff]
   simp only[ruB,wiV,Bool.or_eq_true,Bool.and_eq_true,Bool.not_eq_true',Bool.and_eq_false_iff,decide_eq_false_iff_not,decide_eq_true_eq]
   omega
  rw[hr]
theorem zKy (o:Od):yr o=qe o:=by
 rw[yr,qe,ZCk _ 0 rfl,ZBt _ 0 rfl]
 cases wU o.bL 0<;>cases zj (o.bL.map fun c=>c.ask) 0 21 0<;>simp
theorem ZBk (r:Rlm) (u:Us):Xy r u=Vs r u:=by
 rw[Bool.eq_iff_iff]
 simp only[Xy,Vs,Vo,Bool.or_eq_true,Bool.not_eq_true',decide_eq_true_eq]
 rw[zHg]
 grind
theorem ZBi {r:Rlm} :∀(k i:Nat),r.bE.length-i=k->vP r i=usF r i:=by
 intro k
 induction k with
 |zero=>intro i hk;rw[vP,usF,iQ t11,iQ t11]
 |succ k ih=>intro i hk;rw[ZBj t11,usF_p t11,ih (i+1) t11,ZBk]
theorem ZBw (r:Rlm) (x:Rt):Uc r x=WX r x:=by
 rw[Bool.eq_iff_iff]
 simp only[Uc,WX,Vo,inV,wiV,Bool.or_eq_true,Bool.not_eq_true',Bool.and_eq_false_iff,decide_eq_false_iff_not,decide_eq_true_eq]
 omega
theorem ZDo (r:Rlm) (x:Ht):Um r x=Wo r x:=by
 rw[Bool.eq_iff_iff]
 simp only[Um,Wo,Vo,inV,wiV,Bool.or_eq_true,Bool.not_eq_true',Bool.and_eq_false_iff,decide_eq_false_iff_not,decide_eq_true_eq]
 omega
theorem ZBu {r:Rlm} :∀(k i:Nat),r.rates.length-i=k->jK r i=rtF r i:=by
 intro k
 induction k with
 |zero=>intro i hk;rw[jK,rtF,iQ t11,iQ t11]
 |succ k ih=>intro i hk;rw[ZBv t11,rtF_p t11,ih (i+1) t11,ZBw]
theorem ZDm {r:Rlm} :∀(k i:Nat),r.halts.length-i=k->Wn r i=htF r i:=by
 intro k
 induction k with
 |zero=>intro i hk;rw[Wn,htF,iQ t11,iQ t11]
 |succ k ih=>intro i hk;rw[ZDn t11,htF_p t11,ih (i+1) t11,ZDo]
theorem zLa (a b c:Int):orE (orE a b) c=orE a (orE b c):=by
 unfold orE;split<;>simp_all
theorem XK (r:Rlm):ZS r=YO r:=by
 have e1:(fun i=>qC r (r.bB.getD i dF))=fun i=>ja r (r.bB.getD i dF):=funext fun i=>zTu _ _
 have e2:(fun i=>jU r (r.bC.getD i dF))=fun i=>wj r (r.bC.getD i dF):=funext fun i=>zSy _ _
 have e3:(fun i=>yr (r.bD.getD i dF))=fun i=>qe (r.bD.getD i dF):=funext fun i=>zKy _
 rw[ZS,HE,zLa,jw,jr,zDl,jp,YO,usE,WZ,e1,e2,e3,ZDv _ 0 rfl,ZBi _ 0 rfl,ZBu _ 0 rfl,ZDm _ 0 rfl]
 congr 2
 split
 ·rfl
 split
 ·rfl
 rfl
open Go.IntKind (i64)
def Vr (day:Int):Bool:=(bif decide (0<=day)then decide (day<=100000)else false)
theorem zJy (day:Int):GC Tryz.prog 87 [iG day] (bG (Vr day)):=by
 refine zA Tryz.func87 ?_
 refine gE [0,2] ?_
 refine gE [2] ?_
 refine gT ?_
 rw[Vr];rfl
def wZ (r:Rlm) (fr:Int) (dst:Int) (k1:Nat):Int×Int:=if k1<r.bE.length then if (bif decide (((r.bE.getD k1 dF).fr)=fr)then decide (((r.bE.getD k1 dF).dst)=dst)else false)=true then ((r.bE.getD k1 dF).days,0)else wZ r fr dst (k1+1)else (0,4)
termination_by r.bE.length-k1
def zDi (r:Rlm) (fr:Int) (dst:Int):Int×Int:=wZ r fr dst 0
theorem zDk (r:Rlm) (fr:Int) (dst:Int) (hr:FitR r):GC Tryz.prog 89 [rlG r,iG fr,iG dst] (.tup [iG ((zDi r fr dst).1),iG ((zDi r fr dst).2)]):=by
 have h1:=hr.bD
 have h2:=hr.bB
 have h3:=hr.bC
 have h5:=hr.bE
 have h6:=hr.cur
 refine zA Tryz.func89 ?_
 refine gE [1,2,3,6,7] ?_
 refine gE [1,2,3,6,7,8] ?_
 refine zI (α:=Nat) (fun x=>x<=r.bE.length/\wZ r fr dst 0=wZ r fr dst x) (fun x=>[(8,iG x)]) (fun x=>[]) (fun x=>r.bE.length-x) 0 ⟨by (try simp only[]);omega,rfl⟩ ?_ (hp:=t40)
 rintro k1 ⟨hi1,he⟩
 refine gE [1,2,3,6,7,8,13] ?_
 refine zB ?_ ?_<;>intro c1<;>try simp only[toN]at c1
 ·refine gE [1,2,3,6,7,8,33] ?_
  refine zF ?_ ?_<;>intro c2<;>try simp only[bb,toN]at c2
  ·refine gE [1,2,3,6,7,8] ?_
   refine gT ?_
   rw[zDi,he,wZ,iP t11,iP (by (try simp only[bb,toN]);exact c2)];rfl
  refine gE [1,2,3,6,7,8] ?_
  refine zD (k1+1) ?_ (hp:=t40)
  refine ⟨by (try simp only[]);omega,he.trans ?_⟩
  rw[wZ,iP t11,iN (by (try simp only[bb,toN]);exact c2)]
  try rfl
 refine gE [6,7] ?_
 refine gT ?_
 rw[zDi,he,wZ,iQ t11];rfl
def HK (n:Int) (len:Int):Bool:=(bif decide (0<=n)then decide (n<len)else false)
theorem wR (n:Int) (len:Int):GC Tryz.prog 85 [iG n,iG len] (bG (HK n len)):=by
 refine zA Tryz.func85 ?_
 refine gE [0,1,4] ?_
 refine gE [4] ?_
 refine gT ?_
 rw[HK];rfl
def uX (n:Int) (len:Int):Bool:=(bif decide (n=(-1))then true else (HK n len))
theorem XT (n:Int) (len:Int):GC Tryz.prog 86 [iG n,iG len] (bG (uX n len)):=by
 refine zA Tryz.func86 ?_
 refine gE [0,1,4] ?_
 refine gR [.call (wR n len)] [4] ?_
 refine gT ?_
 rw[uX];rfl
def WU (b:Bil):Bool:=if (bif decide (b.ten.kind=0)then true else decide (b.ten.kind=4))=true then (bif decide (b.ten.n=0)then decide (b.ten.unit=0)else false)else if (bif decide (b.ten.kind=1)then true else decide (b.ten.kind=2))=true then (bif (bif decide (1<=b.ten.n)then decide (b.ten.n<=400)else false)then (bif decide (b.ten.unit=0)then true else decide (b.ten.unit=1))else false)else (bif (bif (bif decide (b.ten.kind=3)then decide (b.day<=b.ten.n)else false)then decide (b.ten.n<=100000)else false)then decide (b.ten.unit=0)else false)
theorem zOs (b:Bil):GC Tryz.prog 88 [zCr b] (bG (WU b)):=by
 refine zA Tryz.func88 ?_
 refine gE [1,2] ?_
 refine gE [1,2,3] ?_
 refine gE [1,2,3,13] ?_
 refine zF ?_ ?_<;>intro c1<;>try simp only[bb,toN]at c1
 ·refine gE [1,2,3] ?_
  refine gT ?_
  rw[WU,iP (by (try simp only[bb,toN]);exact c1)];rfl
 refine gE [1,2,3,29] ?_
 refine zF ?_ ?_<;>intro c2<;>try simp only[bb,toN]at c2
 ·refine gE [1,2,3] ?_
  refine gT ?_
  rw[WU,iN (by (try simp only[bb,toN]);exact c1),iP (by (try simp only[bb,toN]);exact c2)];rfl
 refine gE [2] ?_
 refine gT ?_
 rw[WU,iN (by (try simp only[bb,toN]);exact c1),iN (by (try simp only[bb,toN]);exact c2)];rfl
def QU (r:Rlm) (b:Bil):Int:=if (ZS r)=0 then if (bif (bif (bif (bif (bif (bif (!(HK b.bP (r.bC.length:Int)))then true else (!(HK b.bO (r.bC.length:Int))))then true else (!(uX b.bQ (r.bC.length:Int))))then true else (!(uX b.need (r.bC.length:Int))))then true else (!(HK b.cur (r.bA.length:Int))))then true else (!(HK b.city (r.bB.length:Int))))then true else (!(HK b.pay (r.bB.length:Int))))=true then 1 else if (bif (bif (bif (bif decide (b.sum<1)then true else decide (1099511627776<b.sum))then true else (!(Vr b.day)))then true else decide (b.rate<0))then true else decide (1000<b.rate))=true then 3 else if (bif decide (b.parts<1)then true else decide (4<b.parts))=true then 15 else if (bif (bif (bif decide (b.flags<0)then true else decide (7<b.flags))then true else (bif decide (b.bQ=(-1))then (!decide ((YA .i64 b.flags 4)=0))else false))then true else (!(WU b)))=true then 2 else if b.ten.kind=4 then (zDi r b.city b.pay).2 else 0 else (ZS r)
theorem zTz (r:Rlm) (b:Bil) (hr:FitR r):GC Tryz.prog 57 [rlG r,zCr b] (iG (QU r b)):=by
 have h1:=hr.bD
 have h2:=hr.bB
 have h3:=hr.bC
 have h5:=hr.bE
 have h6:=hr.cur
 refine zA Tryz.func57 ?_
 refine gE [2,3,4] ?_
 refine gR [.call (Xo r hr)] [2,3,4,5] ?_
 refine gE [2,3,4,5,13] ?_
 refine zP ?_ ?_<;>intro c1<;>try simp only[toN]at c1
 ·refine gE [2,3,4] ?_
  refine gT ?_
  rw[QU,iQ c1];rfl
 refine gE [2,3,4,6] ?_
 refine gE [2,3,4,6,7] ?_
 refine gR [.call (wR b.bP (r.bC.length:Int)),.call (wR b.bO (r.bC.length:Int)),.call (XT b.bQ (r.bC.length:Int)),.call (XT b.need (r.bC.length:Int)),.call (wR b.cur (r.bA.length:Int)),.call (wR b.city (r.bB.length:Int)),.call (wR b.pay (r.bB.length:Int))] [2,3,4,69] ?_
 refine zF ?_ ?_<;>intro c2<;>try simp only[bb,toN]at c2
 ·refine gE [2,3,4] ?_
  refine gT ?_
  rw[QU,iP c1,iP (by (try simp only[bb,toN]);exact c2)];rfl
 refine gR [.call (zJy b.day)] [2,3,4,93] ?_
 refine zF ?_ ?_<;>intro c3<;>try simp only[bb,toN]at c3
 ·refine gE [2,3,4] ?_
  refine gT ?_
  rw[QU,iP c1,iN (by (try simp only[bb,toN]);exact c2),iP (by (try simp only[bb,toN]);exact c3)];rfl
 refine gE [2,3,4,101] ?_
 refine zF ?_ ?_<;>intro c4<;>try simp only[bb,toN]at c4
 ·refine gE [2,3,4] ?_
  refine gT ?_
  rw[QU,iP c1,iN (by (try simp only[bb,toN]);exact c2),iN (by (try simp only[bb,toN]);exact c3),iP (by (try simp only[bb,toN]);exact c4)];rfl
 refine gR [.call (zOs b)] [2,3,4,125] ?_
 refine zF ?_ ?_<;>intro c5<;>try simp only[bb,toN]at c5
 ·refine gE [2,3,4] ?_
  refine gT ?_
  rw[QU,iP c1,iN (by (try simp only[bb,toN]);exact c2),iN (by (try simp only[bb,toN]);exact c3),iN (by (try simp only[bb,toN]);exact c4),iP (by (try simp only[bb,toN]);exact c5)];rfl
 refine gE [2,3,4,129] ?_
 refine zP ?_ ?_<;>intro c6<;>try simp only[toN]at c6
 ·refine gE [2,3,4] ?_
  refine gT ?_
  rw[QU,iP c1,iN (by (try simp only[bb,toN]);exact c2),iN (by (try simp only[bb,toN]);exact c3),iN (by (try simp only[bb,toN]);exact c4),iN (by (try simp only[bb,toN]);exact c5),iQ c6];rfl
 refine gR [.call (zDk r b.city b.pay hr)] [4,9] ?_
 refine gE [4] ?_
 refine gT ?_
 rw[QU,iP c1,iN (by (try simp only[bb,toN]);exact c2),iN (by (try simp only[bb,toN]);exact c3),iN (by (try simp only[bb,toN]);exact c4),iN (by (try simp only[bb,toN]);exact c5),iP c6];rfl
def zEy (f:Fil) (i:Int) (part:Int):Bool:=(bif decide (i=0)then true else decide (((f.bF.getD i.toNat dF).part)=part))
theorem zIi (f:Fil) (i:Int) (part:Int) (hi:0<=i/\i<f.bF.length):GC Tryz.prog 132 [fiG f,iG i,iG part] (bG (zEy f i part)):=by
 refine zA Tryz.func132 ?_
 refine gE [1,2,3,6] ?_
 refine gE [6] ?_
 refine gT ?_
 rw[zEy];rfl
def Yu (f:Fil) (i:Int):Bool:=(bif (wiV ((f.bF.getD i.toNat dF).for_) 0 (i-1))then (zEy f ((f.bF.getD i.toNat dF).for_) ((f.bF.getD i.toNat dF).part))else false)
theorem UQ (f:Fil) (i:Int) (hF:FitFi f) (hi:0<=i/\i<f.bF.length):GC Tryz.prog 131 [fiG f,iG i] (bG (Yu f i)):=by
 have g1:=hF.bF
 have g2:=hF.bH
 have g3:=hF.acts
 have g4:=hF.facts
 refine zA Tryz.func131 ?_
 refine gS [] [1,2,4] ?_
 refine gS [] [1,2,4,5] ?_
 refine gS [.call (zw ((f.bF.getD i.toNat dF).for_) 0 (i-1)),.callq (Q:=0<=((f.bF.getD i.toNat dF).for_)/\((f.bF.getD i.toNat dF).for_)<(f.bF.length:Int)) (fun hq=>zIi f ((f.bF.getD i.toNat dF).for_) ((f.bF.getD i.toNat dF).part) hq)] [4] ?_
 refine gT ?_
 rw[Yu];rfl
theorem jd {f:Fil} {i:Int} (hi:0<=i/\i<f.bF.length) (h:Yu f i=true):0<=(f.bF.getD i.toNat dF).for_/\(f.bF.getD i.toNat dF).for_<i:=by
 unfold Yu at h
 simp only[bb,ZJ]at h
 omega
def Yp (r:Rlm) (f:Fil) (i:Int):Bool:=if ((f.bF.getD i.toNat dF).kind)=0 then (bif (bif (bif (bif (bif (bif (bif decide (i=0)then decide (((f.bF.getD i.toNat dF).who)=f.bill.bP)else false)then decide (((f.bF.getD i.toNat dF).for_)=(-1))else false)then decide (((f.bF.getD i.toNat dF).to_)=(-1))else false)then decide (((f.bF.getD i.toNat dF).sum)=0)else false)then (bif decide (((f.bF.getD i.toNat dF).flags)=0)then true else decide (((f.bF.getD i.toNat dF).flags)=1))else false)then decide (((f.bF.getD i.toNat dF).part)=0)else false)then decide (((f.bF.getD i.toNat dF).city)=f.bill.city)else false)else if ((f.bF.getD i.toNat dF).kind)=1 then (bif (bif (bif (bif (bif decide (0<i)then decide (((f.bF.getD i.toNat dF).who)=f.bill.bO)else false)then decide (((f.bF.getD i.toNat dF).for_)=(-1))else false)then decide (((f.bF.getD i.toNat dF).to_)=(-1))else false)then (wiV ((f.bF.getD i.toNat dF).sum) 1 1099511627776)else false)then decide (((f.bF.getD i.toNat dF).flags)=0)else false)else if ((f.bF.getD i.toNat dF).kind)=2 then (bif (bif (bif (bif (bif decide (0<i)then decide (((f.bF.getD i.toNat dF).for_)=(-1))else false)then (wiV ((f.bF.getD i.toNat dF).to_) (-1) (i64.wrap ((r.bC.length:Int)-1)))else false)then decide (((f.bF.getD i.toNat dF).sum)=0)else false)then (wiV ((f.bF.getD i.toNat dF).flags) 0 7)else false)then (!(bif decide (((i64.wrap (((f.bF.getD i.toNat dF).flags).tdiv 2)).tmod 2)=1)then decide (((i64.wrap (((f.bF.getD i.toNat dF).flags).tdiv 4)).tmod 2)=1)else false))else false)else if ((f.bF.getD i.toNat dF).kind)=3 then if (bif (bif (bif (bif decide (i=0)then true else (!decide (((f.bF.getD i.toNat dF).to_)=(-1))))then true else (!decide (((f.bF.getD i.toNat dF).sum)=0)))then true else (!decide (((f.bF.getD i.toNat dF).flags)=0)))then true else (!(Yu f i)))=true then false else (!decide (((f.bF.getD (((f.bF.getD i.toNat dF).for_).toNat) dF).kind)=3))else if ((f.bF.getD i.toNat dF).kind)=4 then if (bif (bif (bif (bif (bif decide (i=0)then true else (!decide (((f.bF.getD i.toNat dF).to_)=(-1))))then true else (!(wiV ((f.bF.getD i.toNat dF).sum) 1 1099511627776)))then true else (!decide (((f.bF.getD i.toNat dF).flags)=0)))then true else decide (((f.bF.getD i.toNat dF).who)=f.bill.bO))then true else (!(Yu f i)))=true then false else (bif decide (((f.bF.getD (((f.bF.getD i.toNat dF).for_).toNat) dF).kind)=0)then true else decide (((f.bF.getD (((f.bF.getD i.toNat dF).for_).toNat) dF).kind)=2))else false
theorem zNa (r:Rlm) (f:Fil) (i:Int) (hr:FitR r) (hF:FitFi f) (hi:0<=i/\i<f.bF.length):GC Tryz.prog 90 [rlG r,fiG f,iG i] (bG (Yp r f i)):=by
 have h1:=hr.bD
 have h2:=hr.bB
 have h3:=hr.bC
 have h5:=hr.bE
 have h6:=hr.cur
 have g1:=hF.bF
 have g2:=hF.bH
 have g3:=hF.acts
 have g4:=hF.facts
 refine zA Tryz.func90 ?_
 refine gS [] [2,3,4,6] ?_
 refine gS [] [2,3,4,6,7] ?_
 refine gS [.call (zw ((f.bF.getD i.toNat dF).sum) 1 1099511627776)] [2,3,4,6,7,8] ?_
 refine gS [] [2,3,4,6,7,8,20] ?_
 refine gS [] [2,3,4,6,7,8,20,21] ?_
 refine zB ?_ ?_<;>intro c1<;>try simp only[toN]at c1
 ·refine gS [] [6] ?_
  refine gT ?_
  rw[Yp,iP c1];rfl
 refine gS [] [2,3,4,6,7,8,20,71] ?_
 refine zB ?_ ?_<;>intro c2<;>try simp only[toN]at c2
 ·refine gS [] [6] ?_
  refine gT ?_
  rw[Yp,iQ c1,iP c2];rfl
 refine gS [] [2,3,4,6,7,8,20,101] ?_
 refine zB ?_ ?_<;>intro c3<;>try simp only[toN]at c3
 ·refine zG env true [] [2,3,6,7,9] ?_ (hp:=t13)
  refine zG env true [] [2,3,6,7,9,10] ?_ (hp:=t13)
  refine zG env true [.call (zw ((f.bF.getD i.toNat dF).to_) (-1) (i64.wrap ((r.bC.length:Int)-1))),.call (zw ((f.bF.getD i.toNat dF).flags) 0 7)] [6] ?_ (hp:=t13)
  refine gT ?_
  rw[Yp,iQ c1,iQ c2,iP c3];rfl
 refine gS [] [2,4,6,7,8,20,146] ?_
 refine zB ?_ ?_<;>intro c4<;>try simp only[toN]at c4
 ·refine gS [.call (UQ f i hF t12)] [4,6,7,170] ?_
  refine zF ?_ ?_<;>intro c5<;>try simp only[bb,toN]at c5
  ·refine gS [] [4,6,7] ?_
   refine gT ?_
   rw[Yp,iQ c1,iQ c2,iQ c3,iP c4,iP (by (try simp only[bb,toN]);exact c5)];rfl
  have hb:=jd hi c5.2
  refine gS [] [6] ?_
  refine gT ?_
  rw[Yp,iQ c1,iQ c2,iQ c3,iP c4,iN (by (try simp only[bb,toN]);exact c5)];rfl
 refine gS [] [2,4,6,7,8,179] ?_
 refine zB ?_ ?_<;>intro c6<;>try simp only[toN]at c6
 ·refine gS [.call (UQ f i hF t12)] [4,6,7,210] ?_
  refine zF ?_ ?_<;>intro c7<;>try simp only[bb,toN]at c7
  ·refine gS [] [4,6,7] ?_
   refine gT ?_
   rw[Yp,iQ c1,iQ c2,iQ c3,iQ c4,iP c6,iP (by (try simp only[bb,toN]);exact c7)];rfl
  have hb:=jd hi c7.2
  refine gS [] [6] ?_
  refine gT ?_
  rw[Yp,iQ c1,iQ c2,iQ c3,iQ c4,iP c6,iN (by (try simp only[bb,toN]);exact c7)];rfl
 refine gS [] [6] ?_
 refine gT ?_
 rw[Yp,iQ c1,iQ c2,iQ c3,iQ c4,iQ c6];rfl
def qp (r:Rlm) (f:Fil) (i:Int) (j6_1:Int) (k1:Nat):Int:=if (bif decide ((k1:Int)<i)then decide (((f.bF.getD i.toNat dF).kind)=1)else false)=true then if (bif decide (((f.bF.getD k1 dF).kind)=1)then decide (((f.bF.getD k1 dF).part)=((f.bF.getD i.toNat dF).part))else false)=true then 5 else qp r f i j6_1 (k1+1)else 0
termination_by i.toNat-k1
decreasing_by all_goals first|omega|(simp only[bb]at*;omega)
def yg (r:Rlm) (f:Fil) (i:Int) (j6_1:Int):Int:=if (!(Yp r f i))=true then 14 else qp r f i j6_1 0
def Yi (r:Rlm) (f:Fil) (i:Int):Int:=if (!(wiV ((f.bF.getD i.toNat dF).part) 0 (i64.wrap (f.bill.parts-1))))=true then 15 else if (bif (!(wiV ((f.bF.getD i.toNat dF).who) 0 (i64.wrap ((r.bC.length:Int)-1))))then true else (!(wiV ((f.bF.getD i.toNat dF).city) 0 (i64.wrap ((r.bB.length:Int)-1)))))=true then 1 else if (bif (bif decide (i=0)then (!decide (((f.bF.getD i.toNat dF).day)=f.bill.day))else false)then true else decide (100000<((f.bF.getD i.toNat dF).day)))=true then 13 else if 0<i then if ((f.bF.getD i.toNat dF).day)<((f.bF.getD ((i-1).toNat) dF).day)then 13 else yg r f i 0 else yg r f i 0
theorem zKe (r:Rlm) (f:Fil) (i:Int) (hr:FitR r) (hF:FitFi f) (hi:0<=i/\i<f.bF.length):GC Tryz.prog 58 [rlG r,fiG f,iG i] (iG (Yi r f i)):=by
 have h1:=hr.bD
 have h2:=hr.bB
 have h3:=hr.bC
 have h5:=hr.bE
 have h6:=hr.cur
 have g1:=hF.bF
 have g2:=hF.bH
 have g3:=hF.acts
 have g4:=hF.facts
 refine zA Tryz.func58 ?_
 refine gS [] [2,3,4,6] ?_
 refine gS [] [2,3,4,6,7] ?_
 refine zG env true [.call (zw ((f.bF.getD i.toNat dF).part) 0 (i64.wrap (f.bill.parts-1)))] [2,3,4,6,7,21] ?_ (hp:=t13)
 refine zF ?_ ?_<;>intro c1<;>try simp only[bb,toN]at c1
 ·refine gS [] [2,3,4,6,7] ?_
  refine gT ?_
  rw[Yi,iP (by (try simp only[bb,toN]);exact c1)];rfl
 refine zG env true [.call (zw ((f.bF.getD i.toNat dF).who) 0 (i64.wrap ((r.bC.length:Int)-1))),.call (zw ((f.bF.getD i.toNat dF).city) 0 (i64.wrap ((r.bB.length:Int)-1)))] [2,3,4,6,7,39] ?_ (hp:=t13)
 refine zF ?_ ?_<;>intro c2<;>try simp only[bb,toN]at c2
 ·refine gS [] [2,3,4,6,7] ?_
  refine gT ?_
  rw[Yi,iN (by (try simp only[bb,toN]);exact c1),iP (by (try simp only[bb,toN]);exact c2)];rfl
 refine gS [] [2,3,4,6,7,54] ?_
 refine zF ?_ ?_<;>intro c3<;>try simp only[bb,toN]at c3
 ·refine gS [] [2,3,4,6,7] ?_
  refine gT ?_
  rw[Yi,iN (by (try simp only[bb,toN]);exact c1),iN (by (try simp only[bb,toN]);exact c2),iP (by (try simp only[bb,toN]);exact c3)];rfl
 refine gS [] [2,3,4,6,7,56] ?_
 refine yO (α:=Int) (fun x=>Yi r f i=yg r f i x) (fun x=>⟨[(2,iG i),(3,.ptr 0 0 0 0),(4,.ptr 1 0 0 0),(6,iG x),(7,.ptr 2 0 0 0)],[(0,some (.box [.d (.row dF zf r.bA),.d (.row dF ctC r.bB),.d (.row dF inC r.groups),.d (.row dF fmC r.bC),.d (.row dF odC r.bD),.d (.row dF usC r.bE),.d (.row dF rtC r.rates),.d (.row dF htC r.halts)])),(1,some (.box [iG f.bill.bP,iG f.bill.bO,iG f.bill.bQ,iG f.bill.sum,iG f.bill.cur,iG f.bill.ten.kind,iG f.bill.ten.n,iG f.bill.ten.unit,iG f.bill.day,iG f.bill.city,iG f.bill.pay,iG f.bill.need,iG f.bill.rate,iG f.bill.flags,iG f.bill.parts,.d (.row dF sgC f.bF),.d (.row dF alC f.bH),.d (.row dF acC f.acts),.d (.row dF fcC f.facts)])),(2,some (.box [iG ((f.bF.getD i.toNat dF).kind),iG ((f.bF.getD i.toNat dF).part),iG ((f.bF.getD i.toNat dF).who),iG ((f.bF.getD i.toNat dF).for_),iG ((f.bF.getD i.toNat dF).to_),iG ((f.bF.getD i.toNat dF).sum),iG ((f.bF.getD i.toNat dF).day),iG ((f.bF.getD i.toNat dF).city),iG ((f.bF.getD i.toNat dF).flags)]))],3⟩) ?_ ?_
 ·rintro j6_1 hjc1
  refine gS [.call (zNa r f i hr hF t12)] [2,4,6,7,71] ?_
  refine zF ?_ ?_<;>intro c4<;>try simp only[bb,toN]at c4
  ·refine gS [] [2,4,6,7] ?_
   refine gT ?_
   rw[hjc1,yg,iP (by (try simp only[bb,toN]);exact c4)];rfl
  refine gS [] [2,4,6,7,8] ?_
  refine zI (α:=Nat) (fun x=>x<=i.toNat/\qp r f i j6_1 0=qp r f i j6_1 x) (fun x=>[(8,iG x)]) (fun x=>[]) (fun x=>i.toNat-x) 0 ⟨by (try simp only[]);omega,rfl⟩ ?_ (hp:=t40)
  rintro k1 ⟨hi1,he⟩
  refine gS [] [2,4,6,7,8,79] ?_
  refine zF ?_ ?_<;>intro c5<;>try simp only[bb,toN]at c5
  ·refine gS [] [2,4,6,7,8,99] ?_
   refine zF ?_ ?_<;>intro c6<;>try simp only[bb,toN]at c6
   ·refine gS [] [2,4,6,7,8] ?_
    refine gT ?_
    rw[hjc1,yg,iN (by (try simp only[bb,toN]);exact c4),he,qp,iP (by (try simp only[bb,toN]);exact c5),iP (by (try simp only[bb,toN]);exact c6)];rfl
   refine gS [] [2,4,6,7,8] ?_
   refine zD (k1+1) ?_ (hp:=t40)
   refine ⟨by (try simp only[]);omega,he.trans ?_⟩
   rw[qp,iP (by (try simp only[bb,toN]);exact c5),iN (by (try simp only[bb,toN]);exact c6)]
   try rfl
  refine gS [] [6] ?_
  refine gT ?_
  rw[hjc1,yg,iN (by (try simp only[bb,toN]);exact c4),he,qp,iN (by (try simp only[bb,toN]);exact c5)];rfl
 refine zB ?_ ?_<;>intro c7<;>try simp only[toN]at c7
 ·refine gS [] [2,3,4,6,7,66] ?_
  refine zB ?_ ?_<;>intro c8<;>try simp only[toN]at c8
  ·refine gS [] [2,3,4,6,7] ?_
   refine gT ?_
   rw[Yi,iN (by (try simp only[bb,toN]);exact c1),iN (by (try simp only[bb,toN]);exact c2),iN (by (try simp only[bb,toN]);exact c3),iP c7,iP c8];rfl
  refine zV (0) ?_ (hp:=t40)
  exact by rw[Yi,iN (by (try simp only[bb,toN]);exact c1),iN (by (try simp only[bb,toN]);exact c2),iN (by (try simp only[bb,toN]);exact c3),iP c7,iQ c8]
 refine zV (0) ?_ (hp:=t40)
 exact by rw[Yi,iN (by (try simp only[bb,toN]);exact c1),iN (by (try simp only[bb,toN]);exact c2),iN (by (try simp only[bb,toN]);exact c3),iQ c7]
def ZA (r:Rlm) (f:Fil) (a:Act) (j9_1:Bool) (j10_2:Bool) (j56_3:Bool) (j76_4:Bool):Bool:=if j76_4=true then (bif (bif (bif (wiV a.to_ 0 ((r.bC.length:Int)-1))then decide (a.at_=(-1))else false)then (wiV a.sum 0 1099511627776)else false)then decide (a.form=0)else false)else if a.kind=4 then (bif (bif (bif (wiV a.to_ 0 ((r.bC.length:Int)-1))then decide (a.at_=(-1))else false)then (wiV a.sum 0 1099511627776)else false)then (bif decide (a.form=0)then true else decide (a.form=1))else false)else if a.kind=6 then (bif (bif (bif (bif (wiV a.to_ 0 ((r.bC.length:Int)-1))then j10_2 else false)then (wiV a.sum 0 1099511627776)else false)then decide (0<a.sum)else false)then decide (a.form=0)else false)else if a.kind=9 then (bif (bif (bif decide (a.to_=(-1))then j10_2 else false)then decide (a.sum=0)else false)then decide (a.form=0)else false)else if a.kind=7 then (bif (bif (bif decide (a.to_=(-1))then j9_1 else false)then decide (a.sum=0)else false)then decide (a.form=0)else false)else if a.kind=8 then (bif (bif (bif decide (a.to_=(-1))then j9_1 else false)then decide (a.sum=0)else false)then decide (a.form=0)else false)else false
def Zh (r:Rlm) (f:Fil) (a:Act) (j9_1:Bool) (j10_2:Bool) (j56_3:Bool):Bool:=if j56_3=true then (bif (bif (bif (wiV a.to_ 0 ((r.bC.length:Int)-1))then decide (a.at_=(-1))else false)then decide (a.sum=0)else false)then decide (a.form=0)else false)else if a.kind=3 then ZA r f a j9_1 j10_2 j56_3 (decide (a.kind=3))else ZA r f a j9_1 j10_2 j56_3 (decide (a.kind=5))
def Zi (r:Rlm) (f:Fil) (a:Act) (j9_1:Bool) (j10_2:Bool):Bool:=if a.kind=0 then Zh r f a j9_1 j10_2 (decide (a.kind=0))else if a.kind=1 then Zh r f a j9_1 j10_2 (decide (a.kind=1))else Zh r f a j9_1 j10_2 (decide (a.kind=2))
def Zv (r:Rlm) (f:Fil) (a:Act) (j9_1:Bool):Bool:=if j9_1=true then Zi r f a j9_1 (decide (((f.bF.getD a.at_.toNat dF).who)=a.who))else Zi r f a j9_1 false
def Zy (r:Rlm) (f:Fil) (a:Act):Bool:=if (!(wiV a.who 0 ((r.bC.length:Int)-1)))=true then false else if (wiV a.at_ 0 ((f.bF.length:Int)-1))=true then Zv r f a (zEy f a.at_ a.part)else Zv r f a (wiV a.at_ 0 ((f.bF.length:Int)-1))
theorem zHb (r:Rlm) (f:Fil) (a:Act) (hr:FitR r) (hF:FitFi f):GC Tryz.prog 91 [rlG r,fiG f,acG a] (bG (Zy r f a)):=by
 have h1:=hr.bD
 have h2:=hr.bB
 have h3:=hr.bC
 have h5:=hr.bE
 have h6:=hr.cur
 have g1:=hF.bF
 have g2:=hF.bH
 have g3:=hF.acts
 have g4:=hF.facts
 refine zA Tryz.func91 ?_
 refine gS [] [3,4,5,6] ?_
 refine gS [.call (zw a.who 0 ((r.bC.length:Int)-1))] [3,4,5,6,18] ?_
 refine zF ?_ ?_<;>intro c1<;>try simp only[bb,toN]at c1
 ·refine gS [] [3,4,5,6] ?_
  refine gT ?_
  rw[Zy,iP (by (try simp only[bb,toN]);exact c1)];rfl
 refine gS [.call (zw a.to_ 0 ((r.bC.length:Int)-1))] [4,5,6,7] ?_
 refine gS [.call (zw a.sum 0 1099511627776)] [4,5,6,7,8] ?_
 refine gS [.call (zw a.at_ 0 ((f.bF.length:Int)-1))] [4,5,6,7,8,9] ?_
 refine gS [] [4,5,6,7,8,9,36] ?_
 refine yO (α:=Bool) (fun x=>Zy r f a=Zv r f a x/\(fun b=>b=true->0<=a.at_/\a.at_<f.bF.length) x) (fun x=>⟨[(4,.ptr 1 0 0 0),(5,.ptr 2 0 0 0),(6,bG false),(7,bG (wiV a.to_ 0 ((r.bC.length:Int)-1))),(8,bG (wiV a.sum 0 1099511627776)),(9,bG x)],[(0,some (.box [.d (.row dF zf r.bA),.d (.row dF ctC r.bB),.d (.row dF inC r.groups),.d (.row dF fmC r.bC),.d (.row dF odC r.bD),.d (.row dF usC r.bE),.d (.row dF rtC r.rates),.d (.row dF htC r.halts)])),(1,some (.box [iG f.bill.bP,iG f.bill.bO,iG f.bill.bQ,iG f.bill.sum,iG f.bill.cur,iG f.bill.ten.kind,iG f.bill.ten.n,iG f.bill.ten.unit,iG f.bill.day,iG f.bill.city,iG f.bill.pay,iG f.bill.need,iG f.bill.rate,iG f.bill.flags,iG f.bill.parts,.d (.row dF sgC f.bF),.d (.row dF alC f.bH),.d (.row dF acC f.acts),.d (.row dF fcC f.facts)])),(2,some (.box [iG a.kind,iG a.who,iG a.to_,iG a.part,iG a.at_,iG a.sum,iG a.day,iG a.city,iG a.form]))],3⟩) ?_ ?_
 ·rintro j9_1 ⟨hjc1,hxc1⟩
  refine gS [] [4,5,6,7,8,9,10] ?_
  refine gS [] [4,5,6,7,8,9,10,43] ?_
  refine yO (α:=Bool) (fun x=>Zy r f a=Zi r f a j9_1 x) (fun x=>⟨[(5,.ptr 2 0 0 0),(6,bG false),(7,bG (wiV a.to_ 0 ((r.bC.length:Int)-1))),(8,bG (wiV a.sum 0 1099511627776)),(9,bG j9_1),(10,bG x)],[(0,some (.box [.d (.row dF zf r.bA),.d (.row dF ctC r.bB),.d (.row dF inC r.groups),.d (.row dF fmC r.bC),.d (.row dF odC r.bD),.d (.row dF usC r.bE),.d (.row dF rtC r.rates),.d (.row dF htC r.halts)])),(1,some (.box [iG f.bill.bP,iG f.bill.bO,iG f.bill.bQ,iG f.bill.sum,iG f.bill.cur,iG f.bill.ten.kind,iG f.bill.ten.n,iG f.bill.ten.unit,iG f.bill.day,iG f.bill.city,iG f.bill.pay,iG f.bill.need,iG f.bill.rate,iG f.bill.flags,iG f.bill.parts,.d (.row dF sgC f.bF),.d (.row dF alC f.bH),.d (.row dF acC f.acts),.d (.row dF fcC f.facts)])),(2,some (.box [iG a.kind,iG a.who,iG a.to_,iG a.part,iG a.at_,iG a.sum,iG a.day,iG a.city,iG a.form]))],3⟩) ?_ ?_
  ·rintro j10_2 hjc2
   refine gS [] [5,6,7,8,9,10,55] ?_
   refine gS [] [5,6,7,8,9,10,55,56] ?_
   refine yO (α:=Bool) (fun x=>Zy r f a=Zh r f a j9_1 j10_2 x) (fun x=>⟨[(5,.ptr 2 0 0 0),(6,bG false),(7,bG (wiV a.to_ 0 ((r.bC.length:Int)-1))),(8,bG (wiV a.sum 0 1099511627776)),(9,bG j9_1),(10,bG j10_2),(55,iG a.kind),(56,bG x)],[(0,some (.box [.d (.row dF zf r.bA),.d (.row dF ctC r.bB),.d (.row dF inC r.groups),.d (.row dF fmC r.bC),.d (.row dF odC r.bD),.d (.row dF usC r.bE),.d (.row dF rtC r.rates),.d (.row dF htC r.halts)])),(1,some (.box [iG f.bill.bP,iG f.bill.bO,iG f.bill.bQ,iG f.bill.sum,iG f.bill.cur,iG f.bill.ten.kind,iG f.bill.ten.n,iG f.bill.ten.unit,iG f.bill.day,iG f.bill.city,iG f.bill.pay,iG f.bill.need,iG f.bill.rate,iG f.bill.flags,iG f.bill.parts,.d (.row dF sgC f.bF),.d (.row dF alC f.bH),.d (.row dF acC f.acts),.d (.row dF fcC f.facts)])),(2,some (.box [iG a.kind,iG a.who,iG a.to_,iG a.part,iG a.at_,iG a.sum,iG a.day,iG a.city,iG a.form]))],3⟩) ?_ ?_
   ·rintro j56_3 hjc3
    refine zF ?_ ?_<;>intro c2<;>try simp only[bb,toN]at c2
    ·refine gS [] [6] ?_
     refine gT ?_
     rw[hjc3,Zh,iP (by (try simp only[bb,toN]);exact c2)];rfl
    refine gS [] [5,6,7,8,9,10,55,76] ?_
    refine yO (α:=Bool) (fun x=>Zy r f a=ZA r f a j9_1 j10_2 j56_3 x) (fun x=>⟨[(5,.ptr 2 0 0 0),(6,bG false),(7,bG (wiV a.to_ 0 ((r.bC.length:Int)-1))),(8,bG (wiV a.sum 0 1099511627776)),(9,bG j9_1),(10,bG j10_2),(55,iG a.kind),(76,bG x)],[(0,some (.box [.d (.row dF zf r.bA),.d (.row dF ctC r.bB),.d (.row dF inC r.groups),.d (.row dF fmC r.bC),.d (.row dF odC r.bD),.d (.row dF usC r.bE),.d (.row dF rtC r.rates),.d (.row dF htC r.halts)])),(1,some (.box [iG f.bill.bP,iG f.bill.bO,iG f.bill.bQ,iG f.bill.sum,iG f.bill.cur,iG f.bill.ten.kind,iG f.bill.ten.n,iG f.bill.ten.unit,iG f.bill.day,iG f.bill.city,iG f.bill.pay,iG f.bill.need,iG f.bill.rate,iG f.bill.flags,iG f.bill.parts,.d (.row dF sgC f.bF),.d (.row dF alC f.bH),.d (.row dF acC f.acts),.d (.row dF fcC f.facts)])),(2,some (.box [iG a.kind,iG a.who,iG a.to_,iG a.part,iG a.at_,iG a.sum,iG a.day,iG a.city,iG a.form]))],3⟩) ?_ ?_
    ·rintro j76_4 hjc4
     refine zF ?_ ?_<;>intro c3<;>try simp only[bb,toN]at c3
     ·refine gS [] [6] ?_
      refine gT ?_
      rw[hjc4,ZA,iP (by (try simp only[bb,toN]);exact c3)];rfl
     refine gS [] [5,6,7,8,9,10,55,93] ?_
     refine zB ?_ ?_<;>intro c4<;>try simp only[toN]at c4
     ·refine gS [] [6] ?_
      refine gT ?_
      rw[hjc4,ZA,iN (by (try simp only[bb,toN]);exact c3),iP c4];rfl
     refine gS [] [5,6,7,8,9,10,55,114] ?_
     refine zB ?_ ?_<;>intro c5<;>try simp only[toN]at c5
     ·refine gS [] [6] ?_
      refine gT ?_
      rw[hjc4,ZA,iN (by (try simp only[bb,toN]);exact c3),iQ c4,iP c5];rfl
     refine gS [] [5,6,9,10,55,133] ?_
     refine zB ?_ ?_<;>intro c6<;>try simp only[toN]at c6
     ·refine gS [] [6] ?_
      refine gT ?_
      rw[hjc4,ZA,iN (by (try simp only[bb,toN]);exact c3),iQ c4,iQ c5,iP c6];rfl
     refine gS [] [5,6,9,55,151] ?_
     refine zB ?_ ?_<;>intro c7<;>try simp only[toN]at c7
     ·refine zB ?_ ?_<;>intro c8<;>try simp only[toN]at c8
      ·refine gS [] [6] ?_
       refine gT ?_
       rw[hjc4,ZA,iN (by (try simp only[bb,toN]);exact c3),iQ c4,iQ c5,iQ c6,iP c7];rfl
      exact absurd c7 c8
     refine gS [] [5,6,9,151] ?_
     refine zB ?_ ?_<;>intro c9<;>try simp only[toN]at c9
     ·refine gS [] [6] ?_
      refine gT ?_
      rw[hjc4,ZA,iN (by (try simp only[bb,toN]);exact c3),iQ c4,iQ c5,iQ c6,iQ c7,iP c9];rfl
     refine gS [] [6] ?_
     refine gT ?_
     rw[hjc4,ZA,iN (by (try simp only[bb,toN]);exact c3),iQ c4,iQ c5,iQ c6,iQ c7,iQ c9];rfl
    refine zB ?_ ?_<;>intro c10<;>try simp only[toN]at c10
    ·refine zV (decide (a.kind=3)) ?_ (hp:=t40)
     exact by rw[hjc3,Zh,iN (by (try simp only[bb,toN]);exact c2),iP c10]
    refine gS [] [5,6,7,8,9,10,55,76] ?_
    refine zV (decide (a.kind=5)) ?_ (hp:=t40)
    exact by rw[hjc3,Zh,iN (by (try simp only[bb,toN]);exact c2),iQ c10]
   refine zB ?_ ?_<;>intro c11<;>try simp only[toN]at c11
   ·refine zV (decide (a.kind=0)) ?_ (hp:=t40)
    exact by rw[hjc2,Zi,iP c11]
   refine gS [] [5,6,7,8,9,10,55,56] ?_
   refine zB ?_ ?_<;>intro c12<;>try simp only[toN]at c12
   ·refine zV (decide (a.kind=1)) ?_ (hp:=t40)
    exact by rw[hjc2,Zi,iQ c11,iP c12]
   refine gS [] [5,6,7,8,9,10,55,56] ?_
   refine zV (decide (a.kind=2)) ?_ (hp:=t40)
   exact by rw[hjc2,Zi,iQ c11,iQ c12]
  refine zF ?_ ?_<;>intro c13<;>try simp only[bb,toN]at c13
  ·have hq:=hxc1 c13
   refine gS [] [5,6,7,8,9,10] ?_
   refine zV (decide (((f.bF.getD a.at_.toNat dF).who)=a.who)) ?_ (hp:=t40)
   exact by rw[hjc1,Zv,iP (by (try simp only[bb,toN]);exact c13)]
  refine zV (false) ?_ (hp:=t40)
  exact by rw[hjc1,Zv,iN (by (try simp only[bb,toN]);exact c13)]
 refine zF ?_ ?_<;>intro c14<;>try simp only[bb,toN]at c14
 ·have hq:=c14
  simp only[ZJ]at hq
  refine gS [.callq (Q:=0<=a.at_/\a.at_<(f.bF.length:Int)) (fun hq=>zIi f a.at_ a.part hq)] [4,5,6,7,8,9] ?_
  refine zV ((zEy f a.at_ a.part)) ?_ (hp:=t40)
  exact ⟨by rw[Zy,iN (by (try simp only[bb,toN]);exact c1),iP (by (try simp only[bb,toN]);exact c14)],by intro hz;first|(simp only[ZJ,bb]at*;omega)|(simp_all;done)⟩
 refine zV ((wiV a.at_ 0 ((f.bF.length:Int)-1))) ?_ (hp:=t40)
 exact ⟨by rw[Zy,iN (by (try simp only[bb,toN]);exact c1),iN (by (try simp only[bb,toN]);exact c14)],by intro hz;first|(simp only[ZJ,bb]at*;omega)|(simp_all;done)⟩
theorem zNy {r:Rlm} {f:Fil} {a:Act} (h:Zy r f a=true) (h0:0<=a.at_):a.at_<f.bF.length:=by
 refine Classical.byContradiction fun hn=> ?_
 have ha:wiV a.at_ 0 ((f.bF.length:Int)-1)=false:=by rw[zHg];omega
 have hm:¬a.at_= -1:=by omega
 simp only[Zy,Zv,Zi,Zh,ZA,ha,hm]at h
 repeat' split at h
 all_goals simp at h
def qZ (r:Rlm) (f:Fil) (i:Int) (j6_1:Int):Int:=if 0<i then if ((f.acts.getD i.toNat dF).day)<((f.acts.getD ((i-1).toNat) dF).day)then 13 else 0 else 0
def qj (r:Rlm) (f:Fil) (i:Int):Int:=if (!(wiV ((f.acts.getD i.toNat dF).part) 0 (i64.wrap (f.bill.parts-1))))=true then 15 else if (bif (!(wiV ((f.acts.getD i.toNat dF).city) 0 (i64.wrap ((r.bB.length:Int)-1))))then true else (!(wiV ((f.acts.getD i.toNat dF).kind) 0 9)))=true then 1 else if (!(Zy r f (f.acts.getD i.toNat dF)))=true then 14 else if (bif decide (((f.acts.getD i.toNat dF).day)<f.bill.day)then true else decide (100000<((f.acts.getD i.toNat dF).day)))=true then 13 else if 0<=((f.acts.getD i.toNat dF).at_)then if ((f.acts.getD i.toNat dF).day)<((f.bF.getD (((f.acts.getD i.toNat dF).at_).toNat) dF).day)then 13 else qZ r f i 0 else qZ r f i 0
theorem zVb (r:Rlm) (f:Fil) (i:Int) (hr:FitR r) (hF:FitFi f) (hi:0<=i/\i<f.acts.length):GC Tryz.prog 60 [rlG r,fiG f,iG i] (iG (qj r f i)):=by
 have h1:=hr.bD
 have h2:=hr.bB
 have h3:=hr.bC
 have h5:=hr.bE
 have h6:=hr.cur
 have g1:=hF.bF
 have g2:=hF.bH
 have g3:=hF.acts
 have g4:=hF.facts
 refine zA Tryz.func60 ?_
 refine gS [] [2,3,4,6] ?_
 refine gS [] [2,3,4,6,7] ?_
 refine zG env true [.call (zw ((f.acts.getD i.toNat dF).part) 0 (i64.wrap (f.bill.parts-1)))] [2,3,4,6,7,20] ?_ (hp:=t13)
 refine zF ?_ ?_<;>intro c1<;>try simp only[bb,toN]at c1
 ·refine gS [] [2,3,4,6,7] ?_
  refine gT ?_
  rw[qj,iP (by (try simp only[bb,toN]);exact c1)];rfl
 refine zG env true [.call (zw ((f.acts.getD i.toNat dF).city) 0 (i64.wrap ((r.bB.length:Int)-1))),.call (zw ((f.acts.getD i.toNat dF).kind) 0 9)] [2,3,4,6,7,34] ?_ (hp:=t13)
 refine zF ?_ ?_<;>intro c2<;>try simp only[bb,toN]at c2
 ·refine gS [] [2,3,4,6,7] ?_
  refine gT ?_
  rw[qj,iN (by (try simp only[bb,toN]);exact c1),iP (by (try simp only[bb,toN]);exact c2)];rfl
 refine gS [.call (zHb r f (f.acts.getD i.toNat dF) hr hF)] [2,4,6,7,39] ?_
 refine zF ?_ ?_<;>intro c3<;>try simp only[bb,toN]at c3
 ·refine gS [] [2,4,6,7] ?_
  refine gT ?_
  rw[qj,iN (by (try simp only[bb,toN]);exact c1),iN (by (try simp only[bb,toN]);exact c2),iP (by (try simp only[bb,toN]);exact c3)];rfl
 refine gS [] [2,4,6,7,50] ?_
 refine zF ?_ ?_<;>intro c4<;>try simp only[bb,toN]at c4
 ·refine gS [] [2,4,6,7] ?_
  refine gT ?_
  rw[qj,iN (by (try simp only[bb,toN]);exact c1),iN (by (try simp only[bb,toN]);exact c2),iN (by (try simp only[bb,toN]);exact c3),iP (by (try simp only[bb,toN]);exact c4)];rfl
 refine gS [] [2,4,6,7,53] ?_
 refine yO (α:=Int) (fun x=>qj r f i=qZ r f i x) (fun x=>⟨[(2,iG i),(4,.ptr 1 0 0 0),(6,iG x),(7,.ptr 2 0 0 0)],[(0,some (.box [.d (.row dF zf r.bA),.d (.row dF ctC r.bB),.d (.row dF inC r.groups),.d (.row dF fmC r.bC),.d (.row dF odC r.bD),.d (.row dF usC r.bE),.d (.row dF rtC r.rates),.d (.row dF htC r.halts)])),(1,some (.box [iG f.bill.bP,iG f.bill.bO,iG f.bill.bQ,iG f.bill.sum,iG f.bill.cur,iG f.bill.ten.kind,iG f.bill.ten.n,iG f.bill.ten.unit,iG f.bill.day,iG f.bill.city,iG f.bill.pay,iG f.bill.need,iG f.bill.rate,iG f.bill.flags,iG f.bill.parts,.d (.row dF sgC f.bF),.d (.row dF alC f.bH),.d (.row dF acC f.acts),.d (.row dF fcC f.facts)])),(2,some (.box [iG ((f.acts.getD i.toNat dF).kind),iG ((f.acts.getD i.toNat dF).who),iG ((f.acts.getD i.toNat dF).to_),iG ((f.acts.getD i.toNat dF).part),iG ((f.acts.getD i.toNat dF).at_),iG ((f.acts.getD i.toNat dF).sum),iG ((f.acts.getD i.toNat dF).day),iG ((f.acts.getD i.toNat dF).city),iG ((f.acts.getD i.toNat dF).form)]))],3⟩) ?_ ?_
 ·rintro j6_1 hjc1
  refine gS [] [2,4,6,7,65] ?_
  refine zB ?_ ?_<;>intro c5<;>try simp only[toN]at c5
  ·refine gS [] [6,75] ?_
   refine zB ?_ ?_<;>intro c6<;>try simp only[toN]at c6
   ·refine gS [] [6] ?_
    refine gT ?_
    rw[hjc1,qZ,iP c5,iP c6];rfl
   refine gS [] [6] ?_
   refine gT ?_
   rw[hjc1,qZ,iP c5,iQ c6];rfl
  refine gS [] [6] ?_
  refine gT ?_
  rw[hjc1,qZ,iQ c5];rfl
 refine zB ?_ ?_<;>intro c7<;>try simp only[toN]at c7
 ·have hq:=zNy t12 t12
  refine gS [] [2,4,6,7,63] ?_
  refine zB ?_ ?_<;>intro c8<;>try simp only[toN]at c8
  ·refine gS [] [2,4,6,7] ?_
   refine gT ?_
   rw[qj,iN (by (try simp only[bb,toN]);exact c1),iN (by (try simp only[bb,toN]);exact c2),iN (by (try simp only[bb,toN]);exact c3),iN (by (try simp only[bb,toN]);exact c4),iP c7,iP c8];rfl
  refine zV (0) ?_ (hp:=t40)
  exact by rw[qj,iN (by (try simp only[bb,toN]);exact c1),iN (by (try simp only[bb,toN]);exact c2),iN (by (try simp only[bb,toN]);exact c3),iN (by (try simp only[bb,toN]);exact c4),iP c7,iQ c8]
 refine zV (0) ?_ (hp:=t40)
 exact by rw[qj,iN (by (try simp only[bb,toN]);exact c1),iN (by (try simp only[bb,toN]);exact c2),iN (by (try simp only[bb,toN]);exact c3),iN (by (try simp only[bb,toN]);exact c4),iQ c7]
def qO (f:Fil) (i:Int):Int:=if (bif (bif (!(wiV ((f.facts.getD i.toNat dF).kind) 0 4))then true else (!(wiV ((f.facts.getD i.toNat dF).at_) 0 (i64.wrap ((f.bF.length:Int)-1)))))then true else (!(wiV ((f.facts.getD i.toNat dF).n) 0 1)))=true then 1 else if 0<i then if (bif decide (((f.facts.getD i.toNat dF).at_)<((f.facts.getD ((i-1).toNat) dF).at_))then true else (bif decide (((f.facts.getD ((i-1).toNat) dF).at_)=((f.facts.getD i.toNat dF).at_))then decide (((f.facts.getD i.toNat dF).kind)<=((f.facts.getD ((i-1).toNat) dF).kind))else false))=true then 5 else 0 else 0
theorem zNh (f:Fil) (i:Int) (hF:FitFi f) (hi:0<=i/\i<f.facts.length):GC Tryz.prog 61 [fiG f,iG i] (iG (qO f i)):=by
 have g1:=hF.bF
 have g2:=hF.bH
 have g3:=hF.acts
 have g4:=hF.facts
 refine zA Tryz.func61 ?_
 refine gS [] [1,2,4] ?_
 refine gS [] [1,2,4,5] ?_
 refine zG env true [.call (zw ((f.facts.getD i.toNat dF).kind) 0 4),.call (zw ((f.facts.getD i.toNat dF).at_) 0 (i64.wrap ((f.bF.length:Int)-1))),.call (zw ((f.facts.getD i.toNat dF).n) 0 1)] [1,2,4,5,31] ?_ (hp:=t13)
 refine zF ?_ ?_<;>intro c1<;>try simp only[bb,toN]at c1
 ·refine gS [] [1,2,4,5] ?_
  refine gT ?_
  rw[qO,iP (by (try simp only[bb,toN]);exact c1)];rfl
 refine gS [] [1,2,4,5,33] ?_
 refine zB ?_ ?_<;>intro c2<;>try simp only[toN]at c2
 ·refine gS [] [4,5,6] ?_
  refine gS [] [4,58] ?_
  refine zF ?_ ?_<;>intro c3<;>try simp only[bb,toN]at c3
  ·refine gS [] [4] ?_
   refine gT ?_
   rw[qO,iN (by (try simp only[bb,toN]);exact c1),iP c2,iP (by (try simp only[bb,toN]);exact c3)];rfl
  refine gS [] [4] ?_
  refine gT ?_
  rw[qO,iN (by (try simp only[bb,toN]);exact c1),iP c2,iN (by (try simp only[bb,toN]);exact c3)];rfl
 refine gS [] [4] ?_
 refine gT ?_
 rw[qO,iN (by (try simp only[bb,toN]);exact c1),iQ c2];rfl
def Yr (r:Rlm) (f:Fil) (j5_1:Int) (a5_1:Int) (k1:Nat) (a5_2:Int) (k2:Nat) (a5_3:Int) (k3:Nat) (a5_4:Int) (k4:Nat):Int:=if (bif decide ((k4:Int)<(f.facts.length:Int))then decide (a5_4=0)else false)=true then Yr r f j5_1 a5_1 k1 a5_2 k2 a5_3 k3 (qO f (k4:Int)) (k4+1)else a5_4
termination_by f.facts.length-k4
decreasing_by all_goals first|omega|(simp only[bb]at*;omega)
def Ys (r:Rlm) (f:Fil) (j5_1:Int) (a5_1:Int) (k1:Nat) (a5_2:Int) (k2:Nat) (a5_3:Int) (k3:Nat):Int:=if (bif decide ((k3:Int)<(f.acts.length:Int))then decide (a5_3=0)else false)=true then Ys r f j5_1 a5_1 k1 a5_2 k2 (qj r f (k3:Int)) (k3+1)else Yr r f j5_1 a5_1 k1 a5_2 k2 a5_3 k3 a5_3 0
termination_by f.acts.length-k3
decreasing_by all_goals first|omega|(simp only[bb]at*;omega)
def zv (r:Rlm) (f:Fil) (j5_1:Int) (a5_1:Int) (k1:Nat) (a5_2:Int) (k2:Nat):Int:=if (bif decide ((k2:Int)<(f.bH.length:Int))then decide (a5_2=0)else false)=true then if 0<(k2:Int)then if (!(wiV ((f.bH.getD k2 dF).at_) (i64.wrap (((f.bH.getD ((i64.wrap ((k2:Int)-1)).toNat) dF).at_)+1)) (f.bF.length:Int)))=true then zv r f j5_1 a5_1 k1 1 (k2+1)else if (!(wiV ((f.bH.getD k2 dF).sum) 1 1099511627776))=true then zv r f j5_1 a5_1 k1 3 (k2+1)else zv r f j5_1 a5_1 k1 a5_2 (k2+1)else if (!(wiV ((f.bH.getD k2 dF).at_) 1 (f.bF.length:Int)))=true then zv r f j5_1 a5_1 k1 1 (k2+1)else if (!(wiV ((f.bH.getD k2 dF).sum) 1 1099511627776))=true then zv r f j5_1 a5_1 k1 3 (k2+1)else zv r f j5_1 a5_1 k1 a5_2 (k2+1)else Ys r f j5_1 a5_1 k1 a5_2 k2 a5_2 0
termination_by f.bH.length-k2
decreasing_by all_goals first|omega|(simp only[bb]at*;omega)
def jE (r:Rlm) (f:Fil) (j5_1:Int) (a5_1:Int) (k1:Nat):Int:=if (bif decide ((k1:Int)<(f.bF.length:Int))then decide (a5_1=0)else false)=true then jE r f j5_1 (Yi r f (k1:Int)) (k1+1)else zv r f j5_1 a5_1 k1 a5_1 0
termination_by f.bF.length-k1
decreasing_by all_goals first|omega|(simp only[bb]at*;omega)
def Jw (r:Rlm) (f:Fil) (j5_1:Int):Int:=jE r f j5_1 j5_1 0
def vG (r:Rlm) (f:Fil):Int:=if (bif (bif (bif decide (40<(f.bF.length:Int))then true else decide (4<(f.bH.length:Int)))then true else decide (100<(f.acts.length:Int)))then true else decide (200<(f.facts.length:Int)))=true then 6 else if (bif decide ((QU r f.bill)=0)then decide ((f.bF.length:Int)=0)else false)=true then Jw r f 14 else Jw r f (QU r f.bill)
theorem zTy (r:Rlm) (f:Fil) (hr:FitR r) (hF:FitFi f):GC Tryz.prog 22 [rlG r,fiG f] (iG (vG r f)):=by
 have h1:=hr.bD
 have h2:=hr.bB
 have h3:=hr.bC
 have h5:=hr.bE
 have h6:=hr.cur
 have g1:=hF.bF
 have g2:=hF.bH
 have g3:=hF.acts
 have g4:=hF.facts
 refine zA Tryz.func22 ?_
 refine gS [] [2,3,4] ?_
 refine gS [] [2,3,4,32] ?_
 refine zF ?_ ?_<;>intro c1<;>try simp only[bb,toN]at c1
 ·refine gS [] [2,3,4] ?_
  refine gT ?_
  rw[vG,iP (by (try simp only[bb,toN]);exact c1)];rfl
 refine gS [.call (zTz r f.bill hr)] [2,3,4,5] ?_
 refine gS [] [2,3,4,5,44] ?_
 refine yO (α:=Int) (fun x=>vG r f=Jw r f x) (fun x=>⟨[(2,.ptr 0 0 0 0),(3,.ptr 1 0 0 0),(4,iG 0),(5,iG x)],[(0,some (.box [.d (.row dF zf r.bA),.d (.row dF ctC r.bB),.d (.row dF inC r.groups),.d (.row dF fmC r.bC),.d (.row dF odC r.bD),.d (.row dF usC r.bE),.d (.row dF rtC r.rates),.d (.row dF htC r.halts)])),(1,some (.box [iG f.bill.bP,iG f.bill.bO,iG f.bill.bQ,iG f.bill.sum,iG f.bill.cur,iG f.bill.ten.kind,iG f.bill.ten.n,iG f.bill.ten.unit,iG f.bill.day,iG f.bill.city,iG f.bill.pay,iG f.bill.need,iG f.bill.rate,iG f.bill.flags,iG f.bill.parts,.d (.row dF sgC f.bF),.d (.row dF alC f.bH),.d (.row dF acC f.acts),.d (.row dF fcC f.facts)]))],2⟩) ?_ ?_
 ·rintro j5_1 hjc1
  refine gS [] [2,3,4,5,6] ?_
  refine zI (α:=Int×Nat) (fun x=>x.2<=f.bF.length/\jE r f j5_1 j5_1 0=jE r f j5_1 x.1 x.2) (fun x=>[(5,iG x.1),(6,iG x.2)]) (fun x=>[]) (fun x=>f.bF.length-x.2) (j5_1,0) ⟨by (try simp only[]);omega,rfl⟩ ?_ (hp:=t40)
  rintro ⟨a5_1,k1⟩ ⟨hi1,he⟩
  dsimp only at*
  refine gS [] [2,3,4,5,6,53] ?_
  refine zF ?_ ?_<;>intro c2<;>try simp only[bb,toN]at c2
  ·refine gS [.call (zKe r f (k1:Int) hr hF t36)] [2,3,4,5,6] ?_
   refine gS [] [2,3,4,5,6] ?_
   refine zD (((Yi r f (k1:Int)),k1+1)) ?_ (hp:=t40) (hm:=by dsimp only;omega)
   refine ⟨by (try simp only[]);omega,he.trans ?_⟩
   rw[jE,iP (by (try simp only[bb,toN]);exact c2)]
   try rfl
  refine gS [] [2,3,4,5,7] ?_
  refine zI (α:=Int×Nat) (fun x=>x.2<=f.bH.length/\zv r f j5_1 a5_1 k1 a5_1 0=zv r f j5_1 a5_1 k1 x.1 x.2) (fun x=>[(5,iG x.1),(7,iG x.2)]) (fun x=>[]) (fun x=>f.bH.length-x.2) (a5_1,0) ⟨by (try simp only[]);omega,rfl⟩ ?_ (hp:=t40)
  rintro ⟨a5_2,k2⟩ ⟨hi2,he2⟩
  dsimp only at*
  refine gS [] [2,3,4,5,7,68] ?_
  refine zF ?_ ?_<;>intro c3<;>try simp only[bb,toN]at c3
  ·refine gS [] [2,3,4,5,7,8] ?_
   refine gS [] [2,3,4,5,7,8,72] ?_
   refine zB ?_ ?_<;>intro c4<;>try simp only[toN]at c4
   ·have hw:i64.wrap ((k2:Int)-1)=(k2:Int)-1:=zT (by unfold inR;omega)
    refine zG env true [] [2,3,4,5,7,8] ?_ (hp:=(by simp only[zC,bb,toN,hw,ZJ,loI,hiI];repeat' first|exact trivial|exact zH.refl _|exact zE.refl _|exact rfl|omega|apply And.intro|intro _))
    refine gS [.call (zw ((f.bH.getD k2 dF).at_) (i64.wrap (((f.bH.getD ((i64.wrap ((k2:Int)-1)).toNat) dF).at_)+1)) (f.bF.length:Int))] [2,3,4,5,7,92] ?_
    refine zF ?_ ?_<;>intro c5<;>try simp only[bb,toN]at c5
    ·refine gS [] [2,3,4,5,7] ?_
     refine gS [] [2,3,4,5,7] ?_
     refine zD ((1,k2+1)) ?_ (hp:=t40) (hm:=by dsimp only;omega)
     refine ⟨by (try simp only[]);omega,he2.trans ?_⟩
     rw[zv,iP (by (try simp only[bb,toN]);exact c3),iP c4,iP (by (try simp only[bb,toN]);exact c5)]
     try rfl
    refine gS [.call (zw ((f.bH.getD k2 dF).sum) 1 1099511627776)] [2,3,4,5,7,100] ?_
    refine zF ?_ ?_<;>intro c6<;>try simp only[bb,toN]at c6
    ·refine gS [] [2,3,4,5,7] ?_
     refine gS [] [2,3,4,5,7] ?_
     refine zD ((3,k2+1)) ?_ (hp:=t40) (hm:=by dsimp only;omega)
     refine ⟨by (try simp only[]);omega,he2.trans ?_⟩
     rw[zv,iP (by (try simp only[bb,toN]);exact c3),iP c4,iN (by (try simp only[bb,toN]);exact c5),iP (by (try simp only[bb,toN]);exact c6)]
     try rfl
    refine gS [] [2,3,4,5,7] ?_
    refine zD ((a5_2,k2+1)) ?_ (hp:=t40) (hm:=by dsimp only;omega)
    refine ⟨by (try simp only[]);omega,he2.trans ?_⟩
    rw[zv,iP (by (try simp only[bb,toN]);exact c3),iP c4,iN (by (try simp only[bb,toN]);exact c5),iN (by (try simp only[bb,toN]);exact c6)]
    try rfl
   refine gS [.call (zw ((f.bH.getD k2 dF).at_) 1 (f.bF.length:Int))] [2,3,4,5,7,92] ?_
   refine zF ?_ ?_<;>intro c7<;>try simp only[bb,toN]at c7
   ·refine gS [] [2,3,4,5,7] ?_
    refine gS [] [2,3,4,5,7] ?_
    refine zD ((1,k2+1)) ?_ (hp:=t40) (hm:=by dsimp only;omega)
    refine ⟨by (try simp only[]);omega,he2.trans ?_⟩
    rw[zv,iP (by (try simp only[bb,toN]);exact c3),iQ c4,iP (by (try simp only[bb,toN]);exact c7)]
    try rfl
   refine gS [.call (zw ((f.bH.getD k2 dF).sum) 1 1099511627776)] [2,3,4,5,7,100] ?_
   refine zF ?_ ?_<;>intro c8<;>try simp only[bb,toN]at c8
   ·refine gS [] [2,3,4,5,7] ?_
    refine gS [] [2,3,4,5,7] ?_
    refine zD ((3,k2+1)) ?_ (hp:=t40) (hm:=by dsimp only;omega)
    refine ⟨by (try simp only[]);omega,he2.trans ?_⟩
    rw[zv,iP (by (try simp only[bb,toN]);exact c3),iQ c4,iN (by (try simp only[bb,toN]);exact c7),iP (by (try simp only[bb,toN]);exact c8)]
    try rfl
   refine gS [] [2,3,4,5,7] ?_
   refine zD ((a5_2,k2+1)) ?_ (hp:=t40) (hm:=by dsimp only;omega)
   refine ⟨by (try simp only[]);omega,he2.trans ?_⟩
   rw[zv,iP (by (try simp only[bb,toN]);exact c3),iQ c4,iN (by (try simp only[bb,toN]);exact c7),iN (by (try simp only[bb,toN]);exact c8)]
   try rfl
  refine gS [] [2,3,4,5,9] ?_
  refine zI (α:=Int×Nat) (fun x=>x.2<=f.acts.length/\Ys r f j5_1 a5_1 k1 a5_2 k2 a5_2 0=Ys r f j5_1 a5_1 k1 a5_2 k2 x.1 x.2) (fun x=>[(5,iG x.1),(9,iG x.2)]) (fun x=>[]) (fun x=>f.acts.length-x.2) (a5_2,0) ⟨by (try simp only[]);omega,rfl⟩ ?_ (hp:=t40)
  rintro ⟨a5_3,k3⟩ ⟨hi3,he3⟩
  dsimp only at*
  refine gS [] [2,3,4,5,9,109] ?_
  refine zF ?_ ?_<;>intro c9<;>try simp only[bb,toN]at c9
  ·refine gS [.call (zVb r f (k3:Int) hr hF t36)] [2,3,4,5,9] ?_
   refine gS [] [2,3,4,5,9] ?_
   refine zD (((qj r f (k3:Int)),k3+1)) ?_ (hp:=t40) (hm:=by dsimp only;omega)
   refine ⟨by (try simp only[]);omega,he3.trans ?_⟩
   rw[Ys,iP (by (try simp only[bb,toN]);exact c9)]
   try rfl
  refine gS [] [3,4,5,10] ?_
  refine zI (α:=Int×Nat) (fun x=>x.2<=f.facts.length/\Yr r f j5_1 a5_1 k1 a5_2 k2 a5_3 k3 a5_3 0=Yr r f j5_1 a5_1 k1 a5_2 k2 a5_3 k3 x.1 x.2) (fun x=>[(5,iG x.1),(10,iG x.2)]) (fun x=>[]) (fun x=>f.facts.length-x.2) (a5_3,0) ⟨by (try simp only[]);omega,rfl⟩ ?_ (hp:=t40)
  rintro ⟨a5_4,k4⟩ ⟨hi4,he4⟩
  dsimp only at*
  refine gS [] [3,4,5,10,124] ?_
  refine zF ?_ ?_<;>intro c10<;>try simp only[bb,toN]at c10
  ·refine gS [.call (zNh f (k4:Int) hF t36)] [3,4,5,10] ?_
   refine gS [] [3,4,5,10] ?_
   refine zD (((qO f (k4:Int)),k4+1)) ?_ (hp:=t40) (hm:=by dsimp only;omega)
   refine ⟨by (try simp only[]);omega,he4.trans ?_⟩
   rw[Yr,iP (by (try simp only[bb,toN]);exact c10)]
   try rfl
  refine gS [] [4] ?_
  refine gT ?_
  rw[hjc1,Jw,he,jE,iN (by (try simp only[bb,toN]);exact c2),he2,zv,iN (by (try simp only[bb,toN]);exact c3),he3,Ys,iN (by (try simp only[bb,toN]);exact c9),he4,Yr,iN (by (try simp only[bb,toN]);exact c10)];rfl
 refine zF ?_ ?_<;>intro c11<;>try simp only[bb,toN]at c11
 ·refine gS [] [2,3,4,5] ?_
  refine zV (14) ?_ (hp:=t40)
  exact by rw[vG,iN (by (try simp only[bb,toN]);exact c1),iP (by (try simp only[bb,toN]);exact c11)]
 refine zV ((QU r f.bill)) ?_ (hp:=t40)
 exact by rw[vG,iN (by (try simp only[bb,toN]);exact c1),iN (by (try simp only[bb,toN]);exact c11)]
structure MemR (r:Rlm):Prop where
 bB:r.bB.length<=9223372036854775807
 bD:r.bD.length<=9223372036854775807
def qM (r:Rlm) (k1:Nat) (k2:Nat):Bool:=if (bif decide ((k2:Int)<(r.bD.length:Int))then decide ((k2:Int)<50)else false)=true then if (bif decide (40<(((r.bD.getD k2 dF).bL).length:Int))then true else decide (40<(((r.bD.getD k2 dF).rules).length:Int)))=true then false else qM r k1 (k2+1)else (bif (bif (bif (bif (bif (bif (bif decide ((r.bA.length:Int)<50)then decide ((r.bB.length:Int)<50)else false)then decide ((r.groups.length:Int)<50)else false)then decide ((r.bC.length:Int)<210)else false)then decide ((r.bD.length:Int)<50)else false)then decide ((r.bE.length:Int)<110)else false)then decide ((r.rates.length:Int)<110)else false)then decide ((r.halts.length:Int)<50)else false)
termination_by 50-k2
decreasing_by all_goals first|omega|(simp only[bb]at*;omega)
def Jq (r:Rlm) (k1:Nat):Bool:=if (bif decide ((k1:Int)<(r.bB.length:Int))then decide ((k1:Int)<50)else false)=true then if (bif (bif decide (70<(((r.bB.getD k1 dF).feasts).length:Int))then true else decide (210<(((r.bB.getD k1 dF).shut).length:Int)))then true else decide (8<(((r.bB.getD k1 dF).rest).length:Int)))=true then false else Jq r (k1+1)else qM r k1 0
termination_by 50-k1
decreasing_by all_goals first|omega|(simp only[bb]at*;omega)
def zFw (r:Rlm):Bool:=Jq r 0
theorem zZa (r:Rlm):GC Tryz.prog 49 [rlG r] (bG (zFw r)):=by
 refine zA Tryz.func49 ?_
 refine gE [1,2] ?_
 refine gE [1,2,3] ?_
 refine zI (α:=Nat) (fun x=>x<=50/\Jq r 0=Jq r x) (fun x=>[(3,iG x)]) (fun x=>[]) (fun x=>50-x) 0 ⟨by (try simp only[]);omega,rfl⟩ ?_ (hp:=t40)
 rintro k1 ⟨hi1,he⟩
 refine gE [1,2,3,13] ?_
 refine zF ?_ ?_<;>intro c1<;>try simp only[bb,toN]at c1
 ·refine gE [1,2,3,43] ?_
  refine zF ?_ ?_<;>intro c2<;>try simp only[bb,toN]at c2
  ·refine gE [1,2,3] ?_
   refine gT ?_
   rw[zFw,he,Jq,iP (by (try simp only[bb,toN]);exact c1),iP (by (try simp only[bb,toN]);exact c2)];rfl
  refine gE [1,2,3] ?_
  refine zD (k1+1) ?_ (hp:=t40)
  refine ⟨by (try simp only[]);omega,he.trans ?_⟩
  rw[Jq,iP (by (try simp only[bb,toN]);exact c1),iN (by (try simp only[bb,toN]);exact c2)]
  try rfl
 refine gE [1,2,4] ?_
 refine zI (α:=Nat) (fun x=>x<=50/\qM r k1 0=qM r k1 x) (fun x=>[(4,iG x)]) (fun x=>[]) (fun x=>50-x) 0 ⟨by (try simp only[]);omega,rfl⟩ ?_ (hp:=t40)
 rintro k2 ⟨hi2,he2⟩
 refine gE [1,2,4,52] ?_
 refine zF ?_ ?_<;>intro c3<;>try simp only[bb,toN]at c3
 ·refine gE [1,2,4,72] ?_
  refine zF ?_ ?_<;>intro c4<;>try simp only[bb,toN]at c4
  ·refine gE [1,2,4] ?_
   refine gT ?_
   rw[zFw,he,Jq,iN (by (try simp only[bb,toN]);exact c1),he2,qM,iP (by (try simp only[bb,toN]);exact c3),iP (by (try simp only[bb,toN]);exact c4)];rfl
  refine gE [1,2,4] ?_
  refine zD (k2+1) ?_ (hp:=t40)
  refine ⟨by (try simp only[]);omega,he2.trans ?_⟩
  rw[qM,iP (by (try simp only[bb,toN]);exact c3),iN (by (try simp only[bb,toN]);exact c4)]
  try rfl
 refine gE [2] ?_
 refine gT ?_
 rw[zFw,he,Jq,iN (by (try simp only[bb,toN]);exact c1),he2,qM,iN (by (try simp only[bb,toN]);exact c3)];rfl
def zBx (f:Fil):Bool:=(bif (bif (bif decide ((f.bF.length:Int)<=50)then decide ((f.bH.length:Int)<=10)else false)then decide ((f.acts.length:Int)<=110)else false)then decide ((f.facts.length:Int)<=220)else false)
theorem zTh (f:Fil):GC Tryz.prog 50 [fiG f] (bG (zBx f)):=by
 refine zA Tryz.func50 ?_
 refine gE [1,2] ?_
 refine gE [2] ?_
 refine gT ?_
 rw[zBx];rfl
def Qb:Nat->Tm->Prop
 |0,t=>t.args= []
 |k+1,t=>t.args.length<=9223372036854775807/\∀a,a∈t.args->Qb k a
theorem Qb.len {k:Nat} {t:Tm} (h:Qb k t):t.args.length<=9223372036854775807:=by
 cases k with
 |zero=>have h:t.args= []:=h;rw[h];simp
 |succ k=>exact h.1
theorem Qb.at_ {k:Nat} {t:Tm} (h:Qb k t) {i:Nat} (hi:i<t.args.length):∃j,k=j+1/\Qb j (t.args.getD i dF):=by
 cases k with
 |zero=>have h:t.args= []:=h;rw[h]at hi;simp at hi
 |succ k=>exact ⟨k,rfl,h.2 _ (zJ hi)⟩
def JH (f:Tm->Int->Int->Int) (t:Tm) (n:Int) (lv:Int) (a1_1:Int) (k1:Nat):Int:=if (bif decide ((k1:Int)<(t.args.length:Int))then decide (0<=a1_1)else false)=true then JH f t n lv (f (t.args.getD k1 dF) a1_1 (i64.wrap (lv-1))) (k1+1)else a1_1
termination_by t.args.length-k1
decreasing_by all_goals first|omega|(simp only[bb]at*;omega)
def KF (f:Tm->Int->Int->Int) (t:Tm) (n:Int) (lv:Int):Int:=if lv<1 then (-1)else JH f t n lv (i64.wrap (n-1)) 0
theorem zHt (f:Tm->Int->Int->Int) (t:Tm) (n:Int) (lv:Int) (k:Nat) (hf:∀j,k=j+1->∀a n lv,Qb j a->GC Tryz.prog 127 [Qw j a,iG n,iG lv] (iG (f a n lv))) (ht:Qb k t):GC Tryz.prog 127 [Qw k t,iG n,iG lv] (iG (KF f t n lv)):=by
 have hl:=ht.len
 refine zA Tryz.func127 ?_
 refine gE [1,2,3,6] ?_
 refine zG env true [] [1,2,3,6] ?_
 refine gE [1,2,3,6,11] ?_
 refine zB ?_ ?_<;>intro c1<;>try simp only[toN]at c1
 ·refine gE [1,2,3,6] ?_
  refine gT ?_
  rw[KF,iP c1];rfl
 refine gE [1,2,3,6,7] ?_
 refine zI (α:=Int×Nat) (fun x=>x.2<=t.args.length/\JH f t n lv (i64.wrap (n-1)) 0=JH f t n lv x.1 x.2) (fun x=>[(1,iG x.1),(7,iG x.2)]) (fun x=>[]) (fun x=>t.args.length-x.2) (i64.wrap (n-1),0) ⟨by (try simp only[]);omega,rfl⟩ ?_ (hp:=t40)
 rintro ⟨a1_1,k1⟩ ⟨hi1,he⟩
 dsimp only at*
 refine gE [1,2,3,6,7,20] ?_
 refine zF ?_ ?_<;>intro c2<;>try simp only[bb,toN]at c2
 ·obtain ⟨j,rfl,hfa⟩:=ht.at_ (i:=k1) t11
  refine zG env true [.call (hf _ rfl (t.args.getD k1 dF) a1_1 (i64.wrap (lv-1)) hfa)] [1,2,3,6,7] ?_
  refine gE [1,2,3,6,7] ?_
  refine zD (((f (t.args.getD k1 dF) a1_1 (i64.wrap (lv-1))),k1+1)) ?_ (hp:=t40) (hm:=by dsimp only;omega)
  refine ⟨by (try simp only[]);omega,he.trans ?_⟩
  rw[JH,iP (by (try simp only[bb,toN]);exact c2)]
  try rfl
 refine gE [6] ?_
 refine gT ?_
 rw[KF,iQ c1,he,JH,iN (by (try simp only[bb,toN]);exact c2)];rfl
def Ua:Nat->Tm->Int->Int->Int
 |0=>KF fun _ _ _=>0
 |k+1=>KF (Ua k)
theorem zVs:∀(k:Nat) (t:Tm) (n lv:Int),Qb k t->GC Tryz.prog 127 [Qw k t,iG n,iG lv] (iG (Ua k t n lv)):=by
 intro k
 induction k with
 |zero=>intro t n lv h;exact zHt _ t n lv 0 (fun j e=>by omega) h
 |succ k ih=>intro t n lv h;exact zHt (Ua k) t n lv (k+1) (fun j e=>by cases e;exact ih) h
def Xi (t:Tm):Bool:=decide (0<=(Ua Dep.d t 100 20))
theorem zTg (t:Tm) (ht:Qb Dep.d t):GC Tryz.prog 81 [Qw Dep.d t] (bG (Xi t)):=by
 refine zA Tryz.func81 ?_
 refine gE [1,2] ?_
 refine gR [.call (zVs Dep.d t 100 20 ht)] [2] ?_
 refine gT ?_
 rw[Xi];rfl
def jy (o:Od) (k1:Nat):Bool:=if k1<o.rules.length then if (!(Xi ((o.rules.getD k1 dF).term)))=true then false else jy o (k1+1)else true
termination_by o.rules.length-k1
def VI (o:Od):Bool:=if (bif decide (60<(o.rules.length:Int))then true else decide (60<(o.bL.length:Int)))=true then false else jy o 0
theorem zTf (o:Od) (ho:∀x,x∈o.rules->Qb Dep.d x.term):GC Tryz.prog 51 [odG o] (bG (VI o)):=by
 refine zA Tryz.func51 ?_
 refine gE [1,2] ?_
 refine gE [1,2,13] ?_
 refine zF ?_ ?_<;>intro c1<;>try simp only[bb,toN]at c1
 ·refine gE [1,2] ?_
  refine gT ?_
  rw[VI,iP (by (try simp only[bb,toN]);exact c1)];rfl
 refine gE [1,2,3] ?_
 refine zI (α:=Nat) (fun x=>x<=o.rules.length/\jy o 0=jy o x) (fun x=>[(3,iG x)]) (fun x=>[]) (fun x=>o.rules.length-x) 0 ⟨by (try simp only[]);omega,rfl⟩ ?_ (hp:=t40)
 rintro k1 ⟨hi1,he⟩
 refine gE [1,2,3,18] ?_
 refine zB ?_ ?_<;>intro c2<;>try simp only[toN]at c2
 ·refine gR [.call (zTg ((o.rules.getD k1 dF).term) (by first|assumption|exact ho _ (zJ t11)))] [1,2,3,28] ?_
  refine zF ?_ ?_<;>intro c3<;>try simp only[bb,toN]at c3
  ·refine gE [1,2,3] ?_
   refine gT ?_
   rw[VI,iN (by (try simp only[bb,toN]);exact c1),he,jy,iP t11,iP (by (try simp only[bb,toN]);exact c3)];rfl
  refine gE [1,2,3] ?_
  refine zD (k1+1) ?_ (hp:=t40)
  refine ⟨by (try simp only[]);omega,he.trans ?_⟩
  rw[jy,iP t11,iN (by (try simp only[bb,toN]);exact c3)]
  try rfl
 refine gE [2] ?_
 refine gT ?_
 rw[VI,iN (by (try simp only[bb,toN]);exact c1),he,jy,iQ t11];rfl
end Go.Gh
namespace Go.Proofs
open Go.Shelf
def Tryz.lays156_ren:Go.Shelf.Ren:=⟨fun|156=>39|165=>76|166=>38|169=>45|240=>75|241=>123|276=>122|277=>160|n=>n,fun|31=>22|9=>9|3=>3|4=>4|0=>0|20=>20|72=>109|76=>112|70=>106|37=>107|75=>111|127=>150|164=>200|5=>5|80=>120|n=>n,fun|n=>n⟩
theorem Tryz.lays156:Go.Proofs.Lays.n156 Tryz.prog Tryz.lays156_ren:= {
 mixed:=by kernel_rfl
 f156:=Tryz.func39.trans (congrArg some (by kernel_rfl))
 f165:=Tryz.func76.trans (congrArg some (by kernel_rfl))
 f166:=Tryz.func38.trans (congrArg some (by kernel_rfl))
 f169:=Tryz.func45.trans (congrArg some (by kernel_rfl))
 f240:=Tryz.func75.trans (congrArg some (by kernel_rfl))
 f241:=Tryz.func123.trans (congrArg some (by kernel_rfl))
 f276:=Tryz.func122.trans (congrArg some (by kernel_rfl))
 f277:=Tryz.func160.trans (congrArg some (by kernel_rfl))
 t0:=Tryz.underlying0
 a0:=Tryz.isAgg0
 z0:=Tryz.sizeOf0
 v0:=Tryz.zeroValue0
 t3:=Tryz.underlying3
 a3:=Tryz.isAgg3
 z3:=Tryz.sizeOf3
 v3:=Tryz.zeroValue3
 t4:=Tryz.underlying4
 a4:=Tryz.isAgg4
 z4:=Tryz.sizeOf4
 v4:=Tryz.zeroValue4
 t9:=Tryz.underlying9
 a9:=Tryz.isAgg9
 z9:=Tryz.sizeOf9
 v9:=Tryz.zeroValue9
 t20:=Tryz.underlying20
 a20:=Tryz.isAgg20
 z20:=Tryz.sizeOf20
 v20:=Tryz.zeroValue20
 t31:=Tryz.underlying22
 a31:=Tryz.isAgg22
 z31:=Tryz.sizeOf22
 v31:=Tryz.zeroValue22
 t37:=Tryz.underlying107
 a37:=Tryz.isAgg107
 z37:=Tryz.sizeOf107
 v37:=Tryz.zeroValue107
 t70:=Tryz.underlying106
 a70:=Tryz.isAgg106
 z70:=Tryz.sizeOf106
 v70:=Tryz.zeroValue106
 t72:=Tryz.underlying109
 a72:=Tryz.isAgg109
 z72:=Tryz.sizeOf109
 v72:=Tryz.zeroValue109
 t75:=Tryz.underlying111
 a75:=Tryz.isAgg111
 z75:=Tryz.sizeOf111
 v75:=Tryz.zeroValue111
 t76:=Tryz.underlying112
 a76:=Tryz.isAgg112
 z76:=Tryz.sizeOf112
 v76:=Tryz.zeroValue112
 t127:=Tryz.underlying150
 a127:=Tryz.isAgg150
 z127:=Tryz.sizeOf150
 v127:=Tryz.zeroValue150
 t164:=Tryz.underlying200
 a164:=Tryz.isAgg200
 z164:=Tryz.sizeOf200
 v164:=Tryz.zeroValue200}
theorem Tryz.Builder_Extra_156:Builder.Extra Tryz.prog Tryz.lays156_ren:= {
 sizeBuilder:=by kernel_rfl
 liesBuilder:=by kernel_rfl
 t5:=Tryz.underlying5
 a5:=Tryz.isAgg5
 z5:=Tryz.sizeOf5
 v5:=Tryz.zeroValue5
 infoByte:=by kernel_rfl
 cellsByte:=by kernel_rfl
 sizeByte:=by kernel_rfl
 neB5:=by decide}
open Go.RowKit in
theorem Tryz.strings_Join_none (a:Option Addr) (c:Nat) (sep:ByteArray) (w:World):
 Calls Tryz.prog 39 #[.slice a 0 c,.string sep] w fun e w'=>e= .returned (.string ⟨#[]⟩)∧w'=w:=Any.strings_Join_none Tryz.lays156 Tryz.Builder_Extra_156 a c sep w
open Go.RowKit in
theorem Tryz.strings_Join (bk o c:Nat) (xs:List ByteArray) (sep:ByteArray) (w:World) (hcells:∀(j:Nat) x,xs[j]? =some x→w.cell? ⟨bk,o+j,none⟩=some (.string x)) (hbk:bk<w.heap.size) (hN:xs.length≤140737488355328) (hcap:xs.length≤c) (hlen:(Lib.join (xs.map (·.data.toList)) sep.data.toList).length≤140737488355328):
 Calls Tryz.prog 39 #[.slice (some ⟨bk,o,none⟩) xs.length c,.string sep] w fun e w'=>e= .returned (.string ⟨(Lib.join (xs.map (·.data.toList)) sep.data.toList).toArray⟩)∧Below w.heap.size w w':=Any.strings_Join Tryz.lays156 Tryz.Builder_Extra_156 bk o c xs sep w hcells hbk hN hcap hlen
def Tryz.lays134_ren:Go.Shelf.Ren:=⟨fun|134=>263|129=>202|n=>n,fun|53=>245|3=>3|4=>4|46=>286|5=>5|9=>9|n=>n,fun|n=>n⟩
theorem Tryz.lays134:Go.Proofs.Lays.n134 Tryz.prog Tryz.lays134_ren:= {
 mixed:=by kernel_rfl
 f129:=Tryz.func202.trans (congrArg some (by kernel_rfl))
 f134:=Tryz.func263.trans (congrArg some (by kernel_rfl))
 t3:=Tryz.underlying3
 a3:=Tryz.isAgg3
 z3:=Tryz.sizeOf3
 v3:=Tryz.zeroValue3
 t4:=Tryz.underlying4
 a4:=Tryz.isAgg4
 z4:=Tryz.sizeOf4
 v4:=Tryz.zeroValue4
 t5:=Tryz.underlying5
 a5:=Tryz.isAgg5
 z5:=Tryz.sizeOf5
 v5:=Tryz.zeroValue5
 t9:=Tryz.underlying9
 a9:=Tryz.isAgg9
 z9:=Tryz.sizeOf9
 v9:=Tryz.zeroValue9
 t46:=Tryz.underlying286
 a46:=Tryz.isAgg286
 z46:=Tryz.sizeOf286
 v46:=Tryz.zeroValue286
 t53:=Tryz.underlying245
 a53:=Tryz.isAgg245
 z53:=Tryz.sizeOf245
 v53:=Tryz.zeroValue245}
theorem Tryz.bits_LeadingZeros64 (x:Int) (w:World) (h0:0≤x) (h1:x≤18446744073709551615):
 Calls Tryz.prog 263 #[.int .u64 x] w fun e w'=>e= .returned (.int .i64 (64-(Lib.bitLen x.toNat:Int)))∧w'=w:=Any.bits_LeadingZeros64 Tryz.lays134 x w h0 h1
def Tryz.laysM246_ren:Go.Shelf.Ren:=⟨fun|246=>124|283=>161|284=>162|285=>163|286=>164|129=>202|317=>201|318=>203|319=>204|320=>205|337=>234|338=>235|n=>n,fun|2=>2|3=>3|9=>9|4=>4|171=>244|0=>0|53=>245|37=>107|5=>5|173=>248|212=>283|51=>284|20=>20|213=>285|46=>286|232=>346|233=>347|n=>n,fun|17=>1|18=>5|19=>6|n=>n⟩
def Tryz.laysM243_ren:Go.Shelf.Ren:=⟨fun|243=>77|246=>124|283=>161|284=>162|285=>163|286=>164|129=>202|317=>201|318=>203|319=>204|320=>205|337=>234|338=>235|n=>n,fun|3=>3|9=>9|2=>2|4=>4|171=>244|0=>0|53=>245|37=>107|5=>5|173=>248|212=>283|51=>284|20=>20|213=>285|46=>286|232=>346|233=>347|n=>n,fun|17=>1|18=>5|19=>6|n=>n⟩
def Tryz.laysM171_ren:Go.Shelf.Ren:=⟨fun|171=>41|243=>77|246=>124|283=>161|284=>162|285=>163|286=>164|129=>202|317=>201|318=>203|319=>204|320=>205|337=>234|338=>235|n=>n,fun|3=>3|9=>9|2=>2|4=>4|171=>244|0=>0|53=>245|37=>107|5=>5|173=>248|212=>283|51=>284|20=>20|213=>285|46=>286|232=>346|233=>347|n=>n,fun|17=>1|18=>5|19=>6|n=>n⟩
theorem Tryz.laysM171:Go.Proofs.LaysM.n171 Tryz.prog Tryz.laysM171_ren:= {
 mixed:=by kernel_rfl
 f129:=Tryz.func202.trans (congrArg some (by kernel_rfl))
 f171:=Tryz.func41.trans (congrArg some (by kernel_rfl))
 f243:=Tryz.func77.trans (congrArg some (by kernel_rfl))
 f246:=Tryz.func124.trans (congrArg some (by kernel_rfl))
 f283:=Tryz.func161.trans (congrArg some (by kernel_rfl))
 f284:=Tryz.func162.trans (congrArg some (by kernel_rfl))
 f285:=Tryz.func163.trans (congrArg some (by kernel_rfl))
 f286:=Tryz.func164.trans (congrArg some (by kernel_rfl))
 f317:=Tryz.func201.trans (congrArg some (by kernel_rfl))
 f318:=Tryz.func203.trans (congrArg some (by kernel_rfl))
 f319:=Tryz.func204.trans (congrArg some (by kernel_rfl))
 f320:=Tryz.func205.trans (congrArg some (by kernel_rfl))
 f337:=Tryz.func234.trans (congrArg some (by kernel_rfl))
 f338:=Tryz.func235.trans (congrArg some (by kernel_rfl))
 t0:=Tryz.underlying0
 a0:=Tryz.isAgg0
 z0:=Tryz.sizeOf0
 v0:=Tryz.zeroValue0
 t2:=Tryz.underlying2
 a2:=Tryz.isAgg2
 z2:=Tryz.sizeOf2
 v2:=Tryz.zeroValue2
 t3:=Tryz.underlying3
 a3:=Tryz.isAgg3
 z3:=Tryz.sizeOf3
 v3:=Tryz.zeroValue3
 t4:=Tryz.underlying4
 a4:=Tryz.isAgg4
 z4:=Tryz.sizeOf4
 v4:=Tryz.zeroValue4
 t5:=Tryz.underlying5
 a5:=Tryz.isAgg5
 z5:=Tryz.sizeOf5
 v5:=Tryz.zeroValue5
 t9:=Tryz.underlying9
 a9:=Tryz.isAgg9
 z9:=Tryz.sizeOf9
 v9:=Tryz.zeroValue9
 t20:=Tryz.underlying20
 a20:=Tryz.isAgg20
 z20:=Tryz.sizeOf20
 v20:=Tryz.zeroValue20
 t37:=Tryz.underlying107
 a37:=Tryz.isAgg107
 z37:=Tryz.sizeOf107
 v37:=Tryz.zeroValue107
 t46:=Tryz.underlying286
 a46:=Tryz.isAgg286
 z46:=Tryz.sizeOf286
 v46:=Tryz.zeroValue286
 t51:=Tryz.underlying284
 a51:=Tryz.isAgg284
 z51:=Tryz.sizeOf284
 v51:=Tryz.zeroValue284
 t53:=Tryz.underlying245
 a53:=Tryz.isAgg245
 z53:=Tryz.sizeOf245
 v53:=Tryz.zeroValue245
 t171:=Tryz.underlying244
 a171:=Tryz.isAgg244
 z171:=Tryz.sizeOf244
 v171:=Tryz.zeroValue244
 t173:=Tryz.underlying248
 a173:=Tryz.isAgg248
 z173:=Tryz.sizeOf248
 v173:=Tryz.zeroValue248
 t212:=Tryz.underlying283
 a212:=Tryz.isAgg283
 z212:=Tryz.sizeOf283
 v212:=Tryz.zeroValue283
 t213:=Tryz.underlying285
 a213:=Tryz.isAgg285
 z213:=Tryz.sizeOf285
 t232:=Tryz.underlying346
 a232:=Tryz.isAgg346
 z232:=Tryz.sizeOf346
 v232:=Tryz.zeroValue346
 t233:=Tryz.underlying347
 a233:=Tryz.isAgg347
 z233:=Tryz.sizeOf347
 v233:=Tryz.zeroValue347
 g17:=by kernel_rfl
 g18:=by kernel_rfl
 g19:=by kernel_rfl
 i0:=by kernel_rfl
 i2:=by kernel_rfl
 i3:=by kernel_rfl
 i4:=by kernel_rfl
 i5:=by kernel_rfl
 i9:=by kernel_rfl
 i20:=by kernel_rfl
 i37:=by kernel_rfl
 i46:=by kernel_rfl
 i51:=by kernel_rfl
 i53:=by kernel_rfl
 i171:=by kernel_rfl
 i173:=by kernel_rfl
 i212:=by kernel_rfl
 i232:=by kernel_rfl
 i233:=by kernel_rfl
 m17:=by kernel_rfl
 m18:=by kernel_rfl
 m19:=by kernel_rfl}
open Go.RowKit Go.Sort Go.Lib in
theorem Tryz.strconv_Itoa (n:Int) (h0: -9223372036854775808≤n) (h1:n≤9223372036854775807) (w:World) (htab:Lib.TabIs Tryz.prog w "internal/strconv.uint64pow10" .u64 Lib.pow10Tab):
 Calls Tryz.prog 41 #[.int .i64 n] w fun e w'=>e= .returned (.string ⟨(Lib.itoa n).toArray⟩)∧∃k os,w'=grow (w.drewN k) os:=Any.strconv_Itoa Tryz.laysM171 n h0 h1 w htab
def Tryz.lays189_ren:Go.Shelf.Ren:=⟨fun|189=>180|125=>219|257=>218|128=>258|129=>202|294=>249|295=>250|296=>251|297=>252|298=>253|299=>254|216=>255|300=>256|301=>257|328=>277|329=>278|330=>279|331=>280|332=>281|215=>121|343=>284|n=>n,fun|28=>68|3=>3|46=>286|0=>0|51=>284|53=>245|4=>4|183=>336|182=>335|131=>121|5=>5|9=>9|218=>357|222=>361|228=>363|229=>163|n=>n,fun|n=>n⟩
theorem Tryz.lays189:Go.Proofs.Lays.n189 Tryz.prog Tryz.lays189_ren:= {
 mixed:=by kernel_rfl
 f125:=Tryz.func219.trans (congrArg some (by kernel_rfl))
 f128:=Tryz.func258.trans (congrArg some (by kernel_rfl))
 f129:=Tryz.func202.trans (congrArg some (by kernel_rfl))
 f189:=Tryz.func180.trans (congrArg some (by kernel_rfl))
 f215:=Tryz.func121.trans (congrArg some (by kernel_rfl))
 f216:=Tryz.func255.trans (congrArg some (by kernel_rfl))
 f257:=Tryz.func218.trans (congrArg some (by kernel_rfl))
 f294:=Tryz.func249.trans (congrArg some (by kernel_rfl))
 f295:=Tryz.func250.trans (congrArg some (by kernel_rfl))
 f296:=Tryz.func251.trans (congrArg some (by kernel_rfl))
 f297:=Tryz.func252.trans (congrArg some (by kernel_rfl))
 f298:=Tryz.func253.trans (congrArg some (by kernel_rfl))
 f299:=Tryz.func254.trans (congrArg some (by kernel_rfl))
 f300:=Tryz.func256.trans (congrArg some (by kernel_rfl))
 f301:=Tryz.func257.trans (congrArg some (by kernel_rfl))
 f328:=Tryz.func277.trans (congrArg some (by kernel_rfl))
 f329:=Tryz.func278.trans (congrArg some (by kernel_rfl))
 f330:=Tryz.func279.trans (congrArg some (by kernel_rfl))
 f331:=Tryz.func280.trans (congrArg some (by kernel_rfl))
 f332:=Tryz.func281.trans (congrArg some (by kernel_rfl))
 f343:=Tryz.func284.trans (congrArg some (by kernel_rfl))
 t0:=Tryz.underlying0
 a0:=Tryz.isAgg0
 z0:=Tryz.sizeOf0
 v0:=Tryz.zeroValue0
 t3:=Tryz.underlying3
 a3:=Tryz.isAgg3
 z3:=Tryz.sizeOf3
 v3:=Tryz.zeroValue3
 t4:=Tryz.underlying4
 a4:=Tryz.isAgg4
 z4:=Tryz.sizeOf4
 v4:=Tryz.zeroValue4
 t5:=Tryz.underlying5
 a5:=Tryz.isAgg5
 z5:=Tryz.sizeOf5
 v5:=Tryz.zeroValue5
 t9:=Tryz.underlying9
 a9:=Tryz.isAgg9
 z9:=Tryz.sizeOf9
 v9:=Tryz.zeroValue9
 t28:=Tryz.underlying68
 a28:=Tryz.isAgg68
 z28:=Tryz.sizeOf68
 v28:=Tryz.zeroValue68
 t46:=Tryz.underlying286
 a46:=Tryz.isAgg286
 z46:=Tryz.sizeOf286
 v46:=Tryz.zeroValue286
 t51:=Tryz.underlying284
 a51:=Tryz.isAgg284
 z51:=Tryz.sizeOf284
 v51:=Tryz.zeroValue284
 t53:=Tryz.underlying245
 a53:=Tryz.isAgg245
 z53:=Tryz.sizeOf245
 v53:=Tryz.zeroValue245
 t131:=Tryz.underlying121
 a131:=Tryz.isAgg121
 z131:=Tryz.sizeOf121
 v131:=Tryz.zeroValue121
 t182:=Tryz.underlying335
 a182:=Tryz.isAgg335
 z182:=Tryz.sizeOf335
 v182:=Tryz.zeroValue335
 t183:=Tryz.underlying336
 a183:=Tryz.isAgg336
 z183:=Tryz.sizeOf336
 v183:=Tryz.zeroValue336
 t218:=Tryz.underlying357
 a218:=Tryz.isAgg357
 z218:=Tryz.sizeOf357
 v218:=Tryz.zeroValue357
 t222:=Tryz.underlying361
 a222:=Tryz.isAgg361
 z222:=Tryz.sizeOf361
 v222:=Tryz.zeroValue361
 t228:=Tryz.underlying363
 a228:=Tryz.isAgg363
 z228:=Tryz.sizeOf363
 v228:=Tryz.zeroValue363
 t229:=Tryz.underlying163
 a229:=Tryz.isAgg163
 z229:=Tryz.sizeOf163
 v229:=Tryz.zeroValue163}
open Go.Sort Go.RowKit in
theorem Tryz.slices_Sort_int (blk off cap:Nat) (zs:List Int) (w:World) (hH:Holds (Value.int .i64) w blk off zs.toArray) (hblk:blk<w.heap.size) (hsz:zs.length<4611686018427387904):
 Calls Tryz.prog 180 #[.slice (some ⟨blk,off,none⟩) zs.length cap] w fun e w'=>
  e= .returned (.tuple #[])∧∃n os,w'=grow (putRow (Value.int .i64) (Sort.ahead w n) blk off (zs.mergeSort fun x y=>decide (x≤y)).toArray) os:=Any.slices_Sort_int Tryz.lays189 blk off cap zs w hH hblk hsz
def Tryz.lays264_ren:Go.Shelf.Ren:=⟨fun|264=>231|n=>n,fun|53=>245|46=>286|n=>n,fun|n=>n⟩
theorem Tryz.lays264:Go.Proofs.Lays.n264 Tryz.prog Tryz.lays264_ren:= {
 mixed:=by kernel_rfl
 f264:=Tryz.func231.trans (congrArg some (by kernel_rfl))
 t46:=Tryz.underlying286
 a46:=Tryz.isAgg286
 z46:=Tryz.sizeOf286
 v46:=Tryz.zeroValue286
 t53:=Tryz.underlying245
 a53:=Tryz.isAgg245
 z53:=Tryz.sizeOf245
 v53:=Tryz.zeroValue245}
open Go.RowKit Go.Lib in
theorem Tryz.bits_Mul64 (x y:Nat) (hx:x<18446744073709551616) (hy:y<18446744073709551616) (w:World):
 Calls Tryz.prog 231 #[.int .u64 x,.int .u64 y] w fun e w'=>e= .returned (.tuple #[.int .u64 ((x*y/18446744073709551616:Nat):Int),.int .u64 ((x*y % 18446744073709551616:Nat):Int)])∧w'=w:=Any.bits_Mul64 Tryz.lays264 x y hx hy w
def Tryz.laysNm220_ren:Go.Shelf.Ren:=⟨fun|20=>181|n=>n,fun|22=>68|3=>3|4=>4|0=>0|n=>n,fun|n=>n⟩
theorem Tryz.laysNm220:Go.Proofs.Lays2.n20 Tryz.prog Tryz.laysNm220_ren:= {
 mixed:=by kernel_rfl
 f20:=Tryz.func181.trans (congrArg some (by kernel_rfl))
 t0:=Tryz.underlying0
 a0:=Tryz.isAgg0
 z0:=Tryz.sizeOf0
 v0:=Tryz.zeroValue0
 t3:=Tryz.underlying3
 a3:=Tryz.isAgg3
 z3:=Tryz.sizeOf3
 v3:=Tryz.zeroValue3
 t4:=Tryz.underlying4
 a4:=Tryz.isAgg4
 z4:=Tryz.sizeOf4
 v4:=Tryz.zeroValue4
 t22:=Tryz.underlying68
 a22:=Tryz.isAgg68
 z22:=Tryz.sizeOf68
 v22:=Tryz.zeroValue68
 i3:=by kernel_rfl}
open Go.RowKit Go.Lib Go.Sort in
theorem Tryz.slices_Compact_int (blk off cap:Nat) (zs:List Int) (w:World) (hH:Holds (Value.int .i64) w blk off zs.toArray) (hsz:zs.length≤9223372036854775807) (hcap:zs.length≤cap):
 Calls Tryz.prog 181 #[.slice (some ⟨blk,off,none⟩) zs.length cap] w fun e w'=>e= .returned (.slice (some ⟨blk,off,none⟩) (Lib.compact zs).length cap)∧∃q,w'=putRow (Value.int .i64) (Sort.ahead w q) blk off (Lib.compact zs++List.replicate (zs.length-(Lib.compact zs).length) 0).toArray:=Any.slices_Compact_int Tryz.laysNm220 blk off cap zs w hH hsz hcap
open Go.RowKit Go.Lib Go.Sort in
theorem Tryz.slices_Compact_int_empty (a:Option Addr) (cap:Nat) (w:World):
 Calls Tryz.prog 181 #[.slice a 0 cap] w fun e w'=>e= .returned (.slice a 0 cap)∧w'=w:=Any.slices_Compact_int_empty Tryz.laysNm220 a cap w
open Go.RowKit Go.Sort in
theorem Tryz.slices_Sort_int_none (p:Option Addr) (cap:Nat) (w:World):
 Calls Tryz.prog 180 #[.slice p 0 cap] w fun e w'=>e= .returned (.tuple #[])∧w'=w:=Any.slices_Sort_int_none Tryz.lays189 p cap w
end Go.Proofs
namespace Go.Proofs.YtlnnombljiecmaaGreatDoor.Dv
theorem too_great (U1 U0 q r v1 v0 Y:Int) (hY:Y=v1*4294967296+v0) (hU:U1=q*v1+r)
 (hYp:0<Y)
 (h:r*4294967296+U0<q*v0):(U1*4294967296+U0)/Y<q:=by
 apply Int.ediv_lt_of_lt_mul hYp
 subst hY;subst hU
 rw[Int.mul_add]
 have e:q*(v1*4294967296)=q*v1*4294967296:=by rw[Int.mul_assoc]
 rw[e]
 omega
theorem fits (U1 U0 q r v1 v0 Y:Int) (hY:Y=v1*4294967296+v0) (hU:U1=q*v1+r)
 (hYp:0<Y)
 (h:q*v0≤r*4294967296+U0):q≤(U1*4294967296+U0)/Y:=by
 apply Int.le_ediv_of_mul_le hYp
 subst hY;subst hU
 rw[Int.mul_add]
 have e:q*(v1*4294967296)=q*v1*4294967296:=by rw[Int.mul_assoc]
 rw[e]
 omega
theorem digit_lt (U1 U0 Y:Int) (h1:U1<Y) (h0:U0<4294967296) (hYp:0<Y):(U1*4294967296+U0)/Y<4294967296:=by
 apply Int.ediv_lt_of_lt_mul hYp
 omega
theorem first_ge (U1 U0 v1 v0 Y:Int) (hY:Y=v1*4294967296+v0) (hv1:0<v1) (hv0:0≤v0) (hU1:0≤U1) (hU0:U0<4294967296):
 (U1*4294967296+U0)/Y≤U1/v1:=by
 have hYp:0<Y:=by omega
 have hq:0≤U1/v1:=Int.ediv_nonneg hU1 (by omega)
 apply Int.le_of_lt_add_one
 apply Int.ediv_lt_of_lt_mul hYp
 have hm:=Int.mul_ediv_add_emod U1 v1
 have hr:=Int.emod_lt_of_pos U1 hv1
 generalize U1/v1=q at*
 generalize U1 % v1=r at*
 subst hY
 rw[Int.mul_add,←Int.mul_assoc]
 have hp:0≤(q+1)*v0:=Int.mul_nonneg (by omega) hv0
 have e:(q+1)*v1=v1*q+v1:=by rw[Int.add_mul,Int.mul_comm q];omega
 rw[e]
 omega
theorem first_le (U1 v1 v0 Y:Int) (hY:Y=v1*4294967296+v0) (hv1:2147483648≤v1) (hv0:v0<4294967296) (hU1:U1<Y):
 U1/v1≤4294967297:=by
 apply Int.le_of_lt_add_one
 apply Int.ediv_lt_of_lt_mul (by omega)
 omega
theorem down (U1 q r v1:Int) (hU:U1=q*v1+r):U1=(q-1)*v1+(r+v1):=by
 rw[Int.sub_mul];omega
theorem at_break (U1 U0 q r v1 v0 Y:Int) (hY:Y=v1*4294967296+v0) (hU:U1=q*v1+r) (hYp:0<Y)
 (hq:q≤4294967296) (hv0:0≤v0) (hv:v0<4294967296) (hr:4294967296≤r) (hU0:0≤U0):q≤(U1*4294967296+U0)/Y:=by
 refine fits U1 U0 q r v1 v0 Y hY hU hYp ?_
 have h1:q*v0≤4294967296*v0:=Int.mul_le_mul_of_nonneg_right hq hv0
 omega
theorem or_disj (a b s:Nat) (hb:b<2^s):(a*2^s)|||b=a*2^s+b:=by
 rw[Nat.mul_comm,Nat.two_pow_add_eq_or_of_lt hb]
theorem len_spec (y:Nat) (h0:0<y) (h1:y<18446744073709551616):
 1≤Lib.bitLen y∧Lib.bitLen y≤64∧2^(Lib.bitLen y-1)≤y∧y<2^Lib.bitLen y:=by
 obtain ⟨a,b,c⟩:=Lib.bitLenAux_bounds 64 y (by simpa using h1) (by omega)
 refine ⟨a,?_,b,c⟩
 show Lib.bitLen y≤64
 have:¬65≤Lib.bitLenAux 64 y:=by
  intro h
  have h2:2^64≤2^(Lib.bitLenAux 64 y-1):=Nat.pow_le_pow_right (by omega) (by omega)
  have h3:(2:Nat)^64=18446744073709551616:=by decide
  omega
 show Lib.bitLenAux 64 y≤64
 omega
theorem norm (y:Nat) (h0:0<y) (h1:y<18446744073709551616) (s:Nat) (hs:s=64-Lib.bitLen y):
 s<64∧9223372036854775808≤y*2^s∧y*2^s<18446744073709551616∧2^s*2^(64-s)=18446744073709551616:=by
 obtain ⟨a,b,c,d⟩:=len_spec y h0 h1
 have e:2^s*2^(64-s)=18446744073709551616:=by
  rw[←Nat.pow_add,show s+(64-s)=64 by omega]
 refine ⟨by omega,?_,?_,e⟩
 ·have h2:2^(Lib.bitLen y-1)*2^s≤y*2^s:=Nat.mul_le_mul_right _ c
  rw[←Nat.pow_add,show Lib.bitLen y-1+s=63 by omega]at h2
  exact h2
 ·have h2:y*2^s<2^Lib.bitLen y*2^s:=Nat.mul_lt_mul_of_pos_right d (Nat.two_pow_pos s)
  rw[←Nat.pow_add,show Lib.bitLen y+s=64 by omega]at h2
  exact h2
theorem halves (hi lo y P C:Nat) (hP:P*C=18446744073709551616) (hC:0<C) (hPp:0<P) (hhi:hi<y) (hlo:lo<18446744073709551616):
 lo/C<P∧hi*P+lo/C<y*P∧(hi*P+lo/C)*18446744073709551616+lo*P % 18446744073709551616=(hi*18446744073709551616+lo)*P:=by
 have a:lo/C<P:=by rw[Nat.div_lt_iff_lt_mul hC,hP];exact hlo
 refine ⟨a,?_,?_⟩
 ·have:(hi+1)*P≤y*P:=Nat.mul_le_mul_right _ hhi
  rw[Nat.add_mul]at this;omega
 ·have h1:=Nat.div_add_mod lo C
  have h2:=Nat.mod_lt lo hC
  have h3:lo*P=(lo/C)*18446744073709551616+(lo % C)*P:=by
   conv=>lhs;rw[←h1]
   rw[Nat.add_mul,←hP]
   congr 1
   rw[Nat.mul_comm C,Nat.mul_assoc,Nat.mul_comm C]
  have h4:(lo % C)*P<18446744073709551616:=by
   rw[←hP,Nat.mul_comm P];exact Nat.mul_lt_mul_of_pos_right h2 hPp
  rw[h3,Nat.mul_comm (lo/C) 18446744073709551616,Nat.mul_add_mod,Nat.mod_eq_of_lt h4,Nat.add_mul,Nat.add_mul]
  have h5:hi*P*18446744073709551616=hi*18446744073709551616*P:=by rw[Nat.mul_assoc,Nat.mul_comm P,Nat.mul_assoc]
  rw[h5,h3];omega
theorem together' (B N y P Y U1 U01 U00 q1 q0 r1 r0:Nat) (hY:Y=y*P) (hP:0<P) (hy:0<y)
 (hN:N*P=(U1*B+U01)*B+U00)
 (e1:U1*B+U01=Y*q1+r1) (e0:r1*B+U00=Y*q0+r0) (hr0:r0<Y):
 q1*B+q0=N/y∧r0/P=N % y:=by
 have h:N*P=Y*(q1*B+q0)+r0:=by
  rw[hN,e1,Nat.add_mul,Nat.add_assoc,e0,Nat.mul_add,Nat.mul_assoc,Nat.add_assoc]
 have hd:N/y=(N*P)/(y*P):=(Nat.mul_div_mul_right N y hP).symm
 have hm:(N*P) % (y*P)=(N % y)*P:=Nat.mul_mod_mul_right P N y
 have hq:(N*P)/Y=q1*B+q0:=by
  rw[h,Nat.mul_add_div (by rw[hY];exact Nat.mul_pos hy hP),Nat.div_eq_of_lt hr0,Nat.add_zero]
 have hr:(N*P) % Y=r0:=by rw[h,Nat.mul_add_mod,Nat.mod_eq_of_lt hr0]
 refine ⟨by rw[hd,←hY,hq],?_⟩
 rw[←hY,hr]at hm
 rw[hm,Nat.mul_div_cancel _ hP]
end Go.Proofs.YtlnnombljiecmaaGreatDoor.Dv
namespace Go.Proofs.YtlnnombljiecmaaGreatDoor
open Go.RowKit
set_option maxRecDepth 2000 in
set_option maxHeartbeats 1000000 in
theorem zFz (hi lo y s Y v1 v0 U1 U0 u1 u0 q r D1 R1 q' r' D0 R0:Nat) (w:World) (h0:0<hi) (h1:hi<y)
 (hs:s<64)
 (hY:9223372036854775808≤Y) (hY2:Y<18446744073709551616) (hv1:2147483648≤v1) (hv1b:v1<4294967296) (hv0:v0<4294967296)
 (hu1:u1<4294967296) (hu0:u0<4294967296)
 (e1:IntKind.u64.wrap (↑y*2^s)=(Y:Int))
 (e2:(Y:Int)/4294967296=v1)
 (e3:bits BinOp.and IntKind.u64 (Y:Int) 4294967295=v0)
 (e4:bits BinOp.or IntKind.u64 (IntKind.u64.wrap (↑hi*2^s)) (↑lo/2^(64-s))=(U1:Int))
 (e5:IntKind.u64.wrap (↑lo*2^s)=(U0:Int))
 (e6:(U0:Int)/4294967296=u1)
 (e7:bits BinOp.and IntKind.u64 (U0:Int) 4294967295=u0)
 (e8:(U1:Int)/v1=q) (e9:(U1:Int)-IntKind.u64.wrap (q*v1)=r)
 (hD1:Hid (((U1:Int)*4294967296+u1)/Y=(D1:Int))) (hDb:D1<4294967296)
 (e11:IntKind.u64.wrap (IntKind.u64.wrap (IntKind.u64.wrap ((U1:Int)*4294967296)+u1)-IntKind.u64.wrap (D1*Y))=(R1:Int))
 (f8:(R1:Int)/v1=q') (f9:(R1:Int)-IntKind.u64.wrap (q'*v1)=r')
 (hD0:Hid (((R1:Int)*4294967296+u0)/Y=(D0:Int))) (hDc:D0<4294967296)
 (f11:IntKind.u64.wrap (IntKind.u64.wrap (IntKind.u64.wrap ((R1:Int)*4294967296)+u0)-IntKind.u64.wrap (D0*Y))=(R0:Int))
 (HY:Hid ((Y:Int)=v1*4294967296+v0))
 (q1:Hid ((U1:Int)=q*v1+r)) (q2:q≤4294967297) (q3:r<v1) (q4:D1≤q)
 (p1:Hid ((R1:Int)=q'*v1+r')) (p2:q'≤4294967297) (p3:r'<v1) (p4:D0≤q')
 (hlz:Hid (Calls Tryz.prog 263 #[.int .u64 y] w fun e w'=>e= .returned (.int .i64 s)∧w=w')):
 Calls Tryz.prog 232 #[.int .u64 hi,.int .u64 lo,.int .u64 y] w fun e w'=>e= .returned (.tuple #[.int .u64 ((D1:Int)*4294967296+D0),.int .u64 ((R0:Int)/2^s)])∧w=w':=by
 have hb0:((y:Int)==0)=false:=by simp;omega
 have hb1:((hi:Int)==0)=false:=by simp;omega
 have hb2:((v1:Int)==0)=false:=by simp;omega
 have hle:¬(y:Int)≤hi:=by omega
 have hwr1:IntKind.u64.wrap (r:Int)=r:=IntWalk.u64_in _ (by omega)
 have hwr2:IntKind.u64.wrap (r':Int)=r':=IntWalk.u64_in _ (by omega)
 go_enter Tryz.func232,Tryz.ntmps232
 go_wp2_with (go_at_call 263;refine hlz.mono ?_;rintro e w' ⟨rfl,rfl⟩)
 clear e1 e2 e3 e4 e5 e6 e7 e8 e9 hwr1 hb0 hb1 hle hlz
 have hYp:(0:Int)<Y:=by omega
 clear h0 h1 hY hY2
 go_loop [15,16] (fun a b=>∃x z:Int,a= .int .u64 x∧b= .int .u64 z∧Hid ((U1:Int)=x*v1+z)∧(D1:Int)≤x∧x≤4294967297∧0≤z∧z<4294967296) (fun a _=>(intOf a).toNat)
 case atStart=>exact ⟨q,r,rfl,rfl,q1,by omega,by omega,by omega,by omega⟩
 case round=>
  obtain ⟨x,z,rfl,rfl,HU,x1,x2,z1,z2⟩:=hrel
  have hb:0≤x*v0∧x*v0≤18446744073709551615:=by
   refine ⟨Int.mul_nonneg (by omega) (by omega),?_⟩
   have:=Int.mul_le_mul x2 (show (v0:Int)≤4294967295 by omega) (by omega) (by omega)
   omega
  obtain ⟨hb1',hb2'⟩:=hb
  by_cases hB:4294967296≤x
  ·have hdn:=Dv.down _ _ _ _ HU.out
   have HD:=Lib.hid hdn
   clear hdn
   by_cases hz:4294967296≤z+v1
   ·have hxd:x=D1+1:=by
     have:=Dv.at_break U1 u1 (x-1) (z+v1) v1 v0 Y HY.out HD.out hYp (by omega) (by omega) (by omega) hz (by omega)
     have:=hD1.out;omega
    clear HD HU
    subst hxd
    go_wp2
    clear e11 f8 f9 hb1' hb2' hB
    try clear hz
    try clear hC
    go_loop [18,16] (fun a b=>∃x z:Int,a= .int .u64 x∧b= .int .u64 z∧Hid ((R1:Int)=x*v1+z)∧(D0:Int)≤x∧x≤4294967297∧0≤z∧z<4294967296) (fun a _=>(intOf a).toNat)
    case atStart=>exact ⟨q',r',rfl,rfl,p1,by omega,by omega,by omega,by omega⟩
    case round=>
     obtain ⟨x,z,rfl,rfl,HU,x1,x2,z1,z2⟩:=hrel
     have hb:0≤x*v0∧x*v0≤18446744073709551615:=by
      refine ⟨Int.mul_nonneg (by omega) (by omega),?_⟩
      have:=Int.mul_le_mul x2 (show (v0:Int)≤4294967295 by omega) (by omega) (by omega)
      omega
     obtain ⟨hb1',hb2'⟩:=hb
     by_cases hB:4294967296≤x
     ·have hdn:=Dv.down _ _ _ _ HU.out
      have HD:=Lib.hid hdn
      clear hdn
      by_cases hz:4294967296≤z+v1
      ·have hxd:x=D0+1:=by
        have:=Dv.at_break R1 u0 (x-1) (z+v1) v1 v0 Y HY.out HD.out hYp (by omega) (by omega) (by omega) hz (by omega)
        have:=hD0.out;omega
       clear HD HU
       subst hxd
       go_wp2
       go_ret2
       exact ⟨rfl,rfl⟩
      ·go_wp2
       go_round
       case rel=>exact ⟨x-1,z+v1,rfl,rfl,HD,by omega,by omega,by omega,by omega⟩
       case measure=>simp[intOf];omega
     ·by_cases hC:4294967296*z+u0<x*v0
      ·have hlt:=Dv.too_great R1 u0 x z v1 v0 Y HY.out HU.out hYp (by omega)
       have hlt':(D0:Int)<x:=by have:=hD0.out;omega
       clear hlt
       have hdn:=Dv.down _ _ _ _ HU.out
       have HD:=Lib.hid hdn
       clear hdn
       by_cases hz:4294967296≤z+v1
       ·have hxd:x=D0+1:=by
         have:=Dv.at_break R1 u0 (x-1) (z+v1) v1 v0 Y HY.out HD.out hYp (by omega) (by omega) (by omega) hz (by omega)
         have:=hD0.out;omega
        clear HD HU
        subst hxd
        go_wp2
        go_ret2
        exact ⟨rfl,rfl⟩
       ·go_wp2
        go_round
        case rel=>exact ⟨x-1,z+v1,rfl,rfl,HD,by omega,by omega,by omega,by omega⟩
        case measure=>simp[intOf];omega
      ·have hxd:x=D0:=by
        have:=Dv.fits R1 u0 x z v1 v0 Y HY.out HU.out hYp (by omega)
        have:=hD0.out;omega
       clear HU
       subst hxd
       go_wp2
       go_ret2
       exact ⟨rfl,rfl⟩
   ·go_wp2
    go_round
    case rel=>exact ⟨x-1,z+v1,rfl,rfl,HD,by omega,by omega,by omega,by omega⟩
    case measure=>simp[intOf];omega
  ·by_cases hC:4294967296*z+u1<x*v0
   ·have hlt:=Dv.too_great U1 u1 x z v1 v0 Y HY.out HU.out hYp (by omega)
    have hlt':(D1:Int)<x:=by have:=hD1.out;omega
    clear hlt
    have hdn:=Dv.down _ _ _ _ HU.out
    have HD:=Lib.hid hdn
    clear hdn
    by_cases hz:4294967296≤z+v1
    ·have hxd:x=D1+1:=by
      have:=Dv.at_break U1 u1 (x-1) (z+v1) v1 v0 Y HY.out HD.out hYp (by omega) (by omega) (by omega) hz (by omega)
      have:=hD1.out;omega
     clear HD HU
     subst hxd
     go_wp2
     clear e11 f8 f9 hb1' hb2' hB
     try clear hz
     try clear hC
     go_loop [18,16] (fun a b=>∃x z:Int,a= .int .u64 x∧b= .int .u64 z∧Hid ((R1:Int)=x*v1+z)∧(D0:Int)≤x∧x≤4294967297∧0≤z∧z<4294967296) (fun a _=>(intOf a).toNat)
     case atStart=>exact ⟨q',r',rfl,rfl,p1,by omega,by omega,by omega,by omega⟩
     case round=>
      obtain ⟨x,z,rfl,rfl,HU,x1,x2,z1,z2⟩:=hrel
      have hb:0≤x*v0∧x*v0≤18446744073709551615:=by
       refine ⟨Int.mul_nonneg (by omega) (by omega),?_⟩
       have:=Int.mul_le_mul x2 (show (v0:Int)≤4294967295 by omega) (by omega) (by omega)
       omega
      obtain ⟨hb1',hb2'⟩:=hb
      by_cases hB:4294967296≤x
      ·have hdn:=Dv.down _ _ _ _ HU.out
       have HD:=Lib.hid hdn
       clear hdn
       by_cases hz:4294967296≤z+v1
       ·have hxd:x=D0+1:=by
         have:=Dv.at_break R1 u0 (x-1) (z+v1) v1 v0 Y HY.out HD.out hYp (by omega) (by omega) (by omega) hz (by omega)
         have:=hD0.out;omega
        clear HD HU
        subst hxd
        go_wp2
        go_ret2
        exact ⟨rfl,rfl⟩
       ·go_wp2
        go_round
        case rel=>exact ⟨x-1,z+v1,rfl,rfl,HD,by omega,by omega,by omega,by omega⟩
        case measure=>simp[intOf];omega
      ·by_cases hC:4294967296*z+u0<x*v0
       ·have hlt:=Dv.too_great R1 u0 x z v1 v0 Y HY.out HU.out hYp (by omega)
        have hlt':(D0:Int)<x:=by have:=hD0.out;omega
        clear hlt
        have hdn:=Dv.down _ _ _ _ HU.out
        have HD:=Lib.hid hdn
        clear hdn
        by_cases hz:4294967296≤z+v1
        ·have hxd:x=D0+1:=by
          have:=Dv.at_break R1 u0 (x-1) (z+v1) v1 v0 Y HY.out HD.out hYp (by omega) (by omega) (by omega) hz (by omega)
          have:=hD0.out;omega
         clear HD HU
         subst hxd
         go_wp2
         go_ret2
         exact ⟨rfl,rfl⟩
        ·go_wp2
         go_round
         case rel=>exact ⟨x-1,z+v1,rfl,rfl,HD,by omega,by omega,by omega,by omega⟩
         case measure=>simp[intOf];omega
       ·have hxd:x=D0:=by
         have:=Dv.fits R1 u0 x z v1 v0 Y HY.out HU.out hYp (by omega)
         have:=hD0.out;omega
        clear HU
        subst hxd
        go_wp2
        go_ret2
        exact ⟨rfl,rfl⟩
    ·go_wp2
     go_round
     case rel=>exact ⟨x-1,z+v1,rfl,rfl,HD,by omega,by omega,by omega,by omega⟩
     case measure=>simp[intOf];omega
   ·have hxd:x=D1:=by
     have:=Dv.fits U1 u1 x z v1 v0 Y HY.out HU.out hYp (by omega)
     have:=hD1.out;omega
    clear HU
    subst hxd
    go_wp2
    clear e11 f8 f9 hb1' hb2' hB
    try clear hz
    try clear hC
    go_loop [18,16] (fun a b=>∃x z:Int,a= .int .u64 x∧b= .int .u64 z∧Hid ((R1:Int)=x*v1+z)∧(D0:Int)≤x∧x≤4294967297∧0≤z∧z<4294967296) (fun a _=>(intOf a).toNat)
    case atStart=>exact ⟨q',r',rfl,rfl,p1,by omega,by omega,by omega,by omega⟩
    case round=>
     obtain ⟨x,z,rfl,rfl,HU,x1,x2,z1,z2⟩:=hrel
     have hb:0≤x*v0∧x*v0≤18446744073709551615:=by
      refine ⟨Int.mul_nonneg (by omega) (by omega),?_⟩
      have:=Int.mul_le_mul x2 (show (v0:Int)≤4294967295 by omega) (by omega) (by omega)
      omega
     obtain ⟨hb1',hb2'⟩:=hb
     by_cases hB:4294967296≤x
     ·have hdn:=Dv.down _ _ _ _ HU.out
      have HD:=Lib.hid hdn
      clear hdn
      by_cases hz:4294967296≤z+v1
      ·have hxd:x=D0+1:=by
        have:=Dv.at_break R1 u0 (x-1) (z+v1) v1 v0 Y HY.out HD.out hYp (by omega) (by omega) (by omega) hz (by omega)
        have:=hD0.out;omega
       clear HD HU
       subst hxd
       go_wp2
       go_ret2
       exact ⟨rfl,rfl⟩
      ·go_wp2
       go_round
       case rel=>exact ⟨x-1,z+v1,rfl,rfl,HD,by omega,by omega,by omega,by omega⟩
       case measure=>simp[intOf];omega
     ·by_cases hC:4294967296*z+u0<x*v0
      ·have hlt:=Dv.too_great R1 u0 x z v1 v0 Y HY.out HU.out hYp (by omega)
       have hlt':(D0:Int)<x:=by have:=hD0.out;omega
       clear hlt
       have hdn:=Dv.down _ _ _ _ HU.out
       have HD:=Lib.hid hdn
       clear hdn
       by_cases hz:4294967296≤z+v1
       ·have hxd:x=D0+1:=by
         have:=Dv.at_break R1 u0 (x-1) (z+v1) v1 v0 Y HY.out HD.out hYp (by omega) (by omega) (by omega) hz (by omega)
         have:=hD0.out;omega
        clear HD HU
        subst hxd
        go_wp2
        go_ret2
        exact ⟨rfl,rfl⟩
       ·go_wp2
        go_round
        case rel=>exact ⟨x-1,z+v1,rfl,rfl,HD,by omega,by omega,by omega,by omega⟩
        case measure=>simp[intOf];omega
      ·have hxd:x=D0:=by
        have:=Dv.fits R1 u0 x z v1 v0 Y HY.out HU.out hYp (by omega)
        have:=hD0.out;omega
       clear HU
       subst hxd
       go_wp2
       go_ret2
       exact ⟨rfl,rfl⟩
end Go.Proofs.YtlnnombljiecmaaGreatDoor
namespace Go.Proofs.YtlnnombljiecmaaGreatDoor
open Go.RowKit
theorem ZCt (y:Nat) (w:World) (h0:0<y) (h1:y<18446744073709551616):
 Calls Tryz.prog 263 #[.int .u64 y] w fun e w'=>e= .returned (.int .i64 ((64-Lib.bitLen y:Nat):Int))∧w=w':=by
 refine (Tryz.bits_LeadingZeros64 (y:Int) w (by omega) (by omega)).mono ?_
 rintro e w' ⟨rfl,rfl⟩
 refine ⟨?_,rfl⟩
 have:=(Dv.len_spec y h0 h1).2.1
 rw[Int.toNat_natCast,show (64:Int)-(Lib.bitLen y:Int)=((64-Lib.bitLen y:Nat):Int)by omega]
theorem zOe (a:Int) (m:Nat) (h:a % 18446744073709551616=m):IntKind.u64.wrap a=m:=by
 rw[IntKind.wrap_u64,h]
theorem ZAp (U1 u1 D Y R:Nat) (h:U1*4294967296+u1=Y*D+R) (hR:R<18446744073709551616):
 IntKind.u64.wrap (IntKind.u64.wrap (IntKind.u64.wrap ((U1:Int)*4294967296)+u1)-IntKind.u64.wrap (D*Y))=(R:Int):=by
 have hc:(D:Int)*Y=((Y*D:Nat):Int):=by rw[Int.natCast_mul,Int.mul_comm]
 rw[hc]
 generalize Y*D=p at*
 simp only[IntKind.wrap_u64]
 omega
theorem zCx (a:Nat) (ha:a<18446744073709551616):bits BinOp.and IntKind.u64 (a:Int) 4294967295=((a % 4294967296:Nat):Int):=by
 have h:=u64_and_nat a 4294967295 ha (by omega)
 have e:((4294967295:Nat):Int)=4294967295:=rfl
 rw[e]at h
 rw[h]
 have h2:=Nat.and_two_pow_sub_one_eq_mod a 32
 rw[show (2:Nat)^32-1=4294967295 by decide,show (2:Nat)^32=4294967296 by decide]at h2
 rw[h2]
set_option maxHeartbeats 1000000 in
theorem zCd (lo y:Nat) (w:World) (h0:0<y) (h2:y<18446744073709551616) (h3:lo<18446744073709551616):
 Calls Tryz.prog 232 #[.int .u64 (0:Int),.int .u64 lo,.int .u64 y] w fun e w'=>e= .returned (.tuple #[.int .u64 ((lo/y:Nat):Int),.int .u64 ((lo % y:Nat):Int)])∧∃n,w'=w.drewN n:=by
 have hb0:((y:Int)==0)=false:=by simp;omega
 have hle:¬(y:Int)≤0:=by omega
 have hy:(1:Int)≤y:=by omega
 have hx:(0:Int)≤lo:=by omega
 have hd:IntKind.u64.wrap ((lo:Int)/y)=(lo:Int)/y:=by
  have h4:lo/y≤lo:=Nat.div_le_self _ _
  have h5:(lo:Int)/y=((lo/y:Nat):Int):=by rw[Int.natCast_ediv]
  rw[h5];exact IntWalk.u64_in _ ⟨Int.natCast_nonneg _,by generalize lo/y=z at*;omega⟩
 go_enter Tryz.func232,Tryz.ntmps232
 go_wp2
 go_quiet (fail)
 go_wp2
 go_ret2
 exact ⟨rfl,_,rfl⟩
theorem wk (U1 u1 v1 v0 Y:Nat) (hYp:0<Y) (hU:U1<Y) (hu:u1<4294967296) (hY:(Y:Int)=v1*4294967296+v0) (hv1:2147483648≤v1) (hv0:v0<4294967296):
 ∃D R q r:Nat,Y*D+R=U1*4294967296+u1∧R<Y∧((U1:Int)*4294967296+u1)/Y=D∧(D:Int)<4294967296∧(D:Int)≤q∧
  v1*q+r=U1∧r<v1∧(q:Int)≤4294967297∧(U1:Int)/v1=q:=by
 have d3:((U1:Int)*4294967296+u1)/Y=(((U1*4294967296+u1)/Y:Nat):Int):=by simp[Int.natCast_ediv,Int.natCast_add,Int.natCast_mul]
 have d4:=Dv.digit_lt U1 u1 Y (by omega) (by omega) (by omega)
 have d5:=Dv.first_ge U1 u1 v1 v0 Y hY (by omega) (by omega) (by omega) (by omega)
 have k3:=Dv.first_le U1 v1 v0 Y hY (by omega) (by omega) (by omega)
 have k4:(U1:Int)/v1=((U1/v1:Nat):Int):=by rw[Int.natCast_ediv]
 rw[d3]at d4 d5
 rw[k4]at k3 d5
 exact ⟨_,_,_,_,Nat.div_add_mod _ Y,Nat.mod_lt _ hYp,d3,d4,d5,Nat.div_add_mod U1 v1,Nat.mod_lt _ (by omega),k3,k4⟩
theorem div64_any (hi lo y:Nat) (w:World) (h1:hi<y) (h2:y<18446744073709551616) (h3:lo<18446744073709551616):
 Calls Tryz.prog 232 #[.int .u64 hi,.int .u64 lo,.int .u64 y] w fun e w'=>
  e= .returned (.tuple #[.int .u64 (((hi*18446744073709551616+lo)/y:Nat):Int),.int .u64 (((hi*18446744073709551616+lo) % y:Nat):Int)])∧∃n,w'=w.drewN n:=by
 by_cases h0:hi=0
 ·subst h0
  simpa using zCd lo y w (by omega) h2 h3
 ·obtain ⟨s,hs⟩:∃s,s=64-Lib.bitLen y:=⟨_,rfl⟩
  obtain ⟨n1,n2,n3,n4⟩:=Dv.norm y (by omega) h2 s hs
  have hlz:=ZCt y w (by omega) h2
  rw[←hs]at hlz
  have hP:=Nat.two_pow_pos s
  have hC:=Nat.two_pow_pos (64-s)
  obtain ⟨g1,g2,g3⟩:=Dv.halves hi lo y (2^s) (2^(64-s)) n4 hC hP h1 h3
  have hhi:hi*2^s<18446744073709551616:=Nat.lt_of_le_of_lt (Nat.le_add_right _ _) (Nat.lt_trans g2 n3)
  have hlc:lo/2^(64-s)<18446744073709551616:=Nat.lt_of_le_of_lt (Nat.div_le_self _ _) h3
  have e5:IntKind.u64.wrap ((lo:Int)*2^s)=((lo*2^s % 18446744073709551616:Nat):Int):=by
   refine zOe _ _ ?_
   simp[Int.natCast_emod,Int.natCast_mul,Int.natCast_pow]
  have e1:IntKind.u64.wrap ((y:Int)*2^s)=((y*2^s:Nat):Int):=by
   have:(y:Int)*2^s=((y*2^s:Nat):Int):=by simp[Int.natCast_mul,Int.natCast_pow]
   rw[this];exact IntWalk.u64_in _ (by omega)
  have e4:bits BinOp.or IntKind.u64 (IntKind.u64.wrap ((hi:Int)*2^s)) ((lo:Int)/2^(64-s))=((hi*2^s+lo/2^(64-s):Nat):Int):=by
   have a1:(hi:Int)*2^s=((hi*2^s:Nat):Int):=by simp[Int.natCast_mul,Int.natCast_pow]
   have a2:(lo:Int)/2^(64-s)=((lo/2^(64-s):Nat):Int):=by simp[Int.natCast_ediv,Int.natCast_pow]
   rw[a1,a2,IntWalk.u64_in _ ⟨Int.natCast_nonneg _,by generalize hi*2^s=z at*;omega⟩,u64_or_nat _ _ hhi hlc,Dv.or_disj _ _ _ g1]
  generalize hYe:y*2^s=Y at*
  generalize hU1e:hi*2^s+lo/2^(64-s)=U1 at*
  have hU0b:=Nat.mod_lt (lo*2^s) (show 18446744073709551616>0 by omega)
  generalize lo*2^s % 18446744073709551616=U0 at*
  clear hlc hhi g1 n4
  have hYp:0<Y:=by omega
  have y1:=Nat.div_add_mod Y 4294967296
  have y2:=Nat.mod_lt Y (show 4294967296>0 by omega)
  have hv1:2147483648≤Y/4294967296:=by omega
  have hv1b:Y/4294967296<4294967296:=by omega
  have e2:(Y:Int)/4294967296=((Y/4294967296:Nat):Int):=by omega
  have e3:=zCx Y n3
  have e6:(U0:Int)/4294967296=((U0/4294967296:Nat):Int):=by omega
  have e7:=zCx U0 hU0b
  have u1b:U0/4294967296<4294967296:=by omega
  have u0b:=Nat.mod_lt U0 (show 4294967296>0 by omega)
  have hN:(hi*18446744073709551616+lo)*2^s=(U1*4294967296+U0/4294967296)*4294967296+U0 % 4294967296:=by
   rw[←g3];omega
  generalize Y/4294967296=v1 at*
  generalize Y % 4294967296=v0 at*
  generalize U0/4294967296=u1 at*
  generalize hu0:U0 % 4294967296=u0 at*
  have hY:(Y:Int)=v1*4294967296+v0:=by omega
  obtain ⟨D1,R1,q,r,d1,d2,d3,d4,d5,k1,k2,k3,k4⟩:=wk U1 u1 v1 v0 Y hYp g2 u1b hY hv1 y2
  obtain ⟨D0,R0,q',r',c1,c2,c3,c4,c5,m1,m2,m3,m4⟩:=wk R1 u0 v1 v0 Y hYp d2 u0b hY hv1 y2
  have mulc:∀a b:Nat,(a:Int)*b=((b*a:Nat):Int):=fun a b=>by rw[Int.natCast_mul,Int.mul_comm]
  have e9:(U1:Int)-IntKind.u64.wrap (q*v1)=r:=by
   rw[mulc,IntWalk.u64_in _ ⟨Int.natCast_nonneg _,by generalize v1*q=z at*;omega⟩]
   generalize v1*q=z at*;omega
  have f9:(R1:Int)-IntKind.u64.wrap (q'*v1)=r':=by
   rw[mulc,IntWalk.u64_in _ ⟨Int.natCast_nonneg _,by generalize v1*q'=z at*;omega⟩]
   generalize v1*q'=z at*;omega
  have q1:(U1:Int)=q*v1+r:=by rw[mulc];generalize v1*q=z at*;omega
  have p1:(R1:Int)=q'*v1+r':=by rw[mulc];generalize v1*q'=z at*;omega
  have ht:=Dv.together' 4294967296 (hi*18446744073709551616+lo) y (2^s) Y U1 u1 u0 D1 D0 R1 R0 hYe.symm hP (by omega) hN d1.symm c1.symm c2
  have e11:=ZAp U1 u1 D1 Y R1 d1.symm (by omega)
  have f11:=ZAp R1 u0 D0 Y R0 c1.symm (by omega)
  refine (zFz hi lo y s Y v1 v0 U1 U0 u1 u0 q r D1 R1 q' r' D0 R0 w (by omega) h1 n1 n2 n3 hv1 hv1b y2 u1b u0b e1 e2 e3 e4 e5 e6 (by rw[e7]) k4 e9 d3 (by omega) e11 m4 f9 c3 (by omega) f11 hY q1 (by omega) k2 (by omega) p1 (by omega) m2 (by omega) hlz).mono ?_
  rintro e w' ⟨rfl,rfl⟩
  refine ⟨?_,0,rfl⟩
  obtain ⟨t1,t2⟩:=ht
  rw[←t1,←t2]
  simp[Int.natCast_ediv,Int.natCast_pow]
end Go.Proofs.YtlnnombljiecmaaGreatDoor
namespace Go.Gh
open Go Go.Proofs
open Go.IntKind (i64)
set_option maxRecDepth 1000000
set_option maxHeartbeats 2000000
set_option linter.unusedSimpArgs false
set_option linter.unusedVariables false
set_option linter.unnecessarySimpa false
set_option linter.unusedSectionVars false
variable [Dep]
open Go.RowKit
def qR (n:Int):Int:=if n<0 then IntKind.u64.wrap (0-(IntKind.u64.wrap n))else IntKind.u64.wrap n
theorem zJv (n:Int):GC Tryz.prog 260 [iG n] (.d (.sc (.int .u64 (qR n)))):=by
 refine zA Tryz.func260 ?_
 refine gE [0,2] ?_
 refine gE [0,2,4] ?_
 refine zB ?_ ?_<;>intro c1<;>try simp only[toN]at c1
 ·refine zG env true [] [0,2] ?_
  refine gT ?_
  rw[qR,iP c1];rfl
 refine zG env true [] [2] ?_
 refine gT ?_
 rw[qR,iQ c1];rfl
theorem yI (x:Int):0<=IntKind.u64.wrap x/\IntKind.u64.wrap x<18446744073709551616:=by rw[IntKind.wrap_u64];omega
theorem t39 {p:Prop} (h:p:=by first|assumption|exact yI _):p:=h
theorem Vj (n:Int):0<=qR n:=by
 unfold qR;split
 ·exact (yI _).1
 exact (yI _).1
theorem zVc {n:Int} (h:¬n=0) (h1: -9223372036854775808<=n/\n<=9223372036854775807):0<qR n:=by
 unfold qR;split
 ·rw[IntKind.wrap_u64,IntKind.wrap_u64];omega
 rw[IntKind.wrap_u64];omega
def Kt:Nat->Int->Int->Int
 |0,a,_=>a
 |n+1,a,b=>if b=0 then a else Kt n b (a.tmod b)
def WI (a b:Int):Int:=Kt (b.toNat+1) a b
theorem qn {a b:Int} (ha:0<=a) (hb:0<b):0<=a.tmod b/\a.tmod b<b:=by
 rw[Int.tmod_eq_emod_of_nonneg ha]
 exact ⟨Int.emod_nonneg _ t11,Int.emod_lt_of_pos _ hb⟩
theorem Xd:∀(n m:Nat) (a b:Int),0<=a->0<=b->b<n->b<m->Kt n a b=Kt m a b
 |0,_,_,_,_,h,h1,_=>by omega
 |_,0,_,_,_,h,_,h1=>by omega
 |n+1,m+1,a,b,ha,hb,h1,h2=>by
  unfold Kt
  split
  ·rfl
  have:=qn ha (b:=b) t11
  exact Xd n m b _ hb this.1 t11 t11
theorem zMw {a b:Int} (ha:0<=a) (hb:0<=b) (h:¬b=0):WI a b=WI b (a.tmod b):=by
 have:=qn ha (b:=b) t11
 rw[WI,Kt,iQ h]
 exact Xd _ _ b _ hb this.1 t11 t11
theorem zBo:∀(n:Nat) (a b:Int),0<=a->0<=b->(0<a∨0<b)->b<n->0<Kt n a b
 |0,_,_,_,_,_,h=>by omega
 |n+1,a,b,ha,hb,h,h1=>by
  unfold Kt
  split
  ·omega
  have:=qn ha (b:=b) t11
  exact zBo n b _ hb this.1 (.inl t11) t11
theorem zSo {a b:Int} (ha:0<=a) (hb:0<=b) (h:0<b):WI a b≠0:=by
 have:=zBo (b.toNat+1) a b ha hb (.inr h) t11
 unfold WI;omega
theorem zYv (a b:Int) (ha:0<=a) (hb:0<=b):GC Tryz.prog 261 [.d (.sc (.int .u64 a)),.d (.sc (.int .u64 b))] (.d (.sc (.int .u64 (WI a b)))):=by
 refine zA Tryz.func261 ?_
 refine gE [0,1,4] ?_
 refine zI (α:=Int×Int) (fun x=>0<=x.1/\0<=x.2/\WI a b=WI x.1 x.2) (fun x=>[(0,.d (.sc (.int .u64 x.1))),(1,.d (.sc (.int .u64 x.2)))]) (fun _=>[]) (fun x=>x.2.toNat) (a,b) ⟨ha,hb,rfl⟩ ?_ (hp:=by simp only[zC];repeat' first|exact trivial|exact rfl|apply And.intro)
 rintro ⟨p,q⟩ ⟨hp,hq,he⟩
 dsimp only at*
 refine gE [0,1,4,6] ?_
 refine zP ?_ ?_<;>intro c1<;>try simp only[toN]at c1
 ·refine zG env true [] [0,1,4] ?_ (hp:=by simp only[zC];first|assumption|exact ⟨c1,trivial⟩|(simp;omega))
  refine zD ((q,p.tmod q)) ?_ (hp:=by simp only[zC];repeat' first|exact trivial|exact rfl|apply And.intro) (hm:=by have:=qn hp (b:=q) t11;dsimp only;omega)
  have:=qn hp (b:=q) t11
  exact ⟨hq,this.1,he.trans (zMw hp hq c1)⟩
 refine gE [4] ?_
 refine gT ?_
 rw[he,show q=0 by omega,WI,Kt,iP rfl];rfl
structure Wid where
 hi:Int
 lo:Int
deriving DecidableEq
instance :Inhabited Wid:=⟨⟨0,0⟩⟩
abbrev wdG (x:Wid):G:= .agg [.d (.sc (.int .u64 x.hi)),.d (.sc (.int .u64 x.lo))]
def un (neg:Bool) (a:Wid) (b:Wid):Rto×Int:=if (bif (bif (bif decide (0<a.hi)then true else decide (0<b.hi))then true else decide (1152921504606846976<a.lo))then true else decide (1152921504606846976<b.lo))=true then (⟨0,0⟩,3)else if neg=true then (⟨i64.wrap (0-(i64.wrap a.lo)),i64.wrap b.lo⟩,0)else (⟨i64.wrap a.lo,i64.wrap b.lo⟩,0)
theorem zSm (neg:Bool) (a:Wid) (b:Wid):GC Tryz.prog 262 [bG neg,wdG a,wdG b] (.tup [rqG ((un neg a b).1),iG ((un neg a b).2)]):=by
 refine zA Tryz.func262 ?_
 refine gE [0,4,5,6,7] ?_
 refine gE [0,4,5,6,7,26] ?_
 refine zF ?_ ?_<;>intro c1<;>try simp only[bb,toN]at c1
 ·refine gE [0,4,5,6,7] ?_
  refine gT ?_
  rw[un,iP (by (try simp only[bb,toN]);exact c1)];rfl
 refine zG env true [] [0,5,6,7,8] ?_
 refine gE [5,6,7,8,31] ?_
 refine zF ?_ ?_<;>intro c2<;>try simp only[bb,toN]at c2
 ·refine zG env true [] [5,6,7,8] ?_
  refine zG env true [] [6,7] ?_
  refine gT ?_
  rw[un,iN (by (try simp only[bb,toN]);exact c1),iP (by (try simp only[bb,toN]);exact c2)];rfl
 refine zG env true [] [6,7] ?_
 refine gT ?_
 rw[un,iN (by (try simp only[bb,toN]);exact c1),iN (by (try simp only[bb,toN]);exact c2)];rfl
def wb (n:Int) (d:Int):Rto×Int:=if d=0 then (⟨0,0⟩,1)else ((un (!(decide (n<0)==decide (d<0))) (⟨0,IntKind.u64.wrap ((qR n).tdiv (WI (qR n) (qR d)))⟩:Wid) (⟨0,IntKind.u64.wrap ((qR d).tdiv (WI (qR n) (qR d)))⟩:Wid)).1,(un (!(decide (n<0)==decide (d<0))) (⟨0,IntKind.u64.wrap ((qR n).tdiv (WI (qR n) (qR d)))⟩:Wid) (⟨0,IntKind.u64.wrap ((qR d).tdiv (WI (qR n) (qR d)))⟩:Wid)).2)
theorem uY (n:Int) (d:Int) (hd:yn d):GC Tryz.prog 230 [iG n,iG d] (.tup [rqG ((wb n d).1),iG ((wb n d).2)]):=by
 refine zA Tryz.func230 ?_
 refine gE [0,1,4,5] ?_
 refine gE [0,1,4,5,10] ?_
 refine zB ?_ ?_<;>intro c1<;>try simp only[toN]at c1
 ·refine gE [0,1,4,5] ?_
  refine gT ?_
  rw[wb,iP c1];rfl
 refine gR [.call (zJv n),.call (zJv d)] [0,1,4,5,6,7] ?_
 refine gR [.call (zYv (qR n) (qR d) (by first|assumption|exact Vj _) (by first|assumption|exact Vj _))] [0,1,4,5,6,7,8] ?_
 have hg:=zSo (Vj n) (Vj d) (zVc c1 hd)
 refine zG env true [.call (zSm (!(decide (n<0)==decide (d<0))) (⟨0,IntKind.u64.wrap ((qR n).tdiv (WI (qR n) (qR d)))⟩:Wid) (⟨0,IntKind.u64.wrap ((qR d).tdiv (WI (qR n) (qR d)))⟩:Wid))] [4,5] ?_ (hp:=by simp only[zC];exact ⟨hg,hg,zH.refl _⟩)
 refine gT ?_
 rw[wb,iQ c1];rfl
def Ut (n:Int) (top:Int):Bool:=(bif decide (0<=n)then decide (n<=top)else false)
theorem WT (n:Int) (top:Int):GC Tryz.prog 227 [iG n,iG top] (bG (Ut n top)):=by
 refine zA Tryz.func227 ?_
 refine gE [0,1,4] ?_
 refine gE [4] ?_
 refine gT ?_
 rw[Ut];rfl
def YQ (x y:Int):Int×Int:=(x*y/18446744073709551616,x*y % 18446744073709551616)
def VY (hi lo y:Int):Int×Int:=((hi*18446744073709551616+lo)/y,(hi*18446744073709551616+lo) % y)
theorem zIl (x y:Int) (hx:0<=x/\x<18446744073709551616) (hy:0<=y/\y<18446744073709551616):GC Tryz.prog 231 [.d (.sc (.int .u64 x)),.d (.sc (.int .u64 y))] (.tup [.d (.sc (.int .u64 (YQ x y).1)),.d (.sc (.int .u64 (YQ x y).2))]):=by
 refine Xe Tryz.func231 rfl rfl rfl rfl fun w=> ?_
 obtain ⟨a,rfl⟩:=Int.eq_ofNat_of_zero_le hx.1
 obtain ⟨b,rfl⟩:=Int.eq_ofNat_of_zero_le hy.1
 refine (Go.Proofs.Tryz.bits_Mul64 a b t11 t11 w).mono ?_
 rintro e w' ⟨rfl,rfl⟩
 refine ⟨?_,Below.refl _ _⟩
 simp[YQ,Int.natCast_ediv,Int.natCast_emod,Int.natCast_mul]
theorem zJb (hi lo y:Int) (h1:0<=hi/\hi<y) (h2:y<18446744073709551616) (h3:0<=lo/\lo<18446744073709551616):GC Tryz.prog 232 [.d (.sc (.int .u64 hi)),.d (.sc (.int .u64 lo)),.d (.sc (.int .u64 y))] (.tup [.d (.sc (.int .u64 (VY hi lo y).1)),.d (.sc (.int .u64 (VY hi lo y).2))]):=by
 refine Xe Tryz.func232 rfl rfl rfl rfl fun w=> ?_
 obtain ⟨a,rfl⟩:=Int.eq_ofNat_of_zero_le h1.1
 obtain ⟨b,rfl⟩:=Int.eq_ofNat_of_zero_le h3.1
 obtain ⟨c,rfl⟩:=Int.eq_ofNat_of_zero_le (show 0<=y by omega)
 refine (Go.Proofs.YtlnnombljiecmaaGreatDoor.div64_any a b c w t11 t11 t11).mono ?_
 rintro e w' ⟨rfl,n,rfl⟩
 refine ⟨?_,below_drewN (Below.refl _ _) n⟩
 simp[VY,Int.natCast_ediv,Int.natCast_emod,Int.natCast_mul,Int.natCast_add]
theorem zFb {x y:Int} (hx:0<=x/\x<18446744073709551616) (hy:0<=y/\y<18446744073709551616):0<=(YQ x y).1/\0<=(YQ x y).2/\(YQ x y).2<18446744073709551616/\(∀z,y<=z->0<z->(YQ x y).1<z):=by
 have h0:0<=x*y:=Int.mul_nonneg hx.1 hy.1
 refine ⟨?_,?_,?_,fun z hz h1=> ?_⟩
 ·simp only[YQ];omega
 ·simp only[YQ];omega
 ·simp only[YQ];omega
 simp only[YQ]
 refine Int.ediv_lt_of_lt_mul t23 ?_
 have a1:x*y<=x*z:=Int.mul_le_mul_of_nonneg_left hz hx.1
 have a2:x*z<18446744073709551616*z:=Int.mul_lt_mul_of_pos_right hx.2 h1
 have a3:18446744073709551616*z=z*18446744073709551616:=Int.mul_comm _ _
 omega
def wa (a:Int) (b:Int) (c:Int):Int×Int×Bool:=if (IntKind.u64.wrap c)<=((YQ (IntKind.u64.wrap a) (IntKind.u64.wrap b)).1)then (0,0,false)else if 1099511627776<((VY ((YQ (IntKind.u64.wrap a) (IntKind.u64.wrap b)).1) ((YQ (IntKind.u64.wrap a) (IntKind.u64.wrap b)).2) (IntKind.u64.wrap c)).1)then (0,0,false)else (i64.wrap ((VY ((YQ (IntKind.u64.wrap a) (IntKind.u64.wrap b)).1) ((YQ (IntKind.u64.wrap a) (IntKind.u64.wrap b)).2) (IntKind.u64.wrap c)).1),i64.wrap ((VY ((YQ (IntKind.u64.wrap a) (IntKind.u64.wrap b)).1) ((YQ (IntKind.u64.wrap a) (IntKind.u64.wrap b)).2) (IntKind.u64.wrap c)).2),true)
theorem zQb (a:Int) (b:Int) (c:Int):GC Tryz.prog 228 [iG a,iG b,iG c] (.tup [iG ((wa a b c).1),iG ((wa a b c).2.1),bG ((wa a b c).2.2)]):=by
 refine zA Tryz.func228 ?_
 refine gE [0,1,2,6,7,8] ?_
 obtain ⟨m1,m2,m3,_⟩:=zFb (yI a) (yI b)
 refine zG env true [.call (zIl (IntKind.u64.wrap a) (IntKind.u64.wrap b) t39 t39)] [2,6,7,8,9,10] ?_
 refine zG env true [] [2,6,7,8,9,10,24] ?_
 refine zB ?_ ?_<;>intro c1<;>try simp only[toN]at c1
 ·refine gE [2,6,7,8,9,10] ?_
  refine gT ?_
  rw[wa,iP c1];rfl
 refine zG env true [.call (zJb ((YQ (IntKind.u64.wrap a) (IntKind.u64.wrap b)).1) ((YQ (IntKind.u64.wrap a) (IntKind.u64.wrap b)).2) (IntKind.u64.wrap c) t16 (by first|omega|exact (yI _).2) t16)] [6,7,8,11,12] ?_
 refine gE [6,7,8,11,12,34] ?_
 refine zB ?_ ?_<;>intro c2<;>try simp only[toN]at c2
 ·refine gE [6,7,8,11,12] ?_
  refine gT ?_
  rw[wa,iQ c1,iP c2];rfl
 refine zG env true [] [6,7,8] ?_
 refine gT ?_
 rw[wa,iQ c1,iQ c2];rfl
def zBc (sum:Int) (rate:Int) (fr:Int) (till:Int) (basis:Int):Int×Int:=if (bif (bif (bif (bif (bif (!(Ut sum 1099511627776))then true else (!(Ut rate 1000)))then true else (!(Ut fr 100000)))then true else (!(Ut till 100000)))then true else decide (till<fr))then true else (bif (!decide (basis=360))then (!decide (basis=365))else false))=true then (0,1)else if (!(wa sum (i64.wrap (rate*(i64.wrap (till-fr)))) (i64.wrap (1000*basis))).2.2)=true then (0,3)else ((wa sum (i64.wrap (rate*(i64.wrap (till-fr)))) (i64.wrap (1000*basis))).1,0)
theorem zYf (sum:Int) (rate:Int) (fr:Int) (till:Int) (basis:Int):GC Tryz.prog 196 [iG sum,iG rate,iG fr,iG till,iG basis] (.tup [iG ((zBc sum rate fr till basis).1),iG ((zBc sum rate fr till basis).2)]):=by
 refine zA Tryz.func196 ?_
 refine gE [0,1,2,3,4,10,11] ?_
 refine gR [.call (WT sum 1099511627776),.call (WT rate 1000),.call (WT fr 100000),.call (WT till 100000)] [0,1,2,3,4,10,11,45] ?_
 refine zF ?_ ?_<;>intro c1<;>try simp only[bb,toN]at c1
 ·refine gE [0,1,2,3,4,10,11] ?_
  refine gT ?_
  rw[zBc,iP (by (try simp only[bb,toN]);exact c1)];rfl
 refine zG env true [.call (zQb sum (i64.wrap (rate*(i64.wrap (till-fr)))) (i64.wrap (1000*basis)))] [10,11,12,14] ?_
 refine gE [10,11,12,60] ?_
 refine zF ?_ ?_<;>intro c2<;>try simp only[bb,toN]at c2
 ·refine gE [10,11,12] ?_
  refine gT ?_
  rw[zBc,iN (by (try simp only[bb,toN]);exact c1),iP (by (try simp only[bb,toN]);exact c2)];rfl
 refine gE [10,11] ?_
 refine gT ?_
 rw[zBc,iN (by (try simp only[bb,toN]);exact c1),iN (by (try simp only[bb,toN]);exact c2)];rfl
end Go.Gh
