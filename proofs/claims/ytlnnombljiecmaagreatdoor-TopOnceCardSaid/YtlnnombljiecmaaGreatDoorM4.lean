/- Walks by the logic of calls, and plain laws (several texts in one). -/
import Derived.Test.YtlnnombljiecmaaGreatDoorM3
import Derived.Shelf.Strings.Builder1
import Derived.Shelf.Strings.Builder2
import Derived.Shelf.Strings.OnBuilder
import Derived.Shelf.Small.Bits
import Derived.Shelf.Small.Wraps
import Derived.Shelf.Strings.BuilderF
import Derived.Shelf.Strings.BuilderK
import Derived.Shelf.Strings.Builder2Cap
import Derived.Shelf.Strconv.Itoa0
import Derived.Shelf.Strconv.Itoa1
import Derived.Shelf.LaysM
import Derived.Shelf.Strconv.Itoa2
import Derived.Shelf.Strconv.Itoa3
import Derived.Shelf.Sort.Plain
import Derived.Shelf.Bits.Mul64
import Derived.Shelf.Strings.BuilderCap
import Derived.Shelf.Slices.Turned
import Derived.Ground.Names2Prog
import Derived.Shelf.Slices.CompactI
import Derived.Shelf.Slices.SearchI
import Derived.Shelf.Slices.Cells
import Derived.Shelf.Slices.In.SortNone
import Derived.Test.YtlnnombljiecmaaGreatDoorProg
import Derived.Lib.BitFns
import Derived.Lib.ItoaNum
import Derived.WalkKit
import Derived.WalkSpells
import Derived.WalkLawsBesides
import Derived.Handy
import Derived.Deep.QuietTactic
import Derived.BigQuiet
import Derived.Lib.Hide
namespace Go.Gh
open Go Go.Proofs
set_option maxRecDepth 1000000
set_option maxHeartbeats 2000000
set_option linter.unusedSimpArgs false
set_option linter.unusedVariables false
set_option linter.unnecessarySimpa false
set_option linter.unusedSectionVars false
variable [Dep]
open Go.RowKit
def Xo (r:Rlm) (u:Us):Bool:=(!wiV u.fr 0 ((r.bB.length:Int)-1)|| !wiV u.dst 0 ((r.bB.length:Int)-1))|| !wiV u.days 1 20000
def vM (r:Rlm) (i:Nat):Int:=if i<r.bE.length then if Xo r (r.bE.getD i dF)=true then 1 else if usI (r.bE.take i) (r.bE.getD i dF) 0=true then 5 else vM r (i+1)else 0
termination_by r.bE.length-i
def zCy (r:Rlm):Int:=if (100:Int)<r.bE.length then 6 else vM r 0
def UR (r:Rlm) (x:Rt):Bool:=((!wiV x.fr 0 ((r.bA.length:Int)-1)|| !wiV x.dst 0 ((r.bA.length:Int)-1))||decide (x.fr=x.dst))||((!wiV x.num 1 1073741824|| !wiV x.den 1 1073741824)|| !wiV x.since 0 100000)
def jJ (r:Rlm) (i:Nat):Bool:=if i<r.rates.length then if UR r (r.rates.getD i dF)=true then false else jJ r (i+1)else true
termination_by r.rates.length-i
def Ub (r:Rlm) (x:Ht):Bool:=(!wiV x.ord 0 ((r.bD.length:Int)-1)|| !wiV x.fr 0 x.dst)||decide (100000<x.dst)
def Wm (r:Rlm) (i:Nat):Bool:=if i<r.halts.length then if Ub r (r.halts.getD i dF)=true then false else Wm r (i+1)else true
termination_by r.halts.length-i
def jo (r:Rlm):Int:=if (100:Int)<r.rates.length then 6 else if jJ r 0=true then if (20:Int)<r.halts.length then 6 else if Wm r 0=true then 0 else 1 else 1
def Kt (r:Rlm):Int:=orE (zY r.bA 8 fun _=>true) (zY (cityN r) 40 fun i=>Yz r (r.bB.getD i dF))
def ZR (r:Rlm):Int:=orE (Kt r) (orE (jv r) (orE (jq r) (orE (zCy r) (jo r))))
theorem zOd {α:Type} [Inhabited α] {l:List α} {k j:Nat} (h:j<k):(l.take k).getD j dF=l.getD j dF:=by
 rw[List.getD_eq_getElem?_getD,List.getElem?_take_of_lt h,<-List.getD_eq_getElem?_getD]
theorem Xp (r:Rlm) (hr:FitR r):GC Tryz.prog 55 [rlG r] (iG (zCy r)):=by
 have hr1:=hr.bE
 have hr2:=hr.bB
 refine zA Tryz.func55 ?_
 refine gE [1,2] ?_
 refine ZA 0 ?_
 refine gE [1,2,9] ?_
 refine zB ?_ ?_<;>intro c1<;>try simp only[toN]at c1
 ·refine gE [1,2] ?_
  refine gT ?_
  rw[zCy,iP c1];rfl
 refine gE [1,2,3] ?_
 refine zI (α:=Nat) (fun i=>i<=r.bE.length/\vM r 0=vM r i) (fun i=>[(3,iG i)]) (fun _=>[]) (fun i=>r.bE.length-i) 0 ⟨Nat.zero_le _,rfl⟩ ?_ (hp:=t42)
 rintro i ⟨hi,he⟩
 refine gE [1,2,3,14] ?_
 refine zB ?_ ?_<;>intro c2<;>try simp only[toN]at c2
 ·refine gE [1,2,3,4] ?_
  refine gR [.call (zz (r.bE.getD i dF).fr 0 ((r.bB.length:Int)-1)),.call (zz (r.bE.getD i dF).dst 0 ((r.bB.length:Int)-1)),.call (zz (r.bE.getD i dF).days 1 20000)] [1,2,3,4,45] ?_
  refine zF ?_ ?_<;>intro c3<;>try simp only[bb,toN]at c3
  ·refine gE [1,2,3,4] ?_
   refine gT ?_
   rw[zCy,iQ c1,he,vM,iP t11,iP (by rcases c3 with (h|h)|h<;>simp only[Xo,h,Bool.not_false,Bool.true_or,Bool.or_true])];rfl
  refine gE [1,2,3,4,5] ?_
  refine zI (α:=Nat) (fun k=>k<=i/\usI (r.bE.take i) (r.bE.getD i dF) 0=usI (r.bE.take i) (r.bE.getD i dF) k) (fun k=>[(5,iG k)]) (fun _=>[]) (fun k=>i-k) 0 ⟨Nat.zero_le _,rfl⟩ ?_ (hp:=t42)
  rintro k ⟨hk,hf⟩
  refine gE [1,2,3,4,5,48] ?_
  refine zB ?_ ?_<;>intro c4<;>try simp only[toN]at c4
  ·refine gE [1,2,3,4,5,70] ?_
   refine zF ?_ ?_<;>intro c5<;>try simp only[bb,toN]at c5
   ·refine gE [1,2,3,4,5] ?_
    refine gT ?_
    have hus:Xo r (r.bE.getD i dF)=false:=by rw[Xo,c3.1.1,c3.1.2,c3.2];rfl
    have hq:usI (r.bE.take i) (r.bE.getD i dF) 0=true:=by rw[hf,usI,iP t34,iP (by rw[zOd t11];simp only[HI,Bool.and_eq_true,decide_eq_true_eq];omega)]
    rw[zCy,iQ c1,he,vM,iP t11,iQ (by rw[hus];simp),iP hq];rfl
   refine gE [1,2,3,4,5] ?_
   refine zD (k+1) ?_ (hp:=t42)
   refine ⟨by omega,hf.trans ?_⟩
   rw[usI,iP t34,iQ (by rw[zOd t11];simp only[HI,Bool.and_eq_true,decide_eq_true_eq];omega)]
  refine gE [1,2,3] ?_
  refine zD (i+1) ?_ (hp:=t42)
  refine ⟨by omega,he.trans ?_⟩
  have hus:Xo r (r.bE.getD i dF)=false:=by rw[Xo,c3.1.1,c3.1.2,c3.2];rfl
  have hq:usI (r.bE.take i) (r.bE.getD i dF) 0=false:=by rw[hf,usI,iQ t34]
  rw[vM,iP t11,iQ (by rw[hus];simp),iQ (by rw[hq];simp)]
 refine gE [2] ?_
 refine gT ?_
 rw[zCy,iQ c1,he,vM,iQ t11];rfl
theorem qS (r:Rlm) (hr:FitR r):GC Tryz.prog 56 [rlG r] (iG (jo r)):=by
 have hr1:=hr.rates
 have hr2:=hr.halts
 have hr3:=hr.cur
 have hr4:=hr.bD
 refine zA Tryz.func56 ?_
 refine gE [1,2] ?_
 refine ZA 0 ?_
 refine gE [1,2,10] ?_
 refine zB ?_ ?_<;>intro c1<;>try simp only[toN]at c1
 ·refine gE [1,2] ?_
  refine gT ?_
  rw[jo,iP c1];rfl
 refine gE [1,2,3] ?_
 refine zI (α:=Nat) (fun i=>i<=r.rates.length/\jJ r 0=jJ r i) (fun i=>[(3,iG i)]) (fun _=>[]) (fun i=>r.rates.length-i) 0 ⟨Nat.zero_le _,rfl⟩ ?_ (hp:=t42)
 rintro i ⟨hi,he⟩
 refine gE [1,2,3,15] ?_
 refine zB ?_ ?_<;>intro c2<;>try simp only[toN]at c2
 ·refine gE [1,2,3,4] ?_
  refine gR [.call (zz (r.rates.getD i dF).fr 0 ((r.bA.length:Int)-1)),.call (zz (r.rates.getD i dF).dst 0 ((r.bA.length:Int)-1))] [1,2,3,4,47] ?_
  refine zF ?_ ?_<;>intro c3<;>try simp only[bb,toN]at c3
  ·refine gE [1,2,3,4] ?_
   refine gT ?_
   have hx:UR r (r.rates.getD i dF)=true:=by rcases c3 with (h|h)|h<;>simp only[UR,h,decide_true,Bool.not_false,Bool.true_or,Bool.or_true]
   have hg:jJ r 0=false:=by rw[he,jJ,iP t11,iP hx]
   rw[jo,iQ c1,iQ (by rw[hg];simp)];rfl
  refine gR [.call (zz (r.rates.getD i dF).num 1 1073741824),.call (zz (r.rates.getD i dF).den 1 1073741824),.call (zz (r.rates.getD i dF).since 0 100000)] [1,2,3,63] ?_
  refine zF ?_ ?_<;>intro c4<;>try simp only[bb,toN]at c4
  ·refine gE [1,2,3] ?_
   refine gT ?_
   have hx:UR r (r.rates.getD i dF)=true:=by rcases c4 with (h|h)|h<;>simp only[UR,h,Bool.not_false,Bool.true_or,Bool.or_true]
   have hg:jJ r 0=false:=by rw[he,jJ,iP t11,iP hx]
   rw[jo,iQ c1,iQ (by rw[hg];simp)];rfl
  refine gE [1,2,3] ?_
  refine zD (i+1) ?_ (hp:=t42)
  refine ⟨by omega,he.trans ?_⟩
  have hx:UR r (r.rates.getD i dF)=false:=by rw[UR,c3.1.1,c3.1.2,decide_eq_false c3.2,c4.1.1,c4.1.2,c4.2];rfl
  rw[jJ,iP t11,iQ (by rw[hx];simp)]
 refine gE [1,2,67] ?_
 refine zB ?_ ?_<;>intro c5<;>try simp only[toN]at c5
 ·refine gE [1,2] ?_
  refine gT ?_
  have hg:jJ r 0=true:=by rw[he,jJ,iQ t11]
  rw[jo,iQ c1,iP hg,iP t12];rfl
 refine gE [1,2,5] ?_
 refine zI (α:=Nat) (fun i=>i<=r.halts.length/\Wm r 0=Wm r i) (fun i=>[(5,iG i)]) (fun _=>[]) (fun i=>r.halts.length-i) 0 ⟨Nat.zero_le _,rfl⟩ ?_ (hp:=t42)
 rintro k ⟨hk,hf⟩
 refine gE [1,2,5,72] ?_
 refine zB ?_ ?_<;>intro c6<;>try simp only[toN]at c6
 ·refine gE [1,2,5,6] ?_
  refine gR [.call (zz (r.halts.getD k dF).ord 0 ((r.bD.length:Int)-1)),.call (zz (r.halts.getD k dF).fr 0 (r.halts.getD k dF).dst)] [1,2,5,100] ?_
  refine zF ?_ ?_<;>intro c7<;>try simp only[bb,toN]at c7
  ·refine gE [1,2,5] ?_
   refine gT ?_
   have hg:jJ r 0=true:=by rw[he,jJ,iQ t11]
   have hx:Ub r (r.halts.getD k dF)=true:=by
    rcases c7 with (h|h)|h
    ·simp only[Ub,h,Bool.not_false,Bool.true_or]
    ·simp only[Ub,h,Bool.not_false,Bool.true_or,Bool.or_true]
    simp only[Ub,decide_eq_true h,Bool.or_true]
   have hh:Wm r 0=false:=by rw[hf,Wm,iP t11,iP hx]
   rw[jo,iQ c1,iP hg,iQ t12,iQ (by rw[hh];simp)];rfl
  refine gE [1,2,5] ?_
  refine zD (k+1) ?_ (hp:=t42)
  have hx:Ub r (r.halts.getD k dF)=false:=by rw[Ub,c7.1.1,c7.1.2,decide_eq_false t11];rfl
  refine ⟨by omega,hf.trans ?_⟩
  rw[Wm,iP t11,iQ (by rw[hx];simp)]
 refine gE [2] ?_
 refine gT ?_
 have hg:jJ r 0=true:=by rw[he,jJ,iQ t11]
 have hh:Wm r 0=true:=by rw[hf,Wm,iQ t11]
 rw[jo,iQ c1,iP hg,iQ t12,iP hh];rfl
theorem Xc (r:Rlm) (hr:FitR r):GC Tryz.prog 21 [rlG r] (iG (ZR r)):=by
 refine zA Tryz.func21 ?_
 refine gE [1,2] ?_
 refine ZA 0 ?_
 refine gR [.call (show GC Tryz.prog 52 [rlG r] (iG (Kt r))from zFu r hr)] [1,2,3] ?_
 refine gE [1,2,3,7] ?_
 refine zB ?_ ?_<;>intro c1<;>try simp only[toN]at c1
 ·refine gR [.call (zMt r hr)] [1,2,3] ?_
  refine gE [1,2,3,11] ?_
  refine zB ?_ ?_<;>intro c2<;>try simp only[toN]at c2
  ·refine gR [.call (uB r hr)] [1,2,3] ?_
   refine gE [1,2,3,15] ?_
   refine zB ?_ ?_<;>intro c3<;>try simp only[toN]at c3
   ·refine gR [.call (Xp r hr)] [1,2,3] ?_
    refine gE [1,2,3,19] ?_
    refine zB ?_ ?_<;>intro c4<;>try simp only[toN]at c4
    ·refine gR [.call (qS r hr)] [2,3] ?_
     refine gE [2] ?_
     refine gT ?_
     first|contradiction|(simp only[yR,ZR,orE];simp[*])
    refine gE [2] ?_
    refine gT ?_
    first|contradiction|(simp only[yR,ZR,orE];simp[*])
   refine gE [1,2,3,19] ?_
   refine zB ?_ ?_<;>intro c5<;>try simp only[toN]at c5
   ·refine gR [.call (qS r hr)] [2,3] ?_
    refine gE [2] ?_
    refine gT ?_
    first|contradiction|(simp only[yR,ZR,orE];simp[*])
   refine gE [2] ?_
   refine gT ?_
   first|contradiction|(simp only[yR,ZR,orE];simp[*])
  refine gE [1,2,3,15] ?_
  refine zB ?_ ?_<;>intro c6<;>try simp only[toN]at c6
  ·refine gR [.call (Xp r hr)] [1,2,3] ?_
   refine gE [1,2,3,19] ?_
   refine zB ?_ ?_<;>intro c7<;>try simp only[toN]at c7
   ·refine gR [.call (qS r hr)] [2,3] ?_
    refine gE [2] ?_
    refine gT ?_
    first|contradiction|(simp only[yR,ZR,orE];simp[*])
   refine gE [2] ?_
   refine gT ?_
   first|contradiction|(simp only[yR,ZR,orE];simp[*])
  refine gE [1,2,3,19] ?_
  refine zB ?_ ?_<;>intro c8<;>try simp only[toN]at c8
  ·refine gR [.call (qS r hr)] [2,3] ?_
   refine gE [2] ?_
   refine gT ?_
   first|contradiction|(simp only[yR,ZR,orE];simp[*])
  refine gE [2] ?_
  refine gT ?_
  first|contradiction|(simp only[yR,ZR,orE];simp[*])
 refine gE [1,2,3,11] ?_
 refine zB ?_ ?_<;>intro c9<;>try simp only[toN]at c9
 ·refine gR [.call (uB r hr)] [1,2,3] ?_
  refine gE [1,2,3,15] ?_
  refine zB ?_ ?_<;>intro c10<;>try simp only[toN]at c10
  ·refine gR [.call (Xp r hr)] [1,2,3] ?_
   refine gE [1,2,3,19] ?_
   refine zB ?_ ?_<;>intro c11<;>try simp only[toN]at c11
   ·refine gR [.call (qS r hr)] [2,3] ?_
    refine gE [2] ?_
    refine gT ?_
    first|contradiction|(simp only[yR,ZR,orE];simp[*])
   refine gE [2] ?_
   refine gT ?_
   first|contradiction|(simp only[yR,ZR,orE];simp[*])
  refine gE [1,2,3,19] ?_
  refine zB ?_ ?_<;>intro c12<;>try simp only[toN]at c12
  ·refine gR [.call (qS r hr)] [2,3] ?_
   refine gE [2] ?_
   refine gT ?_
   first|contradiction|(simp only[yR,ZR,orE];simp[*])
  refine gE [2] ?_
  refine gT ?_
  first|contradiction|(simp only[yR,ZR,orE];simp[*])
 refine gE [1,2,3,15] ?_
 refine zB ?_ ?_<;>intro c13<;>try simp only[toN]at c13
 ·refine gR [.call (Xp r hr)] [1,2,3] ?_
  refine gE [1,2,3,19] ?_
  refine zB ?_ ?_<;>intro c14<;>try simp only[toN]at c14
  ·refine gR [.call (qS r hr)] [2,3] ?_
   refine gE [2] ?_
   refine gT ?_
   first|contradiction|(simp only[yR,ZR,orE];simp[*])
  refine gE [2] ?_
  refine gT ?_
  first|contradiction|(simp only[yR,ZR,orE];simp[*])
 refine gE [1,2,3,19] ?_
 refine zB ?_ ?_<;>intro c15<;>try simp only[toN]at c15
 ·refine gR [.call (qS r hr)] [2,3] ?_
  refine gE [2] ?_
  refine gT ?_
  first|contradiction|(simp only[yR,ZR,orE];simp[*])
 refine gE [2] ?_
 refine gT ?_
 first|contradiction|(simp only[yR,ZR,orE];simp[*])
theorem grF_p {l:List Int} {i:Nat} (h:i<l.length):grF l i=if wiV (l.getD i dF) 0 9=true then grF l (i+1)else false:=by rw[grF,iP h]
theorem zRu {l:List Int} {i:Nat} (h:i<l.length):yN l i=if inV (l.getD i dF) 10=true then yN l (i+1)else false:=by rw[yN,iP h]
theorem odF_p {l:List Cho} {i:Nat} (h:i<l.length):odF l i=if odB l i=true then false else odF l (i+1):=by rw[odF,iP h]
theorem ZEg {l:List Cho} {i:Nat} (h:i<l.length):wV l i=if inV (l.getD i dF).by_ 5=true then wV l (i+1)else false:=by rw[wV,iP h]
theorem zHk {l:List Int} {lo hi:Int} {i:Nat} (h:i<l.length):zk l lo hi i=if yg l lo hi i=true then false else zk l lo hi (i+1):=by rw[zk,iP h]
theorem ruF_p {l:List Rul} {i:Nat} (h:i<l.length):ruF l i=if ruB l i=true then false else ruF l (i+1):=by rw[ruF,iP h]
theorem ZAy {r:Rlm} {i:Nat} (h:i<r.bE.length):vM r i=if Xo r (r.bE.getD i dF)=true then 1 else if usI (r.bE.take i) (r.bE.getD i dF) 0=true then 5 else vM r (i+1):=by rw[vM,iP h]
theorem usF_p {r:Rlm} {i:Nat} (h:i<r.bE.length):usF r i=if Vi r (r.bE.getD i dF)=true then 1 else if usI (r.bE.take i) (r.bE.getD i dF) 0=true then 5 else usF r (i+1):=by rw[usF,iP h]
theorem ZBl {r:Rlm} {i:Nat} (h:i<r.rates.length):jJ r i=if UR r (r.rates.getD i dF)=true then false else jJ r (i+1):=by rw[jJ,iP h]
theorem rtF_p {r:Rlm} {i:Nat} (h:i<r.rates.length):rtF r i=if WX r (r.rates.getD i dF)=true then false else rtF r (i+1):=by rw[rtF,iP h]
theorem ZDf {r:Rlm} {i:Nat} (h:i<r.halts.length):Wm r i=if Ub r (r.halts.getD i dF)=true then false else Wm r (i+1):=by rw[Wm,iP h]
theorem htF_p {r:Rlm} {i:Nat} (h:i<r.halts.length):htF r i=if Wn r (r.halts.getD i dF)=true then false else htF r (i+1):=by rw[htF,iP h]
theorem Ux {l:List Int} {lo hi:Int} :∀(k i:Nat),l.length-i=k->zk l lo hi i=true->∀j,i<=j->j<l.length->lo<=l.getD j dF/\l.getD j dF<=hi:=by
 intro k
 induction k with
 |zero=>intro i hk h j h1 h2;omega
 |succ k ih=>
  intro i hk h j h1 h2
  rw[zk,iP t11]at h
  split at h
  ·cases h
  rename_i hb
  simp only[yg,Bool.or_eq_true,Bool.and_eq_true,decide_eq_true_eq]at hb
  by_cases e:j=i
  ·subst e;omega
  exact ih (i+1) t11 h j t11 h2
theorem Vv {l:List Int} {lo hi lo' hi':Int} :∀(k i:Nat),l.length-i=k->zk l lo hi i=true->(∀j,i<=j->j<l.length->lo'<=l.getD j dF/\l.getD j dF<=hi')->zk l lo' hi' i=true:=by
 intro k
 induction k with
 |zero=>intro i hk h h2;rw[zk,iQ t11]
 |succ k ih=>
  intro i hk h h2
  rw[zk,iP t11]at h⊢
  split at h
  ·cases h
  rename_i hb
  have h3:=h2 i t11 t11
  rw[iQ (by simp only[yg,Bool.or_eq_true,Bool.and_eq_true,decide_eq_true_eq]at hb⊢;omega)]
  exact ih (i+1) t11 h fun j h1 h4=>h2 j t11 h4
theorem zBe {l:List Int} :∀(k i:Nat),l.length-i=k->(Ws l i=true↔∀j,i<=j->j<l.length->zFh (l.getD j dF)=false):=by
 intro k
 induction k with
 |zero=>intro i hk;rw[Ws,iQ t11];exact ⟨fun _ j h1 h2=>by omega,fun _=>rfl⟩
 |succ k ih=>
  intro i hk
  rw[Ws,iP t11]
  cases hb:zFh (l.getD i dF)with
  |true=>exact ⟨fun h=>by simp at h,fun h=>by rw[h i t11 t11]at hb;cases hb⟩
  |false=>
   rw[iQ t27,ih (i+1) t11]
   exact ⟨fun h j h1 h2=>by
    by_cases e:j=i
    ·subst e;exact hb
    exact h j t11 h2,fun h j h1 h2=>h j t11 h2⟩
theorem ul {l:List Int} :∀(k i:Nat),l.length-i=k->(qK l i=true↔∀j,i<=j->j<l.length->Jp (l.getD j dF)=false):=by
 intro k
 induction k with
 |zero=>intro i hk;rw[qK,iQ t11];exact ⟨fun _ j h1 h2=>by omega,fun _=>rfl⟩
 |succ k ih=>
  intro i hk
  rw[qK,iP t11]
  cases hb:Jp (l.getD i dF)with
  |true=>exact ⟨fun h=>by simp at h,fun h=>by rw[h i t11 t11]at hb;cases hb⟩
  |false=>
   rw[iQ t27,ih (i+1) t11]
   exact ⟨fun h j h1 h2=>by
    by_cases e:j=i
    ·subst e;exact hb
    exact h j t11 h2,fun h j h1 h2=>h j t11 h2⟩
theorem Vd {n:Int} (h0:0<=n) (h1:n<=2000):IntKind.i64.wrap n=n:=by
 have e:n % 18446744073709551616=n:=Int.emod_eq_of_lt h0 t11
 show (if (IntKind.i64.signed&&decide (n % 18446744073709551616≥9223372036854775808))=true then n % 18446744073709551616-18446744073709551616 else n % 18446744073709551616)=n
 rw[e,decide_eq_false t11,Bool.and_false,iQ t27]
theorem zOg {n:Int} (h:0<=n):n.tdiv 100=n/100/\n.tmod 100=n % 100:=⟨Int.tdiv_eq_ediv_of_nonneg h,Int.tmod_eq_emod_of_nonneg h⟩
theorem zTh (r:Rlm) (c:Cty):Yz r c=jZ r c:=by
 rw[Bool.eq_iff_iff]
 have key:(Ws c.feasts 0=true/\zk c.feasts 0 2000 0=true)↔(qK c.feasts 0=true/\zk c.feasts 101 1231 0=true):=by
  constructor
  ·rintro ⟨h1,h2⟩
   have a1:=(zBe _ 0 rfl).1 h1
   have a2:=Ux _ 0 rfl h2
   have a3:∀j,0<=j->j<c.feasts.length->Jp (c.feasts.getD j dF)=false/\101<=c.feasts.getD j dF/\c.feasts.getD j dF<=1231:=fun j hj hl=>by
    have b1:=a1 j hj hl
    have b2:=a2 j hj hl
    obtain ⟨e1,e2⟩:=zOg b2.1
    simp only[zFh,e1,e2,Bool.or_eq_false_iff,Bool.not_eq_false']at b1
    rw[Vd t11 t11,ZJ,ZJ]at b1
    refine ⟨?_,by omega,by omega⟩
    simp only[Jp,e2,Bool.or_eq_false_iff,decide_eq_false_iff_not]
    omega
   exact ⟨(ul _ 0 rfl).2 fun j h h'=>(a3 j h h').1,Vv _ 0 rfl h2 fun j h h'=>(a3 j h h').2⟩
  rintro ⟨h1,h2⟩
  have a1:=(ul _ 0 rfl).1 h1
  have a2:=Ux _ 0 rfl h2
  refine ⟨(zBe _ 0 rfl).2 fun j h h'=> ?_,Vv _ 0 rfl h2 fun j h h'=>by have:=a2 j h h';omega⟩
  have b1:=a1 j h h'
  have b2:=a2 j h h'
  obtain ⟨e1,e2⟩:=zOg (show 0<=c.feasts.getD j dF by omega)
  simp only[Jp,e2,Bool.or_eq_false_iff,decide_eq_false_iff_not]at b1
  simp only[zFh,e1,e2,Bool.or_eq_false_iff,Bool.not_eq_false']
  rw[Vd t11 t11,ZJ,ZJ]
  omega
 have h1:wiV c.ord 0 ((r.bD.length:Int)-1)=inV c.ord r.bD.length:=Ve
 have h2:wiV c.cur 0 ((r.bA.length:Int)-1)=inV c.cur r.bA.length:=Ve
 unfold Yz jZ vC
 rw[h1,h2]
 generalize inV c.ord r.bD.length=b1
 generalize inV c.cur r.bA.length=b2
 generalize decide ((60:Int)<c.feasts.length)=b3
 generalize decide ((200:Int)<c.shut.length)=b4
 generalize zk c.rest 0 6 0=q1
 generalize zk c.shut 0 100000 0=q2
 revert key
 generalize Ws c.feasts 0=p1
 generalize zk c.feasts 0 2000 0=p2
 generalize qK c.feasts 0=p3
 generalize zk c.feasts 101 1231 0=p4
 intro key
 cases b1<;>cases b2<;>cases b3<;>cases b4<;>cases p1<;>cases p2<;>cases p3<;>cases p4<;>first|(exfalso;revert key;decide)|(cases q1<;>cases q2<;>decide)
theorem zSl (r:Rlm) (f:Frm):jS r f=wl r f:=by rw[jS,wl,Ve,Ve]
theorem ZDn {l:List Int} :∀(k i:Nat),l.length-i=k->grF l i=yN l i:=by
 intro k
 induction k with
 |zero=>intro i hk;rw[grF,yN,iQ t11,iQ t11]
 |succ k ih=>intro i hk;rw[grF_p t11,zRu t11,ih (i+1) t11,zNx (m:=9) (n:=10) rfl]
theorem ZCc {l:List Cho} :∀(k i:Nat),l.length-i=k->odF l i=(wV l i&&zk (l.map fun c=>c.ask) 0 21 i):=by
 intro k
 induction k with
 |zero=>intro i hk;rw[odF,wV,zk,iQ t11,iQ t11,iQ t32];rfl
 |succ k ih=>
  intro i hk
  rw[odF_p t11,ZEg t11,zHk (l:=l.map fun c=>c.ask) t32,ih (i+1) t11]
  have hr:yg (l.map fun c=>c.ask) 0 21 i=(!wiV (l.getD i dF).ask 0 21||(decide ((0:Int)<i)&&decide ((l.getD i dF).ask<=(l.getD ((i:Int)-1).toNat dF).ask))):=by
   rw[yg,qH t11,qH t11,Bool.eq_iff_iff]
   simp only[wiV,Bool.or_eq_true,Bool.and_eq_true,Bool.not_eq_true',Bool.and_eq_false_iff,decide_eq_false_iff_not,decide_eq_true_eq]
   omega
  rw[hr,odB,zNx (m:=4) (n:=5) rfl]
  cases wiV (l.getD i dF).ask 0 21<;>cases inV (l.getD i dF).by_ 5<;>cases (decide ((0:Int)<i)&&decide ((l.getD i dF).ask<=(l.getD ((i:Int)-1).toNat dF).ask))<;>simp
theorem ZBj {l:List Rul} :∀(k i:Nat),l.length-i=k->ruF l i=zk (l.map fun c=>c.ask) 0 21 i:=by
 intro k
 induction k with
 |zero=>intro i hk;rw[ruF,zk,iQ t11,iQ t32]
 |succ k ih=>
  intro i hk
  rw[ruF_p t11,zHk (l:=l.map fun c=>c.ask) t32,ih (i+1) t11]
  have hr:yg (l.map fun c=>c.ask) 0 21 i=ruB l i:=by
   rw[yg,qH t11,qH t11,Bool.eq_iff_iff]
   simp only[ruB,wiV,Bool.or_eq_true,Bool.and_eq_true,Bool.not_eq_true',Bool.and_eq_false_iff,decide_eq_false_iff_not,decide_eq_true_eq]
   omega
  rw[hr]
theorem zKo (o:Od):yq o=qf o:=by
 rw[yq,qf,ZCc _ 0 rfl,ZBj _ 0 rfl]
 cases wV o.bL 0<;>cases zk (o.bL.map fun c=>c.ask) 0 21 0<;>simp
theorem ZAz (r:Rlm) (u:Us):Xo r u=Vi r u:=by
 rw[Bool.eq_iff_iff]
 simp only[Xo,Vi,Ve,Bool.or_eq_true,Bool.not_eq_true',decide_eq_true_eq]
 rw[zGv]
 grind
theorem ZAx {r:Rlm} :∀(k i:Nat),r.bE.length-i=k->vM r i=usF r i:=by
 intro k
 induction k with
 |zero=>intro i hk;rw[vM,usF,iQ t11,iQ t11]
 |succ k ih=>intro i hk;rw[ZAy t11,usF_p t11,ih (i+1) t11,ZAz]
theorem ZBm (r:Rlm) (x:Rt):UR r x=WX r x:=by
 rw[Bool.eq_iff_iff]
 simp only[UR,WX,Ve,inV,wiV,Bool.or_eq_true,Bool.not_eq_true',Bool.and_eq_false_iff,decide_eq_false_iff_not,decide_eq_true_eq]
 omega
theorem ZDg (r:Rlm) (x:Ht):Ub r x=Wn r x:=by
 rw[Bool.eq_iff_iff]
 simp only[Ub,Wn,Ve,inV,wiV,Bool.or_eq_true,Bool.not_eq_true',Bool.and_eq_false_iff,decide_eq_false_iff_not,decide_eq_true_eq]
 omega
theorem ZBk {r:Rlm} :∀(k i:Nat),r.rates.length-i=k->jJ r i=rtF r i:=by
 intro k
 induction k with
 |zero=>intro i hk;rw[jJ,rtF,iQ t11,iQ t11]
 |succ k ih=>intro i hk;rw[ZBl t11,rtF_p t11,ih (i+1) t11,ZBm]
theorem ZDe {r:Rlm} :∀(k i:Nat),r.halts.length-i=k->Wm r i=htF r i:=by
 intro k
 induction k with
 |zero=>intro i hk;rw[Wm,htF,iQ t11,iQ t11]
 |succ k ih=>intro i hk;rw[ZDf t11,htF_p t11,ih (i+1) t11,ZDg]
theorem zKq (a b c:Int):orE (orE a b) c=orE a (orE b c):=by
 unfold orE;split<;>simp_all
theorem Uz (r:Rlm):ZR r=YL r:=by
 have e1:(fun i=>Yz r (r.bB.getD i dF))=fun i=>jZ r (r.bB.getD i dF):=funext fun i=>zTh _ _
 have e2:(fun i=>jS r (r.bC.getD i dF))=fun i=>wl r (r.bC.getD i dF):=funext fun i=>zSl _ _
 have e3:(fun i=>yq (r.bD.getD i dF))=fun i=>qf (r.bD.getD i dF):=funext fun i=>zKo _
 rw[ZR,Kt,zKq,jv,jq,zCy,jo,YL,usE,WZ,e1,e2,e3,ZDn _ 0 rfl,ZAx _ 0 rfl,ZBk _ 0 rfl,ZDe _ 0 rfl]
 congr 2
 split
 ·rfl
 split
 ·rfl
 rfl
open Go.IntKind (i64)
def Vh (day:Int):Bool:=(bif decide (0<=day)then decide (day<=100000)else false)
theorem zJl (day:Int):GC Tryz.prog 87 [iG day] (bG (Vh day)):=by
 refine zA Tryz.func87 ?_
 refine gE [0,2] ?_
 refine gE [2] ?_
 refine gT ?_
 rw[Vh];rfl
def wa (r:Rlm) (fr:Int) (dst:Int) (k1:Nat):Int×Int:=if k1<r.bE.length then if (bif decide (((r.bE.getD k1 dF).fr)=fr)then decide (((r.bE.getD k1 dF).dst)=dst)else false)=true then ((r.bE.getD k1 dF).days,0)else wa r fr dst (k1+1)else (0,4)
termination_by r.bE.length-k1
def zCv (r:Rlm) (fr:Int) (dst:Int):Int×Int:=wa r fr dst 0
theorem zCx (r:Rlm) (fr:Int) (dst:Int) (hr:FitR r):GC Tryz.prog 89 [rlG r,iG fr,iG dst] (.tup [iG ((zCv r fr dst).1),iG ((zCv r fr dst).2)]):=by
 have h1:=hr.bD
 have h2:=hr.bB
 have h3:=hr.bC
 have h5:=hr.bE
 have h6:=hr.cur
 refine zA Tryz.func89 ?_
 refine gE [1,2,3,6,7] ?_
 refine gE [1,2,3,6,7,8] ?_
 refine zI (α:=Nat) (fun x=>x<=r.bE.length/\wa r fr dst 0=wa r fr dst x) (fun x=>[(8,iG x)]) (fun x=>[]) (fun x=>r.bE.length-x) 0 ⟨by (try simp only[]);omega,rfl⟩ ?_ (hp:=t40)
 rintro k1 ⟨hi1,he⟩
 refine gE [1,2,3,6,7,8,13] ?_
 refine zB ?_ ?_<;>intro c1<;>try simp only[toN]at c1
 ·refine gE [1,2,3,6,7,8,33] ?_
  refine zF ?_ ?_<;>intro c2<;>try simp only[bb,toN]at c2
  ·refine gE [1,2,3,6,7,8] ?_
   refine gT ?_
   rw[zCv,he,wa,iP t11,iP (by (try simp only[bb,toN]);exact c2)];rfl
  refine gE [1,2,3,6,7,8] ?_
  refine zD (k1+1) ?_ (hp:=t40)
  refine ⟨by (try simp only[]);omega,he.trans ?_⟩
  rw[wa,iP t11,iN (by (try simp only[bb,toN]);exact c2)]
  try rfl
 refine gE [6,7] ?_
 refine gT ?_
 rw[zCv,he,wa,iQ t11];rfl
def Ky (n:Int) (len:Int):Bool:=(bif decide (0<=n)then decide (n<len)else false)
theorem wR (n:Int) (len:Int):GC Tryz.prog 85 [iG n,iG len] (bG (Ky n len)):=by
 refine zA Tryz.func85 ?_
 refine gE [0,1,4] ?_
 refine gE [4] ?_
 refine gT ?_
 rw[Ky];rfl
def uK (n:Int) (len:Int):Bool:=(bif decide (n=(-1))then true else (Ky n len))
theorem XH (n:Int) (len:Int):GC Tryz.prog 86 [iG n,iG len] (bG (uK n len)):=by
 refine zA Tryz.func86 ?_
 refine gE [0,1,4] ?_
 refine gR [.call (wR n len)] [4] ?_
 refine gT ?_
 rw[uK];rfl
def WU (b:Bil):Bool:=if (bif decide (b.ten.kind=0)then true else decide (b.ten.kind=4))=true then (bif decide (b.ten.n=0)then decide (b.ten.unit=0)else false)else if (bif decide (b.ten.kind=1)then true else decide (b.ten.kind=2))=true then (bif (bif decide (1<=b.ten.n)then decide (b.ten.n<=400)else false)then (bif decide (b.ten.unit=0)then true else decide (b.ten.unit=1))else false)else (bif (bif (bif decide (b.ten.kind=3)then decide (b.day<=b.ten.n)else false)then decide (b.ten.n<=100000)else false)then decide (b.ten.unit=0)else false)
theorem zOf (b:Bil):GC Tryz.prog 88 [zCf b] (bG (WU b)):=by
 refine zA Tryz.func88 ?_
 refine gE [1,2] ?_
 refine gE [1,2,3] ?_
 refine gE [1,2,3,13] ?_
 refine zF ?_ ?_<;>intro c1<;>try simp only[bb,toN]at c1
 ·refine gE [1,2,3] ?_
  refine gT ?_
  rw[WU,iP (by (try simp only[bb,toN]);exact c1)];rfl
 refine gE [1,2,3,29] ?_
 refine zF ?_ ?_<;>intro c2<;>try simp only[bb,toN]at c2
 ·refine gE [1,2,3] ?_
  refine gT ?_
  rw[WU,iN (by (try simp only[bb,toN]);exact c1),iP (by (try simp only[bb,toN]);exact c2)];rfl
 refine gE [2] ?_
 refine gT ?_
 rw[WU,iN (by (try simp only[bb,toN]);exact c1),iN (by (try simp only[bb,toN]);exact c2)];rfl
def QS (r:Rlm) (b:Bil):Int:=if (ZR r)=0 then if (bif (bif (bif (bif (bif (bif (!(Ky b.bP (r.bC.length:Int)))then true else (!(Ky b.bO (r.bC.length:Int))))then true else (!(uK b.bQ (r.bC.length:Int))))then true else (!(uK b.need (r.bC.length:Int))))then true else (!(Ky b.cur (r.bA.length:Int))))then true else (!(Ky b.city (r.bB.length:Int))))then true else (!(Ky b.pay (r.bB.length:Int))))=true then 1 else if (bif (bif (bif (bif decide (b.sum<1)then true else decide (1099511627776<b.sum))then true else (!(Vh b.day)))then true else decide (b.rate<0))then true else decide (1000<b.rate))=true then 3 else if (bif decide (b.parts<1)then true else decide (4<b.parts))=true then 15 else if (bif (bif (bif decide (b.flags<0)then true else decide (7<b.flags))then true else (bif decide (b.bQ=(-1))then (!decide ((yz .i64 b.flags 4)=0))else false))then true else (!(WU b)))=true then 2 else if b.ten.kind=4 then (zCv r b.city b.pay).2 else 0 else (ZR r)
theorem zTm (r:Rlm) (b:Bil) (hr:FitR r):GC Tryz.prog 57 [rlG r,zCf b] (iG (QS r b)):=by
 have h1:=hr.bD
 have h2:=hr.bB
 have h3:=hr.bC
 have h5:=hr.bE
 have h6:=hr.cur
 refine zA Tryz.func57 ?_
 refine gE [2,3,4] ?_
 refine gR [.call (Xc r hr)] [2,3,4,5] ?_
 refine gE [2,3,4,5,13] ?_
 refine zQ ?_ ?_<;>intro c1<;>try simp only[toN]at c1
 ·refine gE [2,3,4] ?_
  refine gT ?_
  rw[QS,iQ c1];rfl
 refine gE [2,3,4,6] ?_
 refine gE [2,3,4,6,7] ?_
 refine gR [.call (wR b.bP (r.bC.length:Int)),.call (wR b.bO (r.bC.length:Int)),.call (XH b.bQ (r.bC.length:Int)),.call (XH b.need (r.bC.length:Int)),.call (wR b.cur (r.bA.length:Int)),.call (wR b.city (r.bB.length:Int)),.call (wR b.pay (r.bB.length:Int))] [2,3,4,69] ?_
 refine zF ?_ ?_<;>intro c2<;>try simp only[bb,toN]at c2
 ·refine gE [2,3,4] ?_
  refine gT ?_
  rw[QS,iP c1,iP (by (try simp only[bb,toN]);exact c2)];rfl
 refine gR [.call (zJl b.day)] [2,3,4,93] ?_
 refine zF ?_ ?_<;>intro c3<;>try simp only[bb,toN]at c3
 ·refine gE [2,3,4] ?_
  refine gT ?_
  rw[QS,iP c1,iN (by (try simp only[bb,toN]);exact c2),iP (by (try simp only[bb,toN]);exact c3)];rfl
 refine gE [2,3,4,101] ?_
 refine zF ?_ ?_<;>intro c4<;>try simp only[bb,toN]at c4
 ·refine gE [2,3,4] ?_
  refine gT ?_
  rw[QS,iP c1,iN (by (try simp only[bb,toN]);exact c2),iN (by (try simp only[bb,toN]);exact c3),iP (by (try simp only[bb,toN]);exact c4)];rfl
 refine gR [.call (zOf b)] [2,3,4,125] ?_
 refine zF ?_ ?_<;>intro c5<;>try simp only[bb,toN]at c5
 ·refine gE [2,3,4] ?_
  refine gT ?_
  rw[QS,iP c1,iN (by (try simp only[bb,toN]);exact c2),iN (by (try simp only[bb,toN]);exact c3),iN (by (try simp only[bb,toN]);exact c4),iP (by (try simp only[bb,toN]);exact c5)];rfl
 refine gE [2,3,4,129] ?_
 refine zQ ?_ ?_<;>intro c6<;>try simp only[toN]at c6
 ·refine gE [2,3,4] ?_
  refine gT ?_
  rw[QS,iP c1,iN (by (try simp only[bb,toN]);exact c2),iN (by (try simp only[bb,toN]);exact c3),iN (by (try simp only[bb,toN]);exact c4),iN (by (try simp only[bb,toN]);exact c5),iQ c6];rfl
 refine gR [.call (zCx r b.city b.pay hr)] [4,9] ?_
 refine gE [4] ?_
 refine gT ?_
 rw[QS,iP c1,iN (by (try simp only[bb,toN]);exact c2),iN (by (try simp only[bb,toN]);exact c3),iN (by (try simp only[bb,toN]);exact c4),iN (by (try simp only[bb,toN]);exact c5),iP c6];rfl
def zEl (f:Fil) (i:Int) (part:Int):Bool:=(bif decide (i=0)then true else decide (((f.bF.getD i.toNat dF).part)=part))
theorem zHu (f:Fil) (i:Int) (part:Int) (hi:0<=i/\i<f.bF.length):GC Tryz.prog 132 [fiG f,iG i,iG part] (bG (zEl f i part)):=by
 refine zA Tryz.func132 ?_
 refine gE [1,2,3,6] ?_
 refine gE [6] ?_
 refine gT ?_
 rw[zEl];rfl
def Ys (f:Fil) (i:Int):Bool:=(bif (wiV ((f.bF.getD i.toNat dF).for_) 0 (i-1))then (zEl f ((f.bF.getD i.toNat dF).for_) ((f.bF.getD i.toNat dF).part))else false)
theorem UE (f:Fil) (i:Int) (hF:FitFi f) (hi:0<=i/\i<f.bF.length):GC Tryz.prog 131 [fiG f,iG i] (bG (Ys f i)):=by
 have g1:=hF.bF
 have g2:=hF.bH
 have g3:=hF.acts
 have g4:=hF.facts
 refine zA Tryz.func131 ?_
 refine gS [] [1,2,4] ?_
 refine gS [] [1,2,4,5] ?_
 refine gS [.call (zz ((f.bF.getD i.toNat dF).for_) 0 (i-1)),.callq (Q:=0<=((f.bF.getD i.toNat dF).for_)/\((f.bF.getD i.toNat dF).for_)<(f.bF.length:Int)) (fun hq=>zHu f ((f.bF.getD i.toNat dF).for_) ((f.bF.getD i.toNat dF).part) hq)] [4] ?_
 refine gT ?_
 rw[Ys];rfl
theorem jc {f:Fil} {i:Int} (hi:0<=i/\i<f.bF.length) (h:Ys f i=true):0<=(f.bF.getD i.toNat dF).for_/\(f.bF.getD i.toNat dF).for_<i:=by
 unfold Ys at h
 simp only[bb,ZJ]at h
 omega
def Yn (r:Rlm) (f:Fil) (i:Int):Bool:=if ((f.bF.getD i.toNat dF).kind)=0 then (bif (bif (bif (bif (bif (bif (bif decide (i=0)then decide (((f.bF.getD i.toNat dF).who)=f.bill.bP)else false)then decide (((f.bF.getD i.toNat dF).for_)=(-1))else false)then decide (((f.bF.getD i.toNat dF).to_)=(-1))else false)then decide (((f.bF.getD i.toNat dF).sum)=0)else false)then (bif decide (((f.bF.getD i.toNat dF).flags)=0)then true else decide (((f.bF.getD i.toNat dF).flags)=1))else false)then decide (((f.bF.getD i.toNat dF).part)=0)else false)then decide (((f.bF.getD i.toNat dF).city)=f.bill.city)else false)else if ((f.bF.getD i.toNat dF).kind)=1 then (bif (bif (bif (bif (bif decide (0<i)then decide (((f.bF.getD i.toNat dF).who)=f.bill.bO)else false)then decide (((f.bF.getD i.toNat dF).for_)=(-1))else false)then decide (((f.bF.getD i.toNat dF).to_)=(-1))else false)then (wiV ((f.bF.getD i.toNat dF).sum) 1 1099511627776)else false)then decide (((f.bF.getD i.toNat dF).flags)=0)else false)else if ((f.bF.getD i.toNat dF).kind)=2 then (bif (bif (bif (bif (bif decide (0<i)then decide (((f.bF.getD i.toNat dF).for_)=(-1))else false)then (wiV ((f.bF.getD i.toNat dF).to_) (-1) (i64.wrap ((r.bC.length:Int)-1)))else false)then decide (((f.bF.getD i.toNat dF).sum)=0)else false)then (wiV ((f.bF.getD i.toNat dF).flags) 0 7)else false)then (!(bif decide (((i64.wrap (((f.bF.getD i.toNat dF).flags).tdiv 2)).tmod 2)=1)then decide (((i64.wrap (((f.bF.getD i.toNat dF).flags).tdiv 4)).tmod 2)=1)else false))else false)else if ((f.bF.getD i.toNat dF).kind)=3 then if (bif (bif (bif (bif decide (i=0)then true else (!decide (((f.bF.getD i.toNat dF).to_)=(-1))))then true else (!decide (((f.bF.getD i.toNat dF).sum)=0)))then true else (!decide (((f.bF.getD i.toNat dF).flags)=0)))then true else (!(Ys f i)))=true then false else (!decide (((f.bF.getD (((f.bF.getD i.toNat dF).for_).toNat) dF).kind)=3))else if ((f.bF.getD i.toNat dF).kind)=4 then if (bif (bif (bif (bif (bif decide (i=0)then true else (!decide (((f.bF.getD i.toNat dF).to_)=(-1))))then true else (!(wiV ((f.bF.getD i.toNat dF).sum) 1 1099511627776)))then true else (!decide (((f.bF.getD i.toNat dF).flags)=0)))then true else decide (((f.bF.getD i.toNat dF).who)=f.bill.bO))then true else (!(Ys f i)))=true then false else (bif decide (((f.bF.getD (((f.bF.getD i.toNat dF).for_).toNat) dF).kind)=0)then true else decide (((f.bF.getD (((f.bF.getD i.toNat dF).for_).toNat) dF).kind)=2))else false
theorem zMs (r:Rlm) (f:Fil) (i:Int) (hr:FitR r) (hF:FitFi f) (hi:0<=i/\i<f.bF.length):GC Tryz.prog 90 [rlG r,fiG f,iG i] (bG (Yn r f i)):=by
 have h1:=hr.bD
 have h2:=hr.bB
 have h3:=hr.bC
 have h5:=hr.bE
 have h6:=hr.cur
 have g1:=hF.bF
 have g2:=hF.bH
 have g3:=hF.acts
 have g4:=hF.facts
 refine zA Tryz.func90 ?_
 refine gS [] [2,3,4,6] ?_
 refine gS [] [2,3,4,6,7] ?_
 refine gS [.call (zz ((f.bF.getD i.toNat dF).sum) 1 1099511627776)] [2,3,4,6,7,8] ?_
 refine gS [] [2,3,4,6,7,8,20] ?_
 refine gS [] [2,3,4,6,7,8,20,21] ?_
 refine zB ?_ ?_<;>intro c1<;>try simp only[toN]at c1
 ·refine gS [] [6] ?_
  refine gT ?_
  rw[Yn,iP c1];rfl
 refine gS [] [2,3,4,6,7,8,20,71] ?_
 refine zB ?_ ?_<;>intro c2<;>try simp only[toN]at c2
 ·refine gS [] [6] ?_
  refine gT ?_
  rw[Yn,iQ c1,iP c2];rfl
 refine gS [] [2,3,4,6,7,8,20,101] ?_
 refine zB ?_ ?_<;>intro c3<;>try simp only[toN]at c3
 ·refine zG env true [] [2,3,6,7,9] ?_ (hp:=t13)
  refine zG env true [] [2,3,6,7,9,10] ?_ (hp:=t13)
  refine zG env true [.call (zz ((f.bF.getD i.toNat dF).to_) (-1) (i64.wrap ((r.bC.length:Int)-1))),.call (zz ((f.bF.getD i.toNat dF).flags) 0 7)] [6] ?_ (hp:=t13)
  refine gT ?_
  rw[Yn,iQ c1,iQ c2,iP c3];rfl
 refine gS [] [2,4,6,7,8,20,146] ?_
 refine zB ?_ ?_<;>intro c4<;>try simp only[toN]at c4
 ·refine gS [.call (UE f i hF t12)] [4,6,7,170] ?_
  refine zF ?_ ?_<;>intro c5<;>try simp only[bb,toN]at c5
  ·refine gS [] [4,6,7] ?_
   refine gT ?_
   rw[Yn,iQ c1,iQ c2,iQ c3,iP c4,iP (by (try simp only[bb,toN]);exact c5)];rfl
  have hb:=jc hi c5.2
  refine gS [] [6] ?_
  refine gT ?_
  rw[Yn,iQ c1,iQ c2,iQ c3,iP c4,iN (by (try simp only[bb,toN]);exact c5)];rfl
 refine gS [] [2,4,6,7,8,179] ?_
 refine zB ?_ ?_<;>intro c6<;>try simp only[toN]at c6
 ·refine gS [.call (UE f i hF t12)] [4,6,7,210] ?_
  refine zF ?_ ?_<;>intro c7<;>try simp only[bb,toN]at c7
  ·refine gS [] [4,6,7] ?_
   refine gT ?_
   rw[Yn,iQ c1,iQ c2,iQ c3,iQ c4,iP c6,iP (by (try simp only[bb,toN]);exact c7)];rfl
  have hb:=jc hi c7.2
  refine gS [] [6] ?_
  refine gT ?_
  rw[Yn,iQ c1,iQ c2,iQ c3,iQ c4,iP c6,iN (by (try simp only[bb,toN]);exact c7)];rfl
 refine gS [] [6] ?_
 refine gT ?_
 rw[Yn,iQ c1,iQ c2,iQ c3,iQ c4,iQ c6];rfl
def qp (r:Rlm) (f:Fil) (i:Int) (j6_1:Int) (k1:Nat):Int:=if (bif decide ((k1:Int)<i)then decide (((f.bF.getD i.toNat dF).kind)=1)else false)=true then if (bif decide (((f.bF.getD k1 dF).kind)=1)then decide (((f.bF.getD k1 dF).part)=((f.bF.getD i.toNat dF).part))else false)=true then 5 else qp r f i j6_1 (k1+1)else 0
termination_by i.toNat-k1
decreasing_by all_goals first|omega|(simp only[bb]at*;omega)
def yf (r:Rlm) (f:Fil) (i:Int) (j6_1:Int):Int:=if (!(Yn r f i))=true then 14 else qp r f i j6_1 0
def Yf (r:Rlm) (f:Fil) (i:Int):Int:=if (!(wiV ((f.bF.getD i.toNat dF).part) 0 (i64.wrap (f.bill.parts-1))))=true then 15 else if (bif (!(wiV ((f.bF.getD i.toNat dF).who) 0 (i64.wrap ((r.bC.length:Int)-1))))then true else (!(wiV ((f.bF.getD i.toNat dF).city) 0 (i64.wrap ((r.bB.length:Int)-1)))))=true then 1 else if (bif (bif decide (i=0)then (!decide (((f.bF.getD i.toNat dF).day)=f.bill.day))else false)then true else decide (100000<((f.bF.getD i.toNat dF).day)))=true then 13 else if 0<i then if ((f.bF.getD i.toNat dF).day)<((f.bF.getD ((i-1).toNat) dF).day)then 13 else yf r f i 0 else yf r f i 0
theorem zJp (r:Rlm) (f:Fil) (i:Int) (hr:FitR r) (hF:FitFi f) (hi:0<=i/\i<f.bF.length):GC Tryz.prog 58 [rlG r,fiG f,iG i] (iG (Yf r f i)):=by
 have h1:=hr.bD
 have h2:=hr.bB
 have h3:=hr.bC
 have h5:=hr.bE
 have h6:=hr.cur
 have g1:=hF.bF
 have g2:=hF.bH
 have g3:=hF.acts
 have g4:=hF.facts
 refine zA Tryz.func58 ?_
 refine gS [] [2,3,4,6] ?_
 refine gS [] [2,3,4,6,7] ?_
 refine zG env true [.call (zz ((f.bF.getD i.toNat dF).part) 0 (i64.wrap (f.bill.parts-1)))] [2,3,4,6,7,21] ?_ (hp:=t13)
 refine zF ?_ ?_<;>intro c1<;>try simp only[bb,toN]at c1
 ·refine gS [] [2,3,4,6,7] ?_
  refine gT ?_
  rw[Yf,iP (by (try simp only[bb,toN]);exact c1)];rfl
 refine zG env true [.call (zz ((f.bF.getD i.toNat dF).who) 0 (i64.wrap ((r.bC.length:Int)-1))),.call (zz ((f.bF.getD i.toNat dF).city) 0 (i64.wrap ((r.bB.length:Int)-1)))] [2,3,4,6,7,39] ?_ (hp:=t13)
 refine zF ?_ ?_<;>intro c2<;>try simp only[bb,toN]at c2
 ·refine gS [] [2,3,4,6,7] ?_
  refine gT ?_
  rw[Yf,iN (by (try simp only[bb,toN]);exact c1),iP (by (try simp only[bb,toN]);exact c2)];rfl
 refine gS [] [2,3,4,6,7,54] ?_
 refine zF ?_ ?_<;>intro c3<;>try simp only[bb,toN]at c3
 ·refine gS [] [2,3,4,6,7] ?_
  refine gT ?_
  rw[Yf,iN (by (try simp only[bb,toN]);exact c1),iN (by (try simp only[bb,toN]);exact c2),iP (by (try simp only[bb,toN]);exact c3)];rfl
 refine gS [] [2,3,4,6,7,56] ?_
 refine yO (α:=Int) (fun x=>Yf r f i=yf r f i x) (fun x=>⟨[(2,iG i),(3,.ptr 0 0 0 0),(4,.ptr 1 0 0 0),(6,iG x),(7,.ptr 2 0 0 0)],[(0,some (.box [.d (.row dF zg r.bA),.d (.row dF ctC r.bB),.d (.row dF inC r.groups),.d (.row dF fmC r.bC),.d (.row dF odC r.bD),.d (.row dF usC r.bE),.d (.row dF rtC r.rates),.d (.row dF htC r.halts)])),(1,some (.box [iG f.bill.bP,iG f.bill.bO,iG f.bill.bQ,iG f.bill.sum,iG f.bill.cur,iG f.bill.ten.kind,iG f.bill.ten.n,iG f.bill.ten.unit,iG f.bill.day,iG f.bill.city,iG f.bill.pay,iG f.bill.need,iG f.bill.rate,iG f.bill.flags,iG f.bill.parts,.d (.row dF sgC f.bF),.d (.row dF alC f.bH),.d (.row dF acC f.acts),.d (.row dF fcC f.facts)])),(2,some (.box [iG ((f.bF.getD i.toNat dF).kind),iG ((f.bF.getD i.toNat dF).part),iG ((f.bF.getD i.toNat dF).who),iG ((f.bF.getD i.toNat dF).for_),iG ((f.bF.getD i.toNat dF).to_),iG ((f.bF.getD i.toNat dF).sum),iG ((f.bF.getD i.toNat dF).day),iG ((f.bF.getD i.toNat dF).city),iG ((f.bF.getD i.toNat dF).flags)]))],3⟩) ?_ ?_
 ·rintro j6_1 hjc1
  refine gS [.call (zMs r f i hr hF t12)] [2,4,6,7,71] ?_
  refine zF ?_ ?_<;>intro c4<;>try simp only[bb,toN]at c4
  ·refine gS [] [2,4,6,7] ?_
   refine gT ?_
   rw[hjc1,yf,iP (by (try simp only[bb,toN]);exact c4)];rfl
  refine gS [] [2,4,6,7,8] ?_
  refine zI (α:=Nat) (fun x=>x<=i.toNat/\qp r f i j6_1 0=qp r f i j6_1 x) (fun x=>[(8,iG x)]) (fun x=>[]) (fun x=>i.toNat-x) 0 ⟨by (try simp only[]);omega,rfl⟩ ?_ (hp:=t40)
  rintro k1 ⟨hi1,he⟩
  refine gS [] [2,4,6,7,8,79] ?_
  refine zF ?_ ?_<;>intro c5<;>try simp only[bb,toN]at c5
  ·refine gS [] [2,4,6,7,8,99] ?_
   refine zF ?_ ?_<;>intro c6<;>try simp only[bb,toN]at c6
   ·refine gS [] [2,4,6,7,8] ?_
    refine gT ?_
    rw[hjc1,yf,iN (by (try simp only[bb,toN]);exact c4),he,qp,iP (by (try simp only[bb,toN]);exact c5),iP (by (try simp only[bb,toN]);exact c6)];rfl
   refine gS [] [2,4,6,7,8] ?_
   refine zD (k1+1) ?_ (hp:=t40)
   refine ⟨by (try simp only[]);omega,he.trans ?_⟩
   rw[qp,iP (by (try simp only[bb,toN]);exact c5),iN (by (try simp only[bb,toN]);exact c6)]
   try rfl
  refine gS [] [6] ?_
  refine gT ?_
  rw[hjc1,yf,iN (by (try simp only[bb,toN]);exact c4),he,qp,iN (by (try simp only[bb,toN]);exact c5)];rfl
 refine zB ?_ ?_<;>intro c7<;>try simp only[toN]at c7
 ·refine gS [] [2,3,4,6,7,66] ?_
  refine zB ?_ ?_<;>intro c8<;>try simp only[toN]at c8
  ·refine gS [] [2,3,4,6,7] ?_
   refine gT ?_
   rw[Yf,iN (by (try simp only[bb,toN]);exact c1),iN (by (try simp only[bb,toN]);exact c2),iN (by (try simp only[bb,toN]);exact c3),iP c7,iP c8];rfl
  refine zV (0) ?_ (hp:=t40)
  exact by rw[Yf,iN (by (try simp only[bb,toN]);exact c1),iN (by (try simp only[bb,toN]);exact c2),iN (by (try simp only[bb,toN]);exact c3),iP c7,iQ c8]
 refine zV (0) ?_ (hp:=t40)
 exact by rw[Yf,iN (by (try simp only[bb,toN]);exact c1),iN (by (try simp only[bb,toN]);exact c2),iN (by (try simp only[bb,toN]);exact c3),iQ c7]
def ZB (r:Rlm) (f:Fil) (a:Act) (j9_1:Bool) (j10_2:Bool) (j56_3:Bool) (j76_4:Bool):Bool:=if j76_4=true then (bif (bif (bif (wiV a.to_ 0 ((r.bC.length:Int)-1))then decide (a.at_=(-1))else false)then (wiV a.sum 0 1099511627776)else false)then decide (a.form=0)else false)else if a.kind=4 then (bif (bif (bif (wiV a.to_ 0 ((r.bC.length:Int)-1))then decide (a.at_=(-1))else false)then (wiV a.sum 0 1099511627776)else false)then (bif decide (a.form=0)then true else decide (a.form=1))else false)else if a.kind=6 then (bif (bif (bif (bif (wiV a.to_ 0 ((r.bC.length:Int)-1))then j10_2 else false)then (wiV a.sum 0 1099511627776)else false)then decide (0<a.sum)else false)then decide (a.form=0)else false)else if a.kind=9 then (bif (bif (bif decide (a.to_=(-1))then j10_2 else false)then decide (a.sum=0)else false)then decide (a.form=0)else false)else if a.kind=7 then (bif (bif (bif decide (a.to_=(-1))then j9_1 else false)then decide (a.sum=0)else false)then decide (a.form=0)else false)else if a.kind=8 then (bif (bif (bif decide (a.to_=(-1))then j9_1 else false)then decide (a.sum=0)else false)then decide (a.form=0)else false)else false
def Zg (r:Rlm) (f:Fil) (a:Act) (j9_1:Bool) (j10_2:Bool) (j56_3:Bool):Bool:=if j56_3=true then (bif (bif (bif (wiV a.to_ 0 ((r.bC.length:Int)-1))then decide (a.at_=(-1))else false)then decide (a.sum=0)else false)then decide (a.form=0)else false)else if a.kind=3 then ZB r f a j9_1 j10_2 j56_3 (decide (a.kind=3))else ZB r f a j9_1 j10_2 j56_3 (decide (a.kind=5))
def Zh (r:Rlm) (f:Fil) (a:Act) (j9_1:Bool) (j10_2:Bool):Bool:=if a.kind=0 then Zg r f a j9_1 j10_2 (decide (a.kind=0))else if a.kind=1 then Zg r f a j9_1 j10_2 (decide (a.kind=1))else Zg r f a j9_1 j10_2 (decide (a.kind=2))
def Zv (r:Rlm) (f:Fil) (a:Act) (j9_1:Bool):Bool:=if j9_1=true then Zh r f a j9_1 (decide (((f.bF.getD a.at_.toNat dF).who)=a.who))else Zh r f a j9_1 false
def Zy (r:Rlm) (f:Fil) (a:Act):Bool:=if (!(wiV a.who 0 ((r.bC.length:Int)-1)))=true then false else if (wiV a.at_ 0 ((f.bF.length:Int)-1))=true then Zv r f a (zEl f a.at_ a.part)else Zv r f a (wiV a.at_ 0 ((f.bF.length:Int)-1))
theorem zGq (r:Rlm) (f:Fil) (a:Act) (hr:FitR r) (hF:FitFi f):GC Tryz.prog 91 [rlG r,fiG f,acG a] (bG (Zy r f a)):=by
 have h1:=hr.bD
 have h2:=hr.bB
 have h3:=hr.bC
 have h5:=hr.bE
 have h6:=hr.cur
 have g1:=hF.bF
 have g2:=hF.bH
 have g3:=hF.acts
 have g4:=hF.facts
 refine zA Tryz.func91 ?_
 refine gS [] [3,4,5,6] ?_
 refine gS [.call (zz a.who 0 ((r.bC.length:Int)-1))] [3,4,5,6,18] ?_
 refine zF ?_ ?_<;>intro c1<;>try simp only[bb,toN]at c1
 ·refine gS [] [3,4,5,6] ?_
  refine gT ?_
  rw[Zy,iP (by (try simp only[bb,toN]);exact c1)];rfl
 refine gS [.call (zz a.to_ 0 ((r.bC.length:Int)-1))] [4,5,6,7] ?_
 refine gS [.call (zz a.sum 0 1099511627776)] [4,5,6,7,8] ?_
 refine gS [.call (zz a.at_ 0 ((f.bF.length:Int)-1))] [4,5,6,7,8,9] ?_
 refine gS [] [4,5,6,7,8,9,36] ?_
 refine yO (α:=Bool) (fun x=>Zy r f a=Zv r f a x/\(fun b=>b=true->0<=a.at_/\a.at_<f.bF.length) x) (fun x=>⟨[(4,.ptr 1 0 0 0),(5,.ptr 2 0 0 0),(6,bG false),(7,bG (wiV a.to_ 0 ((r.bC.length:Int)-1))),(8,bG (wiV a.sum 0 1099511627776)),(9,bG x)],[(0,some (.box [.d (.row dF zg r.bA),.d (.row dF ctC r.bB),.d (.row dF inC r.groups),.d (.row dF fmC r.bC),.d (.row dF odC r.bD),.d (.row dF usC r.bE),.d (.row dF rtC r.rates),.d (.row dF htC r.halts)])),(1,some (.box [iG f.bill.bP,iG f.bill.bO,iG f.bill.bQ,iG f.bill.sum,iG f.bill.cur,iG f.bill.ten.kind,iG f.bill.ten.n,iG f.bill.ten.unit,iG f.bill.day,iG f.bill.city,iG f.bill.pay,iG f.bill.need,iG f.bill.rate,iG f.bill.flags,iG f.bill.parts,.d (.row dF sgC f.bF),.d (.row dF alC f.bH),.d (.row dF acC f.acts),.d (.row dF fcC f.facts)])),(2,some (.box [iG a.kind,iG a.who,iG a.to_,iG a.part,iG a.at_,iG a.sum,iG a.day,iG a.city,iG a.form]))],3⟩) ?_ ?_
 ·rintro j9_1 ⟨hjc1,hxc1⟩
  refine gS [] [4,5,6,7,8,9,10] ?_
  refine gS [] [4,5,6,7,8,9,10,43] ?_
  refine yO (α:=Bool) (fun x=>Zy r f a=Zh r f a j9_1 x) (fun x=>⟨[(5,.ptr 2 0 0 0),(6,bG false),(7,bG (wiV a.to_ 0 ((r.bC.length:Int)-1))),(8,bG (wiV a.sum 0 1099511627776)),(9,bG j9_1),(10,bG x)],[(0,some (.box [.d (.row dF zg r.bA),.d (.row dF ctC r.bB),.d (.row dF inC r.groups),.d (.row dF fmC r.bC),.d (.row dF odC r.bD),.d (.row dF usC r.bE),.d (.row dF rtC r.rates),.d (.row dF htC r.halts)])),(1,some (.box [iG f.bill.bP,iG f.bill.bO,iG f.bill.bQ,iG f.bill.sum,iG f.bill.cur,iG f.bill.ten.kind,iG f.bill.ten.n,iG f.bill.ten.unit,iG f.bill.day,iG f.bill.city,iG f.bill.pay,iG f.bill.need,iG f.bill.rate,iG f.bill.flags,iG f.bill.parts,.d (.row dF sgC f.bF),.d (.row dF alC f.bH),.d (.row dF acC f.acts),.d (.row dF fcC f.facts)])),(2,some (.box [iG a.kind,iG a.who,iG a.to_,iG a.part,iG a.at_,iG a.sum,iG a.day,iG a.city,iG a.form]))],3⟩) ?_ ?_
  ·rintro j10_2 hjc2
   refine gS [] [5,6,7,8,9,10,55] ?_
   refine gS [] [5,6,7,8,9,10,55,56] ?_
   refine yO (α:=Bool) (fun x=>Zy r f a=Zg r f a j9_1 j10_2 x) (fun x=>⟨[(5,.ptr 2 0 0 0),(6,bG false),(7,bG (wiV a.to_ 0 ((r.bC.length:Int)-1))),(8,bG (wiV a.sum 0 1099511627776)),(9,bG j9_1),(10,bG j10_2),(55,iG a.kind),(56,bG x)],[(0,some (.box [.d (.row dF zg r.bA),.d (.row dF ctC r.bB),.d (.row dF inC r.groups),.d (.row dF fmC r.bC),.d (.row dF odC r.bD),.d (.row dF usC r.bE),.d (.row dF rtC r.rates),.d (.row dF htC r.halts)])),(1,some (.box [iG f.bill.bP,iG f.bill.bO,iG f.bill.bQ,iG f.bill.sum,iG f.bill.cur,iG f.bill.ten.kind,iG f.bill.ten.n,iG f.bill.ten.unit,iG f.bill.day,iG f.bill.city,iG f.bill.pay,iG f.bill.need,iG f.bill.rate,iG f.bill.flags,iG f.bill.parts,.d (.row dF sgC f.bF),.d (.row dF alC f.bH),.d (.row dF acC f.acts),.d (.row dF fcC f.facts)])),(2,some (.box [iG a.kind,iG a.who,iG a.to_,iG a.part,iG a.at_,iG a.sum,iG a.day,iG a.city,iG a.form]))],3⟩) ?_ ?_
   ·rintro j56_3 hjc3
    refine zF ?_ ?_<;>intro c2<;>try simp only[bb,toN]at c2
    ·refine gS [] [6] ?_
     refine gT ?_
     rw[hjc3,Zg,iP (by (try simp only[bb,toN]);exact c2)];rfl
    refine gS [] [5,6,7,8,9,10,55,76] ?_
    refine yO (α:=Bool) (fun x=>Zy r f a=ZB r f a j9_1 j10_2 j56_3 x) (fun x=>⟨[(5,.ptr 2 0 0 0),(6,bG false),(7,bG (wiV a.to_ 0 ((r.bC.length:Int)-1))),(8,bG (wiV a.sum 0 1099511627776)),(9,bG j9_1),(10,bG j10_2),(55,iG a.kind),(76,bG x)],[(0,some (.box [.d (.row dF zg r.bA),.d (.row dF ctC r.bB),.d (.row dF inC r.groups),.d (.row dF fmC r.bC),.d (.row dF odC r.bD),.d (.row dF usC r.bE),.d (.row dF rtC r.rates),.d (.row dF htC r.halts)])),(1,some (.box [iG f.bill.bP,iG f.bill.bO,iG f.bill.bQ,iG f.bill.sum,iG f.bill.cur,iG f.bill.ten.kind,iG f.bill.ten.n,iG f.bill.ten.unit,iG f.bill.day,iG f.bill.city,iG f.bill.pay,iG f.bill.need,iG f.bill.rate,iG f.bill.flags,iG f.bill.parts,.d (.row dF sgC f.bF),.d (.row dF alC f.bH),.d (.row dF acC f.acts),.d (.row dF fcC f.facts)])),(2,some (.box [iG a.kind,iG a.who,iG a.to_,iG a.part,iG a.at_,iG a.sum,iG a.day,iG a.city,iG a.form]))],3⟩) ?_ ?_
    ·rintro j76_4 hjc4
     refine zF ?_ ?_<;>intro c3<;>try simp only[bb,toN]at c3
     ·refine gS [] [6] ?_
      refine gT ?_
      rw[hjc4,ZB,iP (by (try simp only[bb,toN]);exact c3)];rfl
     refine gS [] [5,6,7,8,9,10,55,93] ?_
     refine zB ?_ ?_<;>intro c4<;>try simp only[toN]at c4
     ·refine gS [] [6] ?_
      refine gT ?_
      rw[hjc4,ZB,iN (by (try simp only[bb,toN]);exact c3),iP c4];rfl
     refine gS [] [5,6,7,8,9,10,55,114] ?_
     refine zB ?_ ?_<;>intro c5<;>try simp only[toN]at c5
     ·refine gS [] [6] ?_
      refine gT ?_
      rw[hjc4,ZB,iN (by (try simp only[bb,toN]);exact c3),iQ c4,iP c5];rfl
     refine gS [] [5,6,9,10,55,133] ?_
     refine zB ?_ ?_<;>intro c6<;>try simp only[toN]at c6
     ·refine gS [] [6] ?_
      refine gT ?_
      rw[hjc4,ZB,iN (by (try simp only[bb,toN]);exact c3),iQ c4,iQ c5,iP c6];rfl
     refine gS [] [5,6,9,55,151] ?_
     refine zB ?_ ?_<;>intro c7<;>try simp only[toN]at c7
     ·refine zB ?_ ?_<;>intro c8<;>try simp only[toN]at c8
      ·refine gS [] [6] ?_
       refine gT ?_
       rw[hjc4,ZB,iN (by (try simp only[bb,toN]);exact c3),iQ c4,iQ c5,iQ c6,iP c7];rfl
      exact absurd c7 c8
     refine gS [] [5,6,9,151] ?_
     refine zB ?_ ?_<;>intro c9<;>try simp only[toN]at c9
     ·refine gS [] [6] ?_
      refine gT ?_
      rw[hjc4,ZB,iN (by (try simp only[bb,toN]);exact c3),iQ c4,iQ c5,iQ c6,iQ c7,iP c9];rfl
     refine gS [] [6] ?_
     refine gT ?_
     rw[hjc4,ZB,iN (by (try simp only[bb,toN]);exact c3),iQ c4,iQ c5,iQ c6,iQ c7,iQ c9];rfl
    refine zB ?_ ?_<;>intro c10<;>try simp only[toN]at c10
    ·refine zV (decide (a.kind=3)) ?_ (hp:=t40)
     exact by rw[hjc3,Zg,iN (by (try simp only[bb,toN]);exact c2),iP c10]
    refine gS [] [5,6,7,8,9,10,55,76] ?_
    refine zV (decide (a.kind=5)) ?_ (hp:=t40)
    exact by rw[hjc3,Zg,iN (by (try simp only[bb,toN]);exact c2),iQ c10]
   refine zB ?_ ?_<;>intro c11<;>try simp only[toN]at c11
   ·refine zV (decide (a.kind=0)) ?_ (hp:=t40)
    exact by rw[hjc2,Zh,iP c11]
   refine gS [] [5,6,7,8,9,10,55,56] ?_
   refine zB ?_ ?_<;>intro c12<;>try simp only[toN]at c12
   ·refine zV (decide (a.kind=1)) ?_ (hp:=t40)
    exact by rw[hjc2,Zh,iQ c11,iP c12]
   refine gS [] [5,6,7,8,9,10,55,56] ?_
   refine zV (decide (a.kind=2)) ?_ (hp:=t40)
   exact by rw[hjc2,Zh,iQ c11,iQ c12]
  refine zF ?_ ?_<;>intro c13<;>try simp only[bb,toN]at c13
  ·have hq:=hxc1 c13
   refine gS [] [5,6,7,8,9,10] ?_
   refine zV (decide (((f.bF.getD a.at_.toNat dF).who)=a.who)) ?_ (hp:=t40)
   exact by rw[hjc1,Zv,iP (by (try simp only[bb,toN]);exact c13)]
  refine zV (false) ?_ (hp:=t40)
  exact by rw[hjc1,Zv,iN (by (try simp only[bb,toN]);exact c13)]
 refine zF ?_ ?_<;>intro c14<;>try simp only[bb,toN]at c14
 ·have hq:=c14
  simp only[ZJ]at hq
  refine gS [.callq (Q:=0<=a.at_/\a.at_<(f.bF.length:Int)) (fun hq=>zHu f a.at_ a.part hq)] [4,5,6,7,8,9] ?_
  refine zV ((zEl f a.at_ a.part)) ?_ (hp:=t40)
  exact ⟨by rw[Zy,iN (by (try simp only[bb,toN]);exact c1),iP (by (try simp only[bb,toN]);exact c14)],by intro hz;first|(simp only[ZJ,bb]at*;omega)|(simp_all;done)⟩
 refine zV ((wiV a.at_ 0 ((f.bF.length:Int)-1))) ?_ (hp:=t40)
 exact ⟨by rw[Zy,iN (by (try simp only[bb,toN]);exact c1),iN (by (try simp only[bb,toN]);exact c14)],by intro hz;first|(simp only[ZJ,bb]at*;omega)|(simp_all;done)⟩
theorem zNq {r:Rlm} {f:Fil} {a:Act} (h:Zy r f a=true) (h0:0<=a.at_):a.at_<f.bF.length:=by
 refine Classical.byContradiction fun hn=> ?_
 have ha:wiV a.at_ 0 ((f.bF.length:Int)-1)=false:=by rw[zGv];omega
 have hm:¬a.at_= -1:=by omega
 simp only[Zy,Zv,Zh,Zg,ZB,ha,hm]at h
 repeat' split at h
 all_goals simp at h
def qY (r:Rlm) (f:Fil) (i:Int) (j6_1:Int):Int:=if 0<i then if ((f.acts.getD i.toNat dF).day)<((f.acts.getD ((i-1).toNat) dF).day)then 13 else 0 else 0
def qj (r:Rlm) (f:Fil) (i:Int):Int:=if (!(wiV ((f.acts.getD i.toNat dF).part) 0 (i64.wrap (f.bill.parts-1))))=true then 15 else if (bif (!(wiV ((f.acts.getD i.toNat dF).city) 0 (i64.wrap ((r.bB.length:Int)-1))))then true else (!(wiV ((f.acts.getD i.toNat dF).kind) 0 9)))=true then 1 else if (!(Zy r f (f.acts.getD i.toNat dF)))=true then 14 else if (bif decide (((f.acts.getD i.toNat dF).day)<f.bill.day)then true else decide (100000<((f.acts.getD i.toNat dF).day)))=true then 13 else if 0<=((f.acts.getD i.toNat dF).at_)then if ((f.acts.getD i.toNat dF).day)<((f.bF.getD (((f.acts.getD i.toNat dF).at_).toNat) dF).day)then 13 else qY r f i 0 else qY r f i 0
theorem zUp (r:Rlm) (f:Fil) (i:Int) (hr:FitR r) (hF:FitFi f) (hi:0<=i/\i<f.acts.length):GC Tryz.prog 60 [rlG r,fiG f,iG i] (iG (qj r f i)):=by
 have h1:=hr.bD
 have h2:=hr.bB
 have h3:=hr.bC
 have h5:=hr.bE
 have h6:=hr.cur
 have g1:=hF.bF
 have g2:=hF.bH
 have g3:=hF.acts
 have g4:=hF.facts
 refine zA Tryz.func60 ?_
 refine gS [] [2,3,4,6] ?_
 refine gS [] [2,3,4,6,7] ?_
 refine zG env true [.call (zz ((f.acts.getD i.toNat dF).part) 0 (i64.wrap (f.bill.parts-1)))] [2,3,4,6,7,20] ?_ (hp:=t13)
 refine zF ?_ ?_<;>intro c1<;>try simp only[bb,toN]at c1
 ·refine gS [] [2,3,4,6,7] ?_
  refine gT ?_
  rw[qj,iP (by (try simp only[bb,toN]);exact c1)];rfl
 refine zG env true [.call (zz ((f.acts.getD i.toNat dF).city) 0 (i64.wrap ((r.bB.length:Int)-1))),.call (zz ((f.acts.getD i.toNat dF).kind) 0 9)] [2,3,4,6,7,34] ?_ (hp:=t13)
 refine zF ?_ ?_<;>intro c2<;>try simp only[bb,toN]at c2
 ·refine gS [] [2,3,4,6,7] ?_
  refine gT ?_
  rw[qj,iN (by (try simp only[bb,toN]);exact c1),iP (by (try simp only[bb,toN]);exact c2)];rfl
 refine gS [.call (zGq r f (f.acts.getD i.toNat dF) hr hF)] [2,4,6,7,39] ?_
 refine zF ?_ ?_<;>intro c3<;>try simp only[bb,toN]at c3
 ·refine gS [] [2,4,6,7] ?_
  refine gT ?_
  rw[qj,iN (by (try simp only[bb,toN]);exact c1),iN (by (try simp only[bb,toN]);exact c2),iP (by (try simp only[bb,toN]);exact c3)];rfl
 refine gS [] [2,4,6,7,50] ?_
 refine zF ?_ ?_<;>intro c4<;>try simp only[bb,toN]at c4
 ·refine gS [] [2,4,6,7] ?_
  refine gT ?_
  rw[qj,iN (by (try simp only[bb,toN]);exact c1),iN (by (try simp only[bb,toN]);exact c2),iN (by (try simp only[bb,toN]);exact c3),iP (by (try simp only[bb,toN]);exact c4)];rfl
 refine gS [] [2,4,6,7,53] ?_
 refine yO (α:=Int) (fun x=>qj r f i=qY r f i x) (fun x=>⟨[(2,iG i),(4,.ptr 1 0 0 0),(6,iG x),(7,.ptr 2 0 0 0)],[(0,some (.box [.d (.row dF zg r.bA),.d (.row dF ctC r.bB),.d (.row dF inC r.groups),.d (.row dF fmC r.bC),.d (.row dF odC r.bD),.d (.row dF usC r.bE),.d (.row dF rtC r.rates),.d (.row dF htC r.halts)])),(1,some (.box [iG f.bill.bP,iG f.bill.bO,iG f.bill.bQ,iG f.bill.sum,iG f.bill.cur,iG f.bill.ten.kind,iG f.bill.ten.n,iG f.bill.ten.unit,iG f.bill.day,iG f.bill.city,iG f.bill.pay,iG f.bill.need,iG f.bill.rate,iG f.bill.flags,iG f.bill.parts,.d (.row dF sgC f.bF),.d (.row dF alC f.bH),.d (.row dF acC f.acts),.d (.row dF fcC f.facts)])),(2,some (.box [iG ((f.acts.getD i.toNat dF).kind),iG ((f.acts.getD i.toNat dF).who),iG ((f.acts.getD i.toNat dF).to_),iG ((f.acts.getD i.toNat dF).part),iG ((f.acts.getD i.toNat dF).at_),iG ((f.acts.getD i.toNat dF).sum),iG ((f.acts.getD i.toNat dF).day),iG ((f.acts.getD i.toNat dF).city),iG ((f.acts.getD i.toNat dF).form)]))],3⟩) ?_ ?_
 ·rintro j6_1 hjc1
  refine gS [] [2,4,6,7,65] ?_
  refine zB ?_ ?_<;>intro c5<;>try simp only[toN]at c5
  ·refine gS [] [6,75] ?_
   refine zB ?_ ?_<;>intro c6<;>try simp only[toN]at c6
   ·refine gS [] [6] ?_
    refine gT ?_
    rw[hjc1,qY,iP c5,iP c6];rfl
   refine gS [] [6] ?_
   refine gT ?_
   rw[hjc1,qY,iP c5,iQ c6];rfl
  refine gS [] [6] ?_
  refine gT ?_
  rw[hjc1,qY,iQ c5];rfl
 refine zB ?_ ?_<;>intro c7<;>try simp only[toN]at c7
 ·have hq:=zNq t12 t12
  refine gS [] [2,4,6,7,63] ?_
  refine zB ?_ ?_<;>intro c8<;>try simp only[toN]at c8
  ·refine gS [] [2,4,6,7] ?_
   refine gT ?_
   rw[qj,iN (by (try simp only[bb,toN]);exact c1),iN (by (try simp only[bb,toN]);exact c2),iN (by (try simp only[bb,toN]);exact c3),iN (by (try simp only[bb,toN]);exact c4),iP c7,iP c8];rfl
  refine zV (0) ?_ (hp:=t40)
  exact by rw[qj,iN (by (try simp only[bb,toN]);exact c1),iN (by (try simp only[bb,toN]);exact c2),iN (by (try simp only[bb,toN]);exact c3),iN (by (try simp only[bb,toN]);exact c4),iP c7,iQ c8]
 refine zV (0) ?_ (hp:=t40)
 exact by rw[qj,iN (by (try simp only[bb,toN]);exact c1),iN (by (try simp only[bb,toN]);exact c2),iN (by (try simp only[bb,toN]);exact c3),iN (by (try simp only[bb,toN]);exact c4),iQ c7]
def qL (f:Fil) (i:Int):Int:=if (bif (bif (!(wiV ((f.facts.getD i.toNat dF).kind) 0 4))then true else (!(wiV ((f.facts.getD i.toNat dF).at_) 0 (i64.wrap ((f.bF.length:Int)-1)))))then true else (!(wiV ((f.facts.getD i.toNat dF).n) 0 1)))=true then 1 else if 0<i then if (bif decide (((f.facts.getD i.toNat dF).at_)<((f.facts.getD ((i-1).toNat) dF).at_))then true else (bif decide (((f.facts.getD ((i-1).toNat) dF).at_)=((f.facts.getD i.toNat dF).at_))then decide (((f.facts.getD i.toNat dF).kind)<=((f.facts.getD ((i-1).toNat) dF).kind))else false))=true then 5 else 0 else 0
theorem zMz (f:Fil) (i:Int) (hF:FitFi f) (hi:0<=i/\i<f.facts.length):GC Tryz.prog 61 [fiG f,iG i] (iG (qL f i)):=by
 have g1:=hF.bF
 have g2:=hF.bH
 have g3:=hF.acts
 have g4:=hF.facts
 refine zA Tryz.func61 ?_
 refine gS [] [1,2,4] ?_
 refine gS [] [1,2,4,5] ?_
 refine zG env true [.call (zz ((f.facts.getD i.toNat dF).kind) 0 4),.call (zz ((f.facts.getD i.toNat dF).at_) 0 (i64.wrap ((f.bF.length:Int)-1))),.call (zz ((f.facts.getD i.toNat dF).n) 0 1)] [1,2,4,5,31] ?_ (hp:=t13)
 refine zF ?_ ?_<;>intro c1<;>try simp only[bb,toN]at c1
 ·refine gS [] [1,2,4,5] ?_
  refine gT ?_
  rw[qL,iP (by (try simp only[bb,toN]);exact c1)];rfl
 refine gS [] [1,2,4,5,33] ?_
 refine zB ?_ ?_<;>intro c2<;>try simp only[toN]at c2
 ·refine gS [] [4,5,6] ?_
  refine gS [] [4,58] ?_
  refine zF ?_ ?_<;>intro c3<;>try simp only[bb,toN]at c3
  ·refine gS [] [4] ?_
   refine gT ?_
   rw[qL,iN (by (try simp only[bb,toN]);exact c1),iP c2,iP (by (try simp only[bb,toN]);exact c3)];rfl
  refine gS [] [4] ?_
  refine gT ?_
  rw[qL,iN (by (try simp only[bb,toN]);exact c1),iP c2,iN (by (try simp only[bb,toN]);exact c3)];rfl
 refine gS [] [4] ?_
 refine gT ?_
 rw[qL,iN (by (try simp only[bb,toN]);exact c1),iQ c2];rfl
def Yp (r:Rlm) (f:Fil) (j5_1:Int) (a5_1:Int) (k1:Nat) (a5_2:Int) (k2:Nat) (a5_3:Int) (k3:Nat) (a5_4:Int) (k4:Nat):Int:=if (bif decide ((k4:Int)<(f.facts.length:Int))then decide (a5_4=0)else false)=true then Yp r f j5_1 a5_1 k1 a5_2 k2 a5_3 k3 (qL f (k4:Int)) (k4+1)else a5_4
termination_by f.facts.length-k4
decreasing_by all_goals first|omega|(simp only[bb]at*;omega)
def Yq (r:Rlm) (f:Fil) (j5_1:Int) (a5_1:Int) (k1:Nat) (a5_2:Int) (k2:Nat) (a5_3:Int) (k3:Nat):Int:=if (bif decide ((k3:Int)<(f.acts.length:Int))then decide (a5_3=0)else false)=true then Yq r f j5_1 a5_1 k1 a5_2 k2 (qj r f (k3:Int)) (k3+1)else Yp r f j5_1 a5_1 k1 a5_2 k2 a5_3 k3 a5_3 0
termination_by f.acts.length-k3
decreasing_by all_goals first|omega|(simp only[bb]at*;omega)
def zw (r:Rlm) (f:Fil) (j5_1:Int) (a5_1:Int) (k1:Nat) (a5_2:Int) (k2:Nat):Int:=if (bif decide ((k2:Int)<(f.bH.length:Int))then decide (a5_2=0)else false)=true then if 0<(k2:Int)then if (!(wiV ((f.bH.getD k2 dF).at_) (i64.wrap (((f.bH.getD ((i64.wrap ((k2:Int)-1)).toNat) dF).at_)+1)) (f.bF.length:Int)))=true then zw r f j5_1 a5_1 k1 1 (k2+1)else if (!(wiV ((f.bH.getD k2 dF).sum) 1 1099511627776))=true then zw r f j5_1 a5_1 k1 3 (k2+1)else zw r f j5_1 a5_1 k1 a5_2 (k2+1)else if (!(wiV ((f.bH.getD k2 dF).at_) 1 (f.bF.length:Int)))=true then zw r f j5_1 a5_1 k1 1 (k2+1)else if (!(wiV ((f.bH.getD k2 dF).sum) 1 1099511627776))=true then zw r f j5_1 a5_1 k1 3 (k2+1)else zw r f j5_1 a5_1 k1 a5_2 (k2+1)else Yq r f j5_1 a5_1 k1 a5_2 k2 a5_2 0
termination_by f.bH.length-k2
decreasing_by all_goals first|omega|(simp only[bb]at*;omega)
def jB (r:Rlm) (f:Fil) (j5_1:Int) (a5_1:Int) (k1:Nat):Int:=if (bif decide ((k1:Int)<(f.bF.length:Int))then decide (a5_1=0)else false)=true then jB r f j5_1 (Yf r f (k1:Int)) (k1+1)else zw r f j5_1 a5_1 k1 a5_1 0
termination_by f.bF.length-k1
decreasing_by all_goals first|omega|(simp only[bb]at*;omega)
def Ju (r:Rlm) (f:Fil) (j5_1:Int):Int:=jB r f j5_1 j5_1 0
def vF (r:Rlm) (f:Fil):Int:=if (bif (bif (bif decide (40<(f.bF.length:Int))then true else decide (4<(f.bH.length:Int)))then true else decide (100<(f.acts.length:Int)))then true else decide (200<(f.facts.length:Int)))=true then 6 else if (bif decide ((QS r f.bill)=0)then decide ((f.bF.length:Int)=0)else false)=true then Ju r f 14 else Ju r f (QS r f.bill)
theorem zTl (r:Rlm) (f:Fil) (hr:FitR r) (hF:FitFi f):GC Tryz.prog 22 [rlG r,fiG f] (iG (vF r f)):=by
 have h1:=hr.bD
 have h2:=hr.bB
 have h3:=hr.bC
 have h5:=hr.bE
 have h6:=hr.cur
 have g1:=hF.bF
 have g2:=hF.bH
 have g3:=hF.acts
 have g4:=hF.facts
 refine zA Tryz.func22 ?_
 refine gS [] [2,3,4] ?_
 refine gS [] [2,3,4,32] ?_
 refine zF ?_ ?_<;>intro c1<;>try simp only[bb,toN]at c1
 ·refine gS [] [2,3,4] ?_
  refine gT ?_
  rw[vF,iP (by (try simp only[bb,toN]);exact c1)];rfl
 refine gS [.call (zTm r f.bill hr)] [2,3,4,5] ?_
 refine gS [] [2,3,4,5,44] ?_
 refine yO (α:=Int) (fun x=>vF r f=Ju r f x) (fun x=>⟨[(2,.ptr 0 0 0 0),(3,.ptr 1 0 0 0),(4,iG 0),(5,iG x)],[(0,some (.box [.d (.row dF zg r.bA),.d (.row dF ctC r.bB),.d (.row dF inC r.groups),.d (.row dF fmC r.bC),.d (.row dF odC r.bD),.d (.row dF usC r.bE),.d (.row dF rtC r.rates),.d (.row dF htC r.halts)])),(1,some (.box [iG f.bill.bP,iG f.bill.bO,iG f.bill.bQ,iG f.bill.sum,iG f.bill.cur,iG f.bill.ten.kind,iG f.bill.ten.n,iG f.bill.ten.unit,iG f.bill.day,iG f.bill.city,iG f.bill.pay,iG f.bill.need,iG f.bill.rate,iG f.bill.flags,iG f.bill.parts,.d (.row dF sgC f.bF),.d (.row dF alC f.bH),.d (.row dF acC f.acts),.d (.row dF fcC f.facts)]))],2⟩) ?_ ?_
 ·rintro j5_1 hjc1
  refine gS [] [2,3,4,5,6] ?_
  refine zI (α:=Int×Nat) (fun x=>x.2<=f.bF.length/\jB r f j5_1 j5_1 0=jB r f j5_1 x.1 x.2) (fun x=>[(5,iG x.1),(6,iG x.2)]) (fun x=>[]) (fun x=>f.bF.length-x.2) (j5_1,0) ⟨by (try simp only[]);omega,rfl⟩ ?_ (hp:=t40)
  rintro ⟨a5_1,k1⟩ ⟨hi1,he⟩
  dsimp only at*
  refine gS [] [2,3,4,5,6,53] ?_
  refine zF ?_ ?_<;>intro c2<;>try simp only[bb,toN]at c2
  ·refine gS [.call (zJp r f (k1:Int) hr hF t36)] [2,3,4,5,6] ?_
   refine gS [] [2,3,4,5,6] ?_
   refine zD (((Yf r f (k1:Int)),k1+1)) ?_ (hp:=t40) (hm:=by dsimp only;omega)
   refine ⟨by (try simp only[]);omega,he.trans ?_⟩
   rw[jB,iP (by (try simp only[bb,toN]);exact c2)]
   try rfl
  refine gS [] [2,3,4,5,7] ?_
  refine zI (α:=Int×Nat) (fun x=>x.2<=f.bH.length/\zw r f j5_1 a5_1 k1 a5_1 0=zw r f j5_1 a5_1 k1 x.1 x.2) (fun x=>[(5,iG x.1),(7,iG x.2)]) (fun x=>[]) (fun x=>f.bH.length-x.2) (a5_1,0) ⟨by (try simp only[]);omega,rfl⟩ ?_ (hp:=t40)
  rintro ⟨a5_2,k2⟩ ⟨hi2,he2⟩
  dsimp only at*
  refine gS [] [2,3,4,5,7,68] ?_
  refine zF ?_ ?_<;>intro c3<;>try simp only[bb,toN]at c3
  ·refine gS [] [2,3,4,5,7,8] ?_
   refine gS [] [2,3,4,5,7,8,72] ?_
   refine zB ?_ ?_<;>intro c4<;>try simp only[toN]at c4
   ·have hw:i64.wrap ((k2:Int)-1)=(k2:Int)-1:=za (by unfold inR;omega)
    refine zG env true [] [2,3,4,5,7,8] ?_ (hp:=(by simp only[zC,bb,toN,hw,ZJ,loI,hiI];repeat' first|exact trivial|exact zH.refl _|exact zE.refl _|exact rfl|omega|apply And.intro|intro _))
    refine gS [.call (zz ((f.bH.getD k2 dF).at_) (i64.wrap (((f.bH.getD ((i64.wrap ((k2:Int)-1)).toNat) dF).at_)+1)) (f.bF.length:Int))] [2,3,4,5,7,92] ?_
    refine zF ?_ ?_<;>intro c5<;>try simp only[bb,toN]at c5
    ·refine gS [] [2,3,4,5,7] ?_
     refine gS [] [2,3,4,5,7] ?_
     refine zD ((1,k2+1)) ?_ (hp:=t40) (hm:=by dsimp only;omega)
     refine ⟨by (try simp only[]);omega,he2.trans ?_⟩
     rw[zw,iP (by (try simp only[bb,toN]);exact c3),iP c4,iP (by (try simp only[bb,toN]);exact c5)]
     try rfl
    refine gS [.call (zz ((f.bH.getD k2 dF).sum) 1 1099511627776)] [2,3,4,5,7,100] ?_
    refine zF ?_ ?_<;>intro c6<;>try simp only[bb,toN]at c6
    ·refine gS [] [2,3,4,5,7] ?_
     refine gS [] [2,3,4,5,7] ?_
     refine zD ((3,k2+1)) ?_ (hp:=t40) (hm:=by dsimp only;omega)
     refine ⟨by (try simp only[]);omega,he2.trans ?_⟩
     rw[zw,iP (by (try simp only[bb,toN]);exact c3),iP c4,iN (by (try simp only[bb,toN]);exact c5),iP (by (try simp only[bb,toN]);exact c6)]
     try rfl
    refine gS [] [2,3,4,5,7] ?_
    refine zD ((a5_2,k2+1)) ?_ (hp:=t40) (hm:=by dsimp only;omega)
    refine ⟨by (try simp only[]);omega,he2.trans ?_⟩
    rw[zw,iP (by (try simp only[bb,toN]);exact c3),iP c4,iN (by (try simp only[bb,toN]);exact c5),iN (by (try simp only[bb,toN]);exact c6)]
    try rfl
   refine gS [.call (zz ((f.bH.getD k2 dF).at_) 1 (f.bF.length:Int))] [2,3,4,5,7,92] ?_
   refine zF ?_ ?_<;>intro c7<;>try simp only[bb,toN]at c7
   ·refine gS [] [2,3,4,5,7] ?_
    refine gS [] [2,3,4,5,7] ?_
    refine zD ((1,k2+1)) ?_ (hp:=t40) (hm:=by dsimp only;omega)
    refine ⟨by (try simp only[]);omega,he2.trans ?_⟩
    rw[zw,iP (by (try simp only[bb,toN]);exact c3),iQ c4,iP (by (try simp only[bb,toN]);exact c7)]
    try rfl
   refine gS [.call (zz ((f.bH.getD k2 dF).sum) 1 1099511627776)] [2,3,4,5,7,100] ?_
   refine zF ?_ ?_<;>intro c8<;>try simp only[bb,toN]at c8
   ·refine gS [] [2,3,4,5,7] ?_
    refine gS [] [2,3,4,5,7] ?_
    refine zD ((3,k2+1)) ?_ (hp:=t40) (hm:=by dsimp only;omega)
    refine ⟨by (try simp only[]);omega,he2.trans ?_⟩
    rw[zw,iP (by (try simp only[bb,toN]);exact c3),iQ c4,iN (by (try simp only[bb,toN]);exact c7),iP (by (try simp only[bb,toN]);exact c8)]
    try rfl
   refine gS [] [2,3,4,5,7] ?_
   refine zD ((a5_2,k2+1)) ?_ (hp:=t40) (hm:=by dsimp only;omega)
   refine ⟨by (try simp only[]);omega,he2.trans ?_⟩
   rw[zw,iP (by (try simp only[bb,toN]);exact c3),iQ c4,iN (by (try simp only[bb,toN]);exact c7),iN (by (try simp only[bb,toN]);exact c8)]
   try rfl
  refine gS [] [2,3,4,5,9] ?_
  refine zI (α:=Int×Nat) (fun x=>x.2<=f.acts.length/\Yq r f j5_1 a5_1 k1 a5_2 k2 a5_2 0=Yq r f j5_1 a5_1 k1 a5_2 k2 x.1 x.2) (fun x=>[(5,iG x.1),(9,iG x.2)]) (fun x=>[]) (fun x=>f.acts.length-x.2) (a5_2,0) ⟨by (try simp only[]);omega,rfl⟩ ?_ (hp:=t40)
  rintro ⟨a5_3,k3⟩ ⟨hi3,he3⟩
  dsimp only at*
  refine gS [] [2,3,4,5,9,109] ?_
  refine zF ?_ ?_<;>intro c9<;>try simp only[bb,toN]at c9
  ·refine gS [.call (zUp r f (k3:Int) hr hF t36)] [2,3,4,5,9] ?_
   refine gS [] [2,3,4,5,9] ?_
   refine zD (((qj r f (k3:Int)),k3+1)) ?_ (hp:=t40) (hm:=by dsimp only;omega)
   refine ⟨by (try simp only[]);omega,he3.trans ?_⟩
   rw[Yq,iP (by (try simp only[bb,toN]);exact c9)]
   try rfl
  refine gS [] [3,4,5,10] ?_
  refine zI (α:=Int×Nat) (fun x=>x.2<=f.facts.length/\Yp r f j5_1 a5_1 k1 a5_2 k2 a5_3 k3 a5_3 0=Yp r f j5_1 a5_1 k1 a5_2 k2 a5_3 k3 x.1 x.2) (fun x=>[(5,iG x.1),(10,iG x.2)]) (fun x=>[]) (fun x=>f.facts.length-x.2) (a5_3,0) ⟨by (try simp only[]);omega,rfl⟩ ?_ (hp:=t40)
  rintro ⟨a5_4,k4⟩ ⟨hi4,he4⟩
  dsimp only at*
  refine gS [] [3,4,5,10,124] ?_
  refine zF ?_ ?_<;>intro c10<;>try simp only[bb,toN]at c10
  ·refine gS [.call (zMz f (k4:Int) hF t36)] [3,4,5,10] ?_
   refine gS [] [3,4,5,10] ?_
   refine zD (((qL f (k4:Int)),k4+1)) ?_ (hp:=t40) (hm:=by dsimp only;omega)
   refine ⟨by (try simp only[]);omega,he4.trans ?_⟩
   rw[Yp,iP (by (try simp only[bb,toN]);exact c10)]
   try rfl
  refine gS [] [4] ?_
  refine gT ?_
  rw[hjc1,Ju,he,jB,iN (by (try simp only[bb,toN]);exact c2),he2,zw,iN (by (try simp only[bb,toN]);exact c3),he3,Yq,iN (by (try simp only[bb,toN]);exact c9),he4,Yp,iN (by (try simp only[bb,toN]);exact c10)];rfl
 refine zF ?_ ?_<;>intro c11<;>try simp only[bb,toN]at c11
 ·refine gS [] [2,3,4,5] ?_
  refine zV (14) ?_ (hp:=t40)
  exact by rw[vF,iN (by (try simp only[bb,toN]);exact c1),iP (by (try simp only[bb,toN]);exact c11)]
 refine zV ((QS r f.bill)) ?_ (hp:=t40)
 exact by rw[vF,iN (by (try simp only[bb,toN]);exact c1),iN (by (try simp only[bb,toN]);exact c11)]
structure MemR (r:Rlm):Prop where
 bB:r.bB.length<=9223372036854775807
 bD:r.bD.length<=9223372036854775807
def qJ (r:Rlm) (k1:Nat) (k2:Nat):Bool:=if (bif decide ((k2:Int)<(r.bD.length:Int))then decide ((k2:Int)<50)else false)=true then if (bif decide (40<(((r.bD.getD k2 dF).bL).length:Int))then true else decide (40<(((r.bD.getD k2 dF).rules).length:Int)))=true then false else qJ r k1 (k2+1)else (bif (bif (bif (bif (bif (bif (bif decide ((r.bA.length:Int)<50)then decide ((r.bB.length:Int)<50)else false)then decide ((r.groups.length:Int)<50)else false)then decide ((r.bC.length:Int)<210)else false)then decide ((r.bD.length:Int)<50)else false)then decide ((r.bE.length:Int)<110)else false)then decide ((r.rates.length:Int)<110)else false)then decide ((r.halts.length:Int)<50)else false)
termination_by 50-k2
decreasing_by all_goals first|omega|(simp only[bb]at*;omega)
def Jo (r:Rlm) (k1:Nat):Bool:=if (bif decide ((k1:Int)<(r.bB.length:Int))then decide ((k1:Int)<50)else false)=true then if (bif (bif decide (70<(((r.bB.getD k1 dF).feasts).length:Int))then true else decide (210<(((r.bB.getD k1 dF).shut).length:Int)))then true else decide (8<(((r.bB.getD k1 dF).rest).length:Int)))=true then false else Jo r (k1+1)else qJ r k1 0
termination_by 50-k1
decreasing_by all_goals first|omega|(simp only[bb]at*;omega)
def zFl (r:Rlm):Bool:=Jo r 0
theorem zYn (r:Rlm):GC Tryz.prog 49 [rlG r] (bG (zFl r)):=by
 refine zA Tryz.func49 ?_
 refine gE [1,2] ?_
 refine gE [1,2,3] ?_
 refine zI (α:=Nat) (fun x=>x<=50/\Jo r 0=Jo r x) (fun x=>[(3,iG x)]) (fun x=>[]) (fun x=>50-x) 0 ⟨by (try simp only[]);omega,rfl⟩ ?_ (hp:=t40)
 rintro k1 ⟨hi1,he⟩
 refine gE [1,2,3,13] ?_
 refine zF ?_ ?_<;>intro c1<;>try simp only[bb,toN]at c1
 ·refine gE [1,2,3,43] ?_
  refine zF ?_ ?_<;>intro c2<;>try simp only[bb,toN]at c2
  ·refine gE [1,2,3] ?_
   refine gT ?_
   rw[zFl,he,Jo,iP (by (try simp only[bb,toN]);exact c1),iP (by (try simp only[bb,toN]);exact c2)];rfl
  refine gE [1,2,3] ?_
  refine zD (k1+1) ?_ (hp:=t40)
  refine ⟨by (try simp only[]);omega,he.trans ?_⟩
  rw[Jo,iP (by (try simp only[bb,toN]);exact c1),iN (by (try simp only[bb,toN]);exact c2)]
  try rfl
 refine gE [1,2,4] ?_
 refine zI (α:=Nat) (fun x=>x<=50/\qJ r k1 0=qJ r k1 x) (fun x=>[(4,iG x)]) (fun x=>[]) (fun x=>50-x) 0 ⟨by (try simp only[]);omega,rfl⟩ ?_ (hp:=t40)
 rintro k2 ⟨hi2,he2⟩
 refine gE [1,2,4,52] ?_
 refine zF ?_ ?_<;>intro c3<;>try simp only[bb,toN]at c3
 ·refine gE [1,2,4,72] ?_
  refine zF ?_ ?_<;>intro c4<;>try simp only[bb,toN]at c4
  ·refine gE [1,2,4] ?_
   refine gT ?_
   rw[zFl,he,Jo,iN (by (try simp only[bb,toN]);exact c1),he2,qJ,iP (by (try simp only[bb,toN]);exact c3),iP (by (try simp only[bb,toN]);exact c4)];rfl
  refine gE [1,2,4] ?_
  refine zD (k2+1) ?_ (hp:=t40)
  refine ⟨by (try simp only[]);omega,he2.trans ?_⟩
  rw[qJ,iP (by (try simp only[bb,toN]);exact c3),iN (by (try simp only[bb,toN]);exact c4)]
  try rfl
 refine gE [2] ?_
 refine gT ?_
 rw[zFl,he,Jo,iN (by (try simp only[bb,toN]);exact c1),he2,qJ,iN (by (try simp only[bb,toN]);exact c3)];rfl
def zBm (f:Fil):Bool:=(bif (bif (bif decide ((f.bF.length:Int)<=50)then decide ((f.bH.length:Int)<=10)else false)then decide ((f.acts.length:Int)<=110)else false)then decide ((f.facts.length:Int)<=220)else false)
theorem zSu (f:Fil):GC Tryz.prog 50 [fiG f] (bG (zBm f)):=by
 refine zA Tryz.func50 ?_
 refine gE [1,2] ?_
 refine gE [2] ?_
 refine gT ?_
 rw[zBm];rfl
def Qa:Nat->Tm->Prop
 |0,t=>t.args= []
 |k+1,t=>t.args.length<=9223372036854775807/\∀a,a∈t.args->Qa k a
theorem Qa.len {k:Nat} {t:Tm} (h:Qa k t):t.args.length<=9223372036854775807:=by
 cases k with
 |zero=>have h:t.args= []:=h;rw[h];simp
 |succ k=>exact h.1
theorem Qa.at_ {k:Nat} {t:Tm} (h:Qa k t) {i:Nat} (hi:i<t.args.length):∃j,k=j+1/\Qa j (t.args.getD i dF):=by
 cases k with
 |zero=>have h:t.args= []:=h;rw[h]at hi;simp at hi
 |succ k=>exact ⟨k,rfl,h.2 _ (zK hi)⟩
def JF (f:Tm->Int->Int->Int) (t:Tm) (n:Int) (lv:Int) (a1_1:Int) (k1:Nat):Int:=if (bif decide ((k1:Int)<(t.args.length:Int))then decide (0<=a1_1)else false)=true then JF f t n lv (f (t.args.getD k1 dF) a1_1 (i64.wrap (lv-1))) (k1+1)else a1_1
termination_by t.args.length-k1
decreasing_by all_goals first|omega|(simp only[bb]at*;omega)
def Xv (f:Tm->Int->Int->Int) (t:Tm) (n:Int) (lv:Int):Int:=if lv<1 then (-1)else JF f t n lv (i64.wrap (n-1)) 0
theorem zHg (f:Tm->Int->Int->Int) (t:Tm) (n:Int) (lv:Int) (k:Nat) (hf:∀j,k=j+1->∀a n lv,Qa j a->GC Tryz.prog 127 [Qu j a,iG n,iG lv] (iG (f a n lv))) (ht:Qa k t):GC Tryz.prog 127 [Qu k t,iG n,iG lv] (iG (Xv f t n lv)):=by
 have hl:=ht.len
 refine zA Tryz.func127 ?_
 refine gE [1,2,3,6] ?_
 refine zG env true [] [1,2,3,6] ?_
 refine gE [1,2,3,6,11] ?_
 refine zB ?_ ?_<;>intro c1<;>try simp only[toN]at c1
 ·refine gE [1,2,3,6] ?_
  refine gT ?_
  rw[Xv,iP c1];rfl
 refine gE [1,2,3,6,7] ?_
 refine zI (α:=Int×Nat) (fun x=>x.2<=t.args.length/\JF f t n lv (i64.wrap (n-1)) 0=JF f t n lv x.1 x.2) (fun x=>[(1,iG x.1),(7,iG x.2)]) (fun x=>[]) (fun x=>t.args.length-x.2) (i64.wrap (n-1),0) ⟨by (try simp only[]);omega,rfl⟩ ?_ (hp:=t40)
 rintro ⟨a1_1,k1⟩ ⟨hi1,he⟩
 dsimp only at*
 refine gE [1,2,3,6,7,20] ?_
 refine zF ?_ ?_<;>intro c2<;>try simp only[bb,toN]at c2
 ·obtain ⟨j,rfl,hfa⟩:=ht.at_ (i:=k1) t11
  refine zG env true [.call (hf _ rfl (t.args.getD k1 dF) a1_1 (i64.wrap (lv-1)) hfa)] [1,2,3,6,7] ?_
  refine gE [1,2,3,6,7] ?_
  refine zD (((f (t.args.getD k1 dF) a1_1 (i64.wrap (lv-1))),k1+1)) ?_ (hp:=t40) (hm:=by dsimp only;omega)
  refine ⟨by (try simp only[]);omega,he.trans ?_⟩
  rw[JF,iP (by (try simp only[bb,toN]);exact c2)]
  try rfl
 refine gE [6] ?_
 refine gT ?_
 rw[Xv,iQ c1,he,JF,iN (by (try simp only[bb,toN]);exact c2)];rfl
def UP:Nat->Tm->Int->Int->Int
 |0=>Xv fun _ _ _=>0
 |k+1=>Xv (UP k)
theorem zVf:∀(k:Nat) (t:Tm) (n lv:Int),Qa k t->GC Tryz.prog 127 [Qu k t,iG n,iG lv] (iG (UP k t n lv)):=by
 intro k
 induction k with
 |zero=>intro t n lv h;exact zHg _ t n lv 0 (fun j e=>by omega) h
 |succ k ih=>intro t n lv h;exact zHg (UP k) t n lv (k+1) (fun j e=>by cases e;exact ih) h
def XW (t:Tm):Bool:=decide (0<=(UP Dep.d t 100 20))
theorem zSt (t:Tm) (ht:Qa Dep.d t):GC Tryz.prog 81 [Qu Dep.d t] (bG (XW t)):=by
 refine zA Tryz.func81 ?_
 refine gE [1,2] ?_
 refine gR [.call (zVf Dep.d t 100 20 ht)] [2] ?_
 refine gT ?_
 rw[XW];rfl
def jx (o:Od) (k1:Nat):Bool:=if k1<o.rules.length then if (!(XW ((o.rules.getD k1 dF).term)))=true then false else jx o (k1+1)else true
termination_by o.rules.length-k1
def vw (o:Od):Bool:=if (bif decide (60<(o.rules.length:Int))then true else decide (60<(o.bL.length:Int)))=true then false else jx o 0
theorem zSs (o:Od) (ho:∀x,x∈o.rules->Qa Dep.d x.term):GC Tryz.prog 51 [odG o] (bG (vw o)):=by
 refine zA Tryz.func51 ?_
 refine gE [1,2] ?_
 refine gE [1,2,13] ?_
 refine zF ?_ ?_<;>intro c1<;>try simp only[bb,toN]at c1
 ·refine gE [1,2] ?_
  refine gT ?_
  rw[vw,iP (by (try simp only[bb,toN]);exact c1)];rfl
 refine gE [1,2,3] ?_
 refine zI (α:=Nat) (fun x=>x<=o.rules.length/\jx o 0=jx o x) (fun x=>[(3,iG x)]) (fun x=>[]) (fun x=>o.rules.length-x) 0 ⟨by (try simp only[]);omega,rfl⟩ ?_ (hp:=t40)
 rintro k1 ⟨hi1,he⟩
 refine gE [1,2,3,18] ?_
 refine zB ?_ ?_<;>intro c2<;>try simp only[toN]at c2
 ·refine gR [.call (zSt ((o.rules.getD k1 dF).term) (by first|assumption|exact ho _ (zK t11)))] [1,2,3,28] ?_
  refine zF ?_ ?_<;>intro c3<;>try simp only[bb,toN]at c3
  ·refine gE [1,2,3] ?_
   refine gT ?_
   rw[vw,iN (by (try simp only[bb,toN]);exact c1),he,jx,iP t11,iP (by (try simp only[bb,toN]);exact c3)];rfl
  refine gE [1,2,3] ?_
  refine zD (k1+1) ?_ (hp:=t40)
  refine ⟨by (try simp only[]);omega,he.trans ?_⟩
  rw[jx,iP t11,iN (by (try simp only[bb,toN]);exact c3)]
  try rfl
 refine gE [2] ?_
 refine gT ?_
 rw[vw,iN (by (try simp only[bb,toN]);exact c1),he,jx,iQ t11];rfl
def VV (a b:Clm):Bool:=decide (a.bJ=b.bJ)&&(decide (a.bI=b.bI)&&(decide (a.part=b.part)&&(decide (a.sign=b.sign)&&(decide (a.by_=b.by_)&&(decide (a.turn=b.turn)&&(decide (a.sum=b.sum)&&(decide (a.cur=b.cur)&&(decide (a.state=b.state)&&(true)))))))))
theorem zYq (a b:Clm):EqC Tryz.prog 55 [.int .i64 a.bJ,.int .i64 a.bI,.int .i64 a.part,.int .i64 a.sign,.int .i64 a.by_,.int .i64 a.turn,.int .i64 a.sum,.int .i64 a.cur,.int .i64 a.state] [.int .i64 b.bJ,.int .i64 b.bI,.int .i64 b.part,.int .i64 b.sign,.int .i64 b.by_,.int .i64 b.turn,.int .i64 b.sum,.int .i64 b.cur,.int .i64 b.state] (VV a b):=EqC.of yA rfl rfl (by kernel_rfl) (by kernel_rfl) (.int yA rfl rfl rfl rfl (.int yA rfl rfl rfl rfl (.int yA rfl rfl rfl rfl (.int yA rfl rfl rfl rfl (.int yA rfl rfl rfl rfl (.int yA rfl rfl rfl rfl (.int yA rfl rfl rfl rfl (.int yA rfl rfl rfl rfl (.int yA rfl rfl rfl rfl .nil)))))))))
end Go.Gh
namespace Go.Proofs
open Go.Shelf
def Tryz.lays156_ren:Go.Shelf.Ren:=⟨fun|156=>39|165=>76|166=>38|169=>45|240=>75|241=>123|276=>122|277=>160|n=>n,fun|31=>22|9=>9|3=>3|4=>4|0=>0|20=>20|72=>109|76=>112|70=>106|37=>107|75=>111|127=>150|164=>200|5=>5|80=>120|n=>n,fun|n=>n⟩
theorem Tryz.lays156:Go.Proofs.Lays.n156 Tryz.prog Tryz.lays156_ren:= {
 mixed:=by kernel_rfl
 f156:=Tryz.func39.trans (congrArg some (by kernel_rfl))
 f165:=Tryz.func76.trans (congrArg some (by kernel_rfl))
 f166:=Tryz.func38.trans (congrArg some (by kernel_rfl))
 f169:=Tryz.func45.trans (congrArg some (by kernel_rfl))
 f240:=Tryz.func75.trans (congrArg some (by kernel_rfl))
 f241:=Tryz.func123.trans (congrArg some (by kernel_rfl))
 f276:=Tryz.func122.trans (congrArg some (by kernel_rfl))
 f277:=Tryz.func160.trans (congrArg some (by kernel_rfl))
 t0:=Tryz.underlying0
 a0:=Tryz.isAgg0
 z0:=Tryz.sizeOf0
 v0:=Tryz.zeroValue0
 t3:=Tryz.underlying3
 a3:=Tryz.isAgg3
 z3:=Tryz.sizeOf3
 v3:=Tryz.zeroValue3
 t4:=Tryz.underlying4
 a4:=Tryz.isAgg4
 z4:=Tryz.sizeOf4
 v4:=Tryz.zeroValue4
 t9:=Tryz.underlying9
 a9:=Tryz.isAgg9
 z9:=Tryz.sizeOf9
 v9:=Tryz.zeroValue9
 t20:=Tryz.underlying20
 a20:=Tryz.isAgg20
 z20:=Tryz.sizeOf20
 v20:=Tryz.zeroValue20
 t31:=Tryz.underlying22
 a31:=Tryz.isAgg22
 z31:=Tryz.sizeOf22
 v31:=Tryz.zeroValue22
 t37:=Tryz.underlying107
 a37:=Tryz.isAgg107
 z37:=Tryz.sizeOf107
 v37:=Tryz.zeroValue107
 t70:=Tryz.underlying106
 a70:=Tryz.isAgg106
 z70:=Tryz.sizeOf106
 v70:=Tryz.zeroValue106
 t72:=Tryz.underlying109
 a72:=Tryz.isAgg109
 z72:=Tryz.sizeOf109
 v72:=Tryz.zeroValue109
 t75:=Tryz.underlying111
 a75:=Tryz.isAgg111
 z75:=Tryz.sizeOf111
 v75:=Tryz.zeroValue111
 t76:=Tryz.underlying112
 a76:=Tryz.isAgg112
 z76:=Tryz.sizeOf112
 v76:=Tryz.zeroValue112
 t127:=Tryz.underlying150
 a127:=Tryz.isAgg150
 z127:=Tryz.sizeOf150
 v127:=Tryz.zeroValue150
 t164:=Tryz.underlying200
 a164:=Tryz.isAgg200
 z164:=Tryz.sizeOf200
 v164:=Tryz.zeroValue200}
theorem Tryz.Builder_Extra_156:Builder.Extra Tryz.prog Tryz.lays156_ren:= {
 sizeBuilder:=by kernel_rfl
 liesBuilder:=by kernel_rfl
 t5:=Tryz.underlying5
 a5:=Tryz.isAgg5
 z5:=Tryz.sizeOf5
 v5:=Tryz.zeroValue5
 infoByte:=by kernel_rfl
 cellsByte:=by kernel_rfl
 sizeByte:=by kernel_rfl
 neB5:=by decide}
open Go.RowKit in
theorem Tryz.strings_Join_none (a:Option Addr) (c:Nat) (sep:ByteArray) (w:World):
 Calls Tryz.prog 39 #[.slice a 0 c,.string sep] w fun e w'=>e= .returned (.string ⟨#[]⟩)∧w'=w:=Any.strings_Join_none Tryz.lays156 Tryz.Builder_Extra_156 a c sep w
open Go.RowKit in
theorem Tryz.strings_Join (bk o c:Nat) (xs:List ByteArray) (sep:ByteArray) (w:World) (hcells:∀(j:Nat) x,xs[j]? =some x→w.cell? ⟨bk,o+j,none⟩=some (.string x)) (hbk:bk<w.heap.size) (hN:xs.length≤140737488355328) (hcap:xs.length≤c) (hlen:(Lib.join (xs.map (·.data.toList)) sep.data.toList).length≤140737488355328):
 Calls Tryz.prog 39 #[.slice (some ⟨bk,o,none⟩) xs.length c,.string sep] w fun e w'=>e= .returned (.string ⟨(Lib.join (xs.map (·.data.toList)) sep.data.toList).toArray⟩)∧Below w.heap.size w w':=Any.strings_Join Tryz.lays156 Tryz.Builder_Extra_156 bk o c xs sep w hcells hbk hN hcap hlen
def Tryz.lays134_ren:Go.Shelf.Ren:=⟨fun|134=>263|129=>202|n=>n,fun|53=>245|3=>3|4=>4|46=>286|5=>5|9=>9|n=>n,fun|n=>n⟩
theorem Tryz.lays134:Go.Proofs.Lays.n134 Tryz.prog Tryz.lays134_ren:= {
 mixed:=by kernel_rfl
 f129:=Tryz.func202.trans (congrArg some (by kernel_rfl))
 f134:=Tryz.func263.trans (congrArg some (by kernel_rfl))
 t3:=Tryz.underlying3
 a3:=Tryz.isAgg3
 z3:=Tryz.sizeOf3
 v3:=Tryz.zeroValue3
 t4:=Tryz.underlying4
 a4:=Tryz.isAgg4
 z4:=Tryz.sizeOf4
 v4:=Tryz.zeroValue4
 t5:=Tryz.underlying5
 a5:=Tryz.isAgg5
 z5:=Tryz.sizeOf5
 v5:=Tryz.zeroValue5
 t9:=Tryz.underlying9
 a9:=Tryz.isAgg9
 z9:=Tryz.sizeOf9
 v9:=Tryz.zeroValue9
 t46:=Tryz.underlying286
 a46:=Tryz.isAgg286
 z46:=Tryz.sizeOf286
 v46:=Tryz.zeroValue286
 t53:=Tryz.underlying245
 a53:=Tryz.isAgg245
 z53:=Tryz.sizeOf245
 v53:=Tryz.zeroValue245}
theorem Tryz.bits_LeadingZeros64 (x:Int) (w:World) (h0:0≤x) (h1:x≤18446744073709551615):
 Calls Tryz.prog 263 #[.int .u64 x] w fun e w'=>e= .returned (.int .i64 (64-(Lib.bitLen x.toNat:Int)))∧w'=w:=Any.bits_LeadingZeros64 Tryz.lays134 x w h0 h1
def Tryz.laysM246_ren:Go.Shelf.Ren:=⟨fun|246=>124|283=>161|284=>162|285=>163|286=>164|129=>202|317=>201|318=>203|319=>204|320=>205|337=>234|338=>235|n=>n,fun|2=>2|3=>3|9=>9|4=>4|171=>244|0=>0|53=>245|37=>107|5=>5|173=>248|212=>283|51=>284|20=>20|213=>285|46=>286|232=>346|233=>347|n=>n,fun|17=>1|18=>5|19=>6|n=>n⟩
def Tryz.laysM243_ren:Go.Shelf.Ren:=⟨fun|243=>77|246=>124|283=>161|284=>162|285=>163|286=>164|129=>202|317=>201|318=>203|319=>204|320=>205|337=>234|338=>235|n=>n,fun|3=>3|9=>9|2=>2|4=>4|171=>244|0=>0|53=>245|37=>107|5=>5|173=>248|212=>283|51=>284|20=>20|213=>285|46=>286|232=>346|233=>347|n=>n,fun|17=>1|18=>5|19=>6|n=>n⟩
def Tryz.laysM171_ren:Go.Shelf.Ren:=⟨fun|171=>41|243=>77|246=>124|283=>161|284=>162|285=>163|286=>164|129=>202|317=>201|318=>203|319=>204|320=>205|337=>234|338=>235|n=>n,fun|3=>3|9=>9|2=>2|4=>4|171=>244|0=>0|53=>245|37=>107|5=>5|173=>248|212=>283|51=>284|20=>20|213=>285|46=>286|232=>346|233=>347|n=>n,fun|17=>1|18=>5|19=>6|n=>n⟩
theorem Tryz.laysM171:Go.Proofs.LaysM.n171 Tryz.prog Tryz.laysM171_ren:= {
 mixed:=by kernel_rfl
 f129:=Tryz.func202.trans (congrArg some (by kernel_rfl))
 f171:=Tryz.func41.trans (congrArg some (by kernel_rfl))
 f243:=Tryz.func77.trans (congrArg some (by kernel_rfl))
 f246:=Tryz.func124.trans (congrArg some (by kernel_rfl))
 f283:=Tryz.func161.trans (congrArg some (by kernel_rfl))
 f284:=Tryz.func162.trans (congrArg some (by kernel_rfl))
 f285:=Tryz.func163.trans (congrArg some (by kernel_rfl))
 f286:=Tryz.func164.trans (congrArg some (by kernel_rfl))
 f317:=Tryz.func201.trans (congrArg some (by kernel_rfl))
 f318:=Tryz.func203.trans (congrArg some (by kernel_rfl))
 f319:=Tryz.func204.trans (congrArg some (by kernel_rfl))
 f320:=Tryz.func205.trans (congrArg some (by kernel_rfl))
 f337:=Tryz.func234.trans (congrArg some (by kernel_rfl))
 f338:=Tryz.func235.trans (congrArg some (by kernel_rfl))
 t0:=Tryz.underlying0
 a0:=Tryz.isAgg0
 z0:=Tryz.sizeOf0
 v0:=Tryz.zeroValue0
 t2:=Tryz.underlying2
 a2:=Tryz.isAgg2
 z2:=Tryz.sizeOf2
 v2:=Tryz.zeroValue2
 t3:=Tryz.underlying3
 a3:=Tryz.isAgg3
 z3:=Tryz.sizeOf3
 v3:=Tryz.zeroValue3
 t4:=Tryz.underlying4
 a4:=Tryz.isAgg4
 z4:=Tryz.sizeOf4
 v4:=Tryz.zeroValue4
 t5:=Tryz.underlying5
 a5:=Tryz.isAgg5
 z5:=Tryz.sizeOf5
 v5:=Tryz.zeroValue5
 t9:=Tryz.underlying9
 a9:=Tryz.isAgg9
 z9:=Tryz.sizeOf9
 v9:=Tryz.zeroValue9
 t20:=Tryz.underlying20
 a20:=Tryz.isAgg20
 z20:=Tryz.sizeOf20
 v20:=Tryz.zeroValue20
 t37:=Tryz.underlying107
 a37:=Tryz.isAgg107
 z37:=Tryz.sizeOf107
 v37:=Tryz.zeroValue107
 t46:=Tryz.underlying286
 a46:=Tryz.isAgg286
 z46:=Tryz.sizeOf286
 v46:=Tryz.zeroValue286
 t51:=Tryz.underlying284
 a51:=Tryz.isAgg284
 z51:=Tryz.sizeOf284
 v51:=Tryz.zeroValue284
 t53:=Tryz.underlying245
 a53:=Tryz.isAgg245
 z53:=Tryz.sizeOf245
 v53:=Tryz.zeroValue245
 t171:=Tryz.underlying244
 a171:=Tryz.isAgg244
 z171:=Tryz.sizeOf244
 v171:=Tryz.zeroValue244
 t173:=Tryz.underlying248
 a173:=Tryz.isAgg248
 z173:=Tryz.sizeOf248
 v173:=Tryz.zeroValue248
 t212:=Tryz.underlying283
 a212:=Tryz.isAgg283
 z212:=Tryz.sizeOf283
 v212:=Tryz.zeroValue283
 t213:=Tryz.underlying285
 a213:=Tryz.isAgg285
 z213:=Tryz.sizeOf285
 t232:=Tryz.underlying346
 a232:=Tryz.isAgg346
 z232:=Tryz.sizeOf346
 v232:=Tryz.zeroValue346
 t233:=Tryz.underlying347
 a233:=Tryz.isAgg347
 z233:=Tryz.sizeOf347
 v233:=Tryz.zeroValue347
 g17:=by kernel_rfl
 g18:=by kernel_rfl
 g19:=by kernel_rfl
 i0:=by kernel_rfl
 i2:=by kernel_rfl
 i3:=by kernel_rfl
 i4:=by kernel_rfl
 i5:=by kernel_rfl
 i9:=by kernel_rfl
 i20:=by kernel_rfl
 i37:=by kernel_rfl
 i46:=by kernel_rfl
 i51:=by kernel_rfl
 i53:=by kernel_rfl
 i171:=by kernel_rfl
 i173:=by kernel_rfl
 i212:=by kernel_rfl
 i232:=by kernel_rfl
 i233:=by kernel_rfl
 m17:=by kernel_rfl
 m18:=by kernel_rfl
 m19:=by kernel_rfl}
open Go.RowKit Go.Sort Go.Lib in
theorem Tryz.strconv_Itoa (n:Int) (h0: -9223372036854775808≤n) (h1:n≤9223372036854775807) (w:World) (htab:Lib.TabIs Tryz.prog w "internal/strconv.uint64pow10" .u64 Lib.pow10Tab):
 Calls Tryz.prog 41 #[.int .i64 n] w fun e w'=>e= .returned (.string ⟨(Lib.itoa n).toArray⟩)∧∃k os,w'=grow (w.drewN k) os:=Any.strconv_Itoa Tryz.laysM171 n h0 h1 w htab
def Tryz.lays189_ren:Go.Shelf.Ren:=⟨fun|189=>180|125=>219|257=>218|128=>258|129=>202|294=>249|295=>250|296=>251|297=>252|298=>253|299=>254|216=>255|300=>256|301=>257|328=>277|329=>278|330=>279|331=>280|332=>281|215=>121|343=>284|n=>n,fun|28=>68|3=>3|46=>286|0=>0|51=>284|53=>245|4=>4|183=>336|182=>335|131=>121|5=>5|9=>9|218=>357|222=>361|228=>363|229=>163|n=>n,fun|n=>n⟩
theorem Tryz.lays189:Go.Proofs.Lays.n189 Tryz.prog Tryz.lays189_ren:= {
 mixed:=by kernel_rfl
 f125:=Tryz.func219.trans (congrArg some (by kernel_rfl))
 f128:=Tryz.func258.trans (congrArg some (by kernel_rfl))
 f129:=Tryz.func202.trans (congrArg some (by kernel_rfl))
 f189:=Tryz.func180.trans (congrArg some (by kernel_rfl))
 f215:=Tryz.func121.trans (congrArg some (by kernel_rfl))
 f216:=Tryz.func255.trans (congrArg some (by kernel_rfl))
 f257:=Tryz.func218.trans (congrArg some (by kernel_rfl))
 f294:=Tryz.func249.trans (congrArg some (by kernel_rfl))
 f295:=Tryz.func250.trans (congrArg some (by kernel_rfl))
 f296:=Tryz.func251.trans (congrArg some (by kernel_rfl))
 f297:=Tryz.func252.trans (congrArg some (by kernel_rfl))
 f298:=Tryz.func253.trans (congrArg some (by kernel_rfl))
 f299:=Tryz.func254.trans (congrArg some (by kernel_rfl))
 f300:=Tryz.func256.trans (congrArg some (by kernel_rfl))
 f301:=Tryz.func257.trans (congrArg some (by kernel_rfl))
 f328:=Tryz.func277.trans (congrArg some (by kernel_rfl))
 f329:=Tryz.func278.trans (congrArg some (by kernel_rfl))
 f330:=Tryz.func279.trans (congrArg some (by kernel_rfl))
 f331:=Tryz.func280.trans (congrArg some (by kernel_rfl))
 f332:=Tryz.func281.trans (congrArg some (by kernel_rfl))
 f343:=Tryz.func284.trans (congrArg some (by kernel_rfl))
 t0:=Tryz.underlying0
 a0:=Tryz.isAgg0
 z0:=Tryz.sizeOf0
 v0:=Tryz.zeroValue0
 t3:=Tryz.underlying3
 a3:=Tryz.isAgg3
 z3:=Tryz.sizeOf3
 v3:=Tryz.zeroValue3
 t4:=Tryz.underlying4
 a4:=Tryz.isAgg4
 z4:=Tryz.sizeOf4
 v4:=Tryz.zeroValue4
 t5:=Tryz.underlying5
 a5:=Tryz.isAgg5
 z5:=Tryz.sizeOf5
 v5:=Tryz.zeroValue5
 t9:=Tryz.underlying9
 a9:=Tryz.isAgg9
 z9:=Tryz.sizeOf9
 v9:=Tryz.zeroValue9
 t28:=Tryz.underlying68
 a28:=Tryz.isAgg68
 z28:=Tryz.sizeOf68
 v28:=Tryz.zeroValue68
 t46:=Tryz.underlying286
 a46:=Tryz.isAgg286
 z46:=Tryz.sizeOf286
 v46:=Tryz.zeroValue286
 t51:=Tryz.underlying284
 a51:=Tryz.isAgg284
 z51:=Tryz.sizeOf284
 v51:=Tryz.zeroValue284
 t53:=Tryz.underlying245
 a53:=Tryz.isAgg245
 z53:=Tryz.sizeOf245
 v53:=Tryz.zeroValue245
 t131:=Tryz.underlying121
 a131:=Tryz.isAgg121
 z131:=Tryz.sizeOf121
 v131:=Tryz.zeroValue121
 t182:=Tryz.underlying335
 a182:=Tryz.isAgg335
 z182:=Tryz.sizeOf335
 v182:=Tryz.zeroValue335
 t183:=Tryz.underlying336
 a183:=Tryz.isAgg336
 z183:=Tryz.sizeOf336
 v183:=Tryz.zeroValue336
 t218:=Tryz.underlying357
 a218:=Tryz.isAgg357
 z218:=Tryz.sizeOf357
 v218:=Tryz.zeroValue357
 t222:=Tryz.underlying361
 a222:=Tryz.isAgg361
 z222:=Tryz.sizeOf361
 v222:=Tryz.zeroValue361
 t228:=Tryz.underlying363
 a228:=Tryz.isAgg363
 z228:=Tryz.sizeOf363
 v228:=Tryz.zeroValue363
 t229:=Tryz.underlying163
 a229:=Tryz.isAgg163
 z229:=Tryz.sizeOf163
 v229:=Tryz.zeroValue163}
open Go.Sort Go.RowKit in
theorem Tryz.slices_Sort_int (blk off cap:Nat) (zs:List Int) (w:World) (hH:Holds (Value.int .i64) w blk off zs.toArray) (hblk:blk<w.heap.size) (hsz:zs.length<4611686018427387904):
 Calls Tryz.prog 180 #[.slice (some ⟨blk,off,none⟩) zs.length cap] w fun e w'=>
  e= .returned (.tuple #[])∧∃n os,w'=grow (putRow (Value.int .i64) (Sort.ahead w n) blk off (zs.mergeSort fun x y=>decide (x≤y)).toArray) os:=Any.slices_Sort_int Tryz.lays189 blk off cap zs w hH hblk hsz
def Tryz.lays264_ren:Go.Shelf.Ren:=⟨fun|264=>231|n=>n,fun|53=>245|46=>286|n=>n,fun|n=>n⟩
theorem Tryz.lays264:Go.Proofs.Lays.n264 Tryz.prog Tryz.lays264_ren:= {
 mixed:=by kernel_rfl
 f264:=Tryz.func231.trans (congrArg some (by kernel_rfl))
 t46:=Tryz.underlying286
 a46:=Tryz.isAgg286
 z46:=Tryz.sizeOf286
 v46:=Tryz.zeroValue286
 t53:=Tryz.underlying245
 a53:=Tryz.isAgg245
 z53:=Tryz.sizeOf245
 v53:=Tryz.zeroValue245}
open Go.RowKit Go.Lib in
theorem Tryz.bits_Mul64 (x y:Nat) (hx:x<18446744073709551616) (hy:y<18446744073709551616) (w:World):
 Calls Tryz.prog 231 #[.int .u64 x,.int .u64 y] w fun e w'=>e= .returned (.tuple #[.int .u64 ((x*y/18446744073709551616:Nat):Int),.int .u64 ((x*y % 18446744073709551616:Nat):Int)])∧w'=w:=Any.bits_Mul64 Tryz.lays264 x y hx hy w
def Tryz.laysNm220_ren:Go.Shelf.Ren:=⟨fun|20=>181|n=>n,fun|22=>68|3=>3|4=>4|0=>0|n=>n,fun|n=>n⟩
theorem Tryz.laysNm220:Go.Proofs.Lays2.n20 Tryz.prog Tryz.laysNm220_ren:= {
 mixed:=by kernel_rfl
 f20:=Tryz.func181.trans (congrArg some (by kernel_rfl))
 t0:=Tryz.underlying0
 a0:=Tryz.isAgg0
 z0:=Tryz.sizeOf0
 v0:=Tryz.zeroValue0
 t3:=Tryz.underlying3
 a3:=Tryz.isAgg3
 z3:=Tryz.sizeOf3
 v3:=Tryz.zeroValue3
 t4:=Tryz.underlying4
 a4:=Tryz.isAgg4
 z4:=Tryz.sizeOf4
 v4:=Tryz.zeroValue4
 t22:=Tryz.underlying68
 a22:=Tryz.isAgg68
 z22:=Tryz.sizeOf68
 v22:=Tryz.zeroValue68
 i3:=by kernel_rfl}
open Go.RowKit Go.Lib Go.Sort in
theorem Tryz.slices_Compact_int (blk off cap:Nat) (zs:List Int) (w:World) (hH:Holds (Value.int .i64) w blk off zs.toArray) (hsz:zs.length≤9223372036854775807) (hcap:zs.length≤cap):
 Calls Tryz.prog 181 #[.slice (some ⟨blk,off,none⟩) zs.length cap] w fun e w'=>e= .returned (.slice (some ⟨blk,off,none⟩) (Lib.compact zs).length cap)∧∃q,w'=putRow (Value.int .i64) (Sort.ahead w q) blk off (Lib.compact zs++List.replicate (zs.length-(Lib.compact zs).length) 0).toArray:=Any.slices_Compact_int Tryz.laysNm220 blk off cap zs w hH hsz hcap
open Go.RowKit Go.Lib Go.Sort in
theorem Tryz.slices_Compact_int_empty (a:Option Addr) (cap:Nat) (w:World):
 Calls Tryz.prog 181 #[.slice a 0 cap] w fun e w'=>e= .returned (.slice a 0 cap)∧w'=w:=Any.slices_Compact_int_empty Tryz.laysNm220 a cap w
open Go.RowKit Go.Sort in
theorem Tryz.slices_Sort_int_none (p:Option Addr) (cap:Nat) (w:World):
 Calls Tryz.prog 180 #[.slice p 0 cap] w fun e w'=>e= .returned (.tuple #[])∧w'=w:=Any.slices_Sort_int_none Tryz.lays189 p cap w
end Go.Proofs
namespace Go.Proofs.YtlnnombljiecmaaGreatDoor.Dv
theorem too_great (U1 U0 q r v1 v0 Y:Int) (hY:Y=v1*4294967296+v0) (hU:U1=q*v1+r)
 (hYp:0<Y)
 (h:r*4294967296+U0<q*v0):(U1*4294967296+U0)/Y<q:=by
 apply Int.ediv_lt_of_lt_mul hYp
 subst hY;subst hU
 rw[Int.mul_add]
 have e:q*(v1*4294967296)=q*v1*4294967296:=by rw[Int.mul_assoc]
 rw[e]
 omega
theorem fits (U1 U0 q r v1 v0 Y:Int) (hY:Y=v1*4294967296+v0) (hU:U1=q*v1+r)
 (hYp:0<Y)
 (h:q*v0≤r*4294967296+U0):q≤(U1*4294967296+U0)/Y:=by
 apply Int.le_ediv_of_mul_le hYp
 subst hY;subst hU
 rw[Int.mul_add]
 have e:q*(v1*4294967296)=q*v1*4294967296:=by rw[Int.mul_assoc]
 rw[e]
 omega
theorem digit_lt (U1 U0 Y:Int) (h1:U1<Y) (h0:U0<4294967296) (hYp:0<Y):(U1*4294967296+U0)/Y<4294967296:=by
 apply Int.ediv_lt_of_lt_mul hYp
 omega
theorem first_ge (U1 U0 v1 v0 Y:Int) (hY:Y=v1*4294967296+v0) (hv1:0<v1) (hv0:0≤v0) (hU1:0≤U1) (hU0:U0<4294967296):
 (U1*4294967296+U0)/Y≤U1/v1:=by
 have hYp:0<Y:=by omega
 have hq:0≤U1/v1:=Int.ediv_nonneg hU1 (by omega)
 apply Int.le_of_lt_add_one
 apply Int.ediv_lt_of_lt_mul hYp
 have hm:=Int.mul_ediv_add_emod U1 v1
 have hr:=Int.emod_lt_of_pos U1 hv1
 generalize U1/v1=q at*
 generalize U1 % v1=r at*
 subst hY
 rw[Int.mul_add,←Int.mul_assoc]
 have hp:0≤(q+1)*v0:=Int.mul_nonneg (by omega) hv0
 have e:(q+1)*v1=v1*q+v1:=by rw[Int.add_mul,Int.mul_comm q];omega
 rw[e]
 omega
theorem first_le (U1 v1 v0 Y:Int) (hY:Y=v1*4294967296+v0) (hv1:2147483648≤v1) (hv0:v0<4294967296) (hU1:U1<Y):
 U1/v1≤4294967297:=by
 apply Int.le_of_lt_add_one
 apply Int.ediv_lt_of_lt_mul (by omega)
 omega
theorem down (U1 q r v1:Int) (hU:U1=q*v1+r):U1=(q-1)*v1+(r+v1):=by
 rw[Int.sub_mul];omega
theorem at_break (U1 U0 q r v1 v0 Y:Int) (hY:Y=v1*4294967296+v0) (hU:U1=q*v1+r) (hYp:0<Y)
 (hq:q≤4294967296) (hv0:0≤v0) (hv:v0<4294967296) (hr:4294967296≤r) (hU0:0≤U0):q≤(U1*4294967296+U0)/Y:=by
 refine fits U1 U0 q r v1 v0 Y hY hU hYp ?_
 have h1:q*v0≤4294967296*v0:=Int.mul_le_mul_of_nonneg_right hq hv0
 omega
theorem or_disj (a b s:Nat) (hb:b<2^s):(a*2^s)|||b=a*2^s+b:=by
 rw[Nat.mul_comm,Nat.two_pow_add_eq_or_of_lt hb]
theorem len_spec (y:Nat) (h0:0<y) (h1:y<18446744073709551616):
 1≤Lib.bitLen y∧Lib.bitLen y≤64∧2^(Lib.bitLen y-1)≤y∧y<2^Lib.bitLen y:=by
 obtain ⟨a,b,c⟩:=Lib.bitLenAux_bounds 64 y (by simpa using h1) (by omega)
 refine ⟨a,?_,b,c⟩
 show Lib.bitLen y≤64
 have:¬65≤Lib.bitLenAux 64 y:=by
  intro h
  have h2:2^64≤2^(Lib.bitLenAux 64 y-1):=Nat.pow_le_pow_right (by omega) (by omega)
  have h3:(2:Nat)^64=18446744073709551616:=by decide
  omega
 show Lib.bitLenAux 64 y≤64
 omega
theorem norm (y:Nat) (h0:0<y) (h1:y<18446744073709551616) (s:Nat) (hs:s=64-Lib.bitLen y):
 s<64∧9223372036854775808≤y*2^s∧y*2^s<18446744073709551616∧2^s*2^(64-s)=18446744073709551616:=by
 obtain ⟨a,b,c,d⟩:=len_spec y h0 h1
 have e:2^s*2^(64-s)=18446744073709551616:=by
  rw[←Nat.pow_add,show s+(64-s)=64 by omega]
 refine ⟨by omega,?_,?_,e⟩
 ·have h2:2^(Lib.bitLen y-1)*2^s≤y*2^s:=Nat.mul_le_mul_right _ c
  rw[←Nat.pow_add,show Lib.bitLen y-1+s=63 by omega]at h2
  exact h2
 ·have h2:y*2^s<2^Lib.bitLen y*2^s:=Nat.mul_lt_mul_of_pos_right d (Nat.two_pow_pos s)
  rw[←Nat.pow_add,show Lib.bitLen y+s=64 by omega]at h2
  exact h2
theorem halves (hi lo y P C:Nat) (hP:P*C=18446744073709551616) (hC:0<C) (hPp:0<P) (hhi:hi<y) (hlo:lo<18446744073709551616):
 lo/C<P∧hi*P+lo/C<y*P∧(hi*P+lo/C)*18446744073709551616+lo*P % 18446744073709551616=(hi*18446744073709551616+lo)*P:=by
 have a:lo/C<P:=by rw[Nat.div_lt_iff_lt_mul hC,hP];exact hlo
 refine ⟨a,?_,?_⟩
 ·have:(hi+1)*P≤y*P:=Nat.mul_le_mul_right _ hhi
  rw[Nat.add_mul]at this;omega
 ·have h1:=Nat.div_add_mod lo C
  have h2:=Nat.mod_lt lo hC
  have h3:lo*P=(lo/C)*18446744073709551616+(lo % C)*P:=by
   conv=>lhs;rw[←h1]
   rw[Nat.add_mul,←hP]
   congr 1
   rw[Nat.mul_comm C,Nat.mul_assoc,Nat.mul_comm C]
  have h4:(lo % C)*P<18446744073709551616:=by
   rw[←hP,Nat.mul_comm P];exact Nat.mul_lt_mul_of_pos_right h2 hPp
  rw[h3,Nat.mul_comm (lo/C) 18446744073709551616,Nat.mul_add_mod,Nat.mod_eq_of_lt h4,Nat.add_mul,Nat.add_mul]
  have h5:hi*P*18446744073709551616=hi*18446744073709551616*P:=by rw[Nat.mul_assoc,Nat.mul_comm P,Nat.mul_assoc]
  rw[h5,h3];omega
theorem together' (B N y P Y U1 U01 U00 q1 q0 r1 r0:Nat) (hY:Y=y*P) (hP:0<P) (hy:0<y)
 (hN:N*P=(U1*B+U01)*B+U00)
 (e1:U1*B+U01=Y*q1+r1) (e0:r1*B+U00=Y*q0+r0) (hr0:r0<Y):
 q1*B+q0=N/y∧r0/P=N % y:=by
 have h:N*P=Y*(q1*B+q0)+r0:=by
  rw[hN,e1,Nat.add_mul,Nat.add_assoc,e0,Nat.mul_add,Nat.mul_assoc,Nat.add_assoc]
 have hd:N/y=(N*P)/(y*P):=(Nat.mul_div_mul_right N y hP).symm
 have hm:(N*P) % (y*P)=(N % y)*P:=Nat.mul_mod_mul_right P N y
 have hq:(N*P)/Y=q1*B+q0:=by
  rw[h,Nat.mul_add_div (by rw[hY];exact Nat.mul_pos hy hP),Nat.div_eq_of_lt hr0,Nat.add_zero]
 have hr:(N*P) % Y=r0:=by rw[h,Nat.mul_add_mod,Nat.mod_eq_of_lt hr0]
 refine ⟨by rw[hd,←hY,hq],?_⟩
 rw[←hY,hr]at hm
 rw[hm,Nat.mul_div_cancel _ hP]
end Go.Proofs.YtlnnombljiecmaaGreatDoor.Dv
namespace Go.Proofs.YtlnnombljiecmaaGreatDoor
open Go.RowKit
set_option maxRecDepth 2000 in
set_option maxHeartbeats 1000000 in
theorem zFo (hi lo y s Y v1 v0 U1 U0 u1 u0 q r D1 R1 q' r' D0 R0:Nat) (w:World) (h0:0<hi) (h1:hi<y)
 (hs:s<64)
 (hY:9223372036854775808≤Y) (hY2:Y<18446744073709551616) (hv1:2147483648≤v1) (hv1b:v1<4294967296) (hv0:v0<4294967296)
 (hu1:u1<4294967296) (hu0:u0<4294967296)
 (e1:IntKind.u64.wrap (↑y*2^s)=(Y:Int))
 (e2:(Y:Int)/4294967296=v1)
 (e3:bits BinOp.and IntKind.u64 (Y:Int) 4294967295=v0)
 (e4:bits BinOp.or IntKind.u64 (IntKind.u64.wrap (↑hi*2^s)) (↑lo/2^(64-s))=(U1:Int))
 (e5:IntKind.u64.wrap (↑lo*2^s)=(U0:Int))
 (e6:(U0:Int)/4294967296=u1)
 (e7:bits BinOp.and IntKind.u64 (U0:Int) 4294967295=u0)
 (e8:(U1:Int)/v1=q) (e9:(U1:Int)-IntKind.u64.wrap (q*v1)=r)
 (hD1:Hid (((U1:Int)*4294967296+u1)/Y=(D1:Int))) (hDb:D1<4294967296)
 (e11:IntKind.u64.wrap (IntKind.u64.wrap (IntKind.u64.wrap ((U1:Int)*4294967296)+u1)-IntKind.u64.wrap (D1*Y))=(R1:Int))
 (f8:(R1:Int)/v1=q') (f9:(R1:Int)-IntKind.u64.wrap (q'*v1)=r')
 (hD0:Hid (((R1:Int)*4294967296+u0)/Y=(D0:Int))) (hDc:D0<4294967296)
 (f11:IntKind.u64.wrap (IntKind.u64.wrap (IntKind.u64.wrap ((R1:Int)*4294967296)+u0)-IntKind.u64.wrap (D0*Y))=(R0:Int))
 (HY:Hid ((Y:Int)=v1*4294967296+v0))
 (q1:Hid ((U1:Int)=q*v1+r)) (q2:q≤4294967297) (q3:r<v1) (q4:D1≤q)
 (p1:Hid ((R1:Int)=q'*v1+r')) (p2:q'≤4294967297) (p3:r'<v1) (p4:D0≤q')
 (hlz:Hid (Calls Tryz.prog 263 #[.int .u64 y] w fun e w'=>e= .returned (.int .i64 s)∧w=w')):
 Calls Tryz.prog 232 #[.int .u64 hi,.int .u64 lo,.int .u64 y] w fun e w'=>e= .returned (.tuple #[.int .u64 ((D1:Int)*4294967296+D0),.int .u64 ((R0:Int)/2^s)])∧w=w':=by
 have hb0:((y:Int)==0)=false:=by simp;omega
 have hb1:((hi:Int)==0)=false:=by simp;omega
 have hb2:((v1:Int)==0)=false:=by simp;omega
 have hle:¬(y:Int)≤hi:=by omega
 have hwr1:IntKind.u64.wrap (r:Int)=r:=IntWalk.u64_in _ (by omega)
 have hwr2:IntKind.u64.wrap (r':Int)=r':=IntWalk.u64_in _ (by omega)
 go_enter Tryz.func232,Tryz.ntmps232
 go_wp2_with (go_at_call 263;refine hlz.mono ?_;rintro e w' ⟨rfl,rfl⟩)
 clear e1 e2 e3 e4 e5 e6 e7 e8 e9 hwr1 hb0 hb1 hle hlz
 have hYp:(0:Int)<Y:=by omega
 clear h0 h1 hY hY2
 go_loop [15,16] (fun a b=>∃x z:Int,a= .int .u64 x∧b= .int .u64 z∧Hid ((U1:Int)=x*v1+z)∧(D1:Int)≤x∧x≤4294967297∧0≤z∧z<4294967296) (fun a _=>(intOf a).toNat)
 case atStart=>exact ⟨q,r,rfl,rfl,q1,by omega,by omega,by omega,by omega⟩
 case round=>
  obtain ⟨x,z,rfl,rfl,HU,x1,x2,z1,z2⟩:=hrel
  have hb:0≤x*v0∧x*v0≤18446744073709551615:=by
   refine ⟨Int.mul_nonneg (by omega) (by omega),?_⟩
   have:=Int.mul_le_mul x2 (show (v0:Int)≤4294967295 by omega) (by omega) (by omega)
   omega
  obtain ⟨hb1',hb2'⟩:=hb
  by_cases hB:4294967296≤x
  ·have hdn:=Dv.down _ _ _ _ HU.out
   have HD:=Lib.hid hdn
   clear hdn
   by_cases hz:4294967296≤z+v1
   ·have hxd:x=D1+1:=by
     have:=Dv.at_break U1 u1 (x-1) (z+v1) v1 v0 Y HY.out HD.out hYp (by omega) (by omega) (by omega) hz (by omega)
     have:=hD1.out;omega
    clear HD HU
    subst hxd
    go_wp2
    clear e11 f8 f9 hb1' hb2' hB
    try clear hz
    try clear hC
    go_loop [18,16] (fun a b=>∃x z:Int,a= .int .u64 x∧b= .int .u64 z∧Hid ((R1:Int)=x*v1+z)∧(D0:Int)≤x∧x≤4294967297∧0≤z∧z<4294967296) (fun a _=>(intOf a).toNat)
    case atStart=>exact ⟨q',r',rfl,rfl,p1,by omega,by omega,by omega,by omega⟩
    case round=>
     obtain ⟨x,z,rfl,rfl,HU,x1,x2,z1,z2⟩:=hrel
     have hb:0≤x*v0∧x*v0≤18446744073709551615:=by
      refine ⟨Int.mul_nonneg (by omega) (by omega),?_⟩
      have:=Int.mul_le_mul x2 (show (v0:Int)≤4294967295 by omega) (by omega) (by omega)
      omega
     obtain ⟨hb1',hb2'⟩:=hb
     by_cases hB:4294967296≤x
     ·have hdn:=Dv.down _ _ _ _ HU.out
      have HD:=Lib.hid hdn
      clear hdn
      by_cases hz:4294967296≤z+v1
      ·have hxd:x=D0+1:=by
        have:=Dv.at_break R1 u0 (x-1) (z+v1) v1 v0 Y HY.out HD.out hYp (by omega) (by omega) (by omega) hz (by omega)
        have:=hD0.out;omega
       clear HD HU
       subst hxd
       go_wp2
       go_ret2
       exact ⟨rfl,rfl⟩
      ·go_wp2
       go_round
       case rel=>exact ⟨x-1,z+v1,rfl,rfl,HD,by omega,by omega,by omega,by omega⟩
       case measure=>simp[intOf];omega
     ·by_cases hC:4294967296*z+u0<x*v0
      ·have hlt:=Dv.too_great R1 u0 x z v1 v0 Y HY.out HU.out hYp (by omega)
       have hlt':(D0:Int)<x:=by have:=hD0.out;omega
       clear hlt
       have hdn:=Dv.down _ _ _ _ HU.out
       have HD:=Lib.hid hdn
       clear hdn
       by_cases hz:4294967296≤z+v1
       ·have hxd:x=D0+1:=by
         have:=Dv.at_break R1 u0 (x-1) (z+v1) v1 v0 Y HY.out HD.out hYp (by omega) (by omega) (by omega) hz (by omega)
         have:=hD0.out;omega
        clear HD HU
        subst hxd
        go_wp2
        go_ret2
        exact ⟨rfl,rfl⟩
       ·go_wp2
        go_round
        case rel=>exact ⟨x-1,z+v1,rfl,rfl,HD,by omega,by omega,by omega,by omega⟩
        case measure=>simp[intOf];omega
      ·have hxd:x=D0:=by
        have:=Dv.fits R1 u0 x z v1 v0 Y HY.out HU.out hYp (by omega)
        have:=hD0.out;omega
       clear HU
       subst hxd
       go_wp2
       go_ret2
       exact ⟨rfl,rfl⟩
   ·go_wp2
    go_round
    case rel=>exact ⟨x-1,z+v1,rfl,rfl,HD,by omega,by omega,by omega,by omega⟩
    case measure=>simp[intOf];omega
  ·by_cases hC:4294967296*z+u1<x*v0
   ·have hlt:=Dv.too_great U1 u1 x z v1 v0 Y HY.out HU.out hYp (by omega)
    have hlt':(D1:Int)<x:=by have:=hD1.out;omega
    clear hlt
    have hdn:=Dv.down _ _ _ _ HU.out
    have HD:=Lib.hid hdn
    clear hdn
    by_cases hz:4294967296≤z+v1
    ·have hxd:x=D1+1:=by
      have:=Dv.at_break U1 u1 (x-1) (z+v1) v1 v0 Y HY.out HD.out hYp (by omega) (by omega) (by omega) hz (by omega)
      have:=hD1.out;omega
     clear HD HU
     subst hxd
     go_wp2
     clear e11 f8 f9 hb1' hb2' hB
     try clear hz
     try clear hC
     go_loop [18,16] (fun a b=>∃x z:Int,a= .int .u64 x∧b= .int .u64 z∧Hid ((R1:Int)=x*v1+z)∧(D0:Int)≤x∧x≤4294967297∧0≤z∧z<4294967296) (fun a _=>(intOf a).toNat)
     case atStart=>exact ⟨q',r',rfl,rfl,p1,by omega,by omega,by omega,by omega⟩
     case round=>
      obtain ⟨x,z,rfl,rfl,HU,x1,x2,z1,z2⟩:=hrel
      have hb:0≤x*v0∧x*v0≤18446744073709551615:=by
       refine ⟨Int.mul_nonneg (by omega) (by omega),?_⟩
       have:=Int.mul_le_mul x2 (show (v0:Int)≤4294967295 by omega) (by omega) (by omega)
       omega
      obtain ⟨hb1',hb2'⟩:=hb
      by_cases hB:4294967296≤x
      ·have hdn:=Dv.down _ _ _ _ HU.out
       have HD:=Lib.hid hdn
       clear hdn
       by_cases hz:4294967296≤z+v1
       ·have hxd:x=D0+1:=by
         have:=Dv.at_break R1 u0 (x-1) (z+v1) v1 v0 Y HY.out HD.out hYp (by omega) (by omega) (by omega) hz (by omega)
         have:=hD0.out;omega
        clear HD HU
        subst hxd
        go_wp2
        go_ret2
        exact ⟨rfl,rfl⟩
       ·go_wp2
        go_round
        case rel=>exact ⟨x-1,z+v1,rfl,rfl,HD,by omega,by omega,by omega,by omega⟩
        case measure=>simp[intOf];omega
      ·by_cases hC:4294967296*z+u0<x*v0
       ·have hlt:=Dv.too_great R1 u0 x z v1 v0 Y HY.out HU.out hYp (by omega)
        have hlt':(D0:Int)<x:=by have:=hD0.out;omega
        clear hlt
        have hdn:=Dv.down _ _ _ _ HU.out
        have HD:=Lib.hid hdn
        clear hdn
        by_cases hz:4294967296≤z+v1
        ·have hxd:x=D0+1:=by
          have:=Dv.at_break R1 u0 (x-1) (z+v1) v1 v0 Y HY.out HD.out hYp (by omega) (by omega) (by omega) hz (by omega)
          have:=hD0.out;omega
         clear HD HU
         subst hxd
         go_wp2
         go_ret2
         exact ⟨rfl,rfl⟩
        ·go_wp2
         go_round
         case rel=>exact ⟨x-1,z+v1,rfl,rfl,HD,by omega,by omega,by omega,by omega⟩
         case measure=>simp[intOf];omega
       ·have hxd:x=D0:=by
         have:=Dv.fits R1 u0 x z v1 v0 Y HY.out HU.out hYp (by omega)
         have:=hD0.out;omega
        clear HU
        subst hxd
        go_wp2
        go_ret2
        exact ⟨rfl,rfl⟩
    ·go_wp2
     go_round
     case rel=>exact ⟨x-1,z+v1,rfl,rfl,HD,by omega,by omega,by omega,by omega⟩
     case measure=>simp[intOf];omega
   ·have hxd:x=D1:=by
     have:=Dv.fits U1 u1 x z v1 v0 Y HY.out HU.out hYp (by omega)
     have:=hD1.out;omega
    clear HU
    subst hxd
    go_wp2
    clear e11 f8 f9 hb1' hb2' hB
    try clear hz
    try clear hC
    go_loop [18,16] (fun a b=>∃x z:Int,a= .int .u64 x∧b= .int .u64 z∧Hid ((R1:Int)=x*v1+z)∧(D0:Int)≤x∧x≤4294967297∧0≤z∧z<4294967296) (fun a _=>(intOf a).toNat)
    case atStart=>exact ⟨q',r',rfl,rfl,p1,by omega,by omega,by omega,by omega⟩
    case round=>
     obtain ⟨x,z,rfl,rfl,HU,x1,x2,z1,z2⟩:=hrel
     have hb:0≤x*v0∧x*v0≤18446744073709551615:=by
      refine ⟨Int.mul_nonneg (by omega) (by omega),?_⟩
      have:=Int.mul_le_mul x2 (show (v0:Int)≤4294967295 by omega) (by omega) (by omega)
      omega
     obtain ⟨hb1',hb2'⟩:=hb
     by_cases hB:4294967296≤x
     ·have hdn:=Dv.down _ _ _ _ HU.out
      have HD:=Lib.hid hdn
      clear hdn
      by_cases hz:4294967296≤z+v1
      ·have hxd:x=D0+1:=by
        have:=Dv.at_break R1 u0 (x-1) (z+v1) v1 v0 Y HY.out HD.out hYp (by omega) (by omega) (by omega) hz (by omega)
        have:=hD0.out;omega
       clear HD HU
       subst hxd
       go_wp2
       go_ret2
       exact ⟨rfl,rfl⟩
      ·go_wp2
       go_round
       case rel=>exact ⟨x-1,z+v1,rfl,rfl,HD,by omega,by omega,by omega,by omega⟩
       case measure=>simp[intOf];omega
     ·by_cases hC:4294967296*z+u0<x*v0
      ·have hlt:=Dv.too_great R1 u0 x z v1 v0 Y HY.out HU.out hYp (by omega)
       have hlt':(D0:Int)<x:=by have:=hD0.out;omega
       clear hlt
       have hdn:=Dv.down _ _ _ _ HU.out
       have HD:=Lib.hid hdn
       clear hdn
       by_cases hz:4294967296≤z+v1
       ·have hxd:x=D0+1:=by
         have:=Dv.at_break R1 u0 (x-1) (z+v1) v1 v0 Y HY.out HD.out hYp (by omega) (by omega) (by omega) hz (by omega)
         have:=hD0.out;omega
        clear HD HU
        subst hxd
        go_wp2
        go_ret2
        exact ⟨rfl,rfl⟩
       ·go_wp2
        go_round
        case rel=>exact ⟨x-1,z+v1,rfl,rfl,HD,by omega,by omega,by omega,by omega⟩
        case measure=>simp[intOf];omega
      ·have hxd:x=D0:=by
        have:=Dv.fits R1 u0 x z v1 v0 Y HY.out HU.out hYp (by omega)
        have:=hD0.out;omega
       clear HU
       subst hxd
       go_wp2
       go_ret2
       exact ⟨rfl,rfl⟩
end Go.Proofs.YtlnnombljiecmaaGreatDoor
namespace Go.Proofs.YtlnnombljiecmaaGreatDoor
open Go.RowKit
theorem ZCl (y:Nat) (w:World) (h0:0<y) (h1:y<18446744073709551616):
 Calls Tryz.prog 263 #[.int .u64 y] w fun e w'=>e= .returned (.int .i64 ((64-Lib.bitLen y:Nat):Int))∧w=w':=by
 refine (Tryz.bits_LeadingZeros64 (y:Int) w (by omega) (by omega)).mono ?_
 rintro e w' ⟨rfl,rfl⟩
 refine ⟨?_,rfl⟩
 have:=(Dv.len_spec y h0 h1).2.1
 rw[Int.toNat_natCast,show (64:Int)-(Lib.bitLen y:Int)=((64-Lib.bitLen y:Nat):Int)by omega]
theorem zNv (a:Int) (m:Nat) (h:a % 18446744073709551616=m):IntKind.u64.wrap a=m:=by
 rw[IntKind.wrap_u64,h]
theorem ZAe (U1 u1 D Y R:Nat) (h:U1*4294967296+u1=Y*D+R) (hR:R<18446744073709551616):
 IntKind.u64.wrap (IntKind.u64.wrap (IntKind.u64.wrap ((U1:Int)*4294967296)+u1)-IntKind.u64.wrap (D*Y))=(R:Int):=by
 have hc:(D:Int)*Y=((Y*D:Nat):Int):=by rw[Int.natCast_mul,Int.mul_comm]
 rw[hc]
 generalize Y*D=p at*
 simp only[IntKind.wrap_u64]
 omega
theorem zCl (a:Nat) (ha:a<18446744073709551616):bits BinOp.and IntKind.u64 (a:Int) 4294967295=((a % 4294967296:Nat):Int):=by
 have h:=u64_and_nat a 4294967295 ha (by omega)
 have e:((4294967295:Nat):Int)=4294967295:=rfl
 rw[e]at h
 rw[h]
 have h2:=Nat.and_two_pow_sub_one_eq_mod a 32
 rw[show (2:Nat)^32-1=4294967295 by decide,show (2:Nat)^32=4294967296 by decide]at h2
 rw[h2]
set_option maxHeartbeats 1000000 in
theorem zBs (lo y:Nat) (w:World) (h0:0<y) (h2:y<18446744073709551616) (h3:lo<18446744073709551616):
 Calls Tryz.prog 232 #[.int .u64 (0:Int),.int .u64 lo,.int .u64 y] w fun e w'=>e= .returned (.tuple #[.int .u64 ((lo/y:Nat):Int),.int .u64 ((lo % y:Nat):Int)])∧∃n,w'=w.drewN n:=by
 have hb0:((y:Int)==0)=false:=by simp;omega
 have hle:¬(y:Int)≤0:=by omega
 have hy:(1:Int)≤y:=by omega
 have hx:(0:Int)≤lo:=by omega
 have hd:IntKind.u64.wrap ((lo:Int)/y)=(lo:Int)/y:=by
  have h4:lo/y≤lo:=Nat.div_le_self _ _
  have h5:(lo:Int)/y=((lo/y:Nat):Int):=by rw[Int.natCast_ediv]
  rw[h5];exact IntWalk.u64_in _ ⟨Int.natCast_nonneg _,by generalize lo/y=z at*;omega⟩
 go_enter Tryz.func232,Tryz.ntmps232
 go_wp2
 go_quiet (fail)
 go_wp2
 go_ret2
 exact ⟨rfl,_,rfl⟩
theorem wm (U1 u1 v1 v0 Y:Nat) (hYp:0<Y) (hU:U1<Y) (hu:u1<4294967296) (hY:(Y:Int)=v1*4294967296+v0) (hv1:2147483648≤v1) (hv0:v0<4294967296):
 ∃D R q r:Nat,Y*D+R=U1*4294967296+u1∧R<Y∧((U1:Int)*4294967296+u1)/Y=D∧(D:Int)<4294967296∧(D:Int)≤q∧
  v1*q+r=U1∧r<v1∧(q:Int)≤4294967297∧(U1:Int)/v1=q:=by
 have d3:((U1:Int)*4294967296+u1)/Y=(((U1*4294967296+u1)/Y:Nat):Int):=by simp[Int.natCast_ediv,Int.natCast_add,Int.natCast_mul]
 have d4:=Dv.digit_lt U1 u1 Y (by omega) (by omega) (by omega)
 have d5:=Dv.first_ge U1 u1 v1 v0 Y hY (by omega) (by omega) (by omega) (by omega)
 have k3:=Dv.first_le U1 v1 v0 Y hY (by omega) (by omega) (by omega)
 have k4:(U1:Int)/v1=((U1/v1:Nat):Int):=by rw[Int.natCast_ediv]
 rw[d3]at d4 d5
 rw[k4]at k3 d5
 exact ⟨_,_,_,_,Nat.div_add_mod _ Y,Nat.mod_lt _ hYp,d3,d4,d5,Nat.div_add_mod U1 v1,Nat.mod_lt _ (by omega),k3,k4⟩
theorem div64_any (hi lo y:Nat) (w:World) (h1:hi<y) (h2:y<18446744073709551616) (h3:lo<18446744073709551616):
 Calls Tryz.prog 232 #[.int .u64 hi,.int .u64 lo,.int .u64 y] w fun e w'=>
  e= .returned (.tuple #[.int .u64 (((hi*18446744073709551616+lo)/y:Nat):Int),.int .u64 (((hi*18446744073709551616+lo) % y:Nat):Int)])∧∃n,w'=w.drewN n:=by
 by_cases h0:hi=0
 ·subst h0
  simpa using zBs lo y w (by omega) h2 h3
 ·obtain ⟨s,hs⟩:∃s,s=64-Lib.bitLen y:=⟨_,rfl⟩
  obtain ⟨n1,n2,n3,n4⟩:=Dv.norm y (by omega) h2 s hs
  have hlz:=ZCl y w (by omega) h2
  rw[←hs]at hlz
  have hP:=Nat.two_pow_pos s
  have hC:=Nat.two_pow_pos (64-s)
  obtain ⟨g1,g2,g3⟩:=Dv.halves hi lo y (2^s) (2^(64-s)) n4 hC hP h1 h3
  have hhi:hi*2^s<18446744073709551616:=Nat.lt_of_le_of_lt (Nat.le_add_right _ _) (Nat.lt_trans g2 n3)
  have hlc:lo/2^(64-s)<18446744073709551616:=Nat.lt_of_le_of_lt (Nat.div_le_self _ _) h3
  have e5:IntKind.u64.wrap ((lo:Int)*2^s)=((lo*2^s % 18446744073709551616:Nat):Int):=by
   refine zNv _ _ ?_
   simp[Int.natCast_emod,Int.natCast_mul,Int.natCast_pow]
  have e1:IntKind.u64.wrap ((y:Int)*2^s)=((y*2^s:Nat):Int):=by
   have:(y:Int)*2^s=((y*2^s:Nat):Int):=by simp[Int.natCast_mul,Int.natCast_pow]
   rw[this];exact IntWalk.u64_in _ (by omega)
  have e4:bits BinOp.or IntKind.u64 (IntKind.u64.wrap ((hi:Int)*2^s)) ((lo:Int)/2^(64-s))=((hi*2^s+lo/2^(64-s):Nat):Int):=by
   have a1:(hi:Int)*2^s=((hi*2^s:Nat):Int):=by simp[Int.natCast_mul,Int.natCast_pow]
   have a2:(lo:Int)/2^(64-s)=((lo/2^(64-s):Nat):Int):=by simp[Int.natCast_ediv,Int.natCast_pow]
   rw[a1,a2,IntWalk.u64_in _ ⟨Int.natCast_nonneg _,by generalize hi*2^s=z at*;omega⟩,u64_or_nat _ _ hhi hlc,Dv.or_disj _ _ _ g1]
  generalize hYe:y*2^s=Y at*
  generalize hU1e:hi*2^s+lo/2^(64-s)=U1 at*
  have hU0b:=Nat.mod_lt (lo*2^s) (show 18446744073709551616>0 by omega)
  generalize lo*2^s % 18446744073709551616=U0 at*
  clear hlc hhi g1 n4
  have hYp:0<Y:=by omega
  have y1:=Nat.div_add_mod Y 4294967296
  have y2:=Nat.mod_lt Y (show 4294967296>0 by omega)
  have hv1:2147483648≤Y/4294967296:=by omega
  have hv1b:Y/4294967296<4294967296:=by omega
  have e2:(Y:Int)/4294967296=((Y/4294967296:Nat):Int):=by omega
  have e3:=zCl Y n3
  have e6:(U0:Int)/4294967296=((U0/4294967296:Nat):Int):=by omega
  have e7:=zCl U0 hU0b
  have u1b:U0/4294967296<4294967296:=by omega
  have u0b:=Nat.mod_lt U0 (show 4294967296>0 by omega)
  have hN:(hi*18446744073709551616+lo)*2^s=(U1*4294967296+U0/4294967296)*4294967296+U0 % 4294967296:=by
   rw[←g3];omega
  generalize Y/4294967296=v1 at*
  generalize Y % 4294967296=v0 at*
  generalize U0/4294967296=u1 at*
  generalize hu0:U0 % 4294967296=u0 at*
  have hY:(Y:Int)=v1*4294967296+v0:=by omega
  obtain ⟨D1,R1,q,r,d1,d2,d3,d4,d5,k1,k2,k3,k4⟩:=wm U1 u1 v1 v0 Y hYp g2 u1b hY hv1 y2
  obtain ⟨D0,R0,q',r',c1,c2,c3,c4,c5,m1,m2,m3,m4⟩:=wm R1 u0 v1 v0 Y hYp d2 u0b hY hv1 y2
  have mulc:∀a b:Nat,(a:Int)*b=((b*a:Nat):Int):=fun a b=>by rw[Int.natCast_mul,Int.mul_comm]
  have e9:(U1:Int)-IntKind.u64.wrap (q*v1)=r:=by
   rw[mulc,IntWalk.u64_in _ ⟨Int.natCast_nonneg _,by generalize v1*q=z at*;omega⟩]
   generalize v1*q=z at*;omega
  have f9:(R1:Int)-IntKind.u64.wrap (q'*v1)=r':=by
   rw[mulc,IntWalk.u64_in _ ⟨Int.natCast_nonneg _,by generalize v1*q'=z at*;omega⟩]
   generalize v1*q'=z at*;omega
  have q1:(U1:Int)=q*v1+r:=by rw[mulc];generalize v1*q=z at*;omega
  have p1:(R1:Int)=q'*v1+r':=by rw[mulc];generalize v1*q'=z at*;omega
  have ht:=Dv.together' 4294967296 (hi*18446744073709551616+lo) y (2^s) Y U1 u1 u0 D1 D0 R1 R0 hYe.symm hP (by omega) hN d1.symm c1.symm c2
  have e11:=ZAe U1 u1 D1 Y R1 d1.symm (by omega)
  have f11:=ZAe R1 u0 D0 Y R0 c1.symm (by omega)
  refine (zFo hi lo y s Y v1 v0 U1 U0 u1 u0 q r D1 R1 q' r' D0 R0 w (by omega) h1 n1 n2 n3 hv1 hv1b y2 u1b u0b e1 e2 e3 e4 e5 e6 (by rw[e7]) k4 e9 d3 (by omega) e11 m4 f9 c3 (by omega) f11 hY q1 (by omega) k2 (by omega) p1 (by omega) m2 (by omega) hlz).mono ?_
  rintro e w' ⟨rfl,rfl⟩
  refine ⟨?_,0,rfl⟩
  obtain ⟨t1,t2⟩:=ht
  rw[←t1,←t2]
  simp[Int.natCast_ediv,Int.natCast_pow]
end Go.Proofs.YtlnnombljiecmaaGreatDoor
namespace Go.Gh
open Go Go.Proofs
open Go.IntKind (i64)
set_option maxRecDepth 1000000
set_option maxHeartbeats 2000000
set_option linter.unusedSimpArgs false
set_option linter.unusedVariables false
set_option linter.unnecessarySimpa false
set_option linter.unusedSectionVars false
variable [Dep]
open Go.RowKit
def qO (n:Int):Int:=if n<0 then IntKind.u64.wrap (0-(IntKind.u64.wrap n))else IntKind.u64.wrap n
theorem zJi (n:Int):GC Tryz.prog 260 [iG n] (.d (.sc (.int .u64 (qO n)))):=by
 refine zA Tryz.func260 ?_
 refine gE [0,2] ?_
 refine gE [0,2,4] ?_
 refine zB ?_ ?_<;>intro c1<;>try simp only[toN]at c1
 ·refine zG env true [] [0,2] ?_
  refine gT ?_
  rw[qO,iP c1];rfl
 refine zG env true [] [2] ?_
 refine gT ?_
 rw[qO,iQ c1];rfl
theorem yI (x:Int):0<=IntKind.u64.wrap x/\IntKind.u64.wrap x<18446744073709551616:=by rw[IntKind.wrap_u64];omega
theorem t39 {p:Prop} (h:p:=by first|assumption|exact yI _):p:=h
theorem VZ (n:Int):0<=qO n:=by
 unfold qO;split
 ·exact (yI _).1
 exact (yI _).1
theorem zUq {n:Int} (h:¬n=0) (h1: -9223372036854775808<=n/\n<=9223372036854775807):0<qO n:=by
 unfold qO;split
 ·rw[IntKind.wrap_u64,IntKind.wrap_u64];omega
 rw[IntKind.wrap_u64];omega
def Kk:Nat->Int->Int->Int
 |0,a,_=>a
 |n+1,a,b=>if b=0 then a else Kk n b (a.tmod b)
def WJ (a b:Int):Int:=Kk (b.toNat+1) a b
theorem jg {a b:Int} (ha:0<=a) (hb:0<b):0<=a.tmod b/\a.tmod b<b:=by
 rw[Int.tmod_eq_emod_of_nonneg ha]
 exact ⟨Int.emod_nonneg _ t11,Int.emod_lt_of_pos _ hb⟩
theorem XR:∀(n m:Nat) (a b:Int),0<=a->0<=b->b<n->b<m->Kk n a b=Kk m a b
 |0,_,_,_,_,h,h1,_=>by omega
 |_,0,_,_,_,h,_,h1=>by omega
 |n+1,m+1,a,b,ha,hb,h1,h2=>by
  unfold Kk
  split
  ·rfl
  have:=jg ha (b:=b) t11
  exact XR n m b _ hb this.1 t11 t11
theorem zMo {a b:Int} (ha:0<=a) (hb:0<=b) (h:¬b=0):WJ a b=WJ b (a.tmod b):=by
 have:=jg ha (b:=b) t11
 rw[WJ,Kk,iQ h]
 exact XR _ _ b _ hb this.1 t11 t11
theorem zBd:∀(n:Nat) (a b:Int),0<=a->0<=b->(0<a∨0<b)->b<n->0<Kk n a b
 |0,_,_,_,_,_,h=>by omega
 |n+1,a,b,ha,hb,h,h1=>by
  unfold Kk
  split
  ·omega
  have:=jg ha (b:=b) t11
  exact zBd n b _ hb this.1 (.inl t11) t11
theorem zSb {a b:Int} (ha:0<=a) (hb:0<=b) (h:0<b):WJ a b≠0:=by
 have:=zBd (b.toNat+1) a b ha hb (.inr h) t11
 unfold WJ;omega
theorem zYi (a b:Int) (ha:0<=a) (hb:0<=b):GC Tryz.prog 261 [.d (.sc (.int .u64 a)),.d (.sc (.int .u64 b))] (.d (.sc (.int .u64 (WJ a b)))):=by
 refine zA Tryz.func261 ?_
 refine gE [0,1,4] ?_
 refine zI (α:=Int×Int) (fun x=>0<=x.1/\0<=x.2/\WJ a b=WJ x.1 x.2) (fun x=>[(0,.d (.sc (.int .u64 x.1))),(1,.d (.sc (.int .u64 x.2)))]) (fun _=>[]) (fun x=>x.2.toNat) (a,b) ⟨ha,hb,rfl⟩ ?_ (hp:=by simp only[zC];repeat' first|exact trivial|exact rfl|apply And.intro)
 rintro ⟨p,q⟩ ⟨hp,hq,he⟩
 dsimp only at*
 refine gE [0,1,4,6] ?_
 refine zQ ?_ ?_<;>intro c1<;>try simp only[toN]at c1
 ·refine zG env true [] [0,1,4] ?_ (hp:=by simp only[zC];first|assumption|exact ⟨c1,trivial⟩|(simp;omega))
  refine zD ((q,p.tmod q)) ?_ (hp:=by simp only[zC];repeat' first|exact trivial|exact rfl|apply And.intro) (hm:=by have:=jg hp (b:=q) t11;dsimp only;omega)
  have:=jg hp (b:=q) t11
  exact ⟨hq,this.1,he.trans (zMo hp hq c1)⟩
 refine gE [4] ?_
 refine gT ?_
 rw[he,show q=0 by omega,WJ,Kk,iP rfl];rfl
structure Wid where
 hi:Int
 lo:Int
deriving DecidableEq
instance :Inhabited Wid:=⟨⟨0,0⟩⟩
abbrev wdG (x:Wid):G:= .agg [.d (.sc (.int .u64 x.hi)),.d (.sc (.int .u64 x.lo))]
def ub (neg:Bool) (a:Wid) (b:Wid):Rto×Int:=if (bif (bif (bif decide (0<a.hi)then true else decide (0<b.hi))then true else decide (1152921504606846976<a.lo))then true else decide (1152921504606846976<b.lo))=true then (⟨0,0⟩,3)else if neg=true then (⟨i64.wrap (0-(i64.wrap a.lo)),i64.wrap b.lo⟩,0)else (⟨i64.wrap a.lo,i64.wrap b.lo⟩,0)
theorem zRz (neg:Bool) (a:Wid) (b:Wid):GC Tryz.prog 262 [bG neg,wdG a,wdG b] (.tup [rqG ((ub neg a b).1),iG ((ub neg a b).2)]):=by
 refine zA Tryz.func262 ?_
 refine gE [0,4,5,6,7] ?_
 refine gE [0,4,5,6,7,26] ?_
 refine zF ?_ ?_<;>intro c1<;>try simp only[bb,toN]at c1
 ·refine gE [0,4,5,6,7] ?_
  refine gT ?_
  rw[ub,iP (by (try simp only[bb,toN]);exact c1)];rfl
 refine zG env true [] [0,5,6,7,8] ?_
 refine gE [5,6,7,8,31] ?_
 refine zF ?_ ?_<;>intro c2<;>try simp only[bb,toN]at c2
 ·refine zG env true [] [5,6,7,8] ?_
  refine zG env true [] [6,7] ?_
  refine gT ?_
  rw[ub,iN (by (try simp only[bb,toN]);exact c1),iP (by (try simp only[bb,toN]);exact c2)];rfl
 refine zG env true [] [6,7] ?_
 refine gT ?_
 rw[ub,iN (by (try simp only[bb,toN]);exact c1),iN (by (try simp only[bb,toN]);exact c2)];rfl
def wd (n:Int) (d:Int):Rto×Int:=if d=0 then (⟨0,0⟩,1)else ((ub (!(decide (n<0)==decide (d<0))) (⟨0,IntKind.u64.wrap ((qO n).tdiv (WJ (qO n) (qO d)))⟩:Wid) (⟨0,IntKind.u64.wrap ((qO d).tdiv (WJ (qO n) (qO d)))⟩:Wid)).1,(ub (!(decide (n<0)==decide (d<0))) (⟨0,IntKind.u64.wrap ((qO n).tdiv (WJ (qO n) (qO d)))⟩:Wid) (⟨0,IntKind.u64.wrap ((qO d).tdiv (WJ (qO n) (qO d)))⟩:Wid)).2)
theorem uL (n:Int) (d:Int) (hd:ym d):GC Tryz.prog 230 [iG n,iG d] (.tup [rqG ((wd n d).1),iG ((wd n d).2)]):=by
 refine zA Tryz.func230 ?_
 refine gE [0,1,4,5] ?_
 refine gE [0,1,4,5,10] ?_
 refine zB ?_ ?_<;>intro c1<;>try simp only[toN]at c1
 ·refine gE [0,1,4,5] ?_
  refine gT ?_
  rw[wd,iP c1];rfl
 refine gR [.call (zJi n),.call (zJi d)] [0,1,4,5,6,7] ?_
 refine gR [.call (zYi (qO n) (qO d) (by first|assumption|exact VZ _) (by first|assumption|exact VZ _))] [0,1,4,5,6,7,8] ?_
 have hg:=zSb (VZ n) (VZ d) (zUq c1 hd)
 refine zG env true [.call (zRz (!(decide (n<0)==decide (d<0))) (⟨0,IntKind.u64.wrap ((qO n).tdiv (WJ (qO n) (qO d)))⟩:Wid) (⟨0,IntKind.u64.wrap ((qO d).tdiv (WJ (qO n) (qO d)))⟩:Wid))] [4,5] ?_ (hp:=by simp only[zC];exact ⟨hg,hg,zH.refl _⟩)
 refine gT ?_
 rw[wd,iQ c1];rfl
def Uh (n:Int) (top:Int):Bool:=(bif decide (0<=n)then decide (n<=top)else false)
theorem WT (n:Int) (top:Int):GC Tryz.prog 227 [iG n,iG top] (bG (Uh n top)):=by
 refine zA Tryz.func227 ?_
 refine gE [0,1,4] ?_
 refine gE [4] ?_
 refine gT ?_
 rw[Uh];rfl
def YN (x y:Int):Int×Int:=(x*y/18446744073709551616,x*y % 18446744073709551616)
def VM (hi lo y:Int):Int×Int:=((hi*18446744073709551616+lo)/y,(hi*18446744073709551616+lo) % y)
theorem zHx (x y:Int) (hx:0<=x/\x<18446744073709551616) (hy:0<=y/\y<18446744073709551616):GC Tryz.prog 231 [.d (.sc (.int .u64 x)),.d (.sc (.int .u64 y))] (.tup [.d (.sc (.int .u64 (YN x y).1)),.d (.sc (.int .u64 (YN x y).2))]):=by
 refine XS Tryz.func231 rfl rfl rfl rfl fun w=> ?_
 obtain ⟨a,rfl⟩:=Int.eq_ofNat_of_zero_le hx.1
 obtain ⟨b,rfl⟩:=Int.eq_ofNat_of_zero_le hy.1
 refine (Go.Proofs.Tryz.bits_Mul64 a b t11 t11 w).mono ?_
 rintro e w' ⟨rfl,rfl⟩
 refine ⟨?_,Below.refl _ _⟩
 simp[YN,Int.natCast_ediv,Int.natCast_emod,Int.natCast_mul]
theorem zIo (hi lo y:Int) (h1:0<=hi/\hi<y) (h2:y<18446744073709551616) (h3:0<=lo/\lo<18446744073709551616):GC Tryz.prog 232 [.d (.sc (.int .u64 hi)),.d (.sc (.int .u64 lo)),.d (.sc (.int .u64 y))] (.tup [.d (.sc (.int .u64 (VM hi lo y).1)),.d (.sc (.int .u64 (VM hi lo y).2))]):=by
 refine XS Tryz.func232 rfl rfl rfl rfl fun w=> ?_
 obtain ⟨a,rfl⟩:=Int.eq_ofNat_of_zero_le h1.1
 obtain ⟨b,rfl⟩:=Int.eq_ofNat_of_zero_le h3.1
 obtain ⟨c,rfl⟩:=Int.eq_ofNat_of_zero_le (show 0<=y by omega)
 refine (Go.Proofs.YtlnnombljiecmaaGreatDoor.div64_any a b c w t11 t11 t11).mono ?_
 rintro e w' ⟨rfl,n,rfl⟩
 refine ⟨?_,below_drewN (Below.refl _ _) n⟩
 simp[VM,Int.natCast_ediv,Int.natCast_emod,Int.natCast_mul,Int.natCast_add]
theorem zEo {x y:Int} (hx:0<=x/\x<18446744073709551616) (hy:0<=y/\y<18446744073709551616):0<=(YN x y).1/\0<=(YN x y).2/\(YN x y).2<18446744073709551616/\(∀z,y<=z->0<z->(YN x y).1<z):=by
 have h0:0<=x*y:=Int.mul_nonneg hx.1 hy.1
 refine ⟨?_,?_,?_,fun z hz h1=> ?_⟩
 ·simp only[YN];omega
 ·simp only[YN];omega
 ·simp only[YN];omega
 simp only[YN]
 refine Int.ediv_lt_of_lt_mul t23 ?_
 have a1:x*y<=x*z:=Int.mul_le_mul_of_nonneg_left hz hx.1
 have a2:x*z<18446744073709551616*z:=Int.mul_lt_mul_of_pos_right hx.2 h1
 have a3:18446744073709551616*z=z*18446744073709551616:=Int.mul_comm _ _
 omega
def wb (a:Int) (b:Int) (c:Int):Int×Int×Bool:=if (IntKind.u64.wrap c)<=((YN (IntKind.u64.wrap a) (IntKind.u64.wrap b)).1)then (0,0,false)else if 1099511627776<((VM ((YN (IntKind.u64.wrap a) (IntKind.u64.wrap b)).1) ((YN (IntKind.u64.wrap a) (IntKind.u64.wrap b)).2) (IntKind.u64.wrap c)).1)then (0,0,false)else (i64.wrap ((VM ((YN (IntKind.u64.wrap a) (IntKind.u64.wrap b)).1) ((YN (IntKind.u64.wrap a) (IntKind.u64.wrap b)).2) (IntKind.u64.wrap c)).1),i64.wrap ((VM ((YN (IntKind.u64.wrap a) (IntKind.u64.wrap b)).1) ((YN (IntKind.u64.wrap a) (IntKind.u64.wrap b)).2) (IntKind.u64.wrap c)).2),true)
theorem zPo (a:Int) (b:Int) (c:Int):GC Tryz.prog 228 [iG a,iG b,iG c] (.tup [iG ((wb a b c).1),iG ((wb a b c).2.1),bG ((wb a b c).2.2)]):=by
 refine zA Tryz.func228 ?_
 refine gE [0,1,2,6,7,8] ?_
 obtain ⟨m1,m2,m3,_⟩:=zEo (yI a) (yI b)
 refine zG env true [.call (zHx (IntKind.u64.wrap a) (IntKind.u64.wrap b) t39 t39)] [2,6,7,8,9,10] ?_
 refine zG env true [] [2,6,7,8,9,10,24] ?_
 refine zB ?_ ?_<;>intro c1<;>try simp only[toN]at c1
 ·refine gE [2,6,7,8,9,10] ?_
  refine gT ?_
  rw[wb,iP c1];rfl
 refine zG env true [.call (zIo ((YN (IntKind.u64.wrap a) (IntKind.u64.wrap b)).1) ((YN (IntKind.u64.wrap a) (IntKind.u64.wrap b)).2) (IntKind.u64.wrap c) t16 (by first|omega|exact (yI _).2) t16)] [6,7,8,11,12] ?_
 refine gE [6,7,8,11,12,34] ?_
 refine zB ?_ ?_<;>intro c2<;>try simp only[toN]at c2
 ·refine gE [6,7,8,11,12] ?_
  refine gT ?_
  rw[wb,iQ c1,iP c2];rfl
 refine zG env true [] [6,7,8] ?_
 refine gT ?_
 rw[wb,iQ c1,iQ c2];rfl
def zAs (sum:Int) (rate:Int) (fr:Int) (till:Int) (basis:Int):Int×Int:=if (bif (bif (bif (bif (bif (!(Uh sum 1099511627776))then true else (!(Uh rate 1000)))then true else (!(Uh fr 100000)))then true else (!(Uh till 100000)))then true else decide (till<fr))then true else (bif (!decide (basis=360))then (!decide (basis=365))else false))=true then (0,1)else if (!(wb sum (i64.wrap (rate*(i64.wrap (till-fr)))) (i64.wrap (1000*basis))).2.2)=true then (0,3)else ((wb sum (i64.wrap (rate*(i64.wrap (till-fr)))) (i64.wrap (1000*basis))).1,0)
theorem zXs (sum:Int) (rate:Int) (fr:Int) (till:Int) (basis:Int):GC Tryz.prog 196 [iG sum,iG rate,iG fr,iG till,iG basis] (.tup [iG ((zAs sum rate fr till basis).1),iG ((zAs sum rate fr till basis).2)]):=by
 refine zA Tryz.func196 ?_
 refine gE [0,1,2,3,4,10,11] ?_
 refine gR [.call (WT sum 1099511627776),.call (WT rate 1000),.call (WT fr 100000),.call (WT till 100000)] [0,1,2,3,4,10,11,45] ?_
 refine zF ?_ ?_<;>intro c1<;>try simp only[bb,toN]at c1
 ·refine gE [0,1,2,3,4,10,11] ?_
  refine gT ?_
  rw[zAs,iP (by (try simp only[bb,toN]);exact c1)];rfl
 refine zG env true [.call (zPo sum (i64.wrap (rate*(i64.wrap (till-fr)))) (i64.wrap (1000*basis)))] [10,11,12,14] ?_
 refine gE [10,11,12,60] ?_
 refine zF ?_ ?_<;>intro c2<;>try simp only[bb,toN]at c2
 ·refine gE [10,11,12] ?_
  refine gT ?_
  rw[zAs,iN (by (try simp only[bb,toN]);exact c1),iP (by (try simp only[bb,toN]);exact c2)];rfl
 refine gE [10,11] ?_
 refine gT ?_
 rw[zAs,iN (by (try simp only[bb,toN]);exact c1),iN (by (try simp only[bb,toN]);exact c2)];rfl
end Go.Gh
