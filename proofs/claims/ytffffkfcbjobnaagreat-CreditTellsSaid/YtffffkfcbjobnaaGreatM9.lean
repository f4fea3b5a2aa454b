/- Walks by the logic of calls, and plain laws (several texts in one). -/
import Derived.Test.YtffffkfcbjobnaaGreatM8
namespace Go.Gh
open Go Go.Proofs
set_option maxRecDepth 1000000
set_option maxHeartbeats 2000000
set_option linter.unusedSimpArgs false
set_option linter.unusedVariables false
set_option linter.unnecessarySimpa false
set_option linter.unusedSectionVars false
variable [PowTab] [ItoaU]
open Go.RowKit
abbrev rsB (x:RSt):Blk:= .box [rowD x.terms,iG x.drawn,iG x.paid,iG x.left,iG x.moved,rowI x.amended,iG x.second,.d (.row default raC x.list),bG x.conf,iG x.rest,iG x.day]
structure Few8 (x:RSt):Prop where
 terms:x.terms.length≤8
 list:∀a,a∈x.list→a.terms.length≤8
def subR (x:RSt) (t:Trn) (p:Prop) [Decidable p]:RSt:=if p then {x with left:=x.left-t.sum,drawn:=x.drawn+t.sum} else {x with moved:=x.moved-t.sum,drawn:=x.drawn+t.sum}
def candR (c:Crd) (x:RSt) (t:Trn) (a:RAm):Bool:=bif decide (a.state=2)then (bif fitsR c t.sum (x.left+a.sum)then confV a.terms t.docs else false)else false
def idxR (c:Crd) (x:RSt) (t:Trn):Int:=findI (candR c x t) x.list 0
def amtR (c:Crd) (x:RSt) (t:Trn):Int:=if t.by_=c.ben then x.left else x.moved
def goodR (c:Crd) (x:RSt) (t:Trn):Bool:=bif fitsR c t.sum (amtR c x t)then confV x.terms t.docs else false
def drawR (c:Crd) (x:RSt) (t:Trn):RSt×Int:=
 if ¬t.by_=c.ben∧(x.second= -1∨¬x.second=t.by_)then (x,18)else if c.exp<t.day then (x,16)else if wiV t.sum 1 1099511627776=false then (x,3)
 else if goodR c x t=true then (subR x t (t.by_=c.ben),0)else if t.by_=c.ben∧0≤idxR c x t then (subR (takeR x (idxR c x t).toNat true) t (t.by_=c.ben),0)else (x,19)
structure DrI (c:Crd) (x:RSt) (t:Trn) (i:Nat) (g:Bool) (X:RSt):Prop where
 or:(g=goodR c x t∧X=x∧i≤x.list.length∧(t.by_=c.ben→g=false→idxR c x t=findI (candR c x t) x.list i))∨(goodR c x t=false∧t.by_=c.ben∧0≤idxR c x t∧g=true∧X=takeR x (idxR c x t).toNat true)
theorem idxR_lt {c:Crd} {x:RSt} {t:Trn} (h:0≤idxR c x t):(idxR c x t).toNat<x.list.length:=by
 rcases findI_range (candR c x t) x.list _ 0 rfl with ⟨h1,_⟩|⟨j,h1,h2,h3,h4,_⟩
 ·unfold idxR at h;omega
 ·unfold idxR;omega
theorem DrI.bnd {c:Crd} {x:RSt} {t:Trn} {i:Nat} {g:Bool} {X:RSt} {k:Nat} (h:DrI c x t i g X) (hx:FitX k x):(x.left≤X.left∧X.left≤x.left+1099511627776)∧X.moved=x.moved∧X.drawn=x.drawn:=by
 rcases h.or with ⟨_,rfl,_⟩|⟨_,_,h3,_,rfl⟩
 ·omega
 ·have ha:=(hx.amd _ (getD_mem (idxR_lt h3))).1
  have e:takeR x (idxR c x t).toNat true= {x with list:=setR (setR x.list (idxR c x t).toNat 0) (idxR c x t).toNat 1,terms:=(x.list.getD (idxR c x t).toNat default).terms,left:=x.left+(x.list.getD (idxR c x t).toNat default).sum,amended:=x.amended++ [(((idxR c x t).toNat:Nat):Int)]} :=if_pos rfl
  rw[e]
  refine ⟨⟨?_,?_⟩,rfl,rfl⟩<;>simp only<;>omega
theorem draw37_ok (c:Crd) (k:Nat) (x:RSt) (hx:FitX k x) (h8:Few8 x) (t:Trn) (hd:FitL t.docs):GC Tryz.prog 93 [crdG c,rsG x,trnG t] (.tup [rsG (drawR c x t).1,iG (drawR c x t).2]):=by
 refine gc_of_gk Tryz.func93 ?_
 refine gk_region env false [] [3,4,5,6,7] ?_
 refine gk_box 0 ?_
 refine gk_box 2 ?_
 have hx1:=hx.left
 have hx2:=hx.moved
 have hx3:=hx.drawn
 have hx6:=hx.list
 have hxk:=hx.few
 refine gk_region env false [] [3,4,5,6,7,8] ?_
 refine gk_region env false [] [3,4,5,6,7,8,33] ?_
 refine gk_if (fun c1=> ?_) (fun c1=> ?_)
 ·try simp only[bb,toN]at c1
  refine gk_region env false [] [3,4,5,6,7,8] ?_
  refine gk_ret env ?_
  rw[drawR,if_pos (by omega)];rfl
 ·try simp only[bb,toN]at c1
  refine gk_region env false [] [3,4,5,6,7,8,39] ?_
  refine gk_ifd (fun c2=> ?_) (fun c2=> ?_)
  ·try simp only[toN]at c2
   refine gk_region env false [] [3,4,5,6,7,8] ?_
   refine gk_ret env ?_
   rw[drawR,if_neg (by omega),if_pos c2];rfl
  ·try simp only[toN]at c2
   refine gk_region env false [.call (in37_ok t.sum 1 1099511627776)] [3,4,5,6,7,8,44] ?_
   refine gk_if (fun c3=> ?_) (fun c3=> ?_)
   ·try simp only[bb,toN]at c3
    refine gk_region env false [] [3,4,5,6,7,8] ?_
    refine gk_ret env ?_
    rw[drawR,if_neg (by omega),if_neg c2,if_pos c3];rfl
   ·try simp only[bb,toN]at c3
    refine gk_region env false [] [3,4,5,6,7,8,9] ?_
    refine gk_region env false [] [3,4,5,6,7,8,9,49] ?_
    refine gk_ifd (fun c4=> ?_) (fun c4=> ?_)
    ·try simp only[toN]at c4
     refine gk_region env false [] [3,4,5,6,7,8,9] ?_
     refine gk_region env false [.call (fits37_ok c t.sum x.left),.call (conform37_ok x.terms h8.terms hx.terms.2 t.docs hd)] [3,4,5,6,7,8,9,10] ?_
     have hgd:(bif fitsR c t.sum x.left then confV x.terms t.docs else false)=goodR c x t:=by rw[goodR,amtR,if_pos c4]
     have hw:=wiV_t.1 c3
     refine gk_region env false [] [3,4,5,6,7,8,9,10,11] ?_
     refine gk_loop (α:=Nat×Bool×RSt) (fun y=>DrI c x t y.1 y.2.1 y.2.2) (fun y=>[(11,iG y.1),(10,bG y.2.1)]) (fun y=>[(1,some (rsB y.2.2))]) (fun y=>x.list.length+1-y.1) (0,goodR c x t,x) ⟨.inl ⟨rfl,rfl,Nat.zero_le _,fun _ _=>rfl⟩⟩ ?_ (hp:=by simp only[AllP,hgd];repeat' first|exact trivial|exact EntL.refl _|exact BEntL.refl _|exact rfl|omega|apply And.intro|intro _)
     rintro ⟨i,g,X⟩ hI
     dsimp only at*
     refine gk_region env false [] [3,4,5,6,7,8,9,10,11,76] ?_
     refine gk_if (fun c5=> ?_) (fun c5=> ?_)
     ·try simp only[bb,toN]at c5
      obtain ⟨hg,hX,hil,hfd⟩:(g=goodR c x t∧X=x∧i≤x.list.length∧(t.by_=c.ben→g=false→idxR c x t=findI (candR c x t) x.list i)):=hI.or.resolve_right (fun h=>by have h9:=h.2.2.2.1;rw[c5.2]at h9;cases h9)
      have hX:=hX.symm
      subst hX
      have ham:=hx.amd _ (getD_mem (l:=x.list) (i:=i) (by omega))
      refine gk_region env false [] [3,4,5,6,7,8,9,10,11,12] ?_
      refine gk_region env false [.call (fits37_ok c t.sum (x.left+(x.list.getD i default).sum)),.call (conform37_ok (x.list.getD i default).terms (h8.list _ (getD_mem (l:=x.list) (i:=i) (by omega))) ham.2.2 t.docs hd)] [3,4,5,6,7,8,9,10,11,103] ?_
      refine gk_if (fun c6=> ?_) (fun c6=> ?_)
      ·try simp only[bb,toN]at c6
       refine gk_region env false [.call (take37_ok k x hx i (by omega) true)] [3,4,5,6,7,8,9,10,11] ?_
       refine gk_region env false [] [3,4,5,6,7,8,9,10,11] ?_
       refine gk_region env false [] [3,4,5,6,7,8,9,10,11] ?_
       refine gk_round ((i+1,true,takeR x i true)) ?_ (hp:=by simp only[AllP];repeat' first|exact trivial|exact EntL.refl _|exact BEntL.refl _|exact rfl|omega|apply And.intro|intro _|(rw[c5.2]))
       have hcd:candR c x t (x.list.getD i default)=true:=by rw[candR,decide_eq_true c6.1.1,c6.1.2];exact c6.2
       have hid:idxR c x t=i:=by rw[hfd c4 c5.2,findI,if_pos (by omega),if_pos hcd]
       exact ⟨.inr ⟨by rw[←hg];exact c5.2,c4,by rw[hid];omega,rfl,by rw[hid];rfl⟩⟩
      ·try simp only[bb,toN]at c6
       refine gk_region env false [] [3,4,5,6,7,8,9,10,11] ?_
       refine gk_round ((i+1,g,x)) ?_ (hp:=by simp only[AllP];repeat' first|exact trivial|exact EntL.refl _|exact BEntL.refl _|exact rfl|omega|apply And.intro|intro _|(rw[c5.2]))
       have hcd:candR c x t (x.list.getD i default)=false:=by
        rw[candR]
        rcases c6 with (h|h)|h
        ·rw[decide_eq_false h];rfl
        ·rw[h];cases decide ((x.list.getD i default).state=2)<;>rfl
        ·rw[h];cases decide ((x.list.getD i default).state=2)<;>cases fitsR c t.sum (x.left+(x.list.getD i default).sum)<;>rfl
       exact ⟨.inl ⟨hg,rfl,by simp only;omega,fun a b=>by rw[hfd a b,findI,if_pos (by omega),if_neg (by rw[hcd];simp)]⟩⟩
     ·try simp only[bb,toN]at c5
      have hXb:=hI.bnd hx
      refine gk_region env false [] [4,5,6,7,8,108] ?_
      refine gk_if (fun c7=> ?_) (fun c7=> ?_)
      ·try simp only[bb,toN]at c7
       refine gk_region env false [] [4,5,6,7,8] ?_
       refine gk_ret env ?_
       rcases hI.or with ⟨hg,hX,hil,hfd⟩|⟨hg,hbn,h0,hgt,hX⟩
       ·have hX:=hX.symm
        subst hX
        have hid:idxR c x t= -1:=by rw[hfd c4 c7,findI,if_neg (by rcases c5 with (h|h)|h;omega;exact absurd c4 h;rw[c7]at h;cases h)]
        rw[drawR,if_neg (by omega),if_neg c2,if_neg (by rw[c3];simp),if_neg (by rw[←hg,c7];simp),if_neg (by omega)];rfl
       ·rw[hgt]at c7;cases c7
      ·try simp only[bb,toN]at c7
       refine gk_region env false [] [4,5,6,7,110] ?_
       refine gk_ifd (fun c8=> ?_) (fun c8=> ?_)
       ·try simp only[toN]at c8
        refine gk_region env false [] [4,5,6,7] ?_
        refine gk_region env false [] [4,6,7] ?_
        refine gk_region env false [] [6,7] ?_
        refine gk_ret env ?_
        rcases hI.or with ⟨hg,hX,hil,hfd⟩|⟨hg,hbn,h0,hgt,hX⟩
        ·have hX:=hX.symm
         subst hX
         rw[drawR,if_neg (by omega),if_neg c2,if_neg (by rw[c3];simp),if_pos (by rw[←hg];exact c7),subR,if_pos c4];rfl
        ·subst hX
         rw[drawR,if_neg (by omega),if_neg c2,if_neg (by rw[c3];simp),if_neg (by rw[hg];simp),if_pos ⟨hbn,h0⟩,subR,if_pos c4];rfl
       ·try simp only[toN]at c8
        refine gk_region env false [] [4,5,6,7] ?_
        refine gk_region env false [] [4,6,7] ?_
        refine gk_region env false [] [6,7] ?_
        refine gk_ret env ?_
        exact absurd c4 c8
    ·try simp only[toN]at c4
     refine gk_region env false [.call (fits37_ok c t.sum x.moved),.call (conform37_ok x.terms h8.terms hx.terms.2 t.docs hd)] [3,4,5,6,7,8,9,10] ?_
     have hgd:(bif fitsR c t.sum x.moved then confV x.terms t.docs else false)=goodR c x t:=by rw[goodR,amtR,if_neg c4]
     have hw:=wiV_t.1 c3
     refine gk_region env false [] [3,4,5,6,7,8,9,10,11] ?_
     refine gk_loop (α:=Nat×Bool×RSt) (fun y=>DrI c x t y.1 y.2.1 y.2.2) (fun y=>[(11,iG y.1),(10,bG y.2.1)]) (fun y=>[(1,some (rsB y.2.2))]) (fun y=>x.list.length+1-y.1) (0,goodR c x t,x) ⟨.inl ⟨rfl,rfl,Nat.zero_le _,fun _ _=>rfl⟩⟩ ?_ (hp:=by simp only[AllP,hgd];repeat' first|exact trivial|exact EntL.refl _|exact BEntL.refl _|exact rfl|omega|apply And.intro|intro _)
     rintro ⟨i,g,X⟩ hI
     dsimp only at*
     refine gk_region env false [] [3,4,5,6,7,8,9,10,11,76] ?_
     refine gk_if (fun c9=> ?_) (fun c9=> ?_)
     ·try simp only[bb,toN]at c9
      exfalso
      first|exact c4 c9.1.2|exact c4 c8.1.2|exact c4 c10.1.2
     ·try simp only[bb,toN]at c9
      have hXb:=hI.bnd hx
      refine gk_region env false [] [4,5,6,7,8,108] ?_
      refine gk_if (fun c10=> ?_) (fun c10=> ?_)
      ·try simp only[bb,toN]at c10
       refine gk_region env false [] [4,5,6,7,8] ?_
       refine gk_ret env ?_
       rcases hI.or with ⟨hg,hX,hil,hfd⟩|⟨hg,hbn,h0,hgt,hX⟩
       ·have hX:=hX.symm
        subst hX
        rw[drawR,if_neg (by omega),if_neg c2,if_neg (by rw[c3];simp),if_neg (by rw[←hg,c10];simp),if_neg (fun h=>c4 h.1)];rfl
       ·exact absurd hbn c4
      ·try simp only[bb,toN]at c10
       refine gk_region env false [] [4,5,6,7,110] ?_
       refine gk_ifd (fun c11=> ?_) (fun c11=> ?_)
       ·try simp only[toN]at c11
        refine gk_region env false [] [4,5,6,7] ?_
        refine gk_region env false [] [4,6,7] ?_
        refine gk_region env false [] [6,7] ?_
        refine gk_ret env ?_
        exact absurd c11 c4
       ·try simp only[toN]at c11
        refine gk_region env false [] [4,5,6,7] ?_
        refine gk_region env false [] [4,6,7] ?_
        refine gk_region env false [] [6,7] ?_
        refine gk_ret env ?_
        rcases hI.or with ⟨hg,hX,hil,hfd⟩|⟨hg,hbn,h0,hgt,hX⟩
        ·have hX:=hX.symm
         subst hX
         rw[drawR,if_neg (by omega),if_neg c2,if_neg (by rw[c3];simp),if_pos (by rw[←hg];exact c10),subR,if_neg c4];rfl
        ·exact absurd hbn c4
def actR (n:Int) (c:Crd) (x:RSt) (t:Trn):RSt×Int:=if t.kind=0 then drawR c x t else if t.kind=1 then amendR c x t else if t.kind=2∨t.kind=3 then ansR c x t else if t.kind=4 then transR n c x t else if t.kind=5 then confR c x t else payR c x t
def turnR (n:Int) (c:Crd) (x:RSt) (t:Trn):RSt×Int:=
 if (wiV t.kind 0 6=true∧wiV t.day 0 100000=true)∧wiV t.by_ 0 (n-1)=true then if t.day<x.day then (x,13)else if (actR n c x t).2=0 then ({(actR n c x t).1 with day:=t.day},0)else (x,(actR n c x t).2)else (x,1)
theorem actA {n:Int} {c:Crd} {x:RSt} {t:Trn} :(t.kind=0→actR n c x t=drawR c x t)∧(t.kind=1→actR n c x t=amendR c x t)∧(t.kind=2∨t.kind=3→actR n c x t=ansR c x t)∧(t.kind=4→actR n c x t=transR n c x t)∧(t.kind=5→actR n c x t=confR c x t)∧(t.kind=6→actR n c x t=payR c x t):=by
 unfold actR
 refine ⟨fun h=>if_pos h,fun h=> ?_,fun h=> ?_,fun h=> ?_,fun h=> ?_,fun h=> ?_⟩
 ·rw[if_neg (by omega),if_pos h]
 ·rw[if_neg (by omega),if_neg (by omega),if_pos h]
 ·rw[if_neg (by omega),if_neg (by omega),if_neg (by omega),if_pos h]
 ·rw[if_neg (by omega),if_neg (by omega),if_neg (by omega),if_neg (by omega),if_pos h]
 ·rw[if_neg (by omega),if_neg (by omega),if_neg (by omega),if_neg (by omega),if_neg (by omega)]
theorem tkA {n:Int} {c:Crd} {x:RSt} {t:Trn} (c1:(wiV t.kind 0 6=true∧wiV t.day 0 100000=true)∧wiV t.by_ 0 (n-1)=true) (c2:¬t.day<x.day) {F:RSt×Int} (ha:actR n c x t=F):(F.2=0→turnR n c x t=({F.1 with day:=t.day},0))∧(F.2≠0→turnR n c x t=(x,F.2)):=by
 subst ha
 rw[turnR,if_pos c1,if_neg c2]
 exact ⟨fun h=>if_pos h,fun h=>if_neg h⟩
theorem turn37_ok (r:Rlm) (hr:FitR r) (c:Crd) (k:Nat) (x:RSt) (hx:FitX k x) (h8:Few8 x) (kd dy by_ to_ sm no:Int) (tms:List Dm) (dcs:List Dc) (ht:FitT ⟨kd,dy,by_,to_,sm,no,tms,dcs⟩):GC Tryz.prog 56 [rlG r,crdG c,rsG x,trnG ⟨kd,dy,by_,to_,sm,no,tms,dcs⟩] (.tup [rsG (turnR r.firms.length c x ⟨kd,dy,by_,to_,sm,no,tms,dcs⟩).1,iG (turnR r.firms.length c x ⟨kd,dy,by_,to_,sm,no,tms,dcs⟩).2]):=by
 refine gc_of_gk Tryz.func56 ?_
 refine gk_region env false [] [4,5,6,7,8,9] ?_
 refine gk_box 0 ?_
 refine gk_box 1 ?_
 refine gk_box 3 ?_
 have hrf:=hr.firms
 refine gk_region env false [.call (in37_ok kd 0 6),.call (in37_ok dy 0 100000),.call (in37_ok by_ 0 ((r.firms.length:Int)-1))] [4,5,6,7,8,9,31] ?_
 refine gk_if (fun c1=> ?_) (fun c1=> ?_)
 ·try simp only[bb,toN]at c1
  refine gk_region env false [] [4,5,6,7,8,9] ?_
  refine gk_ret env ?_
  rw[turnR,if_neg (by rintro ⟨⟨h1,h2⟩,h3⟩;simp_all)];rfl
 ·try simp only[bb,toN]at c1
  refine gk_region env false [] [4,5,6,7,8,9,37] ?_
  refine gk_ifd (fun c2=> ?_) (fun c2=> ?_)
  ·try simp only[toN]at c2
   refine gk_region env false [] [4,5,6,7,8,9] ?_
   refine gk_ret env ?_
   rw[turnR,if_pos c1,if_pos c2];rfl
  ·try simp only[toN]at c2
   refine gk_region env false [] [4,5,6,7,8,9,10] ?_
   refine gk_region env false [] [4,5,6,7,8,9,10,11] ?_
   have hkw:=wiV_t.1 c1.1.1
   refine gk_region env false [] [4,5,6,7,8,9,10,11,41] ?_
   refine gk_region env false [] [4,5,6,7,8,9,10,11,41,42] ?_
   refine gk_ifd (fun c3=> ?_) (fun c3=> ?_)
   ·try simp only[toN]at c3
    refine gk_region env false [.call (draw37_ok c k x hx h8 ⟨kd,dy,by_,to_,sm,no,tms,dcs⟩ ht.docs)] [6,7,8,9,10,11] ?_
    refine gk_region env false [] [6,7,8,9,10,11,99] ?_
    refine gk_ifn (fun c4=> ?_) (fun c4=> ?_)
    ·try simp only[toN]at c4
     refine gk_region env false [] [7,8,9,10] ?_
     refine gk_ret env ?_
     first|(exfalso;omega)|(rw[(tkA c1 c2 (actA.1 (by show kd=0;omega))).2 (by assumption)];rfl)|(rw[(tkA c1 c2 (actA.2.1 (by show kd=1;omega))).2 (by assumption)];rfl)|(rw[(tkA c1 c2 (actA.2.2.1 (by show kd=2∨kd=3;omega))).2 (by assumption)];rfl)|(rw[(tkA c1 c2 (actA.2.2.2.1 (by show kd=4;omega))).2 (by assumption)];rfl)|(rw[(tkA c1 c2 (actA.2.2.2.2.1 (by show kd=5;omega))).2 (by assumption)];rfl)|(rw[(tkA c1 c2 (actA.2.2.2.2.2 (by show kd=6;omega))).2 (by assumption)];rfl)
    ·try simp only[toN]at c4
     refine gk_region env false [] [8,9,10] ?_
     refine gk_region env false [] [8,9] ?_
     refine gk_ret env ?_
     first|(exfalso;omega)|(rw[(tkA c1 c2 (actA.1 (by show kd=0;omega))).1 (by assumption)];rfl)|(rw[(tkA c1 c2 (actA.2.1 (by show kd=1;omega))).1 (by assumption)];rfl)|(rw[(tkA c1 c2 (actA.2.2.1 (by show kd=2∨kd=3;omega))).1 (by assumption)];rfl)|(rw[(tkA c1 c2 (actA.2.2.2.1 (by show kd=4;omega))).1 (by assumption)];rfl)|(rw[(tkA c1 c2 (actA.2.2.2.2.1 (by show kd=5;omega))).1 (by assumption)];rfl)|(rw[(tkA c1 c2 (actA.2.2.2.2.2 (by show kd=6;omega))).1 (by assumption)];rfl)
   ·try simp only[toN]at c3
    refine gk_region env false [] [4,5,6,7,8,9,10,11,41,51] ?_
    refine gk_ifd (fun c5=> ?_) (fun c5=> ?_)
    ·try simp only[toN]at c5
     refine gk_region env false [.call (amend37_ok c k x hx ⟨kd,dy,by_,to_,sm,no,tms,dcs⟩ ht.terms.1 ht.terms.2)] [6,7,8,9,10,11] ?_
     refine gk_region env false [] [6,7,8,9,10,11,99] ?_
     refine gk_ifn (fun c6=> ?_) (fun c6=> ?_)
     ·try simp only[toN]at c6
      refine gk_region env false [] [7,8,9,10] ?_
      refine gk_ret env ?_
      first|(exfalso;omega)|(rw[(tkA c1 c2 (actA.1 (by show kd=0;omega))).2 (by assumption)];rfl)|(rw[(tkA c1 c2 (actA.2.1 (by show kd=1;omega))).2 (by assumption)];rfl)|(rw[(tkA c1 c2 (actA.2.2.1 (by show kd=2∨kd=3;omega))).2 (by assumption)];rfl)|(rw[(tkA c1 c2 (actA.2.2.2.1 (by show kd=4;omega))).2 (by assumption)];rfl)|(rw[(tkA c1 c2 (actA.2.2.2.2.1 (by show kd=5;omega))).2 (by assumption)];rfl)|(rw[(tkA c1 c2 (actA.2.2.2.2.2 (by show kd=6;omega))).2 (by assumption)];rfl)
     ·try simp only[toN]at c6
      refine gk_region env false [] [8,9,10] ?_
      refine gk_region env false [] [8,9] ?_
      refine gk_ret env ?_
      first|(exfalso;omega)|(rw[(tkA c1 c2 (actA.1 (by show kd=0;omega))).1 (by assumption)];rfl)|(rw[(tkA c1 c2 (actA.2.1 (by show kd=1;omega))).1 (by assumption)];rfl)|(rw[(tkA c1 c2 (actA.2.2.1 (by show kd=2∨kd=3;omega))).1 (by assumption)];rfl)|(rw[(tkA c1 c2 (actA.2.2.2.1 (by show kd=4;omega))).1 (by assumption)];rfl)|(rw[(tkA c1 c2 (actA.2.2.2.2.1 (by show kd=5;omega))).1 (by assumption)];rfl)|(rw[(tkA c1 c2 (actA.2.2.2.2.2 (by show kd=6;omega))).1 (by assumption)];rfl)
    ·try simp only[toN]at c5
     refine gk_region env false [] [4,5,6,7,8,9,10,11,41,60] ?_
     refine gk_ifd (fun c7=> ?_) (fun c7=> ?_)
     ·try simp only[toN]at c7
      refine gk_ifd (fun c8=> ?_) (fun c8=> ?_)
      ·try simp only[toN]at c8
       refine gk_region env false [.call (answer37_ok c k x hx ⟨kd,dy,by_,to_,sm,no,tms,dcs⟩)] [6,7,8,9,10,11] ?_
       refine gk_region env false [] [6,7,8,9,10,11,99] ?_
       refine gk_ifn (fun c9=> ?_) (fun c9=> ?_)
       ·try simp only[toN]at c9
        refine gk_region env false [] [7,8,9,10] ?_
        refine gk_ret env ?_
        first|(exfalso;omega)|(rw[(tkA c1 c2 (actA.1 (by show kd=0;omega))).2 (by assumption)];rfl)|(rw[(tkA c1 c2 (actA.2.1 (by show kd=1;omega))).2 (by assumption)];rfl)|(rw[(tkA c1 c2 (actA.2.2.1 (by show kd=2∨kd=3;omega))).2 (by assumption)];rfl)|(rw[(tkA c1 c2 (actA.2.2.2.1 (by show kd=4;omega))).2 (by assumption)];rfl)|(rw[(tkA c1 c2 (actA.2.2.2.2.1 (by show kd=5;omega))).2 (by assumption)];rfl)|(rw[(tkA c1 c2 (actA.2.2.2.2.2 (by show kd=6;omega))).2 (by assumption)];rfl)
       ·try simp only[toN]at c9
        refine gk_region env false [] [8,9,10] ?_
        refine gk_region env false [] [8,9] ?_
        refine gk_ret env ?_
        first|(exfalso;omega)|(rw[(tkA c1 c2 (actA.1 (by show kd=0;omega))).1 (by assumption)];rfl)|(rw[(tkA c1 c2 (actA.2.1 (by show kd=1;omega))).1 (by assumption)];rfl)|(rw[(tkA c1 c2 (actA.2.2.1 (by show kd=2∨kd=3;omega))).1 (by assumption)];rfl)|(rw[(tkA c1 c2 (actA.2.2.2.1 (by show kd=4;omega))).1 (by assumption)];rfl)|(rw[(tkA c1 c2 (actA.2.2.2.2.1 (by show kd=5;omega))).1 (by assumption)];rfl)|(rw[(tkA c1 c2 (actA.2.2.2.2.2 (by show kd=6;omega))).1 (by assumption)];rfl)
      ·try simp only[toN]at c8
       refine gk_region env false [] [4,5,6,7,8,9,10,11,41,70] ?_
       refine gk_ifd (fun c10=> ?_) (fun c10=> ?_)
       ·try simp only[toN]at c10
        refine gk_region env false [.call (transfer37_ok r hr c k x hx ⟨kd,dy,by_,to_,sm,no,tms,dcs⟩)] [6,7,8,9,10,11] ?_
        refine gk_region env false [] [6,7,8,9,10,11,99] ?_
        refine gk_ifn (fun c11=> ?_) (fun c11=> ?_)
        ·try simp only[toN]at c11
         refine gk_region env false [] [7,8,9,10] ?_
         refine gk_ret env ?_
         first|(exfalso;omega)|(rw[(tkA c1 c2 (actA.1 (by show kd=0;omega))).2 (by assumption)];rfl)|(rw[(tkA c1 c2 (actA.2.1 (by show kd=1;omega))).2 (by assumption)];rfl)|(rw[(tkA c1 c2 (actA.2.2.1 (by show kd=2∨kd=3;omega))).2 (by assumption)];rfl)|(rw[(tkA c1 c2 (actA.2.2.2.1 (by show kd=4;omega))).2 (by assumption)];rfl)|(rw[(tkA c1 c2 (actA.2.2.2.2.1 (by show kd=5;omega))).2 (by assumption)];rfl)|(rw[(tkA c1 c2 (actA.2.2.2.2.2 (by show kd=6;omega))).2 (by assumption)];rfl)
        ·try simp only[toN]at c11
         refine gk_region env false [] [8,9,10] ?_
         refine gk_region env false [] [8,9] ?_
         refine gk_ret env ?_
         first|(exfalso;omega)|(rw[(tkA c1 c2 (actA.1 (by show kd=0;omega))).1 (by assumption)];rfl)|(rw[(tkA c1 c2 (actA.2.1 (by show kd=1;omega))).1 (by assumption)];rfl)|(rw[(tkA c1 c2 (actA.2.2.1 (by show kd=2∨kd=3;omega))).1 (by assumption)];rfl)|(rw[(tkA c1 c2 (actA.2.2.2.1 (by show kd=4;omega))).1 (by assumption)];rfl)|(rw[(tkA c1 c2 (actA.2.2.2.2.1 (by show kd=5;omega))).1 (by assumption)];rfl)|(rw[(tkA c1 c2 (actA.2.2.2.2.2 (by show kd=6;omega))).1 (by assumption)];rfl)
       ·try simp only[toN]at c10
        refine gk_region env false [] [5,6,7,8,9,10,11,41,80] ?_
        refine gk_ifd (fun c12=> ?_) (fun c12=> ?_)
        ·try simp only[toN]at c12
         refine gk_region env false [.call (confirm37_ok c x ⟨kd,dy,by_,to_,sm,no,tms,dcs⟩)] [6,7,8,9,10,11] ?_
         refine gk_region env false [] [6,7,8,9,10,11,99] ?_
         refine gk_ifn (fun c13=> ?_) (fun c13=> ?_)
         ·try simp only[toN]at c13
          refine gk_region env false [] [7,8,9,10] ?_
          refine gk_ret env ?_
          first|(exfalso;omega)|(rw[(tkA c1 c2 (actA.1 (by show kd=0;omega))).2 (by assumption)];rfl)|(rw[(tkA c1 c2 (actA.2.1 (by show kd=1;omega))).2 (by assumption)];rfl)|(rw[(tkA c1 c2 (actA.2.2.1 (by show kd=2∨kd=3;omega))).2 (by assumption)];rfl)|(rw[(tkA c1 c2 (actA.2.2.2.1 (by show kd=4;omega))).2 (by assumption)];rfl)|(rw[(tkA c1 c2 (actA.2.2.2.2.1 (by show kd=5;omega))).2 (by assumption)];rfl)|(rw[(tkA c1 c2 (actA.2.2.2.2.2 (by show kd=6;omega))).2 (by assumption)];rfl)
         ·try simp only[toN]at c13
          refine gk_region env false [] [8,9,10] ?_
          refine gk_region env false [] [8,9] ?_
          refine gk_ret env ?_
          first|(exfalso;omega)|(rw[(tkA c1 c2 (actA.1 (by show kd=0;omega))).1 (by assumption)];rfl)|(rw[(tkA c1 c2 (actA.2.1 (by show kd=1;omega))).1 (by assumption)];rfl)|(rw[(tkA c1 c2 (actA.2.2.1 (by show kd=2∨kd=3;omega))).1 (by assumption)];rfl)|(rw[(tkA c1 c2 (actA.2.2.2.1 (by show kd=4;omega))).1 (by assumption)];rfl)|(rw[(tkA c1 c2 (actA.2.2.2.2.1 (by show kd=5;omega))).1 (by assumption)];rfl)|(rw[(tkA c1 c2 (actA.2.2.2.2.2 (by show kd=6;omega))).1 (by assumption)];rfl)
        ·try simp only[toN]at c12
         refine gk_region env false [] [5,6,7,8,9,10,11,89] ?_
         refine gk_ifd (fun c14=> ?_) (fun c14=> ?_)
         ·try simp only[toN]at c14
          refine gk_region env false [.call (pay37_ok c k x hx ⟨kd,dy,by_,to_,sm,no,tms,dcs⟩)] [6,7,8,9,10,11] ?_
          refine gk_region env false [] [6,7,8,9,10,11,99] ?_
          refine gk_ifn (fun c15=> ?_) (fun c15=> ?_)
          ·try simp only[toN]at c15
           refine gk_region env false [] [7,8,9,10] ?_
           refine gk_ret env ?_
           first|(exfalso;omega)|(rw[(tkA c1 c2 (actA.1 (by show kd=0;omega))).2 (by assumption)];rfl)|(rw[(tkA c1 c2 (actA.2.1 (by show kd=1;omega))).2 (by assumption)];rfl)|(rw[(tkA c1 c2 (actA.2.2.1 (by show kd=2∨kd=3;omega))).2 (by assumption)];rfl)|(rw[(tkA c1 c2 (actA.2.2.2.1 (by show kd=4;omega))).2 (by assumption)];rfl)|(rw[(tkA c1 c2 (actA.2.2.2.2.1 (by show kd=5;omega))).2 (by assumption)];rfl)|(rw[(tkA c1 c2 (actA.2.2.2.2.2 (by show kd=6;omega))).2 (by assumption)];rfl)
          ·try simp only[toN]at c15
           refine gk_region env false [] [8,9,10] ?_
           refine gk_region env false [] [8,9] ?_
           refine gk_ret env ?_
           first|(exfalso;omega)|(rw[(tkA c1 c2 (actA.1 (by show kd=0;omega))).1 (by assumption)];rfl)|(rw[(tkA c1 c2 (actA.2.1 (by show kd=1;omega))).1 (by assumption)];rfl)|(rw[(tkA c1 c2 (actA.2.2.1 (by show kd=2∨kd=3;omega))).1 (by assumption)];rfl)|(rw[(tkA c1 c2 (actA.2.2.2.1 (by show kd=4;omega))).1 (by assumption)];rfl)|(rw[(tkA c1 c2 (actA.2.2.2.2.1 (by show kd=5;omega))).1 (by assumption)];rfl)|(rw[(tkA c1 c2 (actA.2.2.2.2.2 (by show kd=6;omega))).1 (by assumption)];rfl)
         ·try simp only[toN]at c14
          refine gk_region env false [] [6,7,8,9,10,11,99] ?_
          refine gk_ifn (fun c16=> ?_) (fun c16=> ?_)
          ·try simp only[toN]at c16
           refine gk_region env false [] [7,8,9,10] ?_
           refine gk_ret env ?_
           first|(exfalso;omega)|(rw[(tkA c1 c2 (actA.1 (by show kd=0;omega))).2 (by assumption)];rfl)|(rw[(tkA c1 c2 (actA.2.1 (by show kd=1;omega))).2 (by assumption)];rfl)|(rw[(tkA c1 c2 (actA.2.2.1 (by show kd=2∨kd=3;omega))).2 (by assumption)];rfl)|(rw[(tkA c1 c2 (actA.2.2.2.1 (by show kd=4;omega))).2 (by assumption)];rfl)|(rw[(tkA c1 c2 (actA.2.2.2.2.1 (by show kd=5;omega))).2 (by assumption)];rfl)|(rw[(tkA c1 c2 (actA.2.2.2.2.2 (by show kd=6;omega))).2 (by assumption)];rfl)
          ·try simp only[toN]at c16
           refine gk_region env false [] [8,9,10] ?_
           refine gk_region env false [] [8,9] ?_
           refine gk_ret env ?_
           first|(exfalso;omega)|(rw[(tkA c1 c2 (actA.1 (by show kd=0;omega))).1 (by assumption)];rfl)|(rw[(tkA c1 c2 (actA.2.1 (by show kd=1;omega))).1 (by assumption)];rfl)|(rw[(tkA c1 c2 (actA.2.2.1 (by show kd=2∨kd=3;omega))).1 (by assumption)];rfl)|(rw[(tkA c1 c2 (actA.2.2.2.1 (by show kd=4;omega))).1 (by assumption)];rfl)|(rw[(tkA c1 c2 (actA.2.2.2.2.1 (by show kd=5;omega))).1 (by assumption)];rfl)|(rw[(tkA c1 c2 (actA.2.2.2.2.2 (by show kd=6;omega))).1 (by assumption)];rfl)
     ·try simp only[toN]at c7
      refine gk_region env false [] [4,5,6,7,8,9,10,11,41,60] ?_
      refine gk_ifd (fun c17=> ?_) (fun c17=> ?_)
      ·try simp only[toN]at c17
       refine gk_region env false [.call (answer37_ok c k x hx ⟨kd,dy,by_,to_,sm,no,tms,dcs⟩)] [6,7,8,9,10,11] ?_
       refine gk_region env false [] [6,7,8,9,10,11,99] ?_
       refine gk_ifn (fun c18=> ?_) (fun c18=> ?_)
       ·try simp only[toN]at c18
        refine gk_region env false [] [7,8,9,10] ?_
        refine gk_ret env ?_
        first|(exfalso;omega)|(rw[(tkA c1 c2 (actA.1 (by show kd=0;omega))).2 (by assumption)];rfl)|(rw[(tkA c1 c2 (actA.2.1 (by show kd=1;omega))).2 (by assumption)];rfl)|(rw[(tkA c1 c2 (actA.2.2.1 (by show kd=2∨kd=3;omega))).2 (by assumption)];rfl)|(rw[(tkA c1 c2 (actA.2.2.2.1 (by show kd=4;omega))).2 (by assumption)];rfl)|(rw[(tkA c1 c2 (actA.2.2.2.2.1 (by show kd=5;omega))).2 (by assumption)];rfl)|(rw[(tkA c1 c2 (actA.2.2.2.2.2 (by show kd=6;omega))).2 (by assumption)];rfl)
       ·try simp only[toN]at c18
        refine gk_region env false [] [8,9,10] ?_
        refine gk_region env false [] [8,9] ?_
        refine gk_ret env ?_
        first|(exfalso;omega)|(rw[(tkA c1 c2 (actA.1 (by show kd=0;omega))).1 (by assumption)];rfl)|(rw[(tkA c1 c2 (actA.2.1 (by show kd=1;omega))).1 (by assumption)];rfl)|(rw[(tkA c1 c2 (actA.2.2.1 (by show kd=2∨kd=3;omega))).1 (by assumption)];rfl)|(rw[(tkA c1 c2 (actA.2.2.2.1 (by show kd=4;omega))).1 (by assumption)];rfl)|(rw[(tkA c1 c2 (actA.2.2.2.2.1 (by show kd=5;omega))).1 (by assumption)];rfl)|(rw[(tkA c1 c2 (actA.2.2.2.2.2 (by show kd=6;omega))).1 (by assumption)];rfl)
      ·try simp only[toN]at c17
       refine gk_region env false [] [4,5,6,7,8,9,10,11,41,70] ?_
       refine gk_ifd (fun c19=> ?_) (fun c19=> ?_)
       ·try simp only[toN]at c19
        refine gk_region env false [.call (transfer37_ok r hr c k x hx ⟨kd,dy,by_,to_,sm,no,tms,dcs⟩)] [6,7,8,9,10,11] ?_
        refine gk_region env false [] [6,7,8,9,10,11,99] ?_
        refine gk_ifn (fun c20=> ?_) (fun c20=> ?_)
        ·try simp only[toN]at c20
         refine gk_region env false [] [7,8,9,10] ?_
         refine gk_ret env ?_
         first|(exfalso;omega)|(rw[(tkA c1 c2 (actA.1 (by show kd=0;omega))).2 (by assumption)];rfl)|(rw[(tkA c1 c2 (actA.2.1 (by show kd=1;omega))).2 (by assumption)];rfl)|(rw[(tkA c1 c2 (actA.2.2.1 (by show kd=2∨kd=3;omega))).2 (by assumption)];rfl)|(rw[(tkA c1 c2 (actA.2.2.2.1 (by show kd=4;omega))).2 (by assumption)];rfl)|(rw[(tkA c1 c2 (actA.2.2.2.2.1 (by show kd=5;omega))).2 (by assumption)];rfl)|(rw[(tkA c1 c2 (actA.2.2.2.2.2 (by show kd=6;omega))).2 (by assumption)];rfl)
        ·try simp only[toN]at c20
         refine gk_region env false [] [8,9,10] ?_
         refine gk_region env false [] [8,9] ?_
         refine gk_ret env ?_
         first|(exfalso;omega)|(rw[(tkA c1 c2 (actA.1 (by show kd=0;omega))).1 (by assumption)];rfl)|(rw[(tkA c1 c2 (actA.2.1 (by show kd=1;omega))).1 (by assumption)];rfl)|(rw[(tkA c1 c2 (actA.2.2.1 (by show kd=2∨kd=3;omega))).1 (by assumption)];rfl)|(rw[(tkA c1 c2 (actA.2.2.2.1 (by show kd=4;omega))).1 (by assumption)];rfl)|(rw[(tkA c1 c2 (actA.2.2.2.2.1 (by show kd=5;omega))).1 (by assumption)];rfl)|(rw[(tkA c1 c2 (actA.2.2.2.2.2 (by show kd=6;omega))).1 (by assumption)];rfl)
       ·try simp only[toN]at c19
        refine gk_region env false [] [5,6,7,8,9,10,11,41,80] ?_
        refine gk_ifd (fun c21=> ?_) (fun c21=> ?_)
        ·try simp only[toN]at c21
         refine gk_region env false [.call (confirm37_ok c x ⟨kd,dy,by_,to_,sm,no,tms,dcs⟩)] [6,7,8,9,10,11] ?_
         refine gk_region env false [] [6,7,8,9,10,11,99] ?_
         refine gk_ifn (fun c22=> ?_) (fun c22=> ?_)
         ·try simp only[toN]at c22
          refine gk_region env false [] [7,8,9,10] ?_
          refine gk_ret env ?_
          first|(exfalso;omega)|(rw[(tkA c1 c2 (actA.1 (by show kd=0;omega))).2 (by assumption)];rfl)|(rw[(tkA c1 c2 (actA.2.1 (by show kd=1;omega))).2 (by assumption)];rfl)|(rw[(tkA c1 c2 (actA.2.2.1 (by show kd=2∨kd=3;omega))).2 (by assumption)];rfl)|(rw[(tkA c1 c2 (actA.2.2.2.1 (by show kd=4;omega))).2 (by assumption)];rfl)|(rw[(tkA c1 c2 (actA.2.2.2.2.1 (by show kd=5;omega))).2 (by assumption)];rfl)|(rw[(tkA c1 c2 (actA.2.2.2.2.2 (by show kd=6;omega))).2 (by assumption)];rfl)
         ·try simp only[toN]at c22
          refine gk_region env false [] [8,9,10] ?_
          refine gk_region env false [] [8,9] ?_
          refine gk_ret env ?_
          first|(exfalso;omega)|(rw[(tkA c1 c2 (actA.1 (by show kd=0;omega))).1 (by assumption)];rfl)|(rw[(tkA c1 c2 (actA.2.1 (by show kd=1;omega))).1 (by assumption)];rfl)|(rw[(tkA c1 c2 (actA.2.2.1 (by show kd=2∨kd=3;omega))).1 (by assumption)];rfl)|(rw[(tkA c1 c2 (actA.2.2.2.1 (by show kd=4;omega))).1 (by assumption)];rfl)|(rw[(tkA c1 c2 (actA.2.2.2.2.1 (by show kd=5;omega))).1 (by assumption)];rfl)|(rw[(tkA c1 c2 (actA.2.2.2.2.2 (by show kd=6;omega))).1 (by assumption)];rfl)
        ·try simp only[toN]at c21
         refine gk_region env false [] [5,6,7,8,9,10,11,89] ?_
         refine gk_ifd (fun c23=> ?_) (fun c23=> ?_)
         ·try simp only[toN]at c23
          refine gk_region env false [.call (pay37_ok c k x hx ⟨kd,dy,by_,to_,sm,no,tms,dcs⟩)] [6,7,8,9,10,11] ?_
          refine gk_region env false [] [6,7,8,9,10,11,99] ?_
          refine gk_ifn (fun c24=> ?_) (fun c24=> ?_)
          ·try simp only[toN]at c24
           refine gk_region env false [] [7,8,9,10] ?_
           refine gk_ret env ?_
           first|(exfalso;omega)|(rw[(tkA c1 c2 (actA.1 (by show kd=0;omega))).2 (by assumption)];rfl)|(rw[(tkA c1 c2 (actA.2.1 (by show kd=1;omega))).2 (by assumption)];rfl)|(rw[(tkA c1 c2 (actA.2.2.1 (by show kd=2∨kd=3;omega))).2 (by assumption)];rfl)|(rw[(tkA c1 c2 (actA.2.2.2.1 (by show kd=4;omega))).2 (by assumption)];rfl)|(rw[(tkA c1 c2 (actA.2.2.2.2.1 (by show kd=5;omega))).2 (by assumption)];rfl)|(rw[(tkA c1 c2 (actA.2.2.2.2.2 (by show kd=6;omega))).2 (by assumption)];rfl)
          ·try simp only[toN]at c24
           refine gk_region env false [] [8,9,10] ?_
           refine gk_region env false [] [8,9] ?_
           refine gk_ret env ?_
           first|(exfalso;omega)|(rw[(tkA c1 c2 (actA.1 (by show kd=0;omega))).1 (by assumption)];rfl)|(rw[(tkA c1 c2 (actA.2.1 (by show kd=1;omega))).1 (by assumption)];rfl)|(rw[(tkA c1 c2 (actA.2.2.1 (by show kd=2∨kd=3;omega))).1 (by assumption)];rfl)|(rw[(tkA c1 c2 (actA.2.2.2.1 (by show kd=4;omega))).1 (by assumption)];rfl)|(rw[(tkA c1 c2 (actA.2.2.2.2.1 (by show kd=5;omega))).1 (by assumption)];rfl)|(rw[(tkA c1 c2 (actA.2.2.2.2.2 (by show kd=6;omega))).1 (by assumption)];rfl)
         ·try simp only[toN]at c23
          refine gk_region env false [] [6,7,8,9,10,11,99] ?_
          refine gk_ifn (fun c25=> ?_) (fun c25=> ?_)
          ·try simp only[toN]at c25
           refine gk_region env false [] [7,8,9,10] ?_
           refine gk_ret env ?_
           first|(exfalso;omega)|(rw[(tkA c1 c2 (actA.1 (by show kd=0;omega))).2 (by assumption)];rfl)|(rw[(tkA c1 c2 (actA.2.1 (by show kd=1;omega))).2 (by assumption)];rfl)|(rw[(tkA c1 c2 (actA.2.2.1 (by show kd=2∨kd=3;omega))).2 (by assumption)];rfl)|(rw[(tkA c1 c2 (actA.2.2.2.1 (by show kd=4;omega))).2 (by assumption)];rfl)|(rw[(tkA c1 c2 (actA.2.2.2.2.1 (by show kd=5;omega))).2 (by assumption)];rfl)|(rw[(tkA c1 c2 (actA.2.2.2.2.2 (by show kd=6;omega))).2 (by assumption)];rfl)
          ·try simp only[toN]at c25
           refine gk_region env false [] [8,9,10] ?_
           refine gk_region env false [] [8,9] ?_
           refine gk_ret env ?_
           first|(exfalso;omega)|(rw[(tkA c1 c2 (actA.1 (by show kd=0;omega))).1 (by assumption)];rfl)|(rw[(tkA c1 c2 (actA.2.1 (by show kd=1;omega))).1 (by assumption)];rfl)|(rw[(tkA c1 c2 (actA.2.2.1 (by show kd=2∨kd=3;omega))).1 (by assumption)];rfl)|(rw[(tkA c1 c2 (actA.2.2.2.1 (by show kd=4;omega))).1 (by assumption)];rfl)|(rw[(tkA c1 c2 (actA.2.2.2.2.1 (by show kd=5;omega))).1 (by assumption)];rfl)|(rw[(tkA c1 c2 (actA.2.2.2.2.2 (by show kd=6;omega))).1 (by assumption)];rfl)
end Go.Gh
namespace Go.Gh
open Go Go.Proofs
set_option maxRecDepth 1000000
set_option maxHeartbeats 2000000
set_option linter.unusedSimpArgs false
set_option linter.unusedVariables false
set_option linter.unnecessarySimpa false
set_option linter.unusedSectionVars false
variable [PowTab] [ItoaU]
open Go.RowKit
def stR (n:Int) (c:Crd) (l:List Trn):Nat→RSt
 |0=>new37 c
 |i+1=>(turnR n c (stR n c l i) (l.getD i default)).1
def erR (n:Int) (c:Crd) (l:List Trn) (i:Nat):Int:=(turnR n c (stR n c l i) (l.getD i default)).2
def errsR (n:Int) (c:Crd) (l:List Trn) (k:Nat):List Int:=(List.range k).map (erR n c l)
theorem errsR_next (n:Int) (c:Crd) (l:List Trn) (k:Nat):errsR n c l (k+1)=errsR n c l k++ [erR n c l k]:=by
 rw[errsR,List.range_succ,List.map_append];rfl
theorem errsR_len (n:Int) (c:Crd) (l:List Trn) (k:Nat):(errsR n c l k).length=k:=by simp[errsR]
structure RunR (n:Int) (c:Crd) (l:List Trn):Prop where
 len:l.length≤60
 ft:∀t,t∈l→FitT t
 fit:∀i,i≤l.length→FitX i (stR n c l i)
 few:∀i,i≤l.length→Few8 (stR n c l i)
theorem all37_ok (r:Rlm) (hr:FitR r) (c:Crd) (l:List Trn) (hR:RunR (r.firms.length:Int) c l):GC Tryz.prog 35 [rlG r,crdG c,rowTn l] (.tup [rsG (stR (r.firms.length:Int) c l l.length),rowI (errsR (r.firms.length:Int) c l l.length)]):=by
 have hl:=hR.len
 refine gc_of_gk Tryz.func35 ?_
 refine gk_region env false [] [2,3,4,6,7] ?_
 refine gk_box 0 ?_
 refine gk_box 1 ?_
 refine gk_region env false [.call (new37_ok c)] [2,3,4,6,7,8] ?_
 refine gk_region env false [.el default inC []] [2,3,4,6,7,8,9] ?_ (hp:=(by simp only[AllP,Int.toNat_natCast];repeat' first|exact trivial|exact EntL.refl _|exact BEntL.refl _|exact rfl|omega|apply And.intro|intro _|(simp[rowL];done)|(simp only[List.length_append,List.length_cons,List.length_nil];omega)|(simp[*];done)))
 refine gk_region env false [] [2,3,4,6,7,8,9,10] ?_
 refine gk_loop (α:=Nat) (fun i=>i≤l.length) (fun i=>[(10,iG i),(9,.sl 4 1 0 (errsR (r.firms.length:Int) c l i).length)]) (fun i=>[(3,some (rsB (stR (r.firms.length:Int) c l i))),(4,some (.row 44 1 (default:Int) inC (errsR (r.firms.length:Int) c l i) 0))]) (fun i=>l.length-i) 0 (Nat.zero_le _) ?_ (hp:=by simp only[AllP];repeat' first|exact trivial|exact EntL.refl _|exact BEntL.refl _|exact rfl|omega|apply And.intro|intro _|(simp;done))
 rintro i hi
 have hel:=errsR_len (r.firms.length:Int) c l i
 refine gk_region env false [] [2,3,4,6,7,8,9,10,19] ?_
 refine gk_ifd (fun c1=> ?_) (fun c1=> ?_)
 ·try simp only[toN]at c1
  have hft:=hR.ft _ (getD_mem (l:=l) (i:=i) (by omega))
  refine gk_region env false [.call (turn37_ok r hr c i (stR (r.firms.length:Int) c l i) (hR.fit i (by omega)) (hR.few i (by omega)) (l.getD i default).kind (l.getD i default).day (l.getD i default).by_ (l.getD i default).to_ (l.getD i default).sum (l.getD i default).no (l.getD i default).terms (l.getD i default).docs hft)] [2,3,4,6,7,8,9,10,11,12] ?_
  refine gk_region env false [] [2,3,4,6,7,8,9,10,12] ?_
  refine gk_region env false [.el default inC [erR (r.firms.length:Int) c l i],.el default inC (errsR (r.firms.length:Int) c l i++ [erR (r.firms.length:Int) c l i])] [2,3,4,6,7,8,9,10] ?_ (hp:=(by simp only[AllP,Int.toNat_natCast];repeat' first|exact trivial|exact EntL.refl _|exact BEntL.refl _|exact rfl|omega|apply And.intro|intro _|(simp[rowL];done)|(simp only[List.length_append,List.length_cons,List.length_nil];omega)|(simp[*];done)))
  refine gk_region env false [] [2,3,4,6,7,8,9,10] ?_
  refine gk_round (i+1) ?_ (hp:=by simp only[AllP,errsR_next];repeat' first|exact trivial|exact EntL.refl _|exact BEntL.refl _|exact rfl|omega|apply And.intro|intro _|(simp;done))
  omega
 ·try simp only[toN]at c1
  refine gk_region env false [] [6,7] ?_
  refine gk_ret env ?_
  obtain rfl:i=l.length:=by omega
  rfl
def ledR (x:RSt):Led:=⟨x.drawn,x.paid,x.left,x.moved,x.amended,x.second⟩
def runLR (r:Rlm) (c:Crd) (l:List Trn):Led:=if runE r c l=0 then ledR (stR (r.firms.length:Int) c l l.length)else led0
def runXR (r:Rlm) (c:Crd) (l:List Trn):List Int:=if runE r c l=0 then errsR (r.firms.length:Int) c l l.length else []
def termsRR (r:Rlm) (c:Crd) (l:List Trn):List Dm:=if runE r c l=0 then (stR (r.firms.length:Int) c l l.length).terms else []
theorem run37_ok (r:Rlm) (hr:FitR r) (c:Crd) (hc:FitCr c) (l:List Trn) (hR:runE r c l=0→RunR (r.firms.length:Int) c l):GC Tryz.prog 11 [rlG r,crdG c,rowTn l] (.tup [ledG (runLR r c l),rowI (runXR r c l),iG (runE r c l)]):=by
 refine gc_of_gk Tryz.func11 ?_
 refine gk_region env false [] [2,3,4,6,7,8] ?_
 refine gk_box 0 ?_
 refine gk_box 1 ?_
 refine gk_region env false [.call (check37_ok r hr c hc)] [2,3,4,6,7,8,9] ?_
 refine gk_region env false [] [2,3,4,6,7,8,9,16] ?_
 refine gk_ifn (fun c1=> ?_) (fun c1=> ?_)
 ·try simp only[toN]at c1
  refine gk_region env false [] [2,3,4,6,7,8] ?_
  refine gk_retE env ?_
  have he:¬runE r c l=0:=by rw[runE,if_neg c1];exact c1
  have hv:runE r c l=crdE r c:=by rw[runE,if_neg c1]
  rw[show runLR r c l=led0 from if_neg he,show runXR r c l= []from if_neg he,hv]
  exact Ent.tup ⟨Ent.agg ⟨Ent.refl _,Ent.refl _,Ent.refl _,Ent.refl _,Ent.nil,Ent.refl _,trivial⟩,Ent.nil,Ent.refl _,trivial⟩
 ·try simp only[toN]at c1
  refine gk_region env false [] [2,3,4,6,7,8,21] ?_
  refine gk_ifd (fun c2=> ?_) (fun c2=> ?_)
  ·try simp only[toN]at c2
   refine gk_region env false [] [2,3,4,6,7,8] ?_
   refine gk_retE env ?_
   have he:¬runE r c l=0:=by rw[runE,if_pos c1,if_pos c2];decide
   have hv:runE r c l=6:=by rw[runE,if_pos c1,if_pos c2]
   rw[show runLR r c l=led0 from if_neg he,show runXR r c l= []from if_neg he,hv]
   exact Ent.tup ⟨Ent.agg ⟨Ent.refl _,Ent.refl _,Ent.refl _,Ent.refl _,Ent.nil,Ent.refl _,trivial⟩,Ent.nil,Ent.refl _,trivial⟩
  ·try simp only[toN]at c2
   have he:runE r c l=0:=by rw[runE,if_pos c1,if_neg c2]
   refine gk_region env false [.call (all37_ok r hr c l (hR he))] [6,7,8,10,11] ?_
   refine gk_region env false [] [6,7,8] ?_
   refine gk_ret env ?_
   rw[show runLR r c l=_ from if_pos he,show runXR r c l=_ from if_pos he,he];rfl
theorem terms37_ok (r:Rlm) (hr:FitR r) (c:Crd) (hc:FitCr c) (l:List Trn) (hR:runE r c l=0→RunR (r.firms.length:Int) c l):GC Tryz.prog 13 [rlG r,crdG c,rowTn l] (.tup [rowD (termsRR r c l),iG (runE r c l)]):=by
 refine gc_of_gk Tryz.func13 ?_
 refine gk_region env false [] [2,3,4,6,7] ?_
 refine gk_box 0 ?_
 refine gk_box 1 ?_
 refine gk_region env false [.call (run37_ok r hr c hc l hR)] [2,3,4,6,7,10] ?_
 refine gk_region env false [] [2,3,4,6,7,10,22] ?_
 refine gk_ifn (fun c1=> ?_) (fun c1=> ?_)
 ·try simp only[toN]at c1
  refine gk_region env false [] [2,3,4,6,7] ?_
  refine gk_retE env ?_
  rw[show termsRR r c l= []from if_neg c1]
  exact Ent.tup ⟨Ent.nil,Ent.refl _,trivial⟩
 ·try simp only[toN]at c1
  refine gk_region env false [.call (all37_ok r hr c l (hR c1))] [6,7,11] ?_
  refine gk_region env false [] [6,7] ?_
  refine gk_ret env ?_
  rw[show termsRR r c l=_ from if_pos c1,c1];rfl
end Go.Gh
namespace Go.Gh
open Go Go.Proofs
set_option maxRecDepth 1000000
set_option maxHeartbeats 2000000
set_option linter.unusedSimpArgs false
set_option linter.unusedVariables false
set_option linter.unnecessarySimpa false
set_option linter.unusedSectionVars false
variable [PowTab] [ItoaU]
open Go.RowKit
def absP (n:Int) (c:Crd) (p:RSt×Int):Sta×Int:=(absS n c p.1,p.2)
theorem abs_conf (n:Int) (c:Crd) (x:RSt) (t:Trn):absP n c (confR c x t)=confirmS (absS n c x) t:=by
 unfold confR confirmS absP absS
 by_cases h1:t.by_=c.conf<;>by_cases h2:x.conf=true<;>simp[h1,h2]
theorem abs_pay (n:Int) (c:Crd) (x:RSt) (t:Trn) (hl:0≤x.left) (hm:0≤x.moved):absP n c (payR c x t)=payS (absS n c x) t:=by
 unfold payR payS
 by_cases h1:t.by_=c.iss∨(x.conf=true∧t.by_=c.conf)
 ·rw[if_pos h1,if_pos (show t.by_=(absS n c x).c.iss∨((absS n c x).conf=true∧t.by_=(absS n c x).c.conf)from h1)]
  by_cases h2:wiV t.sum 1 (x.drawn-x.paid)=true
  ·have h2':=wiV_t.1 h2
   rw[if_pos h2,if_neg (show ¬(t.sum<1∨(absS n c x).drawn-(absS n c x).paid<t.sum)by simp only[absS];omega)]
   unfold paidS
   by_cases h3:(x.left+x.moved=0∧x.paid+t.sum=x.drawn)∧0<x.rest
   ·rw[if_pos h3,if_pos (show (absS n c x).left=0∧(absS n c x).moved=0∧(absS n c x).paid+t.sum=(absS n c x).drawn∧0<(absS n c x).rest by simp only[absS];omega)];rfl
   ·rw[if_neg h3,if_neg (show ¬((absS n c x).left=0∧(absS n c x).moved=0∧(absS n c x).paid+t.sum=(absS n c x).drawn∧0<(absS n c x).rest)by simp only[absS];omega)];rfl
  ·have h2':t.sum<1∨x.drawn-x.paid<t.sum:=by have:=wiV_f.1 (by simpa using h2);omega
   rw[if_neg h2,if_pos (show t.sum<1∨(absS n c x).drawn-(absS n c x).paid<t.sum from h2')];rfl
 ·rw[if_neg h1,if_neg (show ¬(t.by_=(absS n c x).c.iss∨((absS n c x).conf=true∧t.by_=(absS n c x).c.conf))from h1)];rfl
theorem abs_trans (n:Int) (c:Crd) (x:RSt) (t:Trn):absP n c (transR n c x t)=transferS (absS n c x) t:=by
 have e3:(wiV t.to_ 0 (n-1)=true)=(inB t.to_ n=true):=propext (by rw[wiV_t,inB_iff];omega)
 have e5:(wiV t.sum 1 x.left=true)=¬(t.sum<1∨x.left<t.sum):=propext (by rw[wiV_t];omega)
 unfold transR transferS absP absS transS
 simp only[e3,e5]
 by_cases h1:t.by_=c.ben∧c.trans=true
 ·by_cases h2:x.second= -1
  ·by_cases h3:inB t.to_ n=true∧t.to_≠c.ben
   ·by_cases h4:c.exp<t.day
    ·simp[h1,h2,h3,h4]
    ·by_cases h5:t.sum<1∨x.left<t.sum
     ·simp[h1,h2,h3,h4,h5]
     ·simp[h1,h2,h3,h4,h5]
   ·simp only[if_pos h1,if_pos h2,if_neg h3]
  ·simp only[if_pos h1,if_neg h2]
 ·simp only[if_neg h1]
theorem map_set_abs {l:List RAm} {no:Nat} {s:Int} (hs:s≠2):(setR l no s).map absA=(l.map absA).set no {(l.map absA).getD no default with pend:=false} :=by
 unfold setR
 rw[List.map_set]
 by_cases h:no<l.length
 ·congr 1
  rw[getD_map' (by exact h)]
  simp only[absA]
  rw[decide_eq_false hs]
 ·rw[List.set_eq_of_length_le (by rw[List.length_map];omega),List.set_eq_of_length_le (by rw[List.length_map];omega)]
theorem abs_amend (n:Int) (c:Crd) (x:RSt) (t:Trn) (h8:x.list.length≤8) (hf:∀d,d∈t.terms→FewD d):absP n c (amendR c x t)=amendS (absS n c x) t:=by
 have e2:=printOk_eq hf
 unfold amendR amendS absP absS
 by_cases h1:t.by_=c.iss
 ·by_cases h2:printOk t.terms=true
  ·by_cases h3:t.sum<0∨1099511627776<t.sum
   ·have h3':¬wiV t.sum 0 1099511627776=true:=by rw[wiV_t];omega
    simp only[e2,if_pos h1,if_pos h2,if_pos h3,if_neg h3']
   ·have h3':wiV t.sum 0 1099511627776=true:=by rw[wiV_t];omega
    by_cases h4:x.list.length=8
    ·simp only[e2,if_pos h1,if_pos h2,if_neg h3,if_pos h3',List.length_map,if_pos h4,if_pos (show 8≤x.list.length by omega)]
    ·simp only[e2,if_pos h1,if_pos h2,if_neg h3,if_pos h3',List.length_map,if_neg h4,if_neg (show ¬8≤x.list.length by omega),List.map_append]
     rfl
  ·simp only[e2,if_pos h1,if_neg h2]
 ·simp only[if_neg h1]
theorem getD_abs {l:List RAm} {i:Nat} (h:i<l.length):(l.map absA).getD i default=absA (l.getD i default):=getD_map' h
theorem abs_take (n:Int) (c:Crd) (x:RSt) (no:Nat) (h:no<x.list.length):absS n c (takeR x no true)=takeS (absS n c x) no:=by
 have e:takeR x no true= {x with list:=setR (setR x.list no 0) no 1,terms:=(x.list.getD no default).terms,left:=x.left+(x.list.getD no default).sum,amended:=x.amended++ [(no:Int)]} :=if_pos rfl
 rw[e]
 have e2:setR (setR x.list no 0) no 1=setR x.list no 1:=by
  unfold setR
  rw[List.set_set]
  congr 1
  have:=setR_getD (s:=0) h
  unfold setR at this
  rw[this]
 simp only[absS,takeS,Int.toNat_natCast,e2,map_set_abs (show (1:Int)≠2 by decide),getD_abs h]
 rfl
theorem abs_drop (n:Int) (c:Crd) (x:RSt) (no:Nat) (h:no<x.list.length):absS n c (takeR x no false)=dropS (absS n c x) no:=by
 have e:takeR x no false= {x with list:=setR x.list no 0} :=if_neg (by simp)
 rw[e]
 simp only[absS,dropS,Int.toNat_natCast,map_set_abs (show (0:Int)≠2 by decide)]
theorem abs_pend {n:Int} {c:Crd} {x:RSt} {t:Trn} :pendE (absS n c x) t=if t.by_=c.ben then if 0≤t.no∧t.no<x.list.length∧(x.list.getD t.no.toNat default).state=2 then 0 else 4 else 18:=by
 unfold pendE
 by_cases h1:t.by_=c.ben
 ·rw[if_pos h1,if_pos (show t.by_=(absS n c x).c.ben from h1)]
  by_cases h2:0≤t.no∧t.no<x.list.length
  ·have hg:((absS n c x).amds.getD t.no.toNat default).pend=decide ((x.list.getD t.no.toNat default).state=2):=by
    show ((x.list.map absA).getD t.no.toNat default).pend=_
    rw[getD_abs (by omega)];rfl
   have hl:((absS n c x).amds.length:Int)=x.list.length:=by simp[absS]
   rw[hg,hl]
   simp only[decide_eq_true_eq]
  ·have hl:((absS n c x).amds.length:Int)=x.list.length:=by simp[absS]
   rw[hl,if_neg (fun h=>h2 ⟨h.1,h.2.1⟩),if_neg (fun h=>h2 ⟨h.1,h.2.1⟩)]
 ·rw[if_neg h1,if_neg (show ¬t.by_=(absS n c x).c.ben from h1)]
theorem abs_acc (n:Int) (c:Crd) (x:RSt) (t:Trn) (hk:t.kind=2):absP n c (ansR c x t)=acceptS (absS n c x) t:=by
 unfold acceptS ansR
 by_cases h1:t.by_=c.ben
 ·by_cases h2:0≤t.no∧t.no<x.list.length
  ·by_cases h3:(x.list.getD t.no.toNat default).state=2
   ·have hp:pendE (absS n c x) t=0:=by rw[abs_pend,if_pos h1,if_pos ⟨h2.1,h2.2,h3⟩]
    rw[if_pos h1,if_pos h2,if_pos h3,if_pos hp]
    by_cases h4:c.exp<t.day
    ·rw[if_pos ⟨hk,h4⟩,if_pos (show (absS n c x).c.exp<t.day from h4)];rfl
    ·rw[if_neg (fun h=>h4 h.2),if_neg (show ¬(absS n c x).c.exp<t.day from h4),decide_eq_true hk]
     have ht:=abs_take n c x t.no.toNat (by omega)
     rw[show ((t.no.toNat:Nat):Int)=t.no by omega]at ht
     rw[absP,ht]
   ·have hp:pendE (absS n c x) t=4:=by rw[abs_pend,if_pos h1,if_neg (fun h=>h3 h.2.2)]
    rw[if_pos h1,if_pos h2,if_neg h3,if_neg (by rw[hp];decide),hp];rfl
  ·have hp:pendE (absS n c x) t=4:=by rw[abs_pend,if_pos h1,if_neg (fun h=>h2 ⟨h.1,h.2.1⟩)]
   rw[if_pos h1,if_neg h2,if_neg (by rw[hp];decide),hp];rfl
 ·have hp:pendE (absS n c x) t=18:=by rw[abs_pend,if_neg h1]
  rw[if_neg h1,if_neg (by rw[hp];decide),hp];rfl
theorem abs_rej (n:Int) (c:Crd) (x:RSt) (t:Trn) (hk:t.kind=3):absP n c (ansR c x t)=rejectS (absS n c x) t:=by
 unfold rejectS ansR
 by_cases h1:t.by_=c.ben
 ·by_cases h2:0≤t.no∧t.no<x.list.length
  ·by_cases h3:(x.list.getD t.no.toNat default).state=2
   ·have hp:pendE (absS n c x) t=0:=by rw[abs_pend,if_pos h1,if_pos ⟨h2.1,h2.2,h3⟩]
    rw[if_pos h1,if_pos h2,if_pos h3,if_pos hp]
    rw[if_neg (fun h=>by omega),decide_eq_false (by omega)]
    have ht:=abs_drop n c x t.no.toNat (by omega)
    rw[show ((t.no.toNat:Nat):Int)=t.no by omega]at ht
    rw[absP,ht]
   ·have hp:pendE (absS n c x) t=4:=by rw[abs_pend,if_pos h1,if_neg (fun h=>h3 h.2.2)]
    rw[if_pos h1,if_pos h2,if_neg h3,if_neg (by rw[hp];decide),hp];rfl
  ·have hp:pendE (absS n c x) t=4:=by rw[abs_pend,if_pos h1,if_neg (fun h=>h2 ⟨h.1,h.2.1⟩)]
   rw[if_pos h1,if_neg h2,if_neg (by rw[hp];decide),hp];rfl
 ·have hp:pendE (absS n c x) t=18:=by rw[abs_pend,if_neg h1]
  rw[if_neg h1,if_neg (by rw[hp];decide),hp];rfl
end Go.Gh
namespace Go.Gh
open Go Go.Proofs
set_option maxRecDepth 1000000
set_option maxHeartbeats 2000000
set_option linter.unusedSimpArgs false
set_option linter.unusedVariables false
set_option linter.unnecessarySimpa false
set_option linter.unusedSectionVars false
variable [PowTab] [ItoaU]
open Go.RowKit
theorem findI_map {α β:Type} [Inhabited α] [Inhabited β] (p:β→Bool) (f:α→β) (l:List α):∀(k i:Nat),l.length-i=k→findI p (l.map f) i=findI (fun x=>p (f x)) l i:=by
 intro k
 induction k with
 |zero=>intro i h;rw[findI,if_neg (by rw[List.length_map];omega),findI,if_neg (by omega)]
 |succ k ih=>
  intro i h
  have a1:findI p (l.map f) i=if p ((l.map f).getD i default)then (i:Int)else findI p (l.map f) (i+1):=by rw[findI,if_pos (by rw[List.length_map];omega)]
  have a2:findI (fun x=>p (f x)) l i=if p (f (l.getD i default))then (i:Int)else findI (fun x=>p (f x)) l (i+1):=by rw[findI,if_pos (by omega)]
  rw[a1,a2,getD_map' (by omega),ih (i+1) (by omega)]
theorem fits_abs (n:Int) (c:Crd) (x:RSt) (a b:Int):fitsR c a b=fitsB (absS n c x) a b:=by
 unfold fitsR fitsB
 show _=bif decide (a=b)then true else bif c.part then decide (a<b)else false
 by_cases h:a=b
 ·rw[decide_eq_true h];rfl
 ·rw[decide_eq_false h]
  cases c.part with
  |false=>rfl
  |true=>exact decide_eq_decide.2 (by omega)
theorem cand_abs (n:Int) (c:Crd) (x:RSt) (t:Trn) (a:RAm):candB (absS n c x) t (absA a)=candR c x t a:=by
 unfold candB candR
 rw[fits_abs n c x]
 rfl
theorem idx_abs (n:Int) (c:Crd) (x:RSt) (t:Trn):noS (absS n c x) t=idxR c x t:=by
 unfold noS idxR
 show findI (candB (absS n c x) t) (x.list.map absA) 0=_
 rw[findI_map _ _ _ _ 0 rfl]
 congr 1
 exact funext fun a=>cand_abs n c x t a
theorem abs_sub (n:Int) (c:Crd) (x:RSt) (t:Trn) (p:Prop) [Decidable p]:absS n c (subR x t p)=subS (absS n c x) t p:=by
 unfold subR subS
 split<;>rfl
theorem amt_abs (n:Int) (c:Crd) (x:RSt) (t:Trn):amtS (absS n c x) t=amtR c x t:=rfl
theorem abs_draw (n:Int) (c:Crd) (x:RSt) (t:Trn):absP n c (drawR c x t)=drawS (absS n c x) t:=by
 unfold drawR drawS
 by_cases h1:¬t.by_=c.ben∧(x.second= -1∨¬x.second=t.by_)
 ·rw[if_pos h1,if_pos (show ¬t.by_=(absS n c x).c.ben∧((absS n c x).second= -1∨¬t.by_=(absS n c x).second)from ⟨h1.1,h1.2.imp id fun h q=>h q.symm⟩)];rfl
 rw[if_neg h1,if_neg (show ¬(¬t.by_=(absS n c x).c.ben∧((absS n c x).second= -1∨¬t.by_=(absS n c x).second))from fun h=>h1 ⟨h.1,h.2.imp id fun h q=>h q.symm⟩)]
 by_cases h2:c.exp<t.day
 ·rw[if_pos h2,if_pos (show (absS n c x).c.exp<t.day from h2)];rfl
 rw[if_neg h2,if_neg (show ¬(absS n c x).c.exp<t.day from h2)]
 by_cases h3:wiV t.sum 1 1099511627776=false
 ·rw[if_pos h3,if_pos (wiV_f.1 h3)];rfl
 have h3':¬(t.sum<1∨1099511627776<t.sum):=fun h=>h3 (wiV_f.2 h)
 rw[if_neg h3,if_neg h3']
 have hg:(fitsB (absS n c x) t.sum (amtS (absS n c x) t)=true∧confV (absS n c x).terms t.docs=true)↔goodR c x t=true:=by
  unfold goodR
  rw[←fits_abs,amt_abs,Bool.cond_false_right,Bool.and_eq_true]
  rfl
 by_cases h4:goodR c x t=true
 ·rw[if_pos h4,if_pos (hg.2 h4),absP,abs_sub];rfl
 rw[if_neg h4,if_neg (fun h=>h4 (hg.1 h)),idx_abs]
 by_cases h5:t.by_=c.ben∧0≤idxR c x t
 ·rw[if_pos h5,if_neg (show ¬(¬t.by_=(absS n c x).c.ben∨idxR c x t<0)from fun h=>h.elim (fun q=>q h5.1) fun q=>by omega),absP,abs_sub,abs_take _ _ _ _ (idxR_lt h5.2)]
  rw[show (((idxR c x t).toNat:Nat):Int)=idxR c x t by omega]
  rfl
 ·rw[if_neg h5,if_pos (show ¬t.by_=(absS n c x).c.ben∨idxR c x t<0 from Decidable.or_iff_not_imp_left.2 fun h=>by
   have h6:t.by_=c.ben:=Decidable.not_not.1 h
   have:¬0≤idxR c x t:=fun q=>h5 ⟨h6,q⟩
   omega)];rfl
theorem abs_act (n:Int) (c:Crd) (x:RSt) (t:Trn) (hk:0≤t.kind∧t.kind≤6) (h8:x.list.length≤8) (hf:∀d,d∈t.terms→FewD d) (hl:0≤x.left) (hm:0≤x.moved):absP n c (actR n c x t)=actS (absS n c x) t:=by
 unfold actR actS
 by_cases k0:t.kind=0
 ·rw[if_pos k0,if_pos k0];exact abs_draw n c x t
 rw[if_neg k0,if_neg k0]
 by_cases k1:t.kind=1
 ·rw[if_pos k1,if_pos k1];exact abs_amend n c x t h8 hf
 rw[if_neg k1,if_neg k1]
 by_cases k2:t.kind=2
 ·rw[if_pos (.inl k2),if_pos k2];exact abs_acc n c x t k2
 rw[if_neg k2]
 by_cases k3:t.kind=3
 ·rw[if_pos (.inr k3),if_pos k3];exact abs_rej n c x t k3
 rw[if_neg (show ¬(t.kind=2∨t.kind=3)by omega),if_neg k3]
 by_cases k4:t.kind=4
 ·rw[if_pos k4,if_pos k4];exact abs_trans n c x t
 rw[if_neg k4,if_neg k4]
 by_cases k5:t.kind=5
 ·rw[if_pos k5,if_pos k5];exact abs_conf n c x t
 rw[if_neg k5,if_neg k5]
 exact abs_pay n c x t hl hm
theorem abs_turn (n:Int) (c:Crd) (x:RSt) (t:Trn) (h8:x.list.length≤8) (hf:∀d,d∈t.terms→FewD d) (hl:0≤x.left) (hm:0≤x.moved):absP n c (turnR n c x t)=turnS (absS n c x) t:=by
 have e1:((wiV t.kind 0 6=true∧wiV t.day 0 100000=true)∧wiV t.by_ 0 (n-1)=true)↔((inB t.kind 7=true∧inB t.day 100001=true)∧inB t.by_ (absS n c x).firms=true):=by
  rw[wiV_t,wiV_t,wiV_t,inB_iff,inB_iff,inB_iff]
  show _↔((_∧_)∧(0≤t.by_∧t.by_<n))
  omega
 unfold turnR turnS
 by_cases h1:(wiV t.kind 0 6=true∧wiV t.day 0 100000=true)∧wiV t.by_ 0 (n-1)=true
 ·rw[if_pos h1,if_pos (e1.1 h1)]
  by_cases h2:t.day<x.day
  ·rw[if_pos h2,if_pos (show t.day<(absS n c x).day from h2)];rfl
  ·rw[if_neg h2,if_neg (show ¬t.day<(absS n c x).day from h2)]
   have ha:=abs_act n c x t (wiV_t.1 h1.1.1) h8 hf hl hm
   have ha1:absS n c (actR n c x t).1=(actS (absS n c x) t).1:=congrArg Prod.fst ha
   have ha2:(actR n c x t).2=(actS (absS n c x) t).2:=congrArg Prod.snd ha
   by_cases h3:(actR n c x t).2=0
   ·rw[if_pos h3,if_pos (ha2▸h3),←ha1];rfl
   ·have h3':¬(actS (absS n c x) t).2=0:=ha2▸h3
    rw[if_neg h3,if_neg h3']
    have he:=err_act h3'
    show (absS n c x,(actR n c x t).2)=_
    rw[ha2]
    exact Prod.ext he.symm rfl
 ·rw[if_neg h1,if_neg (fun h=>h1 (e1.2 h))];rfl
end Go.Gh
namespace Go.Gh
open Go Go.Proofs
set_option maxRecDepth 1000000
set_option maxHeartbeats 2000000
set_option linter.unusedSimpArgs false
set_option linter.unusedVariables false
set_option linter.unnecessarySimpa false
set_option linter.unusedSectionVars false
variable [PowTab] [ItoaU]
open Go.RowKit
theorem few8_set {x:RSt} (h:Few8 x) (no:Nat) (s:Int) (hn:no<x.list.length):∀a,a∈setR x.list no s→a.terms.length≤8:=fun a ha=>by
 unfold setR at ha
 rcases List.mem_or_eq_of_mem_set ha with ha|rfl
 ·exact h.list a ha
 ·exact (show (x.list.getD no default).terms.length≤8 from h.list _ (getD_mem hn))
theorem few8_take {x:RSt} (h:Few8 x) (no:Nat) (acc:Bool) (hn:no<x.list.length):Few8 (takeR x no acc):=by
 unfold takeR
 split
 ·refine ⟨h.list _ (getD_mem hn),?_⟩
  have h2:Few8 {x with list:=setR x.list no 0} :=⟨h.terms,few8_set h no 0 hn⟩
  exact few8_set h2 no 1 (by simp only;rw[setR_len];exact hn)
 ·exact ⟨h.terms,few8_set h no 0 hn⟩
theorem few8_sub {x:RSt} (h:Few8 x) (t:Trn) (p:Prop) [Decidable p]:Few8 (subR x t p):=by
 unfold subR;split<;>exact ⟨h.terms,h.list⟩
theorem few8_act {n:Int} {c:Crd} {x:RSt} {t:Trn} (h:Few8 x) (ht:t.terms.length≤8):Few8 (actR n c x t).1:=by
 unfold actR
 split
 ·unfold drawR
  repeat' split
  all_goals first|exact h|exact few8_sub h t _|skip
  rename_i hq
  exact few8_sub (few8_take h _ true (idxR_lt hq.2)) t _
 split
 ·unfold amendR
  repeat' split
  all_goals first|exact h|skip
  refine ⟨h.terms,fun a ha=> ?_⟩
  rcases List.mem_append.1 ha with ha|ha
  ·exact h.list a ha
  ·rw[List.mem_singleton.1 ha];exact ht
 split
 ·unfold ansR
  repeat' split
  all_goals first|exact h|skip
  rename_i _ hq _ _
  exact few8_take h _ _ (by omega)
 split
 ·unfold transR
  repeat' split
  all_goals first|exact h|exact ⟨h.terms,h.list⟩
 split
 ·unfold confR
  repeat' split
  all_goals first|exact h|exact ⟨h.terms,h.list⟩
 ·unfold payR
  repeat' split
  all_goals first|exact h|exact ⟨h.terms,h.list⟩
theorem few8_turn {n:Int} {c:Crd} {x:RSt} {t:Trn} (h:Few8 x) (ht:t.terms.length≤8):Few8 (turnR n c x t).1:=by
 unfold turnR
 repeat' split
 all_goals first|exact h|skip
 have:=few8_act (n:=n) (c:=c) h ht
 exact ⟨this.terms,this.list⟩
theorem st_abs {r:Rlm} {c:Crd} {l:List Trn} (hc:FitCr c) (h0:crdE r c=0) (hl:l.length≤60) (ht:∀t,t∈l→FitT t) (h8:∀t,t∈l→t.terms.length≤8) (hc8:c.terms.length≤8):∀i,i≤l.length→absS (r.firms.length:Int) c (stR (r.firms.length:Int) c l i)=stF l (sta0 r c) i∧Few8 (stR (r.firms.length:Int) c l i)
 |0,_=>⟨rfl,⟨hc8,fun a ha=>by cases ha⟩⟩
 |i+1,hi=>by
  obtain ⟨h1,h2⟩:=st_abs hc h0 hl ht h8 hc8 i (by omega)
  have hF:=fits_st hc h0 hl ht i (by omega)
  have hA:=acc_st hc h0 hl ht i (by omega)
  rw[←h1]at hF hA
  have hX:=FitX.of hF
  have hm:=getD_mem (l:=l) (i:=i) (by omega)
  have ha:=abs_turn (r.firms.length:Int) c (stR (r.firms.length:Int) c l i) (l.getD i default) hX.list (ht _ hm).terms.2 hA.left hA.moved
  refine ⟨?_,few8_turn h2 (h8 _ hm)⟩
  show absS _ c (turnR _ c (stR _ c l i) (l.getD i default)).1=(turnS (stF l (sta0 r c) i) (l.getD i default)).1
  rw[←h1,←ha];rfl
theorem er_abs {r:Rlm} {c:Crd} {l:List Trn} (hc:FitCr c) (h0:crdE r c=0) (hl:l.length≤60) (ht:∀t,t∈l→FitT t) (h8:∀t,t∈l→t.terms.length≤8) (hc8:c.terms.length≤8) {i:Nat} (hi:i<l.length):erR (r.firms.length:Int) c l i=erF l (sta0 r c) i:=by
 obtain ⟨h1,h2⟩:=st_abs hc h0 hl ht h8 hc8 i (by omega)
 have hF:=fits_st hc h0 hl ht i (by omega)
 have hA:=acc_st hc h0 hl ht i (by omega)
 rw[←h1]at hF hA
 have hX:=FitX.of hF
 have hm:=getD_mem (l:=l) (i:=i) hi
 have ha:=abs_turn (r.firms.length:Int) c (stR (r.firms.length:Int) c l i) (l.getD i default) hX.list (ht _ hm).terms.2 hA.left hA.moved
 show (turnR _ c (stR _ c l i) (l.getD i default)).2=(turnS (stF l (sta0 r c) i) (l.getD i default)).2
 rw[←h1,←ha];rfl
theorem runR_of {r:Rlm} {c:Crd} {l:List Trn} (hc:FitCr c) (h0:crdE r c=0) (hl:l.length≤60) (ht:∀t,t∈l→FitT t) (h8:∀t,t∈l→t.terms.length≤8) (hc8:c.terms.length≤8):RunR (r.firms.length:Int) c l:=
 ⟨hl,ht,fun i hi=>FitX.of (n:=(r.firms.length:Int)) (c:=c) (by rw[(st_abs hc h0 hl ht h8 hc8 i hi).1];exact fits_st hc h0 hl ht i hi),fun i hi=>(st_abs hc h0 hl ht h8 hc8 i hi).2⟩
end Go.Gh
namespace Go.Gh
open Go Go.Proofs
set_option maxRecDepth 1000000
set_option maxHeartbeats 2000000
set_option linter.unusedSimpArgs false
set_option linter.unusedVariables false
set_option linter.unnecessarySimpa false
set_option linter.unusedSectionVars false
variable [PowTab] [ItoaU]
open Go.RowKit
theorem few8_of {r:Rlm} {c:Crd} {l:List Trn} (h:few37V r c l=true) (hl:l.length≤12):∀t,t∈l→t.terms.length≤8:=by
 unfold few37V at h
 split at h
 ·cases h
 ·split at h
  ·rename_i hF
   intro t ht
   obtain ⟨j,hj,rfl⟩:=List.getElem_of_mem ht
   have:=(few37F_spec _ 0 rfl hF hl j (Nat.zero_le _) hj).2
   rw[List.getD_eq_getElem?_getD,List.getElem?_eq_getElem hj]at this
   exact this
  ·cases h
structure Same37 (r:Rlm) (c:Crd) (l:List Trn):Prop where
 run:runE r c l=0→RunR (r.firms.length:Int) c l
 led:runLR r c l=runL r c l
 err:runXR r c l=runX r c l
 tms:termsRR r c l=termsR r c l
theorem same37 {r:Rlm} {c:Crd} {l:List Trn} (h:few37V r c l=true) (hm:MemR r):Same37 r c l:=by
 have hf:=few37_spec h hm
 have key:runE r c l=0→crdE r c=0∧l.length≤60∧(∀t,t∈l→FitT t)∧(∀t,t∈l→t.terms.length≤8)∧c.terms.length≤8:=fun he=>by
  obtain ⟨h1,h2⟩:=runE_0 he
  have hl:l.length≤12:=by have:=hf.fn;omega
  refine ⟨h1,h2,hf.ft h2,few8_of h hl,hf.few.resolve_right fun hr=> ?_⟩
  rw[printOk_eq hf.fc.terms.2]at hr
  unfold crdE at h1
  split at h1
  ·split at h1
   ·split at h1
    ·rw[hr,if_neg (by simp)]at h1;cases h1
    ·cases h1
   ·cases h1
  ·rename_i hq;exact hq h1
 refine ⟨fun he=> ?_,?_,?_,?_⟩
 ·obtain ⟨a1,a2,a3,a4,a5⟩:=key he
  exact runR_of hf.fc a1 a2 a3 a4 a5
 ·unfold runLR runL
  split
  ·rename_i he
   obtain ⟨a1,a2,a3,a4,a5⟩:=key he
   have hs:=(st_abs hf.fc a1 a2 a3 a4 a5 l.length (Nat.le_refl _)).1
   rw[runS_st,←hs];rfl
  ·rfl
 ·unfold runXR runX
  split
  ·rename_i he
   obtain ⟨a1,a2,a3,a4,a5⟩:=key he
   rw[runS_st]
   show (List.range l.length).map _=(List.range' 0 l.length).map _
   rw[←List.range_eq_range']
   refine List.map_congr_left fun i hi=> ?_
   exact er_abs hf.fc a1 a2 a3 a4 a5 (List.mem_range.1 hi)
  ·rfl
 ·unfold termsRR termsR
  split
  ·rename_i he
   obtain ⟨a1,a2,a3,a4,a5⟩:=key he
   have hs:=(st_abs hf.fc a1 a2 a3 a4 a5 l.length (Nat.le_refl _)).1
   rw[runS_st,←hs];rfl
  ·rfl
theorem run_bnd {r:Rlm} {c:Crd} {l:List Trn} (hf:Few37 r c l):(runL r c l).amended.length≤60∧(runX r c l).length≤60∧(termsR r c l).length≤30∧∀d,d∈termsR r c l→FewD d:=by
 by_cases he:runE r c l=0
 ·obtain ⟨h1,h2⟩:=runE_0 he
  have hF:=fits_st hf.fc h1 h2 (hf.ft h2) l.length (Nat.le_refl _)
  have ha:=hF.amended
  have ht:=hF.terms
  rw[runL,if_pos he,runX,if_pos he,termsR,if_pos he,runS_st]
  refine ⟨?_,by simp;omega,ht.1,ht.2⟩
  show (stF l (sta0 r c) l.length).amended.length≤60
  omega
 ·rw[runL,if_neg he,runX,if_neg he,termsR,if_neg he]
  exact ⟨by simp[led0],by simp,by simp,fun d h=>by cases h⟩
theorem ledEq_refl (a:Led):ledEq a a=true:=by simp[ledEq]
theorem tells37_ok (r:Rlm) (hm:MemR r) (c:Crd) (l:List Trn) (hcl:MemC c l) (d fr:Dm) (hfr:fr.text.size≤9223372036854775807):GC Tryz.prog 3 [rlG r,crdG c,rowTn l,dmG d,dmG fr] (bG true):=by
 refine gc_of_gk Tryz.func3 ?_
 refine gk_region env false [] [2,5,6,8,9,10] ?_
 refine gk_box 0 ?_
 refine gk_box 1 ?_
 refine gk_box 2 ?_
 refine gk_box 3 ?_
 refine gk_region env false [.call small37_ok] [2,5,6,8,9,10,11] ?_
 cases hfw:few37V r c l
 ·refine gk_region env false [.call (GC.few37_is hm hcl hfw)] [2,5,6,8,9,10,11,29] ?_
  refine gk_if (fun c1=> ?_) (fun c1=> ?_)
  ·try simp only[bb,toN]at c1
   refine gk_region env false [] [2,5,6,8,9,10,11] ?_
   refine gk_ret env ?_
   rfl
  ·try simp only[bb,toN]at c1
   exact absurd c1 (by simp)
 ·refine gk_region env false [.call (GC.few37_is hm hcl hfw)] [2,5,6,8,9,10,11,29] ?_
  refine gk_if (fun c1=> ?_) (fun c1=> ?_)
  ·try simp only[bb,toN]at c1
   refine gk_region env false [] [2,5,6,8,9,10,11] ?_
   refine gk_ret env ?_
   rfl
  ·try simp only[bb,toN]at c1
   have hf:=few37_spec hfw hm
   have hS:=same37 hfw hm
   have h37:=run37_ok r hf.fr c hf.fc l hS.run
   rw[hS.led,hS.err]at h37
   have t37:=terms37_ok r hf.fr c hf.fc l hS.run
   rw[hS.tms]at t37
   obtain ⟨b1,b2,b3,b4⟩:=run_bnd hf
   refine gk_region env false [.call (Run_ok r hf.fr c hf.fc l hf.ft)] [2,5,6,8,9,10,11,12,13,14] ?_
   refine gk_region env false [.call h37] [2,5,6,8,9,10,11,12,13,14,15,16,17] ?_
   refine gk_region env false [.call (Terms_ok r hf.fr c hf.fc l hf.ft)] [2,5,6,8,9,10,11,12,13,14,15,16,17,18,19] ?_
   refine gk_region env false [.call t37] [5,6,8,9,10,11,12,13,14,15,16,17,18,19,20,21] ?_
   have hf1:=follows_ok d fr hfr
   have hf2:=follows37_ok d fr hfr
   have hbx:∀f,f∈fr::(termsR r c l)→f.text.size≤9223372036854775807:=fun f hfm=>by
    rcases List.mem_cons.1 hfm with h|h
    ·rw[h];exact hfr
    ·have:=(b4 f h).text;omega
   have hct:=hf.fc.terms.1
   have hc1:=covers_ok c.terms (fr::(termsR r c l)) (by omega) (by simp;omega) hbx
   have hc2:=covers37_ok c.terms (fr::(termsR r c l)) (by omega) (by simp;omega) hbx
   rw[show coversF c.terms (fr::(termsR r c l)) 0=coversB c.terms (fr::(termsR r c l))from coversF_eq _ 0 rfl]at hc2
   generalize followsB d fr=bb1 at hf1 hf2
   generalize coversB c.terms (fr::(termsR r c l))=bb2 at hc1 hc2
   refine gk_region env false [.call (sameLed_ok (runL r c l) (runL r c l) (by omega) (by omega)),.call (sameErrs_ok (runX r c l) (runX r c l) (by omega) (by omega)),.call (GC.lift (sameDemands_ok (termsR r c l) (termsR r c l) (by omega) (by omega)))] [5,6,8,9,10,11,18,22] ?_
   cases bb1<;>cases bb2
   ·refine gk_region env false [.call hf1,.call hf2,.el default dmC [fr],.el default dmC (fr::(termsR r c l)),.call hc1,.el default dmC [fr],.el default dmC (fr::(termsR r c l)),.call hc2] [5,6,10,11,22,23] ?_ (hp:=(by simp only[AllP,Int.toNat_natCast];repeat' first|exact trivial|exact EntL.refl _|exact BEntL.refl _|exact rfl|omega|apply And.intro|intro _|(simp[rowL];done)|(simp only[List.length_append,List.length_cons,List.length_nil];omega)|(simp[*];done)))
    refine gk_region env false [.call (ccheck_ok r hf.fr c hf.fc),.call (check37_ok r hf.fr c hf.fc)] [10] ?_
    refine gk_ret env ?_
    rw[ledEq_refl]
    simp[tupG]
   ·refine gk_region env false [.call hf1,.call hf2,.el default dmC [fr],.el default dmC (fr::(termsR r c l)),.call hc1,.el default dmC [fr],.el default dmC (fr::(termsR r c l)),.call hc2] [5,6,10,11,22,23] ?_ (hp:=(by simp only[AllP,Int.toNat_natCast];repeat' first|exact trivial|exact EntL.refl _|exact BEntL.refl _|exact rfl|omega|apply And.intro|intro _|(simp[rowL];done)|(simp only[List.length_append,List.length_cons,List.length_nil];omega)|(simp[*];done)))
    refine gk_region env false [.call (ccheck_ok r hf.fr c hf.fc),.call (check37_ok r hf.fr c hf.fc)] [10] ?_
    refine gk_ret env ?_
    rw[ledEq_refl]
    simp[tupG]
   ·refine gk_region env false [.call hf1,.call hf2,.el default dmC [fr],.el default dmC (fr::(termsR r c l)),.call hc1,.el default dmC [fr],.el default dmC (fr::(termsR r c l)),.call hc2] [5,6,10,11,22,23] ?_ (hp:=(by simp only[AllP,Int.toNat_natCast];repeat' first|exact trivial|exact EntL.refl _|exact BEntL.refl _|exact rfl|omega|apply And.intro|intro _|(simp[rowL];done)|(simp only[List.length_append,List.length_cons,List.length_nil];omega)|(simp[*];done)))
    refine gk_region env false [.call (ccheck_ok r hf.fr c hf.fc),.call (check37_ok r hf.fr c hf.fc)] [10] ?_
    refine gk_ret env ?_
    rw[ledEq_refl]
    simp[tupG]
   ·refine gk_region env false [.call hf1,.call hf2,.el default dmC [fr],.el default dmC (fr::(termsR r c l)),.call hc1,.el default dmC [fr],.el default dmC (fr::(termsR r c l)),.call hc2] [5,6,10,11,22,23] ?_ (hp:=(by simp only[AllP,Int.toNat_natCast];repeat' first|exact trivial|exact EntL.refl _|exact BEntL.refl _|exact rfl|omega|apply And.intro|intro _|(simp[rowL];done)|(simp only[List.length_append,List.length_cons,List.length_nil];omega)|(simp[*];done)))
    refine gk_region env false [.call (ccheck_ok r hf.fr c hf.fc),.call (check37_ok r hf.fr c hf.fc)] [10] ?_
    refine gk_ret env ?_
    rw[ledEq_refl]
    simp[tupG]
end Go.Gh
namespace Go.Gh
open Go Go.Proofs
set_option maxRecDepth 1000000
set_option maxHeartbeats 2000000
set_option linter.unusedSimpArgs false
set_option linter.unusedVariables false
set_option linter.unnecessarySimpa false
set_option linter.unusedSectionVars false
variable [PowTab]
open Go.RowKit
abbrev smalls:ByteArray:=⟨#[48,48,48,49,48,50,48,51,48,52,48,53,48,54,48,55,48,56,48,57,49,48,49,49,49,50,49,51,49,52,49,53,49,54,49,55,49,56,49,57,50,48,50,49,50,50,50,51,50,52,50,53,50,54,50,55,50,56,50,57,51,48,51,49,51,50,51,51,51,52,51,53,51,54,51,55,51,56,51,57,52,48,52,49,52,50,52,51,52,52,52,53,52,54,52,55,52,56,52,57,53,48,53,49,53,50,53,51,53,52,53,53,53,54,53,55,53,56,53,57,54,48,54,49,54,50,54,51,54,52,54,53,54,54,54,55,54,56,54,57,55,48,55,49,55,50,55,51,55,52,55,53,55,54,55,55,55,56,55,57,56,48,56,49,56,50,56,51,56,52,56,53,56,54,56,55,56,56,56,57,57,48,57,49,57,50,57,51,57,52,57,53,57,54,57,55,57,56,57,57]⟩
def u8C (c:Int):List D:=[.sc (.int .u8 c)]
def smV (i:Int):Int:=byteAt smalls i.toNat
def wrL (l:List Int) (k v:Int):List Int:=l.set (1+k.toNat) v
def fm1 (k:Int) (x:Int) (l:List Int):List Int:=if 0<k then wrL l 0 (IntKind.u8.wrap (IntKind.u32.wrap (48+x)))else l
def fm2 (k:Int) (x:Int) (l:List Int):List Int:=if 2≤k then fm1 (k-2) (x/100) (wrL (wrL l (k-1) (smV (x % 100*2+1))) (k-2) (smV (x % 100*2)))else fm1 k x l
def fm4 (k:Int) (x:Int) (l:List Int):List Int:=if 4≤k then fm2 (k-4) (x/10000) (wrL (wrL (wrL (wrL l (k-1) (smV (x % 10000 % 100*2+1))) (k-2) (smV (x % 10000 % 100*2))) (k-3) (smV (x % 10000/100*2+1))) (k-4) (smV (x % 10000/100*2)))else fm2 k x l
def oct (k v:Int) (l:List Int):List Int:=
 wrL (wrL (wrL (wrL (wrL (wrL (wrL (wrL l (k-1) (smV (v % 100000000 % 10000 % 100*2+1))) (k-2) (smV (v % 100000000 % 10000 % 100*2))) (k-3) (smV (v % 100000000 % 10000/100*2+1))) (k-4) (smV (v % 100000000 % 10000/100*2)))
  (k-5) (smV (v % 100000000/10000 % 100*2+1))) (k-6) (smV (v % 100000000/10000 % 100*2))) (k-7) (smV (v % 100000000/10000/100*2+1))) (k-8) (smV (v % 100000000/10000/100*2))
def fm8 (k:Nat) (v:Int) (l:List Int):List Int:=if 8≤k then fm8 (k-8) (v/100000000) (oct k v l)else fm4 k (IntKind.u32.wrap v) l
termination_by k
theorem putU {l:List Int} {i:Nat} {v:Int} :putD (rowL u8C l) i 0 [.sc (.int .u8 v)]=rowL u8C (l.set i v):=by
 by_cases h:i<l.length
 ·have e:(rowL u8C l).getD i []=u8C (l.getD i default):=by
   simp[rowL,List.getD_eq_getElem?_getD,List.getElem?_eq_getElem h]
  rw[putD,e]
  simp only[rowL,List.map_set]
  rfl
 ·rw[putD,List.set_eq_of_length_le (by simp[rowL];omega),List.set_eq_of_length_le (by omega)]
theorem u32_in (v:Int):0≤IntKind.u32.wrap v∧IntKind.u32.wrap v≤4294967295:=by
 rw[IntKind.wrap_u32];omega
theorem wrL_len (l:List Int) (k v:Int):(wrL l k v).length=l.length:=by simp[wrL]
theorem sm_size:smalls.size=200:=by decide
structure FmI (nd:Nat) (u:Int) (l0:List Int) (k:Nat) (v:Int) (l:List Int):Prop where
 hk:k≤nd
 hv:0≤v∧v≤18446744073709551615
 len:l.length=24
 eq:fm8 nd u l0=fm8 k v l
theorem fmt10_ok (nd:Nat) (hn:nd≤20) (u:Int) (hu:0≤u∧u≤18446744073709551615) (l0:List Int) (hl:l0.length=24):GM Tryz.prog 227 [.sl 0 1 1 nd,uG u] [.row 271 1 (0:Int) u8C l0 0] (.tup []) [some (.row 271 1 (0:Int) u8C (fm8 nd u l0) 0)]:=by
 refine gm_of_gk Tryz.func227 ?_
 refine gk_region env false [] [0,1,4] ?_ (hp:=(by simp only[AllP,bb,toN,inR,wrL_len,sm_size];repeat' first|exact trivial|exact Nat.le_refl 1|omega|exact putU.symm|exact EntL.refl _|exact Int.lt_of_lt_of_le (b:=200) (by omega) (Int.le_of_eq (by rfl))|exact rfl|apply And.intro))
 refine gk_loop (α:=Nat×Int×List Int) (fun x=>FmI nd u l0 x.1 x.2.1 x.2.2) (fun x=>[(4,iG x.1),(1,uG x.2.1)]) (fun x=>[(0,some (.row 271 1 (0:Int) u8C x.2.2 0))]) (fun x=>x.1) (nd,u,l0) ⟨Nat.le_refl _,hu,hl,rfl⟩ ?_
 rintro ⟨k,v,l⟩ hI
 dsimp only at*
 have i1:=hI.hk
 have i2:=hI.hv
 have i3:=hI.len
 refine gk_region env false [] [0,1,4,20] ?_ (hp:=(by simp only[AllP,bb,toN,inR,wrL_len,sm_size];repeat' first|exact trivial|exact Nat.le_refl 1|omega|exact putU.symm|exact EntL.refl _|exact Int.lt_of_lt_of_le (b:=200) (by omega) (Int.le_of_eq (by rfl))|exact rfl|apply And.intro))
 refine gk_ifd (fun c1=> ?_) (fun c1=> ?_)
 ·try simp only[toN]at c1
  refine gk_region env false [] [0,1,4,5] ?_ (hp:=(by simp only[AllP,bb,toN,inR,wrL_len,sm_size];repeat' first|exact trivial|exact Nat.le_refl 1|omega|exact putU.symm|exact EntL.refl _|exact Int.lt_of_lt_of_le (b:=200) (by omega) (Int.le_of_eq (by rfl))|exact rfl|apply And.intro))
  refine gk_region env false [] [0,1,4,5] ?_ (hp:=(by simp only[AllP,bb,toN,inR,wrL_len,sm_size];repeat' first|exact trivial|exact Nat.le_refl 1|omega|exact putU.symm|exact EntL.refl _|exact Int.lt_of_lt_of_le (b:=200) (by omega) (Int.le_of_eq (by rfl))|exact rfl|apply And.intro))
  refine gk_region env false [] [0,1,4,6,7] ?_ (hp:=(by simp only[AllP,bb,toN,inR,wrL_len,sm_size];repeat' first|exact trivial|exact Nat.le_refl 1|omega|exact putU.symm|exact EntL.refl _|exact Int.lt_of_lt_of_le (b:=200) (by omega) (Int.le_of_eq (by rfl))|exact rfl|apply And.intro))
  refine gk_region env false [] [0,1,4,6,8,9] ?_ (hp:=(by simp only[AllP,bb,toN,inR,wrL_len,sm_size];repeat' first|exact trivial|exact Nat.le_refl 1|omega|exact putU.symm|exact EntL.refl _|exact Int.lt_of_lt_of_le (b:=200) (by omega) (Int.le_of_eq (by rfl))|exact rfl|apply And.intro))
  refine gk_region env false [] [0,1,4,8,9,10,11] ?_ (hp:=(by simp only[AllP,bb,toN,inR,wrL_len,sm_size];repeat' first|exact trivial|exact Nat.le_refl 1|omega|exact putU.symm|exact EntL.refl _|exact Int.lt_of_lt_of_le (b:=200) (by omega) (Int.le_of_eq (by rfl))|exact rfl|apply And.intro))
  refine gk_region env false [.el (0:Int) u8C (wrL l ((k:Int)-1) (smV (v % 100000000 % 10000 % 100*2+1))),.el (0:Int) u8C (wrL (wrL l ((k:Int)-1) (smV (v % 100000000 % 10000 % 100*2+1))) ((k:Int)-2) (smV (v % 100000000 % 10000 % 100*2)))] [0,1,4,8,10,11] ?_ (hp:=(by simp only[AllP,bb,toN,inR,wrL_len,sm_size];repeat' first|exact trivial|exact Nat.le_refl 1|omega|exact putU.symm|exact EntL.refl _|exact Int.lt_of_lt_of_le (b:=200) (by omega) (Int.le_of_eq (by rfl))|exact rfl|apply And.intro))
  refine gk_region env false [.el (0:Int) u8C (wrL (wrL (wrL l ((k:Int)-1) (smV (v % 100000000 % 10000 % 100*2+1))) ((k:Int)-2) (smV (v % 100000000 % 10000 % 100*2))) ((k:Int)-3) (smV (v % 100000000 % 10000/100*2+1))),.el (0:Int) u8C (wrL (wrL (wrL (wrL l ((k:Int)-1) (smV (v % 100000000 % 10000 % 100*2+1))) ((k:Int)-2) (smV (v % 100000000 % 10000 % 100*2))) ((k:Int)-3) (smV (v % 100000000 % 10000/100*2+1))) ((k:Int)-4) (smV (v % 100000000 % 10000/100*2)))] [0,1,4,10,11] ?_ (hp:=(by simp only[AllP,bb,toN,inR,wrL_len,sm_size];repeat' first|exact trivial|exact Nat.le_refl 1|omega|exact putU.symm|exact EntL.refl _|exact Int.lt_of_lt_of_le (b:=200) (by omega) (Int.le_of_eq (by rfl))|exact rfl|apply And.intro))
  refine gk_region env false [.el (0:Int) u8C (wrL (wrL (wrL (wrL (wrL l ((k:Int)-1) (smV (v % 100000000 % 10000 % 100*2+1))) ((k:Int)-2) (smV (v % 100000000 % 10000 % 100*2))) ((k:Int)-3) (smV (v % 100000000 % 10000/100*2+1))) ((k:Int)-4) (smV (v % 100000000 % 10000/100*2))) ((k:Int)-5) (smV (v % 100000000/10000 % 100*2+1))),.el (0:Int) u8C (wrL (wrL (wrL (wrL (wrL (wrL l ((k:Int)-1) (smV (v % 100000000 % 10000 % 100*2+1))) ((k:Int)-2) (smV (v % 100000000 % 10000 % 100*2))) ((k:Int)-3) (smV (v % 100000000 % 10000/100*2+1))) ((k:Int)-4) (smV (v % 100000000 % 10000/100*2))) ((k:Int)-5) (smV (v % 100000000/10000 % 100*2+1))) ((k:Int)-6) (smV (v % 100000000/10000 % 100*2)))] [0,1,4,10] ?_ (hp:=(by simp only[AllP,bb,toN,inR,wrL_len,sm_size];repeat' first|exact trivial|exact Nat.le_refl 1|omega|exact putU.symm|exact EntL.refl _|exact Int.lt_of_lt_of_le (b:=200) (by omega) (Int.le_of_eq (by rfl))|exact rfl|apply And.intro))
  refine gk_region env false [.el (0:Int) u8C (wrL (wrL (wrL (wrL (wrL (wrL (wrL l ((k:Int)-1) (smV (v % 100000000 % 10000 % 100*2+1))) ((k:Int)-2) (smV (v % 100000000 % 10000 % 100*2))) ((k:Int)-3) (smV (v % 100000000 % 10000/100*2+1))) ((k:Int)-4) (smV (v % 100000000 % 10000/100*2))) ((k:Int)-5) (smV (v % 100000000/10000 % 100*2+1))) ((k:Int)-6) (smV (v % 100000000/10000 % 100*2))) ((k:Int)-7) (smV (v % 100000000/10000/100*2+1))),.el (0:Int) u8C (wrL (wrL (wrL (wrL (wrL (wrL (wrL (wrL l ((k:Int)-1) (smV (v % 100000000 % 10000 % 100*2+1))) ((k:Int)-2) (smV (v % 100000000 % 10000 % 100*2))) ((k:Int)-3) (smV (v % 100000000 % 10000/100*2+1))) ((k:Int)-4) (smV (v % 100000000 % 10000/100*2))) ((k:Int)-5) (smV (v % 100000000/10000 % 100*2+1))) ((k:Int)-6) (smV (v % 100000000/10000 % 100*2))) ((k:Int)-7) (smV (v % 100000000/10000/100*2+1))) ((k:Int)-8) (smV (v % 100000000/10000/100*2)))] [0,1,4] ?_ (hp:=(by simp only[AllP,bb,toN,inR,wrL_len,sm_size];repeat' first|exact trivial|exact Nat.le_refl 1|omega|exact putU.symm|exact EntL.refl _|exact Int.lt_of_lt_of_le (b:=200) (by omega) (Int.le_of_eq (by rfl))|exact rfl|apply And.intro))
  refine gk_region env false [] [0,1,4] ?_ (hp:=(by simp only[AllP,bb,toN,inR,wrL_len,sm_size];repeat' first|exact trivial|exact Nat.le_refl 1|omega|exact putU.symm|exact EntL.refl _|exact Int.lt_of_lt_of_le (b:=200) (by omega) (Int.le_of_eq (by rfl))|exact rfl|apply And.intro))
  refine gk_round ((k-8,v/100000000,oct k v l)) ?_ (hp:=by simp only[AllP];repeat' first|exact trivial|exact EntL.refl _|exact BEntL.refl _|exact rfl|omega|apply And.intro|intro _|(congr 1;omega))
  refine ⟨by simp only;omega,by simp only;omega,by simp only[oct,wrL_len];omega,hI.eq.trans ?_⟩
  rw[fm8,if_pos (by omega)]
 ·try simp only[toN]at c1
  refine gk_region env true [] [0,4,12] ?_
  have hx:=u32_in v
  generalize hxe:IntKind.u32.wrap v=x at hx⊢
  refine gk_region env false [] [0,4,12,99] ?_ (hp:=(by simp only[AllP,bb,toN,inR,wrL_len,sm_size];repeat' first|exact trivial|exact Nat.le_refl 1|omega|exact putU.symm|exact EntL.refl _|exact Int.lt_of_lt_of_le (b:=200) (by omega) (Int.le_of_eq (by rfl))|exact rfl|apply And.intro))
  refine gk_ifd (fun c2=> ?_) (fun c2=> ?_)
  ·try simp only[toN]at c2
   refine gk_region env false [] [0,4,12,13] ?_ (hp:=(by simp only[AllP,bb,toN,inR,wrL_len,sm_size];repeat' first|exact trivial|exact Nat.le_refl 1|omega|exact putU.symm|exact EntL.refl _|exact Int.lt_of_lt_of_le (b:=200) (by omega) (Int.le_of_eq (by rfl))|exact rfl|apply And.intro))
   refine gk_region env false [] [0,4,12,13] ?_ (hp:=(by simp only[AllP,bb,toN,inR,wrL_len,sm_size];repeat' first|exact trivial|exact Nat.le_refl 1|omega|exact putU.symm|exact EntL.refl _|exact Int.lt_of_lt_of_le (b:=200) (by omega) (Int.le_of_eq (by rfl))|exact rfl|apply And.intro))
   refine gk_region env false [] [0,4,12,14,15] ?_ (hp:=(by simp only[AllP,bb,toN,inR,wrL_len,sm_size];repeat' first|exact trivial|exact Nat.le_refl 1|omega|exact putU.symm|exact EntL.refl _|exact Int.lt_of_lt_of_le (b:=200) (by omega) (Int.le_of_eq (by rfl))|exact rfl|apply And.intro))
   refine gk_region env false [.el (0:Int) u8C (wrL l ((k:Int)-1) (smV (x % 10000 % 100*2+1))),.el (0:Int) u8C (wrL (wrL l ((k:Int)-1) (smV (x % 10000 % 100*2+1))) ((k:Int)-2) (smV (x % 10000 % 100*2)))] [0,4,12,14] ?_ (hp:=(by simp only[AllP,bb,toN,inR,wrL_len,sm_size];repeat' first|exact trivial|exact Nat.le_refl 1|omega|exact putU.symm|exact EntL.refl _|exact Int.lt_of_lt_of_le (b:=200) (by omega) (Int.le_of_eq (by rfl))|exact rfl|apply And.intro))
   refine gk_region env false [.el (0:Int) u8C (wrL (wrL (wrL l ((k:Int)-1) (smV (x % 10000 % 100*2+1))) ((k:Int)-2) (smV (x % 10000 % 100*2))) ((k:Int)-3) (smV (x % 10000/100*2+1))),.el (0:Int) u8C (wrL (wrL (wrL (wrL l ((k:Int)-1) (smV (x % 10000 % 100*2+1))) ((k:Int)-2) (smV (x % 10000 % 100*2))) ((k:Int)-3) (smV (x % 10000/100*2+1))) ((k:Int)-4) (smV (x % 10000/100*2)))] [0,4,12] ?_ (hp:=(by simp only[AllP,bb,toN,inR,wrL_len,sm_size];repeat' first|exact trivial|exact Nat.le_refl 1|omega|exact putU.symm|exact EntL.refl _|exact Int.lt_of_lt_of_le (b:=200) (by omega) (Int.le_of_eq (by rfl))|exact rfl|apply And.intro))
   refine gk_region env false [] [0,4,12] ?_ (hp:=(by simp only[AllP,bb,toN,inR,wrL_len,sm_size];repeat' first|exact trivial|exact Nat.le_refl 1|omega|exact putU.symm|exact EntL.refl _|exact Int.lt_of_lt_of_le (b:=200) (by omega) (Int.le_of_eq (by rfl))|exact rfl|apply And.intro))
   refine gk_region env false [] [0,4,12,139] ?_ (hp:=(by simp only[AllP,bb,toN,inR,wrL_len,sm_size];repeat' first|exact trivial|exact Nat.le_refl 1|omega|exact putU.symm|exact EntL.refl _|exact Int.lt_of_lt_of_le (b:=200) (by omega) (Int.le_of_eq (by rfl))|exact rfl|apply And.intro))
   refine gk_ifd (fun c3=> ?_) (fun c3=> ?_)
   ·try simp only[toN]at c3
    refine gk_region env false [] [0,4,12,16] ?_ (hp:=(by simp only[AllP,bb,toN,inR,wrL_len,sm_size];repeat' first|exact trivial|exact Nat.le_refl 1|omega|exact putU.symm|exact EntL.refl _|exact Int.lt_of_lt_of_le (b:=200) (by omega) (Int.le_of_eq (by rfl))|exact rfl|apply And.intro))
    refine gk_region env false [] [0,4,12,16] ?_ (hp:=(by simp only[AllP,bb,toN,inR,wrL_len,sm_size];repeat' first|exact trivial|exact Nat.le_refl 1|omega|exact putU.symm|exact EntL.refl _|exact Int.lt_of_lt_of_le (b:=200) (by omega) (Int.le_of_eq (by rfl))|exact rfl|apply And.intro))
    refine gk_region env false [.el (0:Int) u8C (wrL (wrL (wrL (wrL (wrL l ((k:Int)-1) (smV (x % 10000 % 100*2+1))) ((k:Int)-2) (smV (x % 10000 % 100*2))) ((k:Int)-3) (smV (x % 10000/100*2+1))) ((k:Int)-4) (smV (x % 10000/100*2))) (((k:Int)-4)-1) (smV ((x/10000) % 100*2+1))),.el (0:Int) u8C (wrL (wrL (wrL (wrL (wrL (wrL l ((k:Int)-1) (smV (x % 10000 % 100*2+1))) ((k:Int)-2) (smV (x % 10000 % 100*2))) ((k:Int)-3) (smV (x % 10000/100*2+1))) ((k:Int)-4) (smV (x % 10000/100*2))) (((k:Int)-4)-1) (smV ((x/10000) % 100*2+1))) (((k:Int)-4)-2) (smV ((x/10000) % 100*2)))] [0,4,12] ?_ (hp:=(by simp only[AllP,bb,toN,inR,wrL_len,sm_size];repeat' first|exact trivial|exact Nat.le_refl 1|omega|exact putU.symm|exact EntL.refl _|exact Int.lt_of_lt_of_le (b:=200) (by omega) (Int.le_of_eq (by rfl))|exact rfl|apply And.intro))
    refine gk_region env false [] [0,4,12] ?_ (hp:=(by simp only[AllP,bb,toN,inR,wrL_len,sm_size];repeat' first|exact trivial|exact Nat.le_refl 1|omega|exact putU.symm|exact EntL.refl _|exact Int.lt_of_lt_of_le (b:=200) (by omega) (Int.le_of_eq (by rfl))|exact rfl|apply And.intro))
    refine gk_region env false [] [0,12,161] ?_ (hp:=(by simp only[AllP,bb,toN,inR,wrL_len,sm_size];repeat' first|exact trivial|exact Nat.le_refl 1|omega|exact putU.symm|exact EntL.refl _|exact Int.lt_of_lt_of_le (b:=200) (by omega) (Int.le_of_eq (by rfl))|exact rfl|apply And.intro))
    refine gk_ifd (fun c4=> ?_) (fun c4=> ?_)
    ·try simp only[toN]at c4
     refine gk_region env true [.el (0:Int) u8C (wrL (wrL (wrL (wrL (wrL (wrL (wrL l ((k:Int)-1) (smV (x % 10000 % 100*2+1))) ((k:Int)-2) (smV (x % 10000 % 100*2))) ((k:Int)-3) (smV (x % 10000/100*2+1))) ((k:Int)-4) (smV (x % 10000/100*2))) (((k:Int)-4)-1) (smV ((x/10000) % 100*2+1))) (((k:Int)-4)-2) (smV ((x/10000) % 100*2))) 0 (IntKind.u8.wrap (IntKind.u32.wrap (48+((x/10000)/100)))))] [] ?_ (hp:=(by simp only[AllP,bb,toN,inR,wrL_len,sm_size];repeat' first|exact trivial|exact Nat.le_refl 1|omega|exact putU.symm|exact EntL.refl _|exact Int.lt_of_lt_of_le (b:=200) (by omega) (Int.le_of_eq (by rfl))|exact rfl|apply And.intro))
     refine gk_endM env [] (hp:= ?_)
     simp only[AllP]
     rw[hI.eq,fm8,if_neg (by omega),hxe,fm4,if_pos (by omega),fm2,if_pos (by omega),fm1,if_pos (by omega)]
    ·try simp only[toN]at c4
     refine gk_endM env [] (hp:= ?_)
     simp only[AllP]
     rw[hI.eq,fm8,if_neg (by omega),hxe,fm4,if_pos (by omega),fm2,if_pos (by omega),fm1,if_neg (by omega)]
   ·try simp only[toN]at c3
    refine gk_region env false [] [0,12,161] ?_ (hp:=(by simp only[AllP,bb,toN,inR,wrL_len,sm_size];repeat' first|exact trivial|exact Nat.le_refl 1|omega|exact putU.symm|exact EntL.refl _|exact Int.lt_of_lt_of_le (b:=200) (by omega) (Int.le_of_eq (by rfl))|exact rfl|apply And.intro))
    refine gk_ifd (fun c5=> ?_) (fun c5=> ?_)
    ·try simp only[toN]at c5
     refine gk_region env true [.el (0:Int) u8C (wrL (wrL (wrL (wrL (wrL l ((k:Int)-1) (smV (x % 10000 % 100*2+1))) ((k:Int)-2) (smV (x % 10000 % 100*2))) ((k:Int)-3) (smV (x % 10000/100*2+1))) ((k:Int)-4) (smV (x % 10000/100*2))) 0 (IntKind.u8.wrap (IntKind.u32.wrap (48+(x/10000)))))] [] ?_ (hp:=(by simp only[AllP,bb,toN,inR,wrL_len,sm_size];repeat' first|exact trivial|exact Nat.le_refl 1|omega|exact putU.symm|exact EntL.refl _|exact Int.lt_of_lt_of_le (b:=200) (by omega) (Int.le_of_eq (by rfl))|exact rfl|apply And.intro))
     refine gk_endM env [] (hp:= ?_)
     simp only[AllP]
     rw[hI.eq,fm8,if_neg (by omega),hxe,fm4,if_pos (by omega),fm2,if_neg (by omega),fm1,if_pos (by omega)]
    ·try simp only[toN]at c5
     refine gk_endM env [] (hp:= ?_)
     simp only[AllP]
     rw[hI.eq,fm8,if_neg (by omega),hxe,fm4,if_pos (by omega),fm2,if_neg (by omega),fm1,if_neg (by omega)]
  ·try simp only[toN]at c2
   refine gk_region env false [] [0,4,12,139] ?_ (hp:=(by simp only[AllP,bb,toN,inR,wrL_len,sm_size];repeat' first|exact trivial|exact Nat.le_refl 1|omega|exact putU.symm|exact EntL.refl _|exact Int.lt_of_lt_of_le (b:=200) (by omega) (Int.le_of_eq (by rfl))|exact rfl|apply And.intro))
   refine gk_ifd (fun c6=> ?_) (fun c6=> ?_)
   ·try simp only[toN]at c6
    refine gk_region env false [] [0,4,12,16] ?_ (hp:=(by simp only[AllP,bb,toN,inR,wrL_len,sm_size];repeat' first|exact trivial|exact Nat.le_refl 1|omega|exact putU.symm|exact EntL.refl _|exact Int.lt_of_lt_of_le (b:=200) (by omega) (Int.le_of_eq (by rfl))|exact rfl|apply And.intro))
    refine gk_region env false [] [0,4,12,16] ?_ (hp:=(by simp only[AllP,bb,toN,inR,wrL_len,sm_size];repeat' first|exact trivial|exact Nat.le_refl 1|omega|exact putU.symm|exact EntL.refl _|exact Int.lt_of_lt_of_le (b:=200) (by omega) (Int.le_of_eq (by rfl))|exact rfl|apply And.intro))
    refine gk_region env false [.el (0:Int) u8C (wrL l ((k:Int)-1) (smV (x % 100*2+1))),.el (0:Int) u8C (wrL (wrL l ((k:Int)-1) (smV (x % 100*2+1))) ((k:Int)-2) (smV (x % 100*2)))] [0,4,12] ?_ (hp:=(by simp only[AllP,bb,toN,inR,wrL_len,sm_size];repeat' first|exact trivial|exact Nat.le_refl 1|omega|exact putU.symm|exact EntL.refl _|exact Int.lt_of_lt_of_le (b:=200) (by omega) (Int.le_of_eq (by rfl))|exact rfl|apply And.intro))
    refine gk_region env false [] [0,4,12] ?_ (hp:=(by simp only[AllP,bb,toN,inR,wrL_len,sm_size];repeat' first|exact trivial|exact Nat.le_refl 1|omega|exact putU.symm|exact EntL.refl _|exact Int.lt_of_lt_of_le (b:=200) (by omega) (Int.le_of_eq (by rfl))|exact rfl|apply And.intro))
    refine gk_region env false [] [0,12,161] ?_ (hp:=(by simp only[AllP,bb,toN,inR,wrL_len,sm_size];repeat' first|exact trivial|exact Nat.le_refl 1|omega|exact putU.symm|exact EntL.refl _|exact Int.lt_of_lt_of_le (b:=200) (by omega) (Int.le_of_eq (by rfl))|exact rfl|apply And.intro))
    refine gk_ifd (fun c7=> ?_) (fun c7=> ?_)
    ·try simp only[toN]at c7
     refine gk_region env true [.el (0:Int) u8C (wrL (wrL (wrL l ((k:Int)-1) (smV (x % 100*2+1))) ((k:Int)-2) (smV (x % 100*2))) 0 (IntKind.u8.wrap (IntKind.u32.wrap (48+(x/100)))))] [] ?_ (hp:=(by simp only[AllP,bb,toN,inR,wrL_len,sm_size];repeat' first|exact trivial|exact Nat.le_refl 1|omega|exact putU.symm|exact EntL.refl _|exact Int.lt_of_lt_of_le (b:=200) (by omega) (Int.le_of_eq (by rfl))|exact rfl|apply And.intro))
     refine gk_endM env [] (hp:= ?_)
     simp only[AllP]
     rw[hI.eq,fm8,if_neg (by omega),hxe,fm4,if_neg (by omega),fm2,if_pos (by omega),fm1,if_pos (by omega)]
    ·try simp only[toN]at c7
     refine gk_endM env [] (hp:= ?_)
     simp only[AllP]
     rw[hI.eq,fm8,if_neg (by omega),hxe,fm4,if_neg (by omega),fm2,if_pos (by omega),fm1,if_neg (by omega)]
   ·try simp only[toN]at c6
    refine gk_region env false [] [0,12,161] ?_ (hp:=(by simp only[AllP,bb,toN,inR,wrL_len,sm_size];repeat' first|exact trivial|exact Nat.le_refl 1|omega|exact putU.symm|exact EntL.refl _|exact Int.lt_of_lt_of_le (b:=200) (by omega) (Int.le_of_eq (by rfl))|exact rfl|apply And.intro))
    refine gk_ifd (fun c8=> ?_) (fun c8=> ?_)
    ·try simp only[toN]at c8
     refine gk_region env true [.el (0:Int) u8C (wrL l 0 (IntKind.u8.wrap (IntKind.u32.wrap (48+x))))] [] ?_ (hp:=(by simp only[AllP,bb,toN,inR,wrL_len,sm_size];repeat' first|exact trivial|exact Nat.le_refl 1|omega|exact putU.symm|exact EntL.refl _|exact Int.lt_of_lt_of_le (b:=200) (by omega) (Int.le_of_eq (by rfl))|exact rfl|apply And.intro))
     refine gk_endM env [] (hp:= ?_)
     simp only[AllP]
     rw[hI.eq,fm8,if_neg (by omega),hxe,fm4,if_neg (by omega),fm2,if_neg (by omega),fm1,if_pos (by omega)]
    ·try simp only[toN]at c8
     refine gk_endM env [] (hp:= ?_)
     simp only[AllP]
     rw[hI.eq,fm8,if_neg (by omega),hxe,fm4,if_neg (by omega),fm2,if_neg (by omega),fm1,if_neg (by omega)]
theorem smV_in (i:Int):0≤smV i∧smV i≤255:=by
 unfold smV byteAt
 have:=(smalls.data.toList.getD i.toNat 0).toNat_lt
 constructor<;>first|omega|skip
end Go.Gh
