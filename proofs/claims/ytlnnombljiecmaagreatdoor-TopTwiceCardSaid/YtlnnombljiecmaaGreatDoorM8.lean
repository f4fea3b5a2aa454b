/- Walks by the logic of calls, and plain laws (several texts in one). -/
import Derived.Test.YtlnnombljiecmaaGreatDoorM7
import Derived.Test.YtlnnombljiecmaaGreatDoorM4
import Derived.Test.YtlnnombljiecmaaGreatDoorM6
import Derived.Test.YtlnnombljiecmaaGreatDoorGh3
import Derived.Test.YtlnnombljiecmaaGreatDoorRows
import Derived.Test.YtlnnombljiecmaaGreatDoorCards
import Derived.Test.YtlnnombljiecmaaGreatDoorTie
import Derived.ProofKit
import Derived.OpenShut
import Derived.ShutString
import Derived.ChangeOld
import Derived.Deep.Slices
import Derived.Deep.Fields
import Derived.ChangeSame
import Derived.HandedShaped
import Derived.Lib.LaidTab
import Derived.LaidMore
import Derived.Stop.Joined
import Derived.Stop.LaidErr
import Derived.SevenTiedAt
import Derived.Lay
import Derived.JoinedTies
import Derived.JoinedOf
import Derived.KernelRfl
namespace Go.Gh
open Go Go.Proofs
open Go.IntKind (i64)
set_option maxRecDepth 1000000
set_option maxHeartbeats 2000000
set_option linter.unusedSimpArgs false
set_option linter.unusedVariables false
set_option linter.unnecessarySimpa false
set_option linter.unusedSectionVars false
variable [Dep]
open Go.RowKit
structure MemF (f:Fil):Prop where
 bF:f.bF.length<=1954687338211
 bH:f.bH.length<=8796093021952
 acts:f.acts.length<=1954687338211
 facts:f.facts.length<=5864062014634
theorem ZEt (f:Fil) (day:Int) (h:MemF f):GC Tryz.prog 13 [fiG f,iG day] (fiG (atV f day)):=ZBa f day h.1 h.2 h.3 h.4
def YF (r:Rlm) (bK:Int) (f:Fil) (sign:Int) (to_:Int) (sum:Int) (day:Int) (k1:Nat):Bool:=if k1<(ZE r bK (ZR f ((i64.wrap sign).tmod (((atV f day).bF).length:Int)) ((i64.wrap to_).tmod (r.bC.length:Int)) sum day) day).length then if (zKa (ZE r bK f day) ((ZE r bK (ZR f ((i64.wrap sign).tmod (((atV f day).bF).length:Int)) ((i64.wrap to_).tmod (r.bC.length:Int)) sum day) day).getD k1 dF))<(zKa (ZE r bK (ZR f ((i64.wrap sign).tmod (((atV f day).bF).length:Int)) ((i64.wrap to_).tmod (r.bC.length:Int)) sum day) day) ((ZE r bK (ZR f ((i64.wrap sign).tmod (((atV f day).bF).length:Int)) ((i64.wrap to_).tmod (r.bC.length:Int)) sum day) day).getD k1 dF))then false else if (bif decide (((ZE r bK f day).length:Int)<=(k1:Int))then (bif (!decide ((((ZE r bK (ZR f ((i64.wrap sign).tmod (((atV f day).bF).length:Int)) ((i64.wrap to_).tmod (r.bC.length:Int)) sum day) day).getD k1 dF).bI)=((((atV f day).bF).getD (((i64.wrap sign).tmod (((atV f day).bF).length:Int)).toNat) dF).who)))then true else (!decide ((((ZE r bK (ZR f ((i64.wrap sign).tmod (((atV f day).bF).length:Int)) ((i64.wrap to_).tmod (r.bC.length:Int)) sum day) day).getD k1 dF).by_)=((i64.wrap sign).tmod (((atV f day).bF).length:Int)))))else false)=true then false else if (bif (bif (bif decide ((k1:Int)<((ZE r bK f day).length:Int))then decide ((((ZE r bK f day).getD k1 dF).bI)=((i64.wrap to_).tmod (r.bC.length:Int)))else false)then (!decide (((i64.wrap to_).tmod (r.bC.length:Int))=((((atV f day).bF).getD (((i64.wrap sign).tmod (((atV f day).bF).length:Int)).toNat) dF).who)))else false)then (!decide ((((ZE r bK (ZR f ((i64.wrap sign).tmod (((atV f day).bF).length:Int)) ((i64.wrap to_).tmod (r.bC.length:Int)) sum day) day).getD k1 dF).sum)=(mxI 0 (i64.wrap ((((ZE r bK f day).getD k1 dF).sum)-sum)))))else false)=true then false else YF r bK f sign to_ sum day (k1+1)else ZAv
termination_by (ZE r bK (ZR f ((i64.wrap sign).tmod (((atV f day).bF).length:Int)) ((i64.wrap to_).tmod (r.bC.length:Int)) sum day) day).length-k1
def jg (r:Rlm) (bK:Int) (f:Fil) (sign:Int) (to_:Int) (sum:Int) (day:Int):Bool:=if (bif (bif (bif (bif (bif (!(zBw r f))then true else decide ((((atV f day).bF).length:Int)=0))then true else decide ((r.bC.length:Int)=0))then true else decide (sum<1))then true else decide (1099511627776<sum))then true else decide (100000<day))=true then ZAv else if (bif (!decide ((vq r (ZR f ((i64.wrap sign).tmod (((atV f day).bF).length:Int)) ((i64.wrap to_).tmod (r.bC.length:Int)) sum day))=0))then true else decide (((ZE r bK (ZR f ((i64.wrap sign).tmod (((atV f day).bF).length:Int)) ((i64.wrap to_).tmod (r.bC.length:Int)) sum day) day).length:Int)<((ZE r bK f day).length:Int)))=true then false else YF r bK f sign to_ sum day 0
theorem zOk (r:Rlm) (bK:Int) (f:Fil) (sign:Int) (to_:Int) (sum:Int) (day:Int) (hm:MemX r) (hL:MemF f) (hs:0<=sign/\sign<=255) (ht:0<=to_/\to_<=255):GC Tryz.prog 5 [rlG r,iG bK,fiG f,cG sign,cG to_,iG sum,iG day] (bG (jg r bK f sign to_ sum day)):=by
 have hw0:i64.wrap sign=sign:=zT (by unfold inR;omega)
 have hw1:i64.wrap to_=to_:=zT (by unfold inR;omega)
 have hLs:=hL.bF
 refine zA Tryz.func5 ?_
 refine gE [1,3,4,5,6,7,9,14] ?_
 refine gR [.call (zXv)] [1,3,4,5,6,7,9,14,15] ?_
 refine gR [.call (ZEt f day hL)] [1,3,4,5,6,7,9,14,15,16] ?_
 refine gR [.call (zYz r f t12)] [1,3,4,5,6,7,9,14,15,16,55] ?_
 refine zF ?_ ?_<;>intro c1<;>try simp only[bb,toN]at c1
 ·refine gE [1,3,4,5,6,7,9,14,15,16] ?_
  refine gT ?_
  rw[jg,iP (by (try simp only[bb,toN]);exact c1)];rfl
 have hq0:=c1
 have hq:zBw r f=true:=by first|exact c1.1|exact c1.1.1|exact c1.1.1.1|exact c1.1.1.1.1|exact c1.1.1.1.1.1
 have hgd:=Wx hm hq
 have hR:=hgd.rr
 have hF:=hgd.fi
 have hr:=hR.right.fit
 have hB:=hgd.ck.backs hr
 have hd:=hgd.ck.rises hr
 have hw:=hgd.ck.whos hr
 have hp:=(qw hgd.ck.bill).pay
 have g1:=hF.bF
 have g2:=hF.bH
 have g3:=hF.acts
 have g4:=hF.facts
 have n1:=zHw r bK f day hgd.s20 (by have:=hgd.a30;omega)
 have hF2:=hF.at_ day
 have g1a:=hF2.bF
 have g3a:=hF2.acts
 have hal:=(zUq f day).1
 have hf3:=hr.bC
 have hk:=qn (a:=i64.wrap sign) (b:=((atV f day).bF.length:Int)) t11 t11
 have hk2:=qn (a:=i64.wrap to_) (b:=(r.bC.length:Int)) t11 t11
 refine zG env true [] [1,4,5,6,7,9,14,15,16,17] ?_
 refine zG env true [] [1,5,6,7,9,14,15,16,17,18] ?_
 have hpg:=XS hgd ((i64.wrap sign).tmod ((atV f day).bF.length:Int)) ((i64.wrap to_).tmod (r.bC.length:Int)) sum day
 have p1:=hpg.fi
 have p2:=hpg.backs
 have p3:=hpg.rises
 have p4:=hpg.whos
 have p5:=hpg.pay
 have n2:=zHw r bK (ZR f ((i64.wrap sign).tmod ((atV f day).bF.length:Int)) ((i64.wrap to_).tmod (r.bC.length:Int)) sum day) day hpg.s20 hpg.a31
 refine gR [.call (zQd f ((i64.wrap sign).tmod (((atV f day).bF).length:Int)) ((i64.wrap to_).tmod (r.bC.length:Int)) sum day t12 t16)] [1,5,6,7,9,14,15,16,17,18,19] ?_
 refine gR [.call (Hu r bK f day hR t12 t12 t12 t12 t12)] [1,5,6,7,14,15,16,17,18,19,20] ?_
 refine gR [.call (Hu r bK (ZR f ((i64.wrap sign).tmod (((atV f day).bF).length:Int)) ((i64.wrap to_).tmod (r.bC.length:Int)) sum day) day hR t12 t12 t12 t12 t12)] [5,7,14,15,16,17,18,19,20,21] ?_
 refine gR [.call (zZs r (ZR f ((i64.wrap sign).tmod (((atV f day).bF).length:Int)) ((i64.wrap to_).tmod (r.bC.length:Int)) sum day) t12 t12)] [5,14,15,16,17,18,20,21,95] ?_
 refine zF ?_ ?_<;>intro c2<;>try simp only[bb,toN]at c2
 ·refine gE [5,14,15,16,17,18,20,21] ?_
  refine gT ?_
  rw[jg,iN (by (try simp only[bb,toN]);exact c1),iP (by (try simp only[bb,toN]);exact c2)];rfl
 refine gE [5,14,15,17,18,20,21,22] ?_
 refine gE [5,14,15,17,18,20,21,22,23] ?_
 refine zI (α:=Nat) (fun x=>x<=(ZE r bK (ZR f ((i64.wrap sign).tmod (((atV f day).bF).length:Int)) ((i64.wrap to_).tmod (r.bC.length:Int)) sum day) day).length/\YF r bK f sign to_ sum day 0=YF r bK f sign to_ sum day x) (fun x=>[(23,iG x)]) (fun x=>[]) (fun x=>(ZE r bK (ZR f ((i64.wrap sign).tmod (((atV f day).bF).length:Int)) ((i64.wrap to_).tmod (r.bC.length:Int)) sum day) day).length-x) 0 ⟨by (try simp only[]);omega,rfl⟩ ?_ (hp:=t40)
 rintro k1 ⟨hi1,he⟩
 refine gE [5,14,15,17,18,20,21,22,23,105] ?_
 refine zB ?_ ?_<;>intro c3<;>try simp only[toN]at c3
 ·refine gR [.call (zHm (ZE r bK (ZR f ((i64.wrap sign).tmod (((atV f day).bF).length:Int)) ((i64.wrap to_).tmod (r.bC.length:Int)) sum day) day) ((ZE r bK (ZR f ((i64.wrap sign).tmod (((atV f day).bF).length:Int)) ((i64.wrap to_).tmod (r.bC.length:Int)) sum day) day).getD k1 dF) t11),.call (zHm (ZE r bK f day) ((ZE r bK (ZR f ((i64.wrap sign).tmod (((atV f day).bF).length:Int)) ((i64.wrap to_).tmod (r.bC.length:Int)) sum day) day).getD k1 dF) t11)] [5,14,15,17,18,20,21,22,23,120] ?_
  refine zB ?_ ?_<;>intro c4<;>try simp only[toN]at c4
  ·refine gE [5,14,15,17,18,20,21,22,23] ?_
   refine gT ?_
   rw[jg,iN (by (try simp only[bb,toN]);exact c1),iN (by (try simp only[bb,toN]);exact c2),he,YF,iP (show k1<(ZE r bK (ZR f ((i64.wrap sign).tmod (((atV f day).bF).length:Int)) ((i64.wrap to_).tmod (r.bC.length:Int)) sum day) day).length by omega),iP c4];rfl
  refine gE [5,14,15,17,18,20,21,22,23,142] ?_
  refine zF ?_ ?_<;>intro c5<;>try simp only[bb,toN]at c5
  ·refine gE [5,14,15,17,18,20,21,22,23] ?_
   refine gT ?_
   rw[jg,iN (by (try simp only[bb,toN]);exact c1),iN (by (try simp only[bb,toN]);exact c2),he,YF,iP (show k1<(ZE r bK (ZR f ((i64.wrap sign).tmod (((atV f day).bF).length:Int)) ((i64.wrap to_).tmod (r.bC.length:Int)) sum day) day).length by omega),iQ c4,iP (by (try simp only[bb,toN]);exact c5)];rfl
  refine zG env true [] [5,14,15,17,18,20,21,22,23,176] ?_
  refine zF ?_ ?_<;>intro c6<;>try simp only[bb,toN]at c6
  ·refine gE [5,14,15,17,18,20,21,22,23] ?_
   refine gT ?_
   rw[jg,iN (by (try simp only[bb,toN]);exact c1),iN (by (try simp only[bb,toN]);exact c2),he,YF,iP (show k1<(ZE r bK (ZR f ((i64.wrap sign).tmod (((atV f day).bF).length:Int)) ((i64.wrap to_).tmod (r.bC.length:Int)) sum day) day).length by omega),iQ c4,iN (by (try simp only[bb,toN]);exact c5),iP (by (try simp only[bb,toN]);exact c6)];rfl
  refine gE [5,14,15,17,18,20,21,22,23] ?_
  refine zD (k1+1) ?_ (hp:=t40)
  refine ⟨by (try simp only[]);omega,he.trans ?_⟩
  rw[YF,iP (show k1<(ZE r bK (ZR f ((i64.wrap sign).tmod (((atV f day).bF).length:Int)) ((i64.wrap to_).tmod (r.bC.length:Int)) sum day) day).length by omega),iQ c4,iN (by (try simp only[bb,toN]);exact c5),iN (by (try simp only[bb,toN]);exact c6)]
  try rfl
 refine gE [14] ?_
 refine gT ?_
 rw[jg,iN (by (try simp only[bb,toN]);exact c1),iN (by (try simp only[bb,toN]);exact c2),he,YF,iQ (show ¬(k1<(ZE r bK (ZR f ((i64.wrap sign).tmod (((atV f day).bF).length:Int)) ((i64.wrap to_).tmod (r.bC.length:Int)) sum day) day).length)by omega)];rfl
theorem zOn {l:List Clm} (hl:yV l) (hn:l.length<=10000) (c:Clm):zKa l c=YN l c:=by
 have:∀(n i:Nat) (a:Int),l.length-i=n->i<=l.length->0<=a->a<=(i:Int)*1099511627776->JV l c a i=a+YN (l.drop i) c:=by
  intro n
  induction n with
  |zero=>
   intro i a hi hil h0 h1
   have hS:¬i<l.length:=by omega
   unfold JV
   rw[iQ hS,show i=l.length by omega,List.drop_length]
   show a=a+0
   omega
  |succ n ih=>
   intro i a hi hil h0 h1
   have hS:i<l.length:=by omega
   have e3:l.drop i=l.getD i dF::l.drop (i+1):=by rw[List.drop_eq_getElem_cons hS,List.getD_eq_getElem?_getD,List.getElem?_eq_getElem hS];rfl
   have hf:=hl _ (zJ hS)
   unfold JV
   rw[iP hS,e3]
   show _=a+((if Yy c (l.getD i dF)=true then (l.getD i dF).sum else 0)+YN (l.drop (i+1)) c)
   generalize l.getD i dF=x at*
   obtain ⟨f1,f2⟩:=hf
   have e:Yy c x=(bif (bif decide (x.bJ=c.bJ)then decide (x.part=c.part)else false)then decide (x.sign=c.sign)else false):=by
    unfold Yy
    cases decide (x.bJ=c.bJ)<;>cases decide (x.part=c.part)<;>rfl
   rw[e]
   split
   ·have ew:i64.wrap (a+x.sum)=a+x.sum:=zT (by unfold inR;omega)
    rw[ew,ih _ _ t11 t11 t11 t11];omega
   rw[ih _ _ t11 t11 t11 t11];omega
 have h:=this _ 0 0 rfl (Nat.zero_le _) t11 t11
 rw[List.drop_zero]at h
 unfold zKa
 rw[h];omega
theorem zOl {r:Rlm} (hm:MemX r) (bK:Int) (f:Fil) {sign to_:Int} (hs:0<=sign/\sign<=255) (ht:0<=to_/\to_<=255) (sum day:Int):jg r bK f sign to_ sum day=true:=by
 have hw0:i64.wrap sign=sign:=zT (by unfold inR;omega)
 have hw1:i64.wrap to_=to_:=zT (by unfold inR;omega)
 unfold jg
 split
 ·rfl
 rename_i c1
 rw[Bool.not_eq_true]at c1
 simp only[bb]at c1
 have hgd:=Wx hm c1.1.1.1.1.1
 have hr:=hgd.rr.right.fit
 have hfine:=zPo r bK f day (hgd.ck.sums hr)
 have ha30:=hgd.a30
 have hk:=qn (a:=i64.wrap sign) (b:=((atV f day).bF.length:Int)) t11 t11
 have hk2:=qn (a:=i64.wrap to_) (b:=(r.bC.length:Int)) t11 t11
 generalize hK:(i64.wrap sign).tmod ((atV f day).bF.length:Int)=K at*
 generalize hT:(i64.wrap to_).tmod (r.bC.length:Int)=T at*
 obtain ⟨q1,p,hp1,hp2,hp3,hp4,hp5⟩:=zKw hgd t11 bK (day:=day) t11 (i:=K) (to_:=T) (sum:=sum) hk ⟨hk2.1,by omega⟩ ⟨by omega,by omega⟩
 have hpg:=XS hgd K T sum day
 have n1:=zHw r bK f day hgd.s20 t11
 have n2:=zHw r bK (ZR f K T sum day) day hpg.s20 hpg.a31
 generalize hq:((atV f day).bF.getD K.toNat dF).kind=q at*
 generalize hst:(!((atV f day).bF.any fun y=>vN y p))=str at*
 have hln:=(Hv (ZE r bK f day) p q str).1
 have hfm:=XO p q str hfine
 rw[<-hp5]at hln hfm
 rw[iQ t30]
 have:∀n k,(ZE r bK (ZR f K T sum day) day).length-k=n->YF r bK f sign to_ sum day k=true:=by
  intro n
  induction n with
  |zero=>
   intro k hn
   have hS:¬k<(ZE r bK (ZR f K T sum day) day).length:=by omega
   unfold YF
   rw[hK,hT,iQ hS];rfl
  |succ n ih=>
   intro k hn
   have hS:k<(ZE r bK (ZR f K T sum day) day).length:=by omega
   have hat:=zWv p q str (ZE r bK f day) k
   have htt:=zPx p q str hfine ((ZE r bK (ZR f K T sum day) day).getD k dF)
   rw[<-hp5]at hat htt
   unfold YF
   rw[hK,hT,iP hS,ih _ t11,zOn hfine n1,zOn hfm n2,iQ t11,iQ,iQ]
   ·rw[Bool.not_eq_true]
    simp only[bb]
    by_cases hkl:k<(ZE r bK f day).length
    ·by_cases hc:((ZE r bK f day).getD k dF).bI=T
     ·by_cases hw:T=((atV f day).bF.getD K.toNat dF).who
      ·exact .inl (.inr hw)
      refine .inr ?_
      have h1:=(hat.1 hkl).2 (by rw[hp1,hc];exact hw)
      rw[h1]
      have hfx:=hfine _ (zJ hkl)
      have hsx:=uJ p str hfx
      have hrx:=uK p hfx
      have hme:qf p str ((ZE r bK f day).getD k dF)=true:=by
       unfold qf;rw[hp3,decide_eq_true hc];rfl
      rw[hme,iP rfl]at hsx
      rw[hsx]
      obtain ⟨f1,f2⟩:=hfx
      have ew:i64.wrap (((ZE r bK f day).getD k dF).sum-sum)=((ZE r bK f day).getD k dF).sum-sum:=zT (by unfold inR;omega)
      rw[ew]
      rw[hp4]at hrx
      have h2:=hrx.2.2
      unfold mxI
      split at h2<;>(try split at h2)<;>split<;>omega
     exact .inl (.inl (.inr hc))
    exact .inl (.inl (.inl t11))
   rw[Bool.not_eq_true]
   simp only[bb]
   by_cases hkl:k<(ZE r bK f day).length
   ·exact .inl t11
   have h1:=hat.2 t11 hS
   rw[hp1,hp2]at h1
   exact .inr h1
 exact this _ 0 rfl
end Go.Gh
namespace Go.Gh
open Go Go.Proofs
set_option maxRecDepth 1000000
set_option maxHeartbeats 2000000
set_option linter.unusedSimpArgs false
set_option linter.unusedVariables false
set_option linter.unnecessarySimpa false
open Go.Proofs.YtlnnombljiecmaaGreatDoor
open Go.ChangeShapes Go.WideShapes Go.ChangeAt Go.RowKit Go.Deep
theorem own:ownKnob Tryz.prog.godebug=none:=by kernel_rfl
theorem Ql:laidOutB Tryz.prog=true:=by kernel_rfl
theorem scV {ν:Nu} {F:Fz} {w:World} (v:Value) (h:v.oneCell'=true):VR ν F w (.d (.sc v)) v:= .d (.sc v h)
section
variable {H:Type} {enc:TypeId×Value->H} {P:Program} {w:World} {base:Nat} {spare:Nat->Bool} {held:Bool}
theorem zXw {α:Type} {p:Nat->α->Prop} :∀n:Nat,(∀i,i<n->∃r,p i r)->∃rs:List α,rs.length=n/\∀i r,rs[i]? =some r->p i r:=by
 intro n
 induction n with
 |zero=>exact fun _=>⟨[],rfl,fun i r h=>by simp at h⟩
 |succ n ih=>
  intro h
  obtain ⟨rs,hl,hp⟩:=ih fun i hi=>h i (by omega)
  obtain ⟨r,hr⟩:=h n (by omega)
  refine ⟨rs++ [r],by simp[hl],fun i q hq=> ?_⟩
  rcases Nat.lt_trichotomy i n with hi|hi|hi
  ·rw[List.getElem?_append_left (by omega)]at hq
   exact hp i q hq
  ·subst hi
   rw[List.getElem?_append_right (by omega),hl]at hq
   simp at hq
   subst hq;exact hr
  ·rw[List.getElem?_eq_none (by simp;omega)]at hq
   cases hq
theorem VF {t e:TypeId} {fuel:Nat} {cs:List Value} {x:DataW H×List MemPlace} (ht:P.underlying t=some (.slice e)) (h:DataW.trod enc P w base spare held fuel t cs=some x):
 (cs= [.slice none 0 0]/\x=(.nil,[]))∨
 ∃(a:Addr) (len cap n:Nat),fuel=n+1/\cs= [.slice (some a) len cap]/\len<=cap/\cap<=maxLen∧
  ∀i,i<len->∃cs' y,w.cells? base (a.add (i*P.cellsOf e)) (P.cellsOf e)=some cs'/\DataW.trod enc P w base spare held n e cs'=some y:=by
 rcases DataW.trod_slice ht h with h0|⟨a,len,cap,elems,rest,n,hf,rfl,hx,hb,hl,hm,hlen,hel,_⟩
 ·exact .inl h0
 ·refine .inr ⟨a,len,cap,n,hf,rfl,hl,hm,fun i hi=> ?_⟩
  have h1:=hel i hi
  rw[List.getElem?_eq_getElem (by omega)]at h1
  cases hc:w.cells? base (a.add (i*P.cellsOf e)) (P.cellsOf e)with
  |none=>rw[hc]at h1;cases h1
  |some cs'=>rw[hc]at h1;exact ⟨cs',_,rfl,h1⟩
theorem Wg {α:Type} {df:α} {cs:α->List D} {Q:α->Prop} {t e k fuel:Nat} {v:Value} {x:DataW H×List MemPlace} (ht:P.underlying t=some (.slice e)) (hC:P.cellsOf e=k) (hk:0<k)
 (one:∀(l:List Value) (n:Nat) (y:DataW H×List MemPlace),n+1=fuel->l.length=k->DataW.trod enc P w base spare held n e l=some y->∃z:α,(cs z).length=k/\Q z/\∀(j:Nat) g u,(cs z)[j]? =some g->l[j]? =some u->DR (Yw w) w g u)
 (h:DataW.trod enc P w base spare held fuel t [v]=some x):∃xs:List α,DR (Yw w) w (.row df cs xs) v/\xs.length<=9223372036854775807/\∀x,x∈xs->Q x:=by
 rcases VF ht h with ⟨h0,_⟩|⟨a,len,cap,n,hfu,hcs,hl,hm,hi⟩
 ·simp at h0
  subst h0
  exact ⟨[],.row df cs [] none 0 0 0 0 (fun _ _=>undef) (fun h=>absurd rfl h) (Nat.zero_le _) (fun e he=>(by cases he)) (fun i e j x a=>(by simp at a)) (fun i e j x a=>(by simp at a)) (fun i e j x a=>(by simp at a)),by simp,fun x h=>by cases h⟩
 ·simp at hcs
  subst hcs
  rcases Nat.eq_zero_or_pos len with hz|hz
  ·subst hz
   exact ⟨[],.row df cs [] (some a) cap 0 0 0 (fun _ _=>undef) (fun h=>absurd rfl h) (Nat.zero_le _) (fun e he=>(by cases he)) (fun i e j x a=>(by simp at a)) (fun i e j x a=>(by simp at a)) (fun i e j x a=>(by simp at a)),by simp,fun x h=>by cases h⟩
  ·obtain ⟨b,off,spot⟩:=a
   have hel:∀i,i<len->∃(l:List Value) (y:DataW H×List MemPlace),l.length=k/\(∀j,j<k->w.cell? ((({block:=b,off:=off,spot:=spot} :Addr).add (i*k)).add j)=l[j]?)/\DataW.trod enc P w base spare held n e l=some y:=fun i hil=>by
    obtain ⟨cs',y,hc,ht'⟩:=hi i hil
    rw[hC]at hc
    obtain ⟨_,hcl,hat⟩:=World.cells?_some hc
    exact ⟨cs',y,hcl,fun j hj=>hat j hj,ht'⟩
   have hspot:spot=none:=by
    obtain ⟨l,y,h1,h2,_⟩:=hel 0 hz
    have h3:=h2 0 hk
    rw[List.getElem?_eq_getElem (by omega)]at h3
    simpa [Addr.add]using World.cell?_spot h3
   subst hspot
   have hadd:∀i j,w.cell? ((({block:=b,off:=off,spot:=none} :Addr).add (i*k)).add j)=w.cell? ⟨b,off+i*k+j,none⟩:=fun i j=>by
    rw[yC,yC]
   obtain ⟨xs,hxl,hxs⟩:=zXw (p:=fun i (z:α)=>(cs z).length=k/\Q z/\∀(j:Nat) g,(cs z)[j]? =some g->∃u,w.cell? ⟨b,off+i*k+j,none⟩=some u/\DR (Yw w) w g u) len fun i hi=>by
    obtain ⟨l,y,h1,h2,h3⟩:=hel i hi
    obtain ⟨z,z1,zq,z2⟩:=one l n y hfu.symm h1 h3
    refine ⟨z,z1,zq,fun j g hg=> ?_⟩
    have hj:j<k:=by rw[<-z1];exact (List.getElem?_eq_some_iff.1 hg).1
    have h4:=h2 j hj
    rw[hadd,List.getElem?_eq_getElem (by omega)]at h4
    exact ⟨_,h4,z2 j g _ hg (List.getElem?_eq_getElem (by omega))⟩
   refine ⟨xs,?_,by have:=hl;have h9:=hm;unfold maxLen at h9;omega,fun x hx=> ?_⟩
   case refine_2=>obtain ⟨i,hi⟩:=List.getElem?_of_mem hx;exact (hxs i x hi).2.1
   rw[<-hxl]
   refine .row df cs xs (some ⟨b,off,none⟩) cap b off k (fun i j=>(w.cell? ⟨b,off+i*k+j,none⟩).getD undef) (fun _=>rfl) (by omega) (fun e he=> ?_) (fun i e j x a1 a2=> ?_) (fun i e j x a1 a2=> ?_) (fun i e j x a1 a2=> ?_)
   ·obtain ⟨i,hi⟩:=List.getElem?_of_mem he;exact (hxs i e hi).1
   ·obtain ⟨u,h1,h2⟩:=(hxs i e a1).2.2 j x a2;rw[h1];rfl
   ·obtain ⟨u,h1,h2⟩:=(hxs i e a1).2.2 j x a2
    show (w.cell? _).isSome=true
    rw[h1];rfl
   ·obtain ⟨u,h1,h2⟩:=(hxs i e a1).2.2 j x a2;rw[h1];exact h2
theorem yi {α:Type} {df:α} {cs:α->List D} {Q:α->Prop} {t e k fuel:Nat} {v:Value} {x:DataW H×List MemPlace} (ht:P.underlying t=some (.slice e)) (hC:P.cellsOf e=k) (hk:0<k)
 (one:∀(l:List Value) (n:Nat) (y:DataW H×List MemPlace),l.length=k->DataW.trod enc P w base spare held n e l=some y->∃z:α,(cs z).length=k/\Q z/\∀(j:Nat) g u,(cs z)[j]? =some g->l[j]? =some u->DR (Yw w) w g u)
 (h:DataW.trod enc P w base spare held fuel t [v]=some x):∃xs:List α,DR (Yw w) w (.row df cs xs) v/\xs.length<=9223372036854775807/\∀x,x∈xs->Q x:=Wg ht hC hk (fun l n y _=>one l n y) h
theorem wy {t:TypeId} {fs:Array Field} {fuel:Nat} {l:List Value} {x:DataW H×List MemPlace} (hs:P.underlying t=some (.struct fs)) (hone:oneCellFields P fs=true) (hC:P.cellsOf t=fs.size)
 (h:DataW.trod enc P w base spare held fuel t l=some x):l.length=fs.size/\∃n,fuel=n+1/\∀(j:Nat) (g:Field),fs[j]? =some g->∃(u:Value) (y:DataW H×List MemPlace),l[j]? =some u/\DataW.trod enc P w base spare held n g.type [u]=some y:=by
 obtain ⟨ys,n',hf,_,hll,hyl,hg⟩:=DataW.trod_struct hs h
 rw[hC]at hll
 refine ⟨hll,n',hf,fun j g hj=> ?_⟩
 obtain ⟨ho,hk⟩:=hone_of hone j g hj
 have hjl:j<fs.size:=(Array.getElem?_eq_some_iff.1 hj).1
 have h1:=hg j g hj
 rw[ho,hk]at h1
 have hone':(l.drop j).take 1= [l[j]'(by omega)]:=by
  rw[List.drop_eq_getElem_cons (by omega)]
  rfl
 rw[hone']at h1
 have hys:ys[j]? =some (ys[j]'(by omega)):=List.getElem?_eq_getElem (by omega)
 exact ⟨_,_,List.getElem?_eq_getElem (by omega),h1.trans hys⟩
theorem Zd {t:TypeId} {fs:Array Field} {fuel:Nat} {l:List Value} {x:DataW H×List MemPlace} (hs:P.underlying t=some (.struct fs)) (hone:oneCellFields P fs=true) (hC:P.cellsOf t=fs.size)
 (h:DataW.trod enc P w base spare held fuel t l=some x):l.length=fs.size/\∀(j:Nat) (g:Field),fs[j]? =some g->∃(u:Value) (y:DataW H×List MemPlace) (n:Nat),l[j]? =some u/\DataW.trod enc P w base spare held n g.type [u]=some y:=by
 obtain ⟨ys,n',_,_,hll,hyl,hg⟩:=DataW.trod_struct hs h
 rw[hC]at hll
 refine ⟨hll,fun j g hj=> ?_⟩
 obtain ⟨ho,hk⟩:=hone_of hone j g hj
 have hjl:j<fs.size:=(Array.getElem?_eq_some_iff.1 hj).1
 have h1:=hg j g hj
 rw[ho,hk]at h1
 have hone':(l.drop j).take 1= [l[j]'(by omega)]:=by
  rw[List.drop_eq_getElem_cons (by omega)]
  rfl
 rw[hone']at h1
 have hys:ys[j]? =some (ys[j]'(by omega)):=List.getElem?_eq_getElem (by omega)
 exact ⟨_,_,n',List.getElem?_eq_getElem (by omega),h1.trans hys⟩
end
section
variable {H:Type} {enc:TypeId×Value->H} {w:World} {base:Nat} {spare:Nat->Bool} {held:Bool}
theorem uT {P:Program} {r:Reach} {b0:Nat} {t:TypeId} {fs:Array Field} {v:Value} (ht:P.underlying t=some (.struct fs)) (h:Value.okWide P w r b0 t v):∃cs,v= .agg cs/\cs.size=P.cellsOf t:=by
 simp only[Value.okWide,ht]at h
 obtain ⟨cs,h1,h2,_⟩:=h
 exact ⟨cs,h1,h2⟩
theorem zIt {n:Int} (h:(Lit.int .i64 n).wf=true):yn n:=by
 simp[Lit.wf,IntKind.min,IntKind.max,IntKind.signed,IntKind.bits]at h
 exact ⟨by omega,by omega⟩
theorem zHl {n:Int} (h:(Lit.int .u8 n).wf=true):0<=n/\n<=255:=by
 simp[Lit.wf,IntKind.min,IntKind.max,IntKind.signed,IntKind.bits]at h
 omega
theorem zLc {n:Nat} {v:Value} {x:DataW H×List MemPlace} (h:DataW.trod enc Tryz.prog w base spare held n 22 [v]=some x):∃xs,DR (Yw w) w (.row dF zf xs) v/\xs.length<=9223372036854775807/\∀x,x∈xs->(fun s=>s.size<=9223372036854775807) x:=
 yi (cs:=zf) (Q:=fun s=>s.size<=9223372036854775807) (k:=1) Tryz.underlying22 (by kernel_rfl) (by decide) (fun l n1 y hl ht=>by
  obtain ⟨v0,y0,n0,e0,t0⟩:∃v0 y0,∃n0:Nat,l[0]? =some v0/\DataW.trod enc Tryz.prog w base spare held n0 9 [v0]=some y0:=by
   match l,hl with
   | [v0],_=>exact ⟨v0,y,n1,rfl,ht⟩
  obtain ⟨a0,g0,_,z0⟩:=DataW.trod_string Tryz.underlying9 t0
  simp at g0;subst g0
  unfold maxLen at z0
  refine ⟨a0,rfl,z0,fun j g u hg hu=> ?_⟩
  match j,hg,hu with
  |0,hg,hu=>rw[e0]at hu;cases hu;cases hg;exact .sc _ rfl
  |j+1,hg,hu=>simp[zf]at hg) h
theorem vc {n:Nat} {v:Value} {x:DataW H×List MemPlace} (h:DataW.trod enc Tryz.prog w base spare held n 68 [v]=some x):∃xs,DR (Yw w) w (.row dF inC xs) v/\xs.length<=9223372036854775807/\∀x,x∈xs->(fun _=>True) x:=
 yi (cs:=inC) (Q:=fun _=>True) (k:=1) Tryz.underlying68 (by kernel_rfl) (by decide) (fun l n1 y hl ht=>by
  obtain ⟨v0,y0,n0,e0,t0⟩:∃v0 y0,∃n0:Nat,l[0]? =some v0/\DataW.trod enc Tryz.prog w base spare held n0 3 [v0]=some y0:=by
   match l,hl with
   | [v0],_=>exact ⟨v0,y,n1,rfl,ht⟩
  obtain ⟨a0,g0,_,w0⟩:=DataW.trod_int Tryz.underlying3 t0
  simp at g0;subst g0
  refine ⟨a0,rfl,trivial,fun j g u hg hu=> ?_⟩
  match j,hg,hu with
  |0,hg,hu=>rw[e0]at hu;cases hu;cases hg;exact .sc _ rfl
  |j+1,hg,hu=>simp[inC]at hg) h
theorem zAa {n:Nat} {v:Value} {x:DataW H×List MemPlace} (h:DataW.trod enc Tryz.prog w base spare held n 24 [v]=some x):∃xs,DR (Yw w) w (.row dF inC xs) v/\xs.length<=9223372036854775807/\∀x,x∈xs->(fun _=>True) x:=
 yi (cs:=inC) (Q:=fun _=>True) (k:=1) Tryz.underlying24 (by kernel_rfl) (by decide) (fun l n1 y hl ht=>by
  obtain ⟨_,hf⟩:=Zd Tryz.underlying93 (by kernel_rfl) (by kernel_rfl) ht
  obtain ⟨v0,y0,n0,e0,t0⟩:=hf 0 _ rfl
  obtain ⟨a0,g0,_,w0⟩:=DataW.trod_int Tryz.underlying3 t0
  simp at g0;subst g0
  refine ⟨a0,rfl,trivial,fun j g u hg hu=> ?_⟩
  match j,hg,hu with
  |0,hg,hu=>rw[e0]at hu;cases hu;cases hg;exact .sc _ rfl
  |j+1,hg,hu=>simp[inC]at hg) h
theorem zAb {n:Nat} {v:Value} {x:DataW H×List MemPlace} (h:DataW.trod enc Tryz.prog w base spare held n 23 [v]=some x):∃xs,DR (Yw w) w (.row dF ctC xs) v/\xs.length<=9223372036854775807/\∀x,x∈xs->(FitC) x:=
 yi (cs:=ctC) (Q:=FitC) (k:=6) Tryz.underlying23 (by kernel_rfl) (by decide) (fun l n1 y hl ht=>by
  obtain ⟨_,hf⟩:=Zd Tryz.underlying91 (by kernel_rfl) (by kernel_rfl) ht
  obtain ⟨v0,y0,n0,e0,t0⟩:=hf 0 _ rfl
  obtain ⟨v1,y1,n1,e1,t1⟩:=hf 1 _ rfl
  obtain ⟨v2,y2,n2,e2,t2⟩:=hf 2 _ rfl
  obtain ⟨v3,y3,n3,e3,t3⟩:=hf 3 _ rfl
  obtain ⟨v4,y4,n4,e4,t4⟩:=hf 4 _ rfl
  obtain ⟨v5,y5,n5,e5,t5⟩:=hf 5 _ rfl
  obtain ⟨a0,g0,_,z0⟩:=DataW.trod_string Tryz.underlying9 t0
  simp at g0;subst g0
  unfold maxLen at z0
  obtain ⟨a1,g1,_,w1⟩:=DataW.trod_int Tryz.underlying3 t1
  simp at g1;subst g1
  obtain ⟨a2,g2,_,w2⟩:=DataW.trod_int Tryz.underlying3 t2
  simp at g2;subst g2
  obtain ⟨a3,x3,l3,q3⟩:=vc t3
  obtain ⟨a4,x4,l4,q4⟩:=vc t4
  obtain ⟨a5,x5,l5,q5⟩:=vc t5
  refine ⟨⟨a0,a1,a2,a3,a4,a5⟩,rfl,⟨z0,l3,l4,l5⟩,fun j g u hg hu=> ?_⟩
  match j,hg,hu with
  |0,hg,hu=>rw[e0]at hu;cases hu;cases hg;exact .sc _ rfl
  |1,hg,hu=>rw[e1]at hu;cases hu;cases hg;exact .sc _ rfl
  |2,hg,hu=>rw[e2]at hu;cases hu;cases hg;exact .sc _ rfl
  |3,hg,hu=>rw[e3]at hu;cases hu;cases hg;exact x3
  |4,hg,hu=>rw[e4]at hu;cases hu;cases hg;exact x4
  |5,hg,hu=>rw[e5]at hu;cases hu;cases hg;exact x5
  |j+6,hg,hu=>simp[ctC]at hg) h
theorem zEt {n:Nat} {v:Value} {x:DataW H×List MemPlace} (h:DataW.trod enc Tryz.prog w base spare held n 25 [v]=some x):∃xs,DR (Yw w) w (.row dF fmC xs) v/\xs.length<=9223372036854775807/\∀x,x∈xs->(fun c=>c.name.size<=9223372036854775807) x:=
 yi (cs:=fmC) (Q:=fun c=>c.name.size<=9223372036854775807) (k:=3) Tryz.underlying25 (by kernel_rfl) (by decide) (fun l n1 y hl ht=>by
  obtain ⟨_,hf⟩:=Zd Tryz.underlying95 (by kernel_rfl) (by kernel_rfl) ht
  obtain ⟨v0,y0,n0,e0,t0⟩:=hf 0 _ rfl
  obtain ⟨v1,y1,n1,e1,t1⟩:=hf 1 _ rfl
  obtain ⟨v2,y2,n2,e2,t2⟩:=hf 2 _ rfl
  obtain ⟨a0,g0,_,z0⟩:=DataW.trod_string Tryz.underlying9 t0
  simp at g0;subst g0
  unfold maxLen at z0
  obtain ⟨a1,g1,_,w1⟩:=DataW.trod_int Tryz.underlying3 t1
  simp at g1;subst g1
  obtain ⟨a2,g2,_,w2⟩:=DataW.trod_int Tryz.underlying3 t2
  simp at g2;subst g2
  refine ⟨⟨a0,a1,a2⟩,rfl,z0,fun j g u hg hu=> ?_⟩
  match j,hg,hu with
  |0,hg,hu=>rw[e0]at hu;cases hu;cases hg;exact .sc _ rfl
  |1,hg,hu=>rw[e1]at hu;cases hu;cases hg;exact .sc _ rfl
  |2,hg,hu=>rw[e2]at hu;cases hu;cases hg;exact .sc _ rfl
  |j+3,hg,hu=>simp[fmC]at hg) h
theorem zQh {n:Nat} {v:Value} {x:DataW H×List MemPlace} (h:DataW.trod enc Tryz.prog w base spare held n 27 [v]=some x):∃xs,DR (Yw w) w (.row dF usC xs) v/\xs.length<=9223372036854775807/\∀x,x∈xs->(fun _=>True) x:=
 yi (cs:=usC) (Q:=fun _=>True) (k:=3) Tryz.underlying27 (by kernel_rfl) (by decide) (fun l n1 y hl ht=>by
  obtain ⟨_,hf⟩:=Zd Tryz.underlying157 (by kernel_rfl) (by kernel_rfl) ht
  obtain ⟨v0,y0,n0,e0,t0⟩:=hf 0 _ rfl
  obtain ⟨v1,y1,n1,e1,t1⟩:=hf 1 _ rfl
  obtain ⟨v2,y2,n2,e2,t2⟩:=hf 2 _ rfl
  obtain ⟨a0,g0,_,w0⟩:=DataW.trod_int Tryz.underlying3 t0
  simp at g0;subst g0
  obtain ⟨a1,g1,_,w1⟩:=DataW.trod_int Tryz.underlying3 t1
  simp at g1;subst g1
  obtain ⟨a2,g2,_,w2⟩:=DataW.trod_int Tryz.underlying3 t2
  simp at g2;subst g2
  refine ⟨⟨a0,a1,a2⟩,rfl,trivial,fun j g u hg hu=> ?_⟩
  match j,hg,hu with
  |0,hg,hu=>rw[e0]at hu;cases hu;cases hg;exact .sc _ rfl
  |1,hg,hu=>rw[e1]at hu;cases hu;cases hg;exact .sc _ rfl
  |2,hg,hu=>rw[e2]at hu;cases hu;cases hg;exact .sc _ rfl
  |j+3,hg,hu=>simp[usC]at hg) h
theorem zEr {n:Nat} {v:Value} {x:DataW H×List MemPlace} (h:DataW.trod enc Tryz.prog w base spare held n 28 [v]=some x):∃xs,DR (Yw w) w (.row dF rtC xs) v/\xs.length<=9223372036854775807/\∀x,x∈xs->(fun x=>yn x.num/\yn x.den) x:=
 yi (cs:=rtC) (Q:=fun x=>yn x.num/\yn x.den) (k:=5) Tryz.underlying28 (by kernel_rfl) (by decide) (fun l n1 y hl ht=>by
  obtain ⟨_,hf⟩:=Zd Tryz.underlying159 (by kernel_rfl) (by kernel_rfl) ht
  obtain ⟨v0,y0,n0,e0,t0⟩:=hf 0 _ rfl
  obtain ⟨v1,y1,n1,e1,t1⟩:=hf 1 _ rfl
  obtain ⟨v2,y2,n2,e2,t2⟩:=hf 2 _ rfl
  obtain ⟨v3,y3,n3,e3,t3⟩:=hf 3 _ rfl
  obtain ⟨v4,y4,n4,e4,t4⟩:=hf 4 _ rfl
  obtain ⟨a0,g0,_,w0⟩:=DataW.trod_int Tryz.underlying3 t0
  simp at g0;subst g0
  obtain ⟨a1,g1,_,w1⟩:=DataW.trod_int Tryz.underlying3 t1
  simp at g1;subst g1
  obtain ⟨a2,g2,_,w2⟩:=DataW.trod_int Tryz.underlying3 t2
  simp at g2;subst g2
  obtain ⟨a3,g3,_,w3⟩:=DataW.trod_int Tryz.underlying3 t3
  simp at g3;subst g3
  obtain ⟨a4,g4,_,w4⟩:=DataW.trod_int Tryz.underlying3 t4
  simp at g4;subst g4
  refine ⟨⟨a0,a1,a2,a3,a4⟩,rfl,⟨zIt w2,zIt w3⟩,fun j g u hg hu=> ?_⟩
  match j,hg,hu with
  |0,hg,hu=>rw[e0]at hu;cases hu;cases hg;exact .sc _ rfl
  |1,hg,hu=>rw[e1]at hu;cases hu;cases hg;exact .sc _ rfl
  |2,hg,hu=>rw[e2]at hu;cases hu;cases hg;exact .sc _ rfl
  |3,hg,hu=>rw[e3]at hu;cases hu;cases hg;exact .sc _ rfl
  |4,hg,hu=>rw[e4]at hu;cases hu;cases hg;exact .sc _ rfl
  |j+5,hg,hu=>simp[rtC]at hg) h
theorem zEs {n:Nat} {v:Value} {x:DataW H×List MemPlace} (h:DataW.trod enc Tryz.prog w base spare held n 29 [v]=some x):∃xs,DR (Yw w) w (.row dF htC xs) v/\xs.length<=9223372036854775807/\∀x,x∈xs->(fun _=>True) x:=
 yi (cs:=htC) (Q:=fun _=>True) (k:=3) Tryz.underlying29 (by kernel_rfl) (by decide) (fun l n1 y hl ht=>by
  obtain ⟨_,hf⟩:=Zd Tryz.underlying161 (by kernel_rfl) (by kernel_rfl) ht
  obtain ⟨v0,y0,n0,e0,t0⟩:=hf 0 _ rfl
  obtain ⟨v1,y1,n1,e1,t1⟩:=hf 1 _ rfl
  obtain ⟨v2,y2,n2,e2,t2⟩:=hf 2 _ rfl
  obtain ⟨a0,g0,_,w0⟩:=DataW.trod_int Tryz.underlying3 t0
  simp at g0;subst g0
  obtain ⟨a1,g1,_,w1⟩:=DataW.trod_int Tryz.underlying3 t1
  simp at g1;subst g1
  obtain ⟨a2,g2,_,w2⟩:=DataW.trod_int Tryz.underlying3 t2
  simp at g2;subst g2
  refine ⟨⟨a0,a1,a2⟩,rfl,trivial,fun j g u hg hu=> ?_⟩
  match j,hg,hu with
  |0,hg,hu=>rw[e0]at hu;cases hu;cases hg;exact .sc _ rfl
  |1,hg,hu=>rw[e1]at hu;cases hu;cases hg;exact .sc _ rfl
  |2,hg,hu=>rw[e2]at hu;cases hu;cases hg;exact .sc _ rfl
  |j+3,hg,hu=>simp[htC]at hg) h
theorem zLe {n:Nat} {v:Value} {x:DataW H×List MemPlace} (h:DataW.trod enc Tryz.prog w base spare held n 103 [v]=some x):∃xs,DR (Yw w) w (.row dF zTw xs) v/\xs.length<=9223372036854775807/\∀x,x∈xs->(fun _=>True) x:=
 yi (cs:=zTw) (Q:=fun _=>True) (k:=3) Tryz.underlying103 (by kernel_rfl) (by decide) (fun l n1 y hl ht=>by
  obtain ⟨_,hf⟩:=Zd Tryz.underlying210 (by kernel_rfl) (by kernel_rfl) ht
  obtain ⟨v0,y0,n0,e0,t0⟩:=hf 0 _ rfl
  obtain ⟨v1,y1,n1,e1,t1⟩:=hf 1 _ rfl
  obtain ⟨v2,y2,n2,e2,t2⟩:=hf 2 _ rfl
  obtain ⟨a0,g0,_,w0⟩:=DataW.trod_int Tryz.underlying3 t0
  simp at g0;subst g0
  obtain ⟨a1,g1,_,w1⟩:=DataW.trod_int Tryz.underlying3 t1
  simp at g1;subst g1
  obtain ⟨a2,g2,_⟩:=DataW.trod_bool Tryz.underlying4 t2
  simp at g2;subst g2
  refine ⟨⟨a0,a1,a2⟩,rfl,trivial,fun j g u hg hu=> ?_⟩
  match j,hg,hu with
  |0,hg,hu=>rw[e0]at hu;cases hu;cases hg;exact .sc _ rfl
  |1,hg,hu=>rw[e1]at hu;cases hu;cases hg;exact .sc _ rfl
  |2,hg,hu=>rw[e2]at hu;cases hu;cases hg;exact .sc _ rfl
  |j+3,hg,hu=>simp[zTw]at hg) h
theorem zEo {n:Nat} {v:Value} {x:DataW H×List MemPlace} (h:DataW.trod enc Tryz.prog w base spare held n 36 [v]=some x):∃xs,DR (Yw w) w (.row dF sgC xs) v/\xs.length<=9223372036854775807/\∀x,x∈xs->(fun _=>True) x:=
 yi (cs:=sgC) (Q:=fun _=>True) (k:=9) Tryz.underlying36 (by kernel_rfl) (by decide) (fun l n1 y hl ht=>by
  obtain ⟨_,hf⟩:=Zd Tryz.underlying45 (by kernel_rfl) (by kernel_rfl) ht
  obtain ⟨v0,y0,n0,e0,t0⟩:=hf 0 _ rfl
  obtain ⟨v1,y1,n1,e1,t1⟩:=hf 1 _ rfl
  obtain ⟨v2,y2,n2,e2,t2⟩:=hf 2 _ rfl
  obtain ⟨v3,y3,n3,e3,t3⟩:=hf 3 _ rfl
  obtain ⟨v4,y4,n4,e4,t4⟩:=hf 4 _ rfl
  obtain ⟨v5,y5,n5,e5,t5⟩:=hf 5 _ rfl
  obtain ⟨v6,y6,n6,e6,t6⟩:=hf 6 _ rfl
  obtain ⟨v7,y7,n7,e7,t7⟩:=hf 7 _ rfl
  obtain ⟨v8,y8,n8,e8,t8⟩:=hf 8 _ rfl
  obtain ⟨a0,g0,_,w0⟩:=DataW.trod_int Tryz.underlying3 t0
  simp at g0;subst g0
  obtain ⟨a1,g1,_,w1⟩:=DataW.trod_int Tryz.underlying3 t1
  simp at g1;subst g1
  obtain ⟨a2,g2,_,w2⟩:=DataW.trod_int Tryz.underlying3 t2
  simp at g2;subst g2
  obtain ⟨a3,g3,_,w3⟩:=DataW.trod_int Tryz.underlying3 t3
  simp at g3;subst g3
  obtain ⟨a4,g4,_,w4⟩:=DataW.trod_int Tryz.underlying3 t4
  simp at g4;subst g4
  obtain ⟨a5,g5,_,w5⟩:=DataW.trod_int Tryz.underlying3 t5
  simp at g5;subst g5
  obtain ⟨a6,g6,_,w6⟩:=DataW.trod_int Tryz.underlying3 t6
  simp at g6;subst g6
  obtain ⟨a7,g7,_,w7⟩:=DataW.trod_int Tryz.underlying3 t7
  simp at g7;subst g7
  obtain ⟨a8,g8,_,w8⟩:=DataW.trod_int Tryz.underlying3 t8
  simp at g8;subst g8
  refine ⟨⟨a0,a1,a2,a3,a4,a5,a6,a7,a8⟩,rfl,trivial,fun j g u hg hu=> ?_⟩
  match j,hg,hu with
  |0,hg,hu=>rw[e0]at hu;cases hu;cases hg;exact .sc _ rfl
  |1,hg,hu=>rw[e1]at hu;cases hu;cases hg;exact .sc _ rfl
  |2,hg,hu=>rw[e2]at hu;cases hu;cases hg;exact .sc _ rfl
  |3,hg,hu=>rw[e3]at hu;cases hu;cases hg;exact .sc _ rfl
  |4,hg,hu=>rw[e4]at hu;cases hu;cases hg;exact .sc _ rfl
  |5,hg,hu=>rw[e5]at hu;cases hu;cases hg;exact .sc _ rfl
  |6,hg,hu=>rw[e6]at hu;cases hu;cases hg;exact .sc _ rfl
  |7,hg,hu=>rw[e7]at hu;cases hu;cases hg;exact .sc _ rfl
  |8,hg,hu=>rw[e8]at hu;cases hu;cases hg;exact .sc _ rfl
  |j+9,hg,hu=>simp[sgC]at hg) h
theorem zAc {n:Nat} {v:Value} {x:DataW H×List MemPlace} (h:DataW.trod enc Tryz.prog w base spare held n 37 [v]=some x):∃xs,DR (Yw w) w (.row dF alC xs) v/\xs.length<=9223372036854775807/\∀x,x∈xs->(fun _=>True) x:=
 yi (cs:=alC) (Q:=fun _=>True) (k:=2) Tryz.underlying37 (by kernel_rfl) (by decide) (fun l n1 y hl ht=>by
  obtain ⟨_,hf⟩:=Zd Tryz.underlying84 (by kernel_rfl) (by kernel_rfl) ht
  obtain ⟨v0,y0,n0,e0,t0⟩:=hf 0 _ rfl
  obtain ⟨v1,y1,n1,e1,t1⟩:=hf 1 _ rfl
  obtain ⟨a0,g0,_,w0⟩:=DataW.trod_int Tryz.underlying3 t0
  simp at g0;subst g0
  obtain ⟨a1,g1,_,w1⟩:=DataW.trod_int Tryz.underlying3 t1
  simp at g1;subst g1
  refine ⟨⟨a0,a1⟩,rfl,trivial,fun j g u hg hu=> ?_⟩
  match j,hg,hu with
  |0,hg,hu=>rw[e0]at hu;cases hu;cases hg;exact .sc _ rfl
  |1,hg,hu=>rw[e1]at hu;cases hu;cases hg;exact .sc _ rfl
  |j+2,hg,hu=>simp[alC]at hg) h
theorem zLf {n:Nat} {v:Value} {x:DataW H×List MemPlace} (h:DataW.trod enc Tryz.prog w base spare held n 38 [v]=some x):∃xs,DR (Yw w) w (.row dF acC xs) v/\xs.length<=9223372036854775807/\∀x,x∈xs->(fun _=>True) x:=
 yi (cs:=acC) (Q:=fun _=>True) (k:=9) Tryz.underlying38 (by kernel_rfl) (by decide) (fun l n1 y hl ht=>by
  obtain ⟨_,hf⟩:=Zd Tryz.underlying66 (by kernel_rfl) (by kernel_rfl) ht
  obtain ⟨v0,y0,n0,e0,t0⟩:=hf 0 _ rfl
  obtain ⟨v1,y1,n1,e1,t1⟩:=hf 1 _ rfl
  obtain ⟨v2,y2,n2,e2,t2⟩:=hf 2 _ rfl
  obtain ⟨v3,y3,n3,e3,t3⟩:=hf 3 _ rfl
  obtain ⟨v4,y4,n4,e4,t4⟩:=hf 4 _ rfl
  obtain ⟨v5,y5,n5,e5,t5⟩:=hf 5 _ rfl
  obtain ⟨v6,y6,n6,e6,t6⟩:=hf 6 _ rfl
  obtain ⟨v7,y7,n7,e7,t7⟩:=hf 7 _ rfl
  obtain ⟨v8,y8,n8,e8,t8⟩:=hf 8 _ rfl
  obtain ⟨a0,g0,_,w0⟩:=DataW.trod_int Tryz.underlying3 t0
  simp at g0;subst g0
  obtain ⟨a1,g1,_,w1⟩:=DataW.trod_int Tryz.underlying3 t1
  simp at g1;subst g1
  obtain ⟨a2,g2,_,w2⟩:=DataW.trod_int Tryz.underlying3 t2
  simp at g2;subst g2
  obtain ⟨a3,g3,_,w3⟩:=DataW.trod_int Tryz.underlying3 t3
  simp at g3;subst g3
  obtain ⟨a4,g4,_,w4⟩:=DataW.trod_int Tryz.underlying3 t4
  simp at g4;subst g4
  obtain ⟨a5,g5,_,w5⟩:=DataW.trod_int Tryz.underlying3 t5
  simp at g5;subst g5
  obtain ⟨a6,g6,_,w6⟩:=DataW.trod_int Tryz.underlying3 t6
  simp at g6;subst g6
  obtain ⟨a7,g7,_,w7⟩:=DataW.trod_int Tryz.underlying3 t7
  simp at g7;subst g7
  obtain ⟨a8,g8,_,w8⟩:=DataW.trod_int Tryz.underlying3 t8
  simp at g8;subst g8
  refine ⟨⟨a0,a1,a2,a3,a4,a5,a6,a7,a8⟩,rfl,trivial,fun j g u hg hu=> ?_⟩
  match j,hg,hu with
  |0,hg,hu=>rw[e0]at hu;cases hu;cases hg;exact .sc _ rfl
  |1,hg,hu=>rw[e1]at hu;cases hu;cases hg;exact .sc _ rfl
  |2,hg,hu=>rw[e2]at hu;cases hu;cases hg;exact .sc _ rfl
  |3,hg,hu=>rw[e3]at hu;cases hu;cases hg;exact .sc _ rfl
  |4,hg,hu=>rw[e4]at hu;cases hu;cases hg;exact .sc _ rfl
  |5,hg,hu=>rw[e5]at hu;cases hu;cases hg;exact .sc _ rfl
  |6,hg,hu=>rw[e6]at hu;cases hu;cases hg;exact .sc _ rfl
  |7,hg,hu=>rw[e7]at hu;cases hu;cases hg;exact .sc _ rfl
  |8,hg,hu=>rw[e8]at hu;cases hu;cases hg;exact .sc _ rfl
  |j+9,hg,hu=>simp[acC]at hg) h
theorem zEv {n:Nat} {v:Value} {x:DataW H×List MemPlace} (h:DataW.trod enc Tryz.prog w base spare held n 39 [v]=some x):∃xs,DR (Yw w) w (.row dF fcC xs) v/\xs.length<=9223372036854775807/\∀x,x∈xs->(fun _=>True) x:=
 yi (cs:=fcC) (Q:=fun _=>True) (k:=3) Tryz.underlying39 (by kernel_rfl) (by decide) (fun l n1 y hl ht=>by
  obtain ⟨_,hf⟩:=Zd Tryz.underlying47 (by kernel_rfl) (by kernel_rfl) ht
  obtain ⟨v0,y0,n0,e0,t0⟩:=hf 0 _ rfl
  obtain ⟨v1,y1,n1,e1,t1⟩:=hf 1 _ rfl
  obtain ⟨v2,y2,n2,e2,t2⟩:=hf 2 _ rfl
  obtain ⟨a0,g0,_,w0⟩:=DataW.trod_int Tryz.underlying3 t0
  simp at g0;subst g0
  obtain ⟨a1,g1,_,w1⟩:=DataW.trod_int Tryz.underlying3 t1
  simp at g1;subst g1
  obtain ⟨a2,g2,_,w2⟩:=DataW.trod_int Tryz.underlying3 t2
  simp at g2;subst g2
  refine ⟨⟨a0,a1,a2⟩,rfl,trivial,fun j g u hg hu=> ?_⟩
  match j,hg,hu with
  |0,hg,hu=>rw[e0]at hu;cases hu;cases hg;exact .sc _ rfl
  |1,hg,hu=>rw[e1]at hu;cases hu;cases hg;exact .sc _ rfl
  |2,hg,hu=>rw[e2]at hu;cases hu;cases hg;exact .sc _ rfl
  |j+3,hg,hu=>simp[fcC]at hg) h
theorem zEn:∀(k n:Nat) {v:Value} {x:DataW H×List MemPlace},n<=k->DataW.trod enc Tryz.prog w base spare held n 96 [v]=some x->∃xs,DR (Yw w) w (.row dF (tmC k) xs) v/\xs.length<=9223372036854775807/\∀x,x∈xs->(fun t=>∀j,n<=j+1->Qb j t) x:=by
 intro k
 induction k with
 |zero=>
  intro n v x hn h
  rcases VF Tryz.underlying96 h with ⟨h0,_⟩|⟨a,len,cap,n1,hfu,_⟩
  ·simp at h0
   subst h0
   exact ⟨[],.row dF (tmC 0) [] none 0 0 0 0 (fun _ _=>undef) (fun h=>absurd rfl h) (Nat.zero_le _) (fun e he=>(by cases he)) (fun i e j x a=>(by simp at a)) (fun i e j x a=>(by simp at a)) (fun i e j x a=>(by simp at a)),by simp,fun x h=>by cases h⟩
  ·omega
 |succ k ih=>
  intro n v x hn h
  exact Wg (cs:=tmC (k+1)) (Q:=fun t=>∀j,n<=j+1->Qb j t) (k:=3) Tryz.underlying96 (by kernel_rfl) (by decide) (fun l n1 y hfu hl ht=>by
   obtain ⟨_,n2,hf2,hf⟩:=wy Tryz.underlying98 (by kernel_rfl) (by kernel_rfl) ht
   obtain ⟨v0,y0,e0,t0⟩:=hf 0 _ rfl
   obtain ⟨v1,y1,e1,t1⟩:=hf 1 _ rfl
   obtain ⟨v2,y2,e2,t2⟩:=hf 2 _ rfl
   obtain ⟨a0,g0,_,_⟩:=DataW.trod_int Tryz.underlying3 t0
   simp at g0;subst g0
   obtain ⟨a1,g1,_,_⟩:=DataW.trod_int Tryz.underlying3 t1
   simp at g1;subst g1
   obtain ⟨xs,x2,l2,q2⟩:=ih n2 (by omega) t2
   refine ⟨.mk a0 a1 xs,rfl,fun j hj=> ?_,fun j g u hg hu=> ?_⟩
   ·cases j with
    |zero=>omega
    |succ j=>exact ⟨l2,fun a ha=>q2 a ha j (by omega)⟩
   ·match j,hg,hu with
    |0,hg,hu=>rw[e0]at hu;cases hu;cases hg;exact .sc _ rfl
    |1,hg,hu=>rw[e1]at hu;cases hu;cases hg;exact .sc _ rfl
    |2,hg,hu=>rw[e2]at hu;cases hu;cases hg;exact x2
    |j+3,hg,hu=>simp[tmC]at hg) h
theorem zEp [Dep] {n:Nat} {v:Value} {x:DataW H×List MemPlace} (hn:n<=Dep.d) (h:DataW.trod enc Tryz.prog w base spare held n 102 [v]=some x):∃xs,DR (Yw w) w (.row dF zEd xs) v/\xs.length<=9223372036854775807/\∀x,x∈xs->(fun x:Rul=>Qb Dep.d x.term) x:=
 Wg (cs:=zEd) (Q:=fun x:Rul=>Qb Dep.d x.term) (k:=4) Tryz.underlying102 (by kernel_rfl) (by decide) (fun l n1 y hfu hl ht=>by
  obtain ⟨ys,n',hf1,_,hll,hyl,hg⟩:=DataW.trod_struct Tryz.underlying100 ht
  match l,hl with
  | [v0,v1,v2,v3],_=>
    have g0:=hg 0 _ rfl
    have g1:=hg 1 _ rfl
    have e0:DataW.trod enc Tryz.prog w base spare held n' 3 [v0]=_:=g0
    have e1:DataW.trod enc Tryz.prog w base spare held n' 98 [v1,v2,v3]=_:=g1
    match ys,hyl with
    | [y0,y1],_=>
      obtain ⟨a0,f0,_,_⟩:=DataW.trod_int Tryz.underlying3 e0
      simp at f0;subst f0
      obtain ⟨_,n2,hf2,hf⟩:=wy Tryz.underlying98 (by kernel_rfl) (by kernel_rfl) e1
      obtain ⟨u1,z1,i1,t1⟩:=hf 0 _ rfl
      obtain ⟨u2,z2,i2,t2⟩:=hf 1 _ rfl
      obtain ⟨u3,z3,i3,t3⟩:=hf 2 _ rfl
      simp at i1 i2 i3
      subst i1;subst i2;subst i3
      obtain ⟨a1,f1,_,_⟩:=DataW.trod_int Tryz.underlying3 t1
      obtain ⟨a2,f2,_,_⟩:=DataW.trod_int Tryz.underlying3 t2
      simp at f1 f2
      subst f1;subst f2
      obtain ⟨xs,x3,l3,q3⟩:=zEn Dep.d n2 (by omega) t3
      refine ⟨⟨a0,a1,a2,xs⟩,rfl,?_,fun j g u hg hu=> ?_⟩
      ·cases hd:(Dep.d:Nat)with
       |zero=>omega
       |succ k=>exact ⟨l3,fun a ha=>q3 a ha k (by omega)⟩
      ·match j,hg,hu with
       |0,hg,hu=>cases hu;cases hg;exact .sc _ rfl
       |1,hg,hu=>cases hu;cases hg;exact .sc _ rfl
       |2,hg,hu=>cases hu;cases hg;exact .sc _ rfl
       |3,hg,hu=>cases hu;cases hg;exact x3
       |j+4,hg,hu=>simp at hu) h
theorem zLd [Dep] {n:Nat} {v:Value} {x:DataW H×List MemPlace} (hn:n<=Dep.d) (h:DataW.trod enc Tryz.prog w base spare held n 26 [v]=some x):∃xs,DR (Yw w) w (.row dF odC xs) v/\xs.length<=9223372036854775807/\∀x,x∈xs->(fun o=>o.name.size<=9223372036854775807/\∀x,x∈o.rules->Qb Dep.d x.term) x:=
 Wg (cs:=odC) (Q:=fun o=>o.name.size<=9223372036854775807/\∀x,x∈o.rules->Qb Dep.d x.term) (k:=4) Tryz.underlying26 (by kernel_rfl) (by decide) (fun l n1 y hfu hl ht=>by
  obtain ⟨_,n2,hf2,hf⟩:=wy Tryz.underlying105 (by kernel_rfl) (by kernel_rfl) ht
  obtain ⟨v0,y0,e0,t0⟩:=hf 0 _ rfl
  obtain ⟨v1,y1,e1,t1⟩:=hf 1 _ rfl
  obtain ⟨v2,y2,e2,t2⟩:=hf 2 _ rfl
  obtain ⟨v3,y3,e3,t3⟩:=hf 3 _ rfl
  obtain ⟨a0,g0,_,z0⟩:=DataW.trod_string Tryz.underlying9 t0
  simp at g0;subst g0
  unfold maxLen at z0
  obtain ⟨a1,g1,_⟩:=DataW.trod_bool Tryz.underlying4 t1
  simp at g1;subst g1
  obtain ⟨a2,x2,l2,q2⟩:=zLe t2
  obtain ⟨a3,x3,l3,q3⟩:=zEp (by omega) t3
  refine ⟨⟨a0,a1,a2,a3⟩,rfl,⟨z0,q3⟩,fun j g u hg hu=> ?_⟩
  match j,hg,hu with
  |0,hg,hu=>rw[e0]at hu;cases hu;cases hg;exact .sc _ rfl
  |1,hg,hu=>rw[e1]at hu;cases hu;cases hg;exact .sc _ rfl
  |2,hg,hu=>rw[e2]at hu;cases hu;cases hg;exact x2
  |3,hg,hu=>rw[e3]at hu;cases hu;cases hg;exact x3
  |j+4,hg,hu=>simp[odC]at hg) h
theorem zEq {r:Reach} {b0:Nat} {v:Value} {d:DataW H} {ps:List MemPlace} (hv:Value.okWide Tryz.prog w r b0 31 v) (h:DataW.Trod enc Tryz.prog w base spare held 31 v d ps):
 ∃(D:Dep) (x:Rlm),VR (fun _=>none) (Yw w) w (rlG x) v/\MemX x:=by
 obtain ⟨cs,rfl,hsz⟩:=uT Tryz.underlying31 hv
 obtain ⟨fuel,hf⟩:=h
 have hf':DataW.trod enc Tryz.prog w base spare held fuel 31 cs.toList=some (d,ps):=hf
 obtain ⟨hl,hc⟩:=Zd Tryz.underlying31 (by kernel_rfl) (by kernel_rfl) hf'
 obtain ⟨v0,y0,n0,e0,t0⟩:=hc 0 _ rfl
 obtain ⟨v1,y1,n1,e1,t1⟩:=hc 1 _ rfl
 obtain ⟨v2,y2,n2,e2,t2⟩:=hc 2 _ rfl
 obtain ⟨v3,y3,n3,e3,t3⟩:=hc 3 _ rfl
 obtain ⟨v4,y4,n4,e4,t4⟩:=hc 4 _ rfl
 obtain ⟨v5,y5,n5,e5,t5⟩:=hc 5 _ rfl
 obtain ⟨v6,y6,n6,e6,t6⟩:=hc 6 _ rfl
 obtain ⟨v7,y7,n7,e7,t7⟩:=hc 7 _ rfl
 obtain ⟨a0,x0,l0,q0⟩:=zLc t0
 obtain ⟨a1,x1,l1,q1⟩:=zAb t1
 obtain ⟨a2,x2,l2,q2⟩:=zAa t2
 obtain ⟨a3,x3,l3,q3⟩:=zEt t3
 obtain ⟨D,hD⟩:∃D:Dep,n4<=D.d:=⟨⟨n4⟩,Nat.le_refl _⟩
 obtain ⟨a4,x4,l4,q4⟩:=zLd hD t4
 obtain ⟨a5,x5,l5,q5⟩:=zQh t5
 obtain ⟨a6,x6,l6,q6⟩:=zEr t6
 obtain ⟨a7,x7,l7,q7⟩:=zEs t7
 have hat:∀(j:Nat) u,cs[j]? =some u->(j=0/\u=v0)∨(j=1/\u=v1)∨(j=2/\u=v2)∨(j=3/\u=v3)∨(j=4/\u=v4)∨(j=5/\u=v5)∨(j=6/\u=v6)∨(j=7/\u=v7):=fun j u hu=>by
  have hu':cs.toList[j]? =some u:=by simpa using hu
  match j,hu' with
  |0,hu'=>rw[e0]at hu';cases hu';simp
  |1,hu'=>rw[e1]at hu';cases hu';simp
  |2,hu'=>rw[e2]at hu';cases hu';simp
  |3,hu'=>rw[e3]at hu';cases hu';simp
  |4,hu'=>rw[e4]at hu';cases hu';simp
  |5,hu'=>rw[e5]at hu';cases hu';simp
  |6,hu'=>rw[e6]at hu';cases hu';simp
  |7,hu'=>rw[e7]at hu';cases hu';simp
  |j+8,hu'=>have h2:=(List.getElem?_eq_some_iff.1 hu').1;rw[hl]at h2;exact absurd h2 (by show ¬j+8<8;omega)
 refine ⟨D,⟨a0,a1,a2,a3,a4,a5,a6,a7⟩,.agg _ cs (by show cs.size=8;rw[<-Array.length_toList,hl];rfl) (fun u hu=> ?_) (fun j g u hg hu=> ?_),⟨q0,q1,q3,fun o ho=>(q4 o ho).1,q6,l4,fun o ho=>(q4 o ho).2⟩⟩
 ·obtain ⟨j,hj⟩:=List.getElem?_of_mem hu
  rcases hat j u (by simpa using hj)with ⟨rfl,rfl⟩|⟨rfl,rfl⟩|⟨rfl,rfl⟩|⟨rfl,rfl⟩|⟨rfl,rfl⟩|⟨rfl,rfl⟩|⟨rfl,rfl⟩|⟨rfl,rfl⟩
  ·exact x0.one
  ·exact x1.one
  ·exact x2.one
  ·exact x3.one
  ·exact x4.one
  ·exact x5.one
  ·exact x6.one
  ·exact x7.one
 ·rcases hat j u hu with ⟨rfl,rfl⟩|⟨rfl,rfl⟩|⟨rfl,rfl⟩|⟨rfl,rfl⟩|⟨rfl,rfl⟩|⟨rfl,rfl⟩|⟨rfl,rfl⟩|⟨rfl,rfl⟩
  ·cases hg;exact .d x0
  ·cases hg;exact .d x1
  ·cases hg;exact .d x2
  ·cases hg;exact .d x3
  ·cases hg;exact .d x4
  ·cases hg;exact .d x5
  ·cases hg;exact .d x6
  ·cases hg;exact .d x7
end
end Go.Gh
namespace Go.Gh
open Go Go.Proofs
set_option maxRecDepth 1000000
set_option maxHeartbeats 2000000
set_option linter.unusedSimpArgs false
set_option linter.unusedVariables false
set_option linter.unnecessarySimpa false
end Go.Gh
namespace Go.Proofs.YtlnnombljiecmaaGreatDoor
open Go.ChangeShapes Go.WideShapes Go.ChangeAt Go.RowKit Go.Deep Go.Gh
theorem own:ownKnob Tryz.prog.godebug=none:=by kernel_rfl
theorem Ql:laidOutB Tryz.prog=true:=by kernel_rfl
theorem scV {ν:Nu} {F:Fz} {w:World} (v:Value) (h:v.oneCell'=true):VR ν F w (.d (.sc v)) v:= .d (.sc v h)
def zAy:List (String×DataW Unit):=[("math/bits.deBruijn32tab",Rows.laid_math_bits_deBruijn32tab),("math/bits.deBruijn64tab",Rows.laid_math_bits_deBruijn64tab),("internal/strconv.uint64pow10",Rows.laid_internal_strconv_uint64pow10),("allonge/order.numbers",Rows.laid_allonge_order_numbers)]
def zEm:List Int:=[6,7,10,12,13,14,15,16,20,21]
theorem gPow:Tryz.prog.globalNamed "internal/strconv.uint64pow10" =some 1:=by kernel_rfl
theorem gOrd:Tryz.prog.globalNamed "allonge/order.numbers" =some 2:=by kernel_rfl
theorem Kp {W:World} (h:laidMetH Tryz.prog zAy W):UW (Yw W) W:=by
 rw[MakeChecks.laidMetH_plain _ _ _ (by kernel_rfl)]at h
 have h0:laidMet Tryz.prog (("internal/strconv.uint64pow10",Lib.tabData .u64 Lib.pow10Tab):: [("allonge/order.numbers",Lib.tabData .i64 zEm)]) W:=(laidMet.tail (laidMet.tail h))
 have h1:laidMet Tryz.prog (("allonge/order.numbers",Lib.tabData .i64 zEm):: []) W:=laidMet.tail h0
 have ht:=Lib.tabIs_of_head gPow (t:=283) (e:=245) (n:=20) (by kernel_rfl) Tryz.underlying283 Tryz.underlying245 (by kernel_rfl) (by kernel_rfl) h0
 have hu:=Lib.tabIs_of_head gOrd (t:=293) (e:=3) (n:=10) (by kernel_rfl) Tryz.underlying293 Tryz.underlying3 (by kernel_rfl) (by kernel_rfl) h1
 intro q hq
 have hq:q∈ [(1,Vv .u64 Lib.pow10Tab),(2,Vv .i64 zEm)]:=hq
 simp only[List.mem_cons,List.not_mem_nil,or_false]at hq
 rcases hq with rfl|rfl
 ·exact wg ht gPow (by decide)
 ·exact wg hu gOrd (by decide)
theorem zRw (os:Os) (args:Array Value):laidMetH Tryz.prog zAy ((World.laidAll Tryz.prog os zAy).forCall (fun _ _=>0) ⟨#[],args,[]⟩).memory:=by
 rw[MakeChecks.laidMetH_plain _ _ _ (by kernel_rfl)];exact laidMet_laidAll _ (by kernel_rfl) (by kernel_rfl)
end Go.Proofs.YtlnnombljiecmaaGreatDoor
namespace Go.Gh
end Go.Gh
namespace Go.Gh
open Go Go.Proofs
set_option maxRecDepth 1000000
set_option maxHeartbeats 2000000
set_option linter.unusedSimpArgs false
set_option linter.unusedVariables false
set_option linter.unnecessarySimpa false
section
variable {H:Type} {enc:TypeId×Value->H} {P:Program} {w:World} {base:Nat} {spare:Nat->Bool} {held:Bool}
open Go.Proofs.YtlnnombljiecmaaGreatDoor Go.ChangeShapes Go.WideShapes Go.ChangeAt Go.RowKit Go.Deep
theorem ju {α:Type} {df:α} {cs:α->List D} {xs:List α} {F:Fz} {w':World} {t e fuel B:Nat} {v:Value} {x:DataW H×List MemPlace} (hd:DR F w' (.row df cs xs) v) (ht:P.underlying t=some (.slice e)) (hB:P.bytesOf e=B) (h:DataW.trod enc P w base spare held fuel t [v]=some x) (hw:(DataW.weights P t x.1).all (fun k=>decide (k<=reachBytes))=true):xs.length*B<=140737488351232:=by
 rcases DataW.trod_slice ht h with ⟨h0,_⟩|⟨a,len,cap,elems,rest,n,_,hc,rfl,_,_,_,hlen,_⟩
 ·simp at h0
  subst h0
  generalize hz:(Value.slice none 0 0)=v at hd
  cases hd
  injection hz with e1 e2 e3
  rw[<-e2];omega
 simp at hc
 subst hc
 have h1:xs.length=len:=by
  generalize hz:(Value.slice (some a) len cap)=v at hd
  cases hd
  injection hz with e1 e2 e3
  omega
 simp only[DataW.weights,ht,List.all_cons,Bool.and_eq_true,decide_eq_true_eq,List.length_map,hB]at hw
 have h2:=hw.1
 unfold reachBytes at h2
 rw[h1,<-hlen]
 exact Nat.le_trans (Nat.mul_le_mul_right B (Nat.le_add_right _ _)) h2
theorem zEu {r:Reach} {b0:Nat} {v:Value} {d:DataW H} {ps:List MemPlace} (hv:Value.okWide Tryz.prog w r b0 41 v) (h:DataW.Trod enc Tryz.prog w base spare held 41 v d ps) (hw:(DataW.weights Tryz.prog 41 d).all (fun k=>decide (k<=reachBytes))=true):
 ∃x:Fil,VR (fun _=>none) (Yw w) w (fiG x) v/\MemF x:=by
 obtain ⟨cs,rfl,hsz⟩:=uT Tryz.underlying41 hv
 obtain ⟨fuel,hf⟩:=h
 have hf':DataW.trod enc Tryz.prog w base spare held fuel 41 cs.toList=some (d,ps):=hf
 obtain ⟨ys,n,_,hd,hl,hyl,hg⟩:=DataW.trod_struct Tryz.underlying41 hf'
 obtain ⟨l⟩:=cs
 have hl:l.length=19:=hl.trans (by kernel_rfl)
 match l,hl with
 | [u0,u1,u2,u3,u4,u5,u6,u7,u8,u9,u10,u11,u12,u13,u14,u15,u16,u17,u18],_=>
   match ys,hyl with
   | [y0,y1,y2,y3,y4],_=>
     have k0:DataW.trod enc Tryz.prog w base spare held n 35 [u0,u1,u2,u3,u4,u5,u6,u7,u8,u9,u10,u11,u12,u13,u14]=some y0:=hg 0 _ rfl
     have k1:DataW.trod enc Tryz.prog w base spare held n 36 [u15]=some y1:=hg 1 _ rfl
     obtain ⟨b1,x1,_,_⟩:=zEo k1
     have k2:DataW.trod enc Tryz.prog w base spare held n 37 [u16]=some y2:=hg 2 _ rfl
     obtain ⟨b2,x2,_,_⟩:=zAc k2
     have k3:DataW.trod enc Tryz.prog w base spare held n 38 [u17]=some y3:=hg 3 _ rfl
     obtain ⟨b3,x3,_,_⟩:=zLf k3
     have k4:DataW.trod enc Tryz.prog w base spare held n 39 [u18]=some y4:=hg 4 _ rfl
     obtain ⟨b4,x4,_,_⟩:=zEv k4
     have hd1:d= .agg [y0.1,y1.1,y2.1,y3.1,y4.1]:=congrArg Prod.fst hd
     rw[hd1]at hw
     simp only[DataW.weights,Tryz.underlying41]at hw
     have hts:DataW.weightsEach Tryz.prog [35,36,37,38,39] [y0.1,y1.1,y2.1,y3.1,y4.1]=DataW.weights Tryz.prog 35 y0.1++(DataW.weights Tryz.prog 36 y1.1++(DataW.weights Tryz.prog 37 y2.1++(DataW.weights Tryz.prog 38 y3.1++(DataW.weights Tryz.prog 39 y4.1++ [])))):=by simp only[DataW.weightsEach]
     have hw2:(DataW.weightsEach Tryz.prog [35,36,37,38,39] [y0.1,y1.1,y2.1,y3.1,y4.1]).all (fun k=>decide (k<=reachBytes))=true:=hw
     rw[hts]at hw2
     simp only[List.all_append,Bool.and_eq_true]at hw2
     obtain ⟨_,w1,w2,w3,w4,_⟩:=hw2
     have l1:=ju (B:=72) x1 Tryz.underlying36 (by kernel_rfl) k1 w1
     have l2:=ju (B:=16) x2 Tryz.underlying37 (by kernel_rfl) k2 w2
     have l3:=ju (B:=72) x3 Tryz.underlying38 (by kernel_rfl) k3 w3
     have l4:=ju (B:=24) x4 Tryz.underlying39 (by kernel_rfl) k4 w4
     obtain ⟨zs,n2,_,_,_,hzl,hg2⟩:=DataW.trod_struct Tryz.underlying35 k0
     match zs,hzl with
     | [z0,z1,z2,z3,z4,z5,z6,z7,z8,z9,z10,z11,z12],_=>
       have m0:DataW.trod enc Tryz.prog w base spare held n2 3 [u0]=some z0:=hg2 0 _ rfl
       obtain ⟨a0,f0,_,_⟩:=DataW.trod_int Tryz.underlying3 m0
       simp at f0;subst f0
       have m1:DataW.trod enc Tryz.prog w base spare held n2 3 [u1]=some z1:=hg2 1 _ rfl
       obtain ⟨a1,f1,_,_⟩:=DataW.trod_int Tryz.underlying3 m1
       simp at f1;subst f1
       have m2:DataW.trod enc Tryz.prog w base spare held n2 3 [u2]=some z2:=hg2 2 _ rfl
       obtain ⟨a2,f2,_,_⟩:=DataW.trod_int Tryz.underlying3 m2
       simp at f2;subst f2
       have m3:DataW.trod enc Tryz.prog w base spare held n2 3 [u3]=some z3:=hg2 3 _ rfl
       obtain ⟨a3,f3,_,_⟩:=DataW.trod_int Tryz.underlying3 m3
       simp at f3;subst f3
       have m4:DataW.trod enc Tryz.prog w base spare held n2 3 [u4]=some z4:=hg2 4 _ rfl
       obtain ⟨a4,f4,_,_⟩:=DataW.trod_int Tryz.underlying3 m4
       simp at f4;subst f4
       have m5:DataW.trod enc Tryz.prog w base spare held n2 33 [u5,u6,u7]=some z5:=hg2 5 _ rfl
       obtain ⟨_,hf5⟩:=Zd Tryz.underlying33 (by kernel_rfl) (by kernel_rfl) m5
       obtain ⟨w0,_,_,i0,s0⟩:=hf5 0 _ rfl
       simp at i0;subst i0
       obtain ⟨a5,f5,_,_⟩:=DataW.trod_int Tryz.underlying3 s0
       simp at f5;subst f5
       obtain ⟨w1,_,_,i1,s1⟩:=hf5 1 _ rfl
       simp at i1;subst i1
       obtain ⟨a6,f6,_,_⟩:=DataW.trod_int Tryz.underlying3 s1
       simp at f6;subst f6
       obtain ⟨w2,_,_,i2,s2⟩:=hf5 2 _ rfl
       simp at i2;subst i2
       obtain ⟨a7,f7,_,_⟩:=DataW.trod_int Tryz.underlying3 s2
       simp at f7;subst f7
       have m6:DataW.trod enc Tryz.prog w base spare held n2 3 [u8]=some z6:=hg2 6 _ rfl
       obtain ⟨a8,f8,_,_⟩:=DataW.trod_int Tryz.underlying3 m6
       simp at f8;subst f8
       have m7:DataW.trod enc Tryz.prog w base spare held n2 3 [u9]=some z7:=hg2 7 _ rfl
       obtain ⟨a9,f9,_,_⟩:=DataW.trod_int Tryz.underlying3 m7
       simp at f9;subst f9
       have m8:DataW.trod enc Tryz.prog w base spare held n2 3 [u10]=some z8:=hg2 8 _ rfl
       obtain ⟨a10,f10,_,_⟩:=DataW.trod_int Tryz.underlying3 m8
       simp at f10;subst f10
       have m9:DataW.trod enc Tryz.prog w base spare held n2 3 [u11]=some z9:=hg2 9 _ rfl
       obtain ⟨a11,f11,_,_⟩:=DataW.trod_int Tryz.underlying3 m9
       simp at f11;subst f11
       have m10:DataW.trod enc Tryz.prog w base spare held n2 3 [u12]=some z10:=hg2 10 _ rfl
       obtain ⟨a12,f12,_,_⟩:=DataW.trod_int Tryz.underlying3 m10
       simp at f12;subst f12
       have m11:DataW.trod enc Tryz.prog w base spare held n2 3 [u13]=some z11:=hg2 11 _ rfl
       obtain ⟨a13,f13,_,_⟩:=DataW.trod_int Tryz.underlying3 m11
       simp at f13;subst f13
       have m12:DataW.trod enc Tryz.prog w base spare held n2 3 [u14]=some z12:=hg2 12 _ rfl
       obtain ⟨a14,f14,_,_⟩:=DataW.trod_int Tryz.underlying3 m12
       simp at f14;subst f14
       refine ⟨⟨⟨a0,a1,a2,a3,a4,⟨a5,a6,a7⟩,a8,a9,a10,a11,a12,a13,a14⟩,b1,b2,b3,b4⟩,.agg _ _ rfl (fun u hu=> ?_) (fun j g u hg hu=> ?_),⟨by show b1.length<=_;omega,by show b2.length<=_;omega,by show b3.length<=_;omega,by show b4.length<=_;omega⟩⟩
       ·simp only[List.mem_cons,List.not_mem_nil,or_false]at hu
        rcases hu with rfl|rfl|rfl|rfl|rfl|rfl|rfl|rfl|rfl|rfl|rfl|rfl|rfl|rfl|rfl|rfl|rfl|rfl|rfl
        ·rfl
        ·rfl
        ·rfl
        ·rfl
        ·rfl
        ·rfl
        ·rfl
        ·rfl
        ·rfl
        ·rfl
        ·rfl
        ·rfl
        ·rfl
        ·rfl
        ·rfl
        ·exact x1.one
        ·exact x2.one
        ·exact x3.one
        exact x4.one
       match j,hg,hu with
       |0,hg,hu=>cases hu;cases hg;exact .d (.sc _ rfl)
       |1,hg,hu=>cases hu;cases hg;exact .d (.sc _ rfl)
       |2,hg,hu=>cases hu;cases hg;exact .d (.sc _ rfl)
       |3,hg,hu=>cases hu;cases hg;exact .d (.sc _ rfl)
       |4,hg,hu=>cases hu;cases hg;exact .d (.sc _ rfl)
       |5,hg,hu=>cases hu;cases hg;exact .d (.sc _ rfl)
       |6,hg,hu=>cases hu;cases hg;exact .d (.sc _ rfl)
       |7,hg,hu=>cases hu;cases hg;exact .d (.sc _ rfl)
       |8,hg,hu=>cases hu;cases hg;exact .d (.sc _ rfl)
       |9,hg,hu=>cases hu;cases hg;exact .d (.sc _ rfl)
       |10,hg,hu=>cases hu;cases hg;exact .d (.sc _ rfl)
       |11,hg,hu=>cases hu;cases hg;exact .d (.sc _ rfl)
       |12,hg,hu=>cases hu;cases hg;exact .d (.sc _ rfl)
       |13,hg,hu=>cases hu;cases hg;exact .d (.sc _ rfl)
       |14,hg,hu=>cases hu;cases hg;exact .d (.sc _ rfl)
       |15,hg,hu=>cases hu;cases hg;exact .d x1
       |16,hg,hu=>cases hu;cases hg;exact .d x2
       |17,hg,hu=>cases hu;cases hg;exact .d x3
       |18,hg,hu=>cases hu;cases hg;exact .d x4
       |j+19,hg,hu=>simp at hu
end
end Go.Gh
namespace Go.Proofs.YtlnnombljiecmaaGreatDoor.twice
open Go
set_option maxRecDepth 100000
theorem YW {a b:Bool} (h:a=true) (k:b=true):(a&&b)=true:=by rw[h,k];rfl
theorem jf0:(Rows.topTwiceRow.wf (OpenSpec.ofChange (OpenSpec.ofChange Rows.topTwiceSpec).bare))=true:=by kernel_rfl
theorem jf1:(laidOutB Tryz.pinned.checked.prog)=true:=by kernel_rfl
theorem jf2:(mapsRowed Tryz.pinned.checked.prog)=true:=by kernel_rfl
theorem jf3:(Tryz.f5.params.all (fun t=>Tryz.pinned.checked.prog.readableRec t))=true:=by kernel_rfl
theorem jf4:(namedTie Tryz.pinned.checked.prog Rows.topTwiceRow.named (OpenSpec.ofChange Rows.topTwiceSpec).bare.vars)=true:=by kernel_rfl
theorem jf5:(Rows.topTwiceRow.stops== [])=true:=by kernel_rfl
theorem jf6:(Tryz.pinned.checked.prog.stops== [])=true:=by kernel_rfl
theorem jf7:(Rows.topTwiceRow.knobs== [])=true:=by kernel_rfl
theorem jf8:(Tryz.pinned.checked.prog.stopKnobs== [])=true:=by kernel_rfl
theorem jf9:(Rows.topTwiceRow.inPlace==Tryz.pinned.checked.prog.inPlace 5)=true:=by kernel_rfl
theorem jf10:(Rows.topTwiceRow.unfollowed==Tryz.pinned.checked.prog.unfollowed 5)=true:=by kernel_rfl
theorem jf11:(Rows.topTwiceRow.recurses==Tryz.pinned.checked.prog.recurses 5)=true:=by kernel_rfl
theorem jf12:(Rows.topTwiceRow.named==Tryz.pinned.checked.prog.varsNamed 5)=true:=by kernel_rfl
theorem jf13:(Rows.topTwiceRow.maps==(Tryz.f5.params.toList++(OpenSpec.ofChange Rows.topTwiceSpec).bare.plain.varTypes Tryz.pinned.checked.prog).any (fun t=>Tryz.pinned.checked.prog.mapsRec t))=true:=by kernel_rfl
theorem jf14:(Rows.topTwiceRow.ifaces==(Tryz.f5.params.toList++(OpenSpec.ofChange Rows.topTwiceSpec).bare.plain.varTypes Tryz.pinned.checked.prog).any (fun t=>Tryz.pinned.checked.prog.ifacesRec t))=true:=by kernel_rfl
theorem jf15:(Rows.topTwiceRow.mapsOut==Tryz.pinned.checked.prog.mapsAmong Tryz.f5.resultTypes.toList)=true:=by kernel_rfl
theorem jf16:(Rows.topTwiceRow.loops==(Tryz.f5.params.toList++(OpenSpec.ofChange Rows.topTwiceSpec).bare.plain.varTypes Tryz.pinned.checked.prog).any (fun t=>Tryz.pinned.checked.prog.loopsFrom t))=true:=by kernel_rfl
theorem jf17:(Rows.topTwiceRow.wideKeys==(Tryz.f5.params.toList++(OpenSpec.ofChange Rows.topTwiceSpec).bare.plain.varTypes Tryz.pinned.checked.prog++Tryz.f5.resultTypes.toList).any (fun t=>Tryz.pinned.checked.prog.wideKeysFrom t))=true:=by kernel_rfl
theorem jf18:((OpenSpec.ofChange Rows.topTwiceSpec).bare.vars.all (fun t=>Tryz.pinned.checked.prog.varReadable t))=true:=by kernel_rfl
theorem jf19:(Tryz.f5.resultTypes.all (fun t=>Tryz.pinned.checked.prog.readableRec t&&decide (t<Tryz.pinned.checked.prog.types.size)))=true:=by kernel_rfl
theorem jf20:(Rows.topTwiceRow.ifacesOut==Tryz.f5.resultTypes.toList.any (fun t=>Tryz.pinned.checked.prog.ifacesRec t))=true:=by kernel_rfl
theorem jf21:(Rows.topTwiceRow.loopsOut==Tryz.f5.resultTypes.toList.any (fun t=>Tryz.pinned.checked.prog.loopsFrom t))=true:=by kernel_rfl
theorem jf22:(Rows.topTwiceRow.plainKeys==Tryz.pinned.checked.prog.plainKeys)=true:=by kernel_rfl
theorem jf23:(Rows.topTwiceRow.shortTexts.isNone)=true:=by kernel_rfl
theorem jf24:(Tryz.pinned.checked.prog.stopsHeard)=true:=by kernel_rfl
theorem jf25:(Tryz.pinned.checked.prog.mayEnter)=true:=by kernel_rfl
theorem jf26:(Rows.topTwiceRow.lifted==Tryz.pinned.checked.prog.liftsFinal)=true:=by kernel_rfl
theorem jf27:(Tryz.pinned.checked.prog.make==some Rows.topTwiceRow.make)=true:=by kernel_rfl
theorem jf29:(Rows.topTwiceRow.pinned==Rows.topTwiceRow.pinnedBy)=true:=by kernel_rfl
theorem jf30:(Rows.topTwiceRow.veiled==(Tryz.f5.params.toList++(OpenSpec.ofChange Rows.topTwiceSpec).bare.plain.varTypes Tryz.pinned.checked.prog++Tryz.f5.resultTypes.toList).any (fun t=>Tryz.pinned.checked.prog.veiledRec t))=true:=by kernel_rfl
theorem jf31:(Rows.topTwiceRow.veiledFits Tryz.pinned.checked.prog Tryz.f5.params.toList (Tryz.f5.params.toList++(OpenSpec.ofChange Rows.topTwiceSpec).bare.plain.varTypes Tryz.pinned.checked.prog++Tryz.f5.resultTypes.toList))=true:=by kernel_rfl
theorem joined:joinedFacts Tryz.pinned.checked.prog 5 Tryz.f5 (OpenSpec.ofChange Rows.topTwiceSpec).bare Rows.topTwiceRow=true:=
 (YW (YW (YW (YW (YW (YW (YW (YW (YW (YW (YW (YW (YW (YW (YW (YW (YW (YW (YW (YW (YW (YW (YW (YW (YW (YW (YW (YW (YW (YW (YW jf0 jf1) jf2) jf3) jf4) jf5) jf6) jf7) jf8) jf9) jf10) jf11) jf12) jf13) jf14) jf15) jf16) jf17) jf18) jf19) jf20) jf21) jf22) jf23) jf24) jf25) jf26) jf27) (by kernel_rfl)) jf29) jf30) jf31)
end Go.Proofs.YtlnnombljiecmaaGreatDoor.twice
