/- Walks by the logic of calls, and plain laws (several texts in one). -/
import Derived.Test.YtlnnombljiecmaaGreatDoorM7
import Derived.Test.YtlnnombljiecmaaGreatDoorGh4
import Derived.Test.YtlnnombljiecmaaGreatDoorM4
import Derived.Test.YtlnnombljiecmaaGreatDoorM6
import Derived.Test.YtlnnombljiecmaaGreatDoorGh3
import Derived.Test.YtlnnombljiecmaaGreatDoorRows
import Derived.Test.YtlnnombljiecmaaGreatDoorCards
import Derived.Test.YtlnnombljiecmaaGreatDoorTie
import Derived.ProofKit
import Derived.OpenShut
import Derived.ShutString
import Derived.ChangeOld
import Derived.Deep.Slices
import Derived.Deep.Fields
import Derived.ChangeSame
import Derived.HandedShaped
import Derived.Lib.LaidTab
import Derived.LaidMore
import Derived.Stop.Joined
import Derived.Stop.LaidErr
import Derived.SevenTiedAt
import Derived.Lay
import Derived.JoinedTies
import Derived.JoinedOf
import Derived.KernelRfl
namespace Go.Gh
open Go Go.Proofs
open Go.IntKind (i64)
set_option maxRecDepth 1000000
set_option maxHeartbeats 2000000
set_option linter.unusedSimpArgs false
set_option linter.unusedVariables false
set_option linter.unnecessarySimpa false
set_option linter.unusedSectionVars false
variable [Dep]
open Go.RowKit
theorem YA.at_ {f:Fil} (h:YA f) (day:Int):YA (atV f day):=fun i j hij hj=>by
 have hp:=zGi f day
 rw[hp.2 i t11,hp.2 j hj]
 exact h i j hij t11
structure Paid (r:Rlm) (f:Fil) (day:Int) (g:Fil):Prop where
 fi:FitFi g
 backs:yX g
 rises:YA g
 whos:vI r g
 pay:0<=g.bill.pay/\g.bill.pay<r.bB.length
 s20:g.bF.length<=20
 a31:g.acts.length<=31
theorem zKm {r:Rlm} {f:Fil} (h:Good r f) (i to_ sum day:Int):Paid r f day (Zb f i to_ sum day):=by
 have hr:=h.rr.right.fit
 have hF:=h.fi
 have hB:=(h.ck.backs hr).at_ day
 have hd:=(h.ck.rises hr).at_ day
 have hw:=(h.ck.whos hr).at_ day
 have hp:=(qP h.ck.bill).pay
 have hF2:=hF.at_ day
 have hn:=zZy f day
 have h1:=h.s20
 have h2:=h.a30
 obtain ⟨p,_,e⟩:=zHt f i to_ sum day
 rw[e]
 have hl:(Qb (atV f day) p).acts.length=(atV f day).acts.length+1:=by show ((atV f day).acts++ [p]).length=_;simp
 refine ⟨⟨hF2.bF,hF2.bH,by rw[hl];omega,hF2.facts⟩,hB,hd,hw,?_,?_,by rw[hl];omega⟩
 ·show 0<=(atV f day).bill.pay/\(atV f day).bill.pay<_
  rw[wP];exact hp
 show (atV f day).bF.length<=20
 omega
theorem ZAi (r:Rlm) (bK:Int) (f:Fil) (day:Int) (h1:f.bF.length<=20) (h2:f.acts.length<=31):(zJ r bK f day).length<=10000:=Nat.le_trans (run_n r bK f day h1 h2) t23
theorem Hi (r:Rlm) (bK:Int) (f:Fil) (day:Int) (hR:RR r) (hF:FitFi f) (hB:yX f) (hd:YA f) (hw:vI r f) (hp:0<=f.bill.pay/\f.bill.pay<r.bB.length):GC Tryz.prog 12 [rlG r,iG bK,fiG f,iG day] (.d (.row dF clC (zJ r bK f day))):=zSd (zHp r bK f day hR hF hB hd hw hp) rfl
def Yi (r:Rlm) (bK:Int) (f:Fil) (which:Int) (day:Int) (a15_1:Int) (k1:Nat) (k2:Nat):Bool:=if k2<(zJ r bK f day).length then if (bif (bif (bif (!(VV (⟨((zJ r bK (Zb f (((zJ r bK f day).getD (((i64.wrap which).tmod ((zJ r bK f day).length:Int)).toNat) dF).sign) (((zJ r bK f day).getD (((i64.wrap which).tmod ((zJ r bK f day).length:Int)).toNat) dF).bI) a15_1 day) day).getD k2 dF).bJ,((zJ r bK (Zb f (((zJ r bK f day).getD (((i64.wrap which).tmod ((zJ r bK f day).length:Int)).toNat) dF).sign) (((zJ r bK f day).getD (((i64.wrap which).tmod ((zJ r bK f day).length:Int)).toNat) dF).bI) a15_1 day) day).getD k2 dF).bI,((zJ r bK (Zb f (((zJ r bK f day).getD (((i64.wrap which).tmod ((zJ r bK f day).length:Int)).toNat) dF).sign) (((zJ r bK f day).getD (((i64.wrap which).tmod ((zJ r bK f day).length:Int)).toNat) dF).bI) a15_1 day) day).getD k2 dF).part,((zJ r bK (Zb f (((zJ r bK f day).getD (((i64.wrap which).tmod ((zJ r bK f day).length:Int)).toNat) dF).sign) (((zJ r bK f day).getD (((i64.wrap which).tmod ((zJ r bK f day).length:Int)).toNat) dF).bI) a15_1 day) day).getD k2 dF).sign,((zJ r bK (Zb f (((zJ r bK f day).getD (((i64.wrap which).tmod ((zJ r bK f day).length:Int)).toNat) dF).sign) (((zJ r bK f day).getD (((i64.wrap which).tmod ((zJ r bK f day).length:Int)).toNat) dF).bI) a15_1 day) day).getD k2 dF).by_,((zJ r bK (Zb f (((zJ r bK f day).getD (((i64.wrap which).tmod ((zJ r bK f day).length:Int)).toNat) dF).sign) (((zJ r bK f day).getD (((i64.wrap which).tmod ((zJ r bK f day).length:Int)).toNat) dF).bI) a15_1 day) day).getD k2 dF).turn,((zJ r bK f day).getD k2 dF).sum,((zJ r bK (Zb f (((zJ r bK f day).getD (((i64.wrap which).tmod ((zJ r bK f day).length:Int)).toNat) dF).sign) (((zJ r bK f day).getD (((i64.wrap which).tmod ((zJ r bK f day).length:Int)).toNat) dF).bI) a15_1 day) day).getD k2 dF).cur,((zJ r bK (Zb f (((zJ r bK f day).getD (((i64.wrap which).tmod ((zJ r bK f day).length:Int)).toNat) dF).sign) (((zJ r bK f day).getD (((i64.wrap which).tmod ((zJ r bK f day).length:Int)).toNat) dF).bI) a15_1 day) day).getD k2 dF).state⟩:Clm) ((zJ r bK f day).getD k2 dF)))then true else decide ((((zJ r bK f day).getD k2 dF).sum)<(((zJ r bK (Zb f (((zJ r bK f day).getD (((i64.wrap which).tmod ((zJ r bK f day).length:Int)).toNat) dF).sign) (((zJ r bK f day).getD (((i64.wrap which).tmod ((zJ r bK f day).length:Int)).toNat) dF).bI) a15_1 day) day).getD k2 dF).sum)))then true else (bif decide ((((zJ r bK f day).getD k2 dF).bI)=(((zJ r bK f day).getD (((i64.wrap which).tmod ((zJ r bK f day).length:Int)).toNat) dF).bI))then (!decide ((((zJ r bK (Zb f (((zJ r bK f day).getD (((i64.wrap which).tmod ((zJ r bK f day).length:Int)).toNat) dF).sign) (((zJ r bK f day).getD (((i64.wrap which).tmod ((zJ r bK f day).length:Int)).toNat) dF).bI) a15_1 day) day).getD k2 dF).sum)=0))else false))then true else (bif (bif decide (0<=(((zJ r bK f day).getD k2 dF).bI))then (!decide ((((zJ r bK f day).getD k2 dF).bI)=(((zJ r bK f day).getD (((i64.wrap which).tmod ((zJ r bK f day).length:Int)).toNat) dF).bI)))else false)then (!decide ((((zJ r bK (Zb f (((zJ r bK f day).getD (((i64.wrap which).tmod ((zJ r bK f day).length:Int)).toNat) dF).sign) (((zJ r bK f day).getD (((i64.wrap which).tmod ((zJ r bK f day).length:Int)).toNat) dF).bI) a15_1 day) day).getD k2 dF).sum)=(((zJ r bK f day).getD k2 dF).sum)))else false))=true then false else Yi r bK f which day a15_1 k1 (k2+1)else zIb
termination_by (zJ r bK f day).length-k2
def qD (r:Rlm) (bK:Int) (f:Fil) (which:Int) (day:Int) (a15_1:Int) (k1:Nat):Bool:=if k1<(zJ r bK f day).length then if (((zJ r bK f day).getD k1 dF).bI)=(((zJ r bK f day).getD (((i64.wrap which).tmod ((zJ r bK f day).length:Int)).toNat) dF).bI)then qD r bK f which day (mxI a15_1 (((zJ r bK f day).getD k1 dF).sum)) (k1+1)else qD r bK f which day a15_1 (k1+1)else if (bif (!decide ((vE r (Zb f (((zJ r bK f day).getD (((i64.wrap which).tmod ((zJ r bK f day).length:Int)).toNat) dF).sign) (((zJ r bK f day).getD (((i64.wrap which).tmod ((zJ r bK f day).length:Int)).toNat) dF).bI) a15_1 day))=0))then true else (!decide (((zJ r bK (Zb f (((zJ r bK f day).getD (((i64.wrap which).tmod ((zJ r bK f day).length:Int)).toNat) dF).sign) (((zJ r bK f day).getD (((i64.wrap which).tmod ((zJ r bK f day).length:Int)).toNat) dF).bI) a15_1 day) day).length:Int)=((zJ r bK f day).length:Int))))=true then false else Yi r bK f which day a15_1 k1 0
termination_by (zJ r bK f day).length-k1
def wc (r:Rlm) (bK:Int) (f:Fil) (which:Int) (day:Int):Bool:=if (bif (bif (!(zBl r f))then true else decide (100<=(f.acts.length:Int)))then true else decide (100000<day))=true then zIb else if ((zJ r bK f day).length:Int)=0 then zIb else if (bif decide ((((zJ r bK f day).getD (((i64.wrap which).tmod ((zJ r bK f day).length:Int)).toNat) dF).sign)<0)then true else decide ((((atV f day).bF).length:Int)<=(((zJ r bK f day).getD (((i64.wrap which).tmod ((zJ r bK f day).length:Int)).toNat) dF).sign)))=true then false else if (bif (bif (!decide (((((atV f day).bF).getD ((((zJ r bK f day).getD (((i64.wrap which).tmod ((zJ r bK f day).length:Int)).toNat) dF).sign).toNat) dF).kind)=1))then true else decide ((((zJ r bK f day).getD (((i64.wrap which).tmod ((zJ r bK f day).length:Int)).toNat) dF).sum)<1))then true else decide ((((zJ r bK f day).getD (((i64.wrap which).tmod ((zJ r bK f day).length:Int)).toNat) dF).bI)<0))=true then zIb else qD r bK f which day 0 0
theorem zWo (r:Rlm) (bK:Int) (f:Fil) (which:Int) (day:Int) (hm:MemX r) (hs:0<=which/\which<=255):GC Tryz.prog 4 [rlG r,iG bK,fiG f,cG which,iG day] (bG (wc r bK f which day)):=by
 have hw0:i64.wrap which=which:=za (by unfold inR;omega)
 refine zA Tryz.func4 ?_
 refine gE [1,3,4,5,7,10] ?_
 refine gR [.call (zXi)] [1,3,4,5,7,10,11] ?_
 refine gR [.call (zYm r f t12)] [1,3,4,5,7,10,11,35] ?_
 refine zF ?_ ?_<;>intro c1<;>try simp only[bb,toN]at c1
 ·refine gE [1,3,4,5,7,10,11] ?_
  refine gT ?_
  rw[wc,iP (by (try simp only[bb,toN]);exact c1)];rfl
 have hq0:=c1
 have hq:zBl r f=true:=by first|exact c1.1|exact c1.1.1
 have hgd:=Wv hm hq
 have hR:=hgd.rr
 have hF:=hgd.fi
 have hr:=hR.right.fit
 have hB:=hgd.ck.backs hr
 have hd:=hgd.ck.rises hr
 have hw:=hgd.ck.whos hr
 have hp:=(qP hgd.ck.bill).pay
 have g1:=hF.bF
 have g2:=hF.bH
 have g3:=hF.acts
 have g4:=hF.facts
 have n1:=ZAi r bK f day hgd.s20 (by have:=hgd.a30;omega)
 have hF2:=hF.at_ day
 have g1a:=hF2.bF
 have g3a:=hF2.acts
 refine gR [.call (Hi r bK f day hR t12 t12 t12 t12 t12)] [1,3,4,5,7,10,11,12] ?_
 refine gE [1,3,4,5,7,10,11,12,44] ?_
 refine zB ?_ ?_<;>intro c2<;>try simp only[toN]at c2
 ·refine gE [1,3,4,5,7,10,11,12] ?_
  refine gT ?_
  rw[wc,iN (by (try simp only[bb,toN]);exact c1),iP c2];rfl
 have hk:=jg (a:=i64.wrap which) (b:=((zJ r bK f day).length:Int)) t11 t11
 refine zG env true [] [1,4,5,7,10,11,12,13] ?_
 refine gR [.call (jC f day (by first|assumption|exact FitFi.at_ t12 _))] [1,4,5,7,10,11,12,13,14] ?_
 refine gE [1,4,5,7,10,11,12,13,14,67] ?_
 refine zF ?_ ?_<;>intro c3<;>try simp only[bb,toN]at c3
 ·refine gE [1,4,5,7,10,11,12,13,14] ?_
  refine gT ?_
  rw[wc,iN (by (try simp only[bb,toN]);exact c1),iQ c2,iP (by (try simp only[bb,toN]);exact c3)];rfl
 refine gE [1,4,5,7,10,11,12,13,85] ?_
 refine zF ?_ ?_<;>intro c4<;>try simp only[bb,toN]at c4
 ·refine gE [1,4,5,7,10,11,12,13] ?_
  refine gT ?_
  rw[wc,iN (by (try simp only[bb,toN]);exact c1),iQ c2,iN (by (try simp only[bb,toN]);exact c3),iP (by (try simp only[bb,toN]);exact c4)];rfl
 refine gE [1,4,5,7,10,11,12,13,15] ?_
 refine gE [1,4,5,7,10,11,12,13,15,16] ?_
 refine zI (α:=Int×Nat) (fun x=>x.2<=(zJ r bK f day).length/\qD r bK f which day 0 0=qD r bK f which day x.1 x.2) (fun x=>[(15,iG x.1),(16,iG x.2)]) (fun x=>[]) (fun x=>(zJ r bK f day).length-x.2) (0,0) ⟨by (try simp only[]);omega,rfl⟩ ?_ (hp:=t40)
 rintro ⟨a15_1,k1⟩ ⟨hi1,he⟩
 dsimp only at*
 refine gE [1,4,5,7,10,11,12,13,15,16,90] ?_
 refine zB ?_ ?_<;>intro c5<;>try simp only[toN]at c5
 ·refine gE [1,4,5,7,10,11,12,13,15,16,100] ?_
  refine zB ?_ ?_<;>intro c6<;>try simp only[toN]at c6
  ·refine gE [1,4,5,7,10,11,12,13,15,16] ?_
   refine gE [1,4,5,7,10,11,12,13,15,16] ?_
   refine zD ((mxI a15_1 (((zJ r bK f day).getD k1 dF).sum),k1+1)) ?_ (hp:=t40) (hm:=by dsimp only;omega)
   refine ⟨by (try simp only[]);omega,he.trans ?_⟩
   rw[qD,iP (show k1<(zJ r bK f day).length by omega),iP c6]
   try rfl
  refine gE [1,4,5,7,10,11,12,13,15,16] ?_
  refine zD ((a15_1,k1+1)) ?_ (hp:=t40) (hm:=by dsimp only;omega)
  refine ⟨by (try simp only[]);omega,he.trans ?_⟩
  rw[qD,iP (show k1<(zJ r bK f day).length by omega),iQ c6]
  try rfl
 refine gR [.call (zPq f (((zJ r bK f day).getD (((i64.wrap which).tmod ((zJ r bK f day).length:Int)).toNat) dF).sign) (((zJ r bK f day).getD (((i64.wrap which).tmod ((zJ r bK f day).length:Int)).toNat) dF).bI) a15_1 day t12 t16)] [1,4,5,10,11,12,13,17] ?_
 have hpg:=zKm hgd ((zJ r bK f day).getD (((i64.wrap which).tmod ((zJ r bK f day).length:Int)).toNat) dF).sign ((zJ r bK f day).getD (((i64.wrap which).tmod ((zJ r bK f day).length:Int)).toNat) dF).bI a15_1 day
 have p1:=hpg.fi
 have p2:=hpg.backs
 have p3:=hpg.rises
 have p4:=hpg.whos
 have p5:=hpg.pay
 have n2:=ZAi r bK (Zb f ((zJ r bK f day).getD (((i64.wrap which).tmod ((zJ r bK f day).length:Int)).toNat) dF).sign ((zJ r bK f day).getD (((i64.wrap which).tmod ((zJ r bK f day).length:Int)).toNat) dF).bI a15_1 day) day hpg.s20 hpg.a31
 refine gR [.call (Hi r bK (Zb f (((zJ r bK f day).getD (((i64.wrap which).tmod ((zJ r bK f day).length:Int)).toNat) dF).sign) (((zJ r bK f day).getD (((i64.wrap which).tmod ((zJ r bK f day).length:Int)).toNat) dF).bI) a15_1 day) day hR t12 t12 t12 t12 t12)] [5,10,11,12,13,17,18] ?_
 refine gR [.call (zZg r (Zb f (((zJ r bK f day).getD (((i64.wrap which).tmod ((zJ r bK f day).length:Int)).toNat) dF).sign) (((zJ r bK f day).getD (((i64.wrap which).tmod ((zJ r bK f day).length:Int)).toNat) dF).bI) a15_1 day) t12 t12)] [10,11,12,13,18,131] ?_
 refine zF ?_ ?_<;>intro c7<;>try simp only[bb,toN]at c7
 ·refine gE [10,11,12,13,18] ?_
  refine gT ?_
  rw[wc,iN (by (try simp only[bb,toN]);exact c1),iQ c2,iN (by (try simp only[bb,toN]);exact c3),iN (by (try simp only[bb,toN]);exact c4),he,qD,iQ (show ¬(k1<(zJ r bK f day).length)by omega),iP (by (try simp only[bb,toN]);exact c7)];rfl
 refine gE [10,11,12,13,18,19] ?_
 refine zI (α:=Nat) (fun x=>x<=(zJ r bK f day).length/\Yi r bK f which day a15_1 k1 0=Yi r bK f which day a15_1 k1 x) (fun x=>[(19,iG x)]) (fun x=>[]) (fun x=>(zJ r bK f day).length-x) 0 ⟨by (try simp only[]);omega,rfl⟩ ?_ (hp:=t40)
 rintro k2 ⟨hi2,he2⟩
 refine gE [10,11,12,13,18,19,135] ?_
 refine zB ?_ ?_<;>intro c8<;>try simp only[toN]at c8
 ·refine gE [10,11,12,13,18,19,20] ?_
  refine gE [10,11,12,13,18,19,20] ?_
  refine gR [.eq (zYq (⟨((zJ r bK (Zb f (((zJ r bK f day).getD (((i64.wrap which).tmod ((zJ r bK f day).length:Int)).toNat) dF).sign) (((zJ r bK f day).getD (((i64.wrap which).tmod ((zJ r bK f day).length:Int)).toNat) dF).bI) a15_1 day) day).getD k2 dF).bJ,((zJ r bK (Zb f (((zJ r bK f day).getD (((i64.wrap which).tmod ((zJ r bK f day).length:Int)).toNat) dF).sign) (((zJ r bK f day).getD (((i64.wrap which).tmod ((zJ r bK f day).length:Int)).toNat) dF).bI) a15_1 day) day).getD k2 dF).bI,((zJ r bK (Zb f (((zJ r bK f day).getD (((i64.wrap which).tmod ((zJ r bK f day).length:Int)).toNat) dF).sign) (((zJ r bK f day).getD (((i64.wrap which).tmod ((zJ r bK f day).length:Int)).toNat) dF).bI) a15_1 day) day).getD k2 dF).part,((zJ r bK (Zb f (((zJ r bK f day).getD (((i64.wrap which).tmod ((zJ r bK f day).length:Int)).toNat) dF).sign) (((zJ r bK f day).getD (((i64.wrap which).tmod ((zJ r bK f day).length:Int)).toNat) dF).bI) a15_1 day) day).getD k2 dF).sign,((zJ r bK (Zb f (((zJ r bK f day).getD (((i64.wrap which).tmod ((zJ r bK f day).length:Int)).toNat) dF).sign) (((zJ r bK f day).getD (((i64.wrap which).tmod ((zJ r bK f day).length:Int)).toNat) dF).bI) a15_1 day) day).getD k2 dF).by_,((zJ r bK (Zb f (((zJ r bK f day).getD (((i64.wrap which).tmod ((zJ r bK f day).length:Int)).toNat) dF).sign) (((zJ r bK f day).getD (((i64.wrap which).tmod ((zJ r bK f day).length:Int)).toNat) dF).bI) a15_1 day) day).getD k2 dF).turn,((zJ r bK f day).getD k2 dF).sum,((zJ r bK (Zb f (((zJ r bK f day).getD (((i64.wrap which).tmod ((zJ r bK f day).length:Int)).toNat) dF).sign) (((zJ r bK f day).getD (((i64.wrap which).tmod ((zJ r bK f day).length:Int)).toNat) dF).bI) a15_1 day) day).getD k2 dF).cur,((zJ r bK (Zb f (((zJ r bK f day).getD (((i64.wrap which).tmod ((zJ r bK f day).length:Int)).toNat) dF).sign) (((zJ r bK f day).getD (((i64.wrap which).tmod ((zJ r bK f day).length:Int)).toNat) dF).bI) a15_1 day) day).getD k2 dF).state⟩:Clm) ((zJ r bK f day).getD k2 dF))] [10,11,12,13,18,19,215] ?_
  refine zF ?_ ?_<;>intro c9<;>try simp only[bb,toN]at c9
  ·refine gE [10,11,12,13,18,19] ?_
   refine gT ?_
   rw[wc,iN (by (try simp only[bb,toN]);exact c1),iQ c2,iN (by (try simp only[bb,toN]);exact c3),iN (by (try simp only[bb,toN]);exact c4),he,qD,iQ (show ¬(k1<(zJ r bK f day).length)by omega),iN (by (try simp only[bb,toN]);exact c7),he2,Yi,iP (show k2<(zJ r bK f day).length by omega),iP (by (try simp only[bb,toN]);exact c9)];rfl
  refine gE [10,11,12,13,18,19] ?_
  refine zD (k2+1) ?_ (hp:=t40)
  refine ⟨by (try simp only[]);omega,he2.trans ?_⟩
  rw[Yi,iP (show k2<(zJ r bK f day).length by omega),iN (by (try simp only[bb,toN]);exact c9)]
  try rfl
 refine gE [10] ?_
 refine gT ?_
 rw[wc,iN (by (try simp only[bb,toN]);exact c1),iQ c2,iN (by (try simp only[bb,toN]);exact c3),iN (by (try simp only[bb,toN]);exact c4),he,qD,iQ (show ¬(k1<(zJ r bK f day).length)by omega),iN (by (try simp only[bb,toN]);exact c7),he2,Yi,iQ (show ¬(k2<(zJ r bK f day).length)by omega)];rfl
theorem zWp {r:Rlm} (hm:MemX r) (bK:Int) (f:Fil) {which:Int} (hw:0<=which/\which<=255) (day:Int):wc r bK f which day=true:=by
 have hw0:i64.wrap which=which:=za (by unfold inR;omega)
 unfold wc
 split
 ·rfl
 rename_i c1
 rw[Bool.not_eq_true]at c1
 simp only[bb]at c1
 have hgd:=Wv hm c1.1.1
 have hr:=hgd.rr.right.fit
 have hfine:=zPb r bK f day (hgd.ck.sums hr)
 have htold:=zJv r bK f day
 have hcr:=ZBh hgd bK day
 split
 ·rfl
 rename_i c2
 have hk:=jg (a:=i64.wrap which) (b:=((zJ r bK f day).length:Int)) t11 t11
 have hcm:(zJ r bK f day).getD ((i64.wrap which).tmod ((zJ r bK f day).length:Int)).toNat dF∈zJ r bK f day:=zK t11
 have hct:=(htold _ hcm).1
 have hcc:=hcr _ hcm
 have hcf:=hfine _ hcm
 split
 ·rename_i c3
  simp only[bb]at c3
  omega
 split
 ·rfl
 rename_i c4
 rw[Bool.not_eq_true]at c4
 simp only[bb]at c4
 obtain ⟨ci,hci⟩:∃ci,ci=((i64.wrap which).tmod ((zJ r bK f day).length:Int)).toNat:=⟨_,rfl⟩
 unfold CrF at hcc
 have h2:∀s,1<=s/\s<=1099511627776->(∀x,x∈zJ r bK f day->x.bI=((zJ r bK f day).getD ((i64.wrap which).tmod ((zJ r bK f day).length:Int)).toNat dF).bI->x.sum<=s)->∀k1,
  vE r (Zb f (((zJ r bK f day).getD ((i64.wrap which).tmod ((zJ r bK f day).length:Int)).toNat dF).sign) (((zJ r bK f day).getD ((i64.wrap which).tmod ((zJ r bK f day).length:Int)).toNat dF).bI) s day)=0/\(zJ r bK (Zb f (((zJ r bK f day).getD ((i64.wrap which).tmod ((zJ r bK f day).length:Int)).toNat dF).sign) (((zJ r bK f day).getD ((i64.wrap which).tmod ((zJ r bK f day).length:Int)).toNat dF).bI) s day) day).length=(zJ r bK f day).length/\Yi r bK f which day s k1 0=true:=by
  intro s hs hmax k1
  obtain ⟨q1,p,hp1,hp2,hp3,hp4,hp5⟩:=zKl hgd (by have:=hgd.a30;omega) bK (day:=day) t11 (i:=((zJ r bK f day).getD ((i64.wrap which).tmod ((zJ r bK f day).length:Int)).toNat dF).sign) (to_:=((zJ r bK f day).getD ((i64.wrap which).tmod ((zJ r bK f day).length:Int)).toNat dF).bI) (sum:=s) hct ⟨by omega,hcc⟩ hs
  rw[c4.1.1,zPl]at hp5
  refine ⟨q1,by rw[hp5,List.length_map],?_⟩
  have:∀n k,(zJ r bK f day).length-k=n->Yi r bK f which day s k1 k=true:=by
   intro n
   induction n with
   |zero=>
    intro k hn
    have hS:¬k<(zJ r bK f day).length:=by omega
    unfold Yi;rw[iQ hS];rfl
   |succ n ih=>
    intro k hn
    have hS:k<(zJ r bK f day).length:=by omega
    have hmem:=zK hS
    have hmx:=hmax _ hmem
    have hfx:=hfine _ hmem
    unfold Yi
    rw[iP hS,hp5,zSa _ hS,ih _ t11,iQ]
    generalize (zJ r bK f day).getD k dF=x at*
    generalize (zJ r bK f day).getD ((i64.wrap which).tmod ((zJ r bK f day).length:Int)).toNat dF=c at*
    have hsum:=Hj p (!((atV f day).bF.any fun y=>qc y p)) hfx
    have hrr:=KE p hfx
    have hsame:=XD p (!((atV f day).bF.any fun y=>qc y p)) x
    have hrest:VV ⟨(QY p (!((atV f day).bF.any fun y=>qc y p)) x).bJ,(QY p (!((atV f day).bF.any fun y=>qc y p)) x).bI,(QY p (!((atV f day).bF.any fun y=>qc y p)) x).part,(QY p (!((atV f day).bF.any fun y=>qc y p)) x).sign,(QY p (!((atV f day).bF.any fun y=>qc y p)) x).by_,(QY p (!((atV f day).bF.any fun y=>qc y p)) x).turn,x.sum,(QY p (!((atV f day).bF.any fun y=>qc y p)) x).cur,(QY p (!((atV f day).bF.any fun y=>qc y p)) x).state⟩ x=true:=by
     unfold QY
     split<;>simp[VV]
    rw[hrest]
    have hmt:jr p (!((atV f day).bF.any fun y=>qc y p)) x=(bif decide (x.bI=c.bI)then true else (bif decide (x.bI= -1)then (!((atV f day).bF.any fun y=>qc y p))else false)):=by unfold jr;rw[hp3]
    rw[hp4]at hrr
    rw[Bool.not_eq_true]
    rw[hsum,hmt]
    by_cases q:x.bI=c.bI
    ·have h3:=hmx q
     rw[decide_eq_true q,cond_true,iP rfl]
     have h4:x.sum-JO p x=0:=by
      have:=hrr.2.2
      split at this<;>(try split at this)<;>omega
     rw[h4]
     simp only[bb]
     have:=hfx.1
     refine ⟨⟨⟨trivial,by omega⟩,.inr trivial⟩,.inl (.inr trivial)⟩
    rw[decide_eq_false q]
    by_cases q2:x.bI= -1
    ·rw[decide_eq_false (show ¬0<=x.bI by omega)]
     have h5:¬x.sum<(if (bif false then true else (bif decide (x.bI= -1)then (!((atV f day).bF.any fun y=>qc y p))else false))=true then x.sum-JO p x else x.sum):=by split<;>omega
     rw[decide_eq_false h5];rfl
    rw[decide_eq_false q2]
    show (bif (bif (bif (!true)then true else decide (x.sum<x.sum))then true else _)then true else (bif _ then (!decide (x.sum=x.sum))else false))=false
    rw[decide_eq_false (Int.lt_irrefl _),decide_eq_true (rfl:x.sum=x.sum)]
    cases decide (0<=x.bI)<;>rfl
  exact this _ 0 rfl
 have h1:∀n k s,(zJ r bK f day).length-k=n->k<=(zJ r bK f day).length->(0<=s/\s<=1099511627776)->(∀i,i<k->((zJ r bK f day).getD i dF).bI=((zJ r bK f day).getD ((i64.wrap which).tmod ((zJ r bK f day).length:Int)).toNat dF).bI->((zJ r bK f day).getD i dF).sum<=s)->qD r bK f which day s k=true:=by
  intro n
  induction n with
  |zero=>
   intro k s hn hkl hs hmx
   have hS:¬k<(zJ r bK f day).length:=by omega
   have hall:∀x,x∈zJ r bK f day->x.bI=((zJ r bK f day).getD ((i64.wrap which).tmod ((zJ r bK f day).length:Int)).toNat dF).bI->x.sum<=s:=UF fun i hi=>hmx i t11
   have hc1:=hall _ hcm rfl
   obtain ⟨q1,q2,q3⟩:=h2 s ⟨by omega,hs.2⟩ hall k
   unfold qD
   rw[iQ hS,iQ t30]
   exact q3
  |succ n ih=>
   intro k s hn hkl hs hmx
   have hS:k<(zJ r bK f day).length:=by omega
   have hfx:=hfine _ (zK hS)
   unfold qD
   rw[iP hS]
   split
   ·refine ih _ _ t11 t11 ?_ fun i hi hc=> ?_
    ·obtain ⟨f1,f2⟩:=hfx
     unfold mxI;split<;>omega
    have:s<=mxI s ((zJ r bK f day).getD k dF).sum/\((zJ r bK f day).getD k dF).sum<=mxI s ((zJ r bK f day).getD k dF).sum:=by unfold mxI;split<;>omega
    by_cases hik:i=k
    ·rw[hik];exact this.2
    have:=hmx i t11 hc;omega
   rename_i hne
   refine ih _ _ t11 t11 hs fun i hi hc=> ?_
   by_cases hik:i=k
   ·rw[hik]at hc;exact absurd hc hne
   exact hmx i t11 hc
 exact h1 _ 0 0 rfl (Nat.zero_le _) ⟨by omega,by omega⟩ fun i hi=>by omega
end Go.Gh
namespace Go.Gh
open Go Go.Proofs
set_option maxRecDepth 1000000
set_option maxHeartbeats 2000000
set_option linter.unusedSimpArgs false
set_option linter.unusedVariables false
set_option linter.unnecessarySimpa false
open Go.Proofs.YtlnnombljiecmaaGreatDoor
open Go.ChangeShapes Go.WideShapes Go.ChangeAt Go.RowKit Go.Deep
theorem own:ownKnob Tryz.prog.godebug=none:=by kernel_rfl
theorem wG:laidOutB Tryz.prog=true:=by kernel_rfl
theorem scV {ν:Nu} {F:Fz} {w:World} (v:Value) (h:v.oneCell'=true):VR ν F w (.d (.sc v)) v:= .d (.sc v h)
section
variable {H:Type} {enc:TypeId×Value->H} {P:Program} {w:World} {base:Nat} {spare:Nat->Bool} {held:Bool}
theorem zXj {α:Type} {p:Nat->α->Prop} :∀n:Nat,(∀i,i<n->∃r,p i r)->∃rs:List α,rs.length=n/\∀i r,rs[i]? =some r->p i r:=by
 intro n
 induction n with
 |zero=>exact fun _=>⟨[],rfl,fun i r h=>by simp at h⟩
 |succ n ih=>
  intro h
  obtain ⟨rs,hl,hp⟩:=ih fun i hi=>h i (by omega)
  obtain ⟨r,hr⟩:=h n (by omega)
  refine ⟨rs++ [r],by simp[hl],fun i q hq=> ?_⟩
  rcases Nat.lt_trichotomy i n with hi|hi|hi
  ·rw[List.getElem?_append_left (by omega)]at hq
   exact hp i q hq
  ·subst hi
   rw[List.getElem?_append_right (by omega),hl]at hq
   simp at hq
   subst hq;exact hr
  ·rw[List.getElem?_eq_none (by simp;omega)]at hq
   cases hq
theorem vt {t e:TypeId} {fuel:Nat} {cs:List Value} {x:DataW H×List MemPlace} (ht:P.underlying t=some (.slice e)) (h:DataW.trod enc P w base spare held fuel t cs=some x):
 (cs= [.slice none 0 0]/\x=(.nil,[]))∨
 ∃(a:Addr) (len cap n:Nat),fuel=n+1/\cs= [.slice (some a) len cap]/\len<=cap/\cap<=maxLen∧
  ∀i,i<len->∃cs' y,w.cells? base (a.add (i*P.cellsOf e)) (P.cellsOf e)=some cs'/\DataW.trod enc P w base spare held n e cs'=some y:=by
 rcases DataW.trod_slice ht h with h0|⟨a,len,cap,elems,rest,n,hf,rfl,hx,hb,hl,hm,hlen,hel,_⟩
 ·exact .inl h0
 ·refine .inr ⟨a,len,cap,n,hf,rfl,hl,hm,fun i hi=> ?_⟩
  have h1:=hel i hi
  rw[List.getElem?_eq_getElem (by omega)]at h1
  cases hc:w.cells? base (a.add (i*P.cellsOf e)) (P.cellsOf e)with
  |none=>rw[hc]at h1;cases h1
  |some cs'=>rw[hc]at h1;exact ⟨cs',_,rfl,h1⟩
theorem Wf {α:Type} {df:α} {cs:α->List D} {Q:α->Prop} {t e k fuel:Nat} {v:Value} {x:DataW H×List MemPlace} (ht:P.underlying t=some (.slice e)) (hC:P.cellsOf e=k) (hk:0<k)
 (one:∀(l:List Value) (n:Nat) (y:DataW H×List MemPlace),n+1=fuel->l.length=k->DataW.trod enc P w base spare held n e l=some y->∃z:α,(cs z).length=k/\Q z/\∀(j:Nat) g u,(cs z)[j]? =some g->l[j]? =some u->DR (Yu w) w g u)
 (h:DataW.trod enc P w base spare held fuel t [v]=some x):∃xs:List α,DR (Yu w) w (.row df cs xs) v/\xs.length<=9223372036854775807/\∀x,x∈xs->Q x:=by
 rcases vt ht h with ⟨h0,_⟩|⟨a,len,cap,n,hfu,hcs,hl,hm,hi⟩
 ·simp at h0
  subst h0
  exact ⟨[],.row df cs [] none 0 0 0 0 (fun _ _=>undef) (fun h=>absurd rfl h) (Nat.zero_le _) (fun e he=>(by cases he)) (fun i e j x a=>(by simp at a)) (fun i e j x a=>(by simp at a)) (fun i e j x a=>(by simp at a)),by simp,fun x h=>by cases h⟩
 ·simp at hcs
  subst hcs
  rcases Nat.eq_zero_or_pos len with hz|hz
  ·subst hz
   exact ⟨[],.row df cs [] (some a) cap 0 0 0 (fun _ _=>undef) (fun h=>absurd rfl h) (Nat.zero_le _) (fun e he=>(by cases he)) (fun i e j x a=>(by simp at a)) (fun i e j x a=>(by simp at a)) (fun i e j x a=>(by simp at a)),by simp,fun x h=>by cases h⟩
  ·obtain ⟨b,off,spot⟩:=a
   have hel:∀i,i<len->∃(l:List Value) (y:DataW H×List MemPlace),l.length=k/\(∀j,j<k->w.cell? ((({block:=b,off:=off,spot:=spot} :Addr).add (i*k)).add j)=l[j]?)/\DataW.trod enc P w base spare held n e l=some y:=fun i hil=>by
    obtain ⟨cs',y,hc,ht'⟩:=hi i hil
    rw[hC]at hc
    obtain ⟨_,hcl,hat⟩:=World.cells?_some hc
    exact ⟨cs',y,hcl,fun j hj=>hat j hj,ht'⟩
   have hspot:spot=none:=by
    obtain ⟨l,y,h1,h2,_⟩:=hel 0 hz
    have h3:=h2 0 hk
    rw[List.getElem?_eq_getElem (by omega)]at h3
    simpa [Addr.add]using World.cell?_spot h3
   subst hspot
   have hadd:∀i j,w.cell? ((({block:=b,off:=off,spot:=none} :Addr).add (i*k)).add j)=w.cell? ⟨b,off+i*k+j,none⟩:=fun i j=>by
    rw[yC,yC]
   obtain ⟨xs,hxl,hxs⟩:=zXj (p:=fun i (z:α)=>(cs z).length=k/\Q z/\∀(j:Nat) g,(cs z)[j]? =some g->∃u,w.cell? ⟨b,off+i*k+j,none⟩=some u/\DR (Yu w) w g u) len fun i hi=>by
    obtain ⟨l,y,h1,h2,h3⟩:=hel i hi
    obtain ⟨z,z1,zq,z2⟩:=one l n y hfu.symm h1 h3
    refine ⟨z,z1,zq,fun j g hg=> ?_⟩
    have hj:j<k:=by rw[<-z1];exact (List.getElem?_eq_some_iff.1 hg).1
    have h4:=h2 j hj
    rw[hadd,List.getElem?_eq_getElem (by omega)]at h4
    exact ⟨_,h4,z2 j g _ hg (List.getElem?_eq_getElem (by omega))⟩
   refine ⟨xs,?_,by have:=hl;have h9:=hm;unfold maxLen at h9;omega,fun x hx=> ?_⟩
   case refine_2=>obtain ⟨i,hi⟩:=List.getElem?_of_mem hx;exact (hxs i x hi).2.1
   rw[<-hxl]
   refine .row df cs xs (some ⟨b,off,none⟩) cap b off k (fun i j=>(w.cell? ⟨b,off+i*k+j,none⟩).getD undef) (fun _=>rfl) (by omega) (fun e he=> ?_) (fun i e j x a1 a2=> ?_) (fun i e j x a1 a2=> ?_) (fun i e j x a1 a2=> ?_)
   ·obtain ⟨i,hi⟩:=List.getElem?_of_mem he;exact (hxs i e hi).1
   ·obtain ⟨u,h1,h2⟩:=(hxs i e a1).2.2 j x a2;rw[h1];rfl
   ·obtain ⟨u,h1,h2⟩:=(hxs i e a1).2.2 j x a2
    show (w.cell? _).isSome=true
    rw[h1];rfl
   ·obtain ⟨u,h1,h2⟩:=(hxs i e a1).2.2 j x a2;rw[h1];exact h2
theorem yh {α:Type} {df:α} {cs:α->List D} {Q:α->Prop} {t e k fuel:Nat} {v:Value} {x:DataW H×List MemPlace} (ht:P.underlying t=some (.slice e)) (hC:P.cellsOf e=k) (hk:0<k)
 (one:∀(l:List Value) (n:Nat) (y:DataW H×List MemPlace),l.length=k->DataW.trod enc P w base spare held n e l=some y->∃z:α,(cs z).length=k/\Q z/\∀(j:Nat) g u,(cs z)[j]? =some g->l[j]? =some u->DR (Yu w) w g u)
 (h:DataW.trod enc P w base spare held fuel t [v]=some x):∃xs:List α,DR (Yu w) w (.row df cs xs) v/\xs.length<=9223372036854775807/\∀x,x∈xs->Q x:=Wf ht hC hk (fun l n y _=>one l n y) h
theorem WB {t:TypeId} {fs:Array Field} {fuel:Nat} {l:List Value} {x:DataW H×List MemPlace} (hs:P.underlying t=some (.struct fs)) (hone:oneCellFields P fs=true) (hC:P.cellsOf t=fs.size)
 (h:DataW.trod enc P w base spare held fuel t l=some x):l.length=fs.size/\∃n,fuel=n+1/\∀(j:Nat) (g:Field),fs[j]? =some g->∃(u:Value) (y:DataW H×List MemPlace),l[j]? =some u/\DataW.trod enc P w base spare held n g.type [u]=some y:=by
 obtain ⟨ys,n',hf,_,hll,hyl,hg⟩:=DataW.trod_struct hs h
 rw[hC]at hll
 refine ⟨hll,n',hf,fun j g hj=> ?_⟩
 obtain ⟨ho,hk⟩:=hone_of hone j g hj
 have hjl:j<fs.size:=(Array.getElem?_eq_some_iff.1 hj).1
 have h1:=hg j g hj
 rw[ho,hk]at h1
 have hone':(l.drop j).take 1= [l[j]'(by omega)]:=by
  rw[List.drop_eq_getElem_cons (by omega)]
  rfl
 rw[hone']at h1
 have hys:ys[j]? =some (ys[j]'(by omega)):=List.getElem?_eq_getElem (by omega)
 exact ⟨_,_,List.getElem?_eq_getElem (by omega),h1.trans hys⟩
theorem Zc {t:TypeId} {fs:Array Field} {fuel:Nat} {l:List Value} {x:DataW H×List MemPlace} (hs:P.underlying t=some (.struct fs)) (hone:oneCellFields P fs=true) (hC:P.cellsOf t=fs.size)
 (h:DataW.trod enc P w base spare held fuel t l=some x):l.length=fs.size/\∀(j:Nat) (g:Field),fs[j]? =some g->∃(u:Value) (y:DataW H×List MemPlace) (n:Nat),l[j]? =some u/\DataW.trod enc P w base spare held n g.type [u]=some y:=by
 obtain ⟨ys,n',_,_,hll,hyl,hg⟩:=DataW.trod_struct hs h
 rw[hC]at hll
 refine ⟨hll,fun j g hj=> ?_⟩
 obtain ⟨ho,hk⟩:=hone_of hone j g hj
 have hjl:j<fs.size:=(Array.getElem?_eq_some_iff.1 hj).1
 have h1:=hg j g hj
 rw[ho,hk]at h1
 have hone':(l.drop j).take 1= [l[j]'(by omega)]:=by
  rw[List.drop_eq_getElem_cons (by omega)]
  rfl
 rw[hone']at h1
 have hys:ys[j]? =some (ys[j]'(by omega)):=List.getElem?_eq_getElem (by omega)
 exact ⟨_,_,n',List.getElem?_eq_getElem (by omega),h1.trans hys⟩
end
section
variable {H:Type} {enc:TypeId×Value->H} {w:World} {base:Nat} {spare:Nat->Bool} {held:Bool}
theorem uG {P:Program} {r:Reach} {b0:Nat} {t:TypeId} {fs:Array Field} {v:Value} (ht:P.underlying t=some (.struct fs)) (h:Value.okWide P w r b0 t v):∃cs,v= .agg cs/\cs.size=P.cellsOf t:=by
 simp only[Value.okWide,ht]at h
 obtain ⟨cs,h1,h2,_⟩:=h
 exact ⟨cs,h1,h2⟩
theorem zIg {n:Int} (h:(Lit.int .i64 n).wf=true):ym n:=by
 simp[Lit.wf,IntKind.min,IntKind.max,IntKind.signed,IntKind.bits]at h
 exact ⟨by omega,by omega⟩
theorem ZAg {n:Int} (h:(Lit.int .u8 n).wf=true):0<=n/\n<=255:=by
 simp[Lit.wf,IntKind.min,IntKind.max,IntKind.signed,IntKind.bits]at h
 omega
theorem zKs {n:Nat} {v:Value} {x:DataW H×List MemPlace} (h:DataW.trod enc Tryz.prog w base spare held n 22 [v]=some x):∃xs,DR (Yu w) w (.row dF zg xs) v/\xs.length<=9223372036854775807/\∀x,x∈xs->(fun s=>s.size<=9223372036854775807) x:=
 yh (cs:=zg) (Q:=fun s=>s.size<=9223372036854775807) (k:=1) Tryz.underlying22 (by kernel_rfl) (by decide) (fun l n1 y hl ht=>by
  obtain ⟨v0,y0,n0,e0,t0⟩:∃v0 y0,∃n0:Nat,l[0]? =some v0/\DataW.trod enc Tryz.prog w base spare held n0 9 [v0]=some y0:=by
   match l,hl with
   | [v0],_=>exact ⟨v0,y,n1,rfl,ht⟩
  obtain ⟨a0,g0,_,z0⟩:=DataW.trod_string Tryz.underlying9 t0
  simp at g0;subst g0
  unfold maxLen at z0
  refine ⟨a0,rfl,z0,fun j g u hg hu=> ?_⟩
  match j,hg,hu with
  |0,hg,hu=>rw[e0]at hu;cases hu;cases hg;exact .sc _ rfl
  |j+1,hg,hu=>simp[zg]at hg) h
theorem vV {n:Nat} {v:Value} {x:DataW H×List MemPlace} (h:DataW.trod enc Tryz.prog w base spare held n 68 [v]=some x):∃xs,DR (Yu w) w (.row dF inC xs) v/\xs.length<=9223372036854775807/\∀x,x∈xs->(fun _=>True) x:=
 yh (cs:=inC) (Q:=fun _=>True) (k:=1) Tryz.underlying68 (by kernel_rfl) (by decide) (fun l n1 y hl ht=>by
  obtain ⟨v0,y0,n0,e0,t0⟩:∃v0 y0,∃n0:Nat,l[0]? =some v0/\DataW.trod enc Tryz.prog w base spare held n0 3 [v0]=some y0:=by
   match l,hl with
   | [v0],_=>exact ⟨v0,y,n1,rfl,ht⟩
  obtain ⟨a0,g0,_,w0⟩:=DataW.trod_int Tryz.underlying3 t0
  simp at g0;subst g0
  refine ⟨a0,rfl,trivial,fun j g u hg hu=> ?_⟩
  match j,hg,hu with
  |0,hg,hu=>rw[e0]at hu;cases hu;cases hg;exact .sc _ rfl
  |j+1,hg,hu=>simp[inC]at hg) h
theorem Hq {n:Nat} {v:Value} {x:DataW H×List MemPlace} (h:DataW.trod enc Tryz.prog w base spare held n 24 [v]=some x):∃xs,DR (Yu w) w (.row dF inC xs) v/\xs.length<=9223372036854775807/\∀x,x∈xs->(fun _=>True) x:=
 yh (cs:=inC) (Q:=fun _=>True) (k:=1) Tryz.underlying24 (by kernel_rfl) (by decide) (fun l n1 y hl ht=>by
  obtain ⟨_,hf⟩:=Zc Tryz.underlying93 (by kernel_rfl) (by kernel_rfl) ht
  obtain ⟨v0,y0,n0,e0,t0⟩:=hf 0 _ rfl
  obtain ⟨a0,g0,_,w0⟩:=DataW.trod_int Tryz.underlying3 t0
  simp at g0;subst g0
  refine ⟨a0,rfl,trivial,fun j g u hg hu=> ?_⟩
  match j,hg,hu with
  |0,hg,hu=>rw[e0]at hu;cases hu;cases hg;exact .sc _ rfl
  |j+1,hg,hu=>simp[inC]at hg) h
theorem Hr {n:Nat} {v:Value} {x:DataW H×List MemPlace} (h:DataW.trod enc Tryz.prog w base spare held n 23 [v]=some x):∃xs,DR (Yu w) w (.row dF ctC xs) v/\xs.length<=9223372036854775807/\∀x,x∈xs->(FitC) x:=
 yh (cs:=ctC) (Q:=FitC) (k:=6) Tryz.underlying23 (by kernel_rfl) (by decide) (fun l n1 y hl ht=>by
  obtain ⟨_,hf⟩:=Zc Tryz.underlying91 (by kernel_rfl) (by kernel_rfl) ht
  obtain ⟨v0,y0,n0,e0,t0⟩:=hf 0 _ rfl
  obtain ⟨v1,y1,n1,e1,t1⟩:=hf 1 _ rfl
  obtain ⟨v2,y2,n2,e2,t2⟩:=hf 2 _ rfl
  obtain ⟨v3,y3,n3,e3,t3⟩:=hf 3 _ rfl
  obtain ⟨v4,y4,n4,e4,t4⟩:=hf 4 _ rfl
  obtain ⟨v5,y5,n5,e5,t5⟩:=hf 5 _ rfl
  obtain ⟨a0,g0,_,z0⟩:=DataW.trod_string Tryz.underlying9 t0
  simp at g0;subst g0
  unfold maxLen at z0
  obtain ⟨a1,g1,_,w1⟩:=DataW.trod_int Tryz.underlying3 t1
  simp at g1;subst g1
  obtain ⟨a2,g2,_,w2⟩:=DataW.trod_int Tryz.underlying3 t2
  simp at g2;subst g2
  obtain ⟨a3,x3,l3,q3⟩:=vV t3
  obtain ⟨a4,x4,l4,q4⟩:=vV t4
  obtain ⟨a5,x5,l5,q5⟩:=vV t5
  refine ⟨⟨a0,a1,a2,a3,a4,a5⟩,rfl,⟨z0,l3,l4,l5⟩,fun j g u hg hu=> ?_⟩
  match j,hg,hu with
  |0,hg,hu=>rw[e0]at hu;cases hu;cases hg;exact .sc _ rfl
  |1,hg,hu=>rw[e1]at hu;cases hu;cases hg;exact .sc _ rfl
  |2,hg,hu=>rw[e2]at hu;cases hu;cases hg;exact .sc _ rfl
  |3,hg,hu=>rw[e3]at hu;cases hu;cases hg;exact x3
  |4,hg,hu=>rw[e4]at hu;cases hu;cases hg;exact x4
  |5,hg,hu=>rw[e5]at hu;cases hu;cases hg;exact x5
  |j+6,hg,hu=>simp[ctC]at hg) h
theorem zEh {n:Nat} {v:Value} {x:DataW H×List MemPlace} (h:DataW.trod enc Tryz.prog w base spare held n 25 [v]=some x):∃xs,DR (Yu w) w (.row dF fmC xs) v/\xs.length<=9223372036854775807/\∀x,x∈xs->(fun c=>c.name.size<=9223372036854775807) x:=
 yh (cs:=fmC) (Q:=fun c=>c.name.size<=9223372036854775807) (k:=3) Tryz.underlying25 (by kernel_rfl) (by decide) (fun l n1 y hl ht=>by
  obtain ⟨_,hf⟩:=Zc Tryz.underlying95 (by kernel_rfl) (by kernel_rfl) ht
  obtain ⟨v0,y0,n0,e0,t0⟩:=hf 0 _ rfl
  obtain ⟨v1,y1,n1,e1,t1⟩:=hf 1 _ rfl
  obtain ⟨v2,y2,n2,e2,t2⟩:=hf 2 _ rfl
  obtain ⟨a0,g0,_,z0⟩:=DataW.trod_string Tryz.underlying9 t0
  simp at g0;subst g0
  unfold maxLen at z0
  obtain ⟨a1,g1,_,w1⟩:=DataW.trod_int Tryz.underlying3 t1
  simp at g1;subst g1
  obtain ⟨a2,g2,_,w2⟩:=DataW.trod_int Tryz.underlying3 t2
  simp at g2;subst g2
  refine ⟨⟨a0,a1,a2⟩,rfl,z0,fun j g u hg hu=> ?_⟩
  match j,hg,hu with
  |0,hg,hu=>rw[e0]at hu;cases hu;cases hg;exact .sc _ rfl
  |1,hg,hu=>rw[e1]at hu;cases hu;cases hg;exact .sc _ rfl
  |2,hg,hu=>rw[e2]at hu;cases hu;cases hg;exact .sc _ rfl
  |j+3,hg,hu=>simp[fmC]at hg) h
theorem zPu {n:Nat} {v:Value} {x:DataW H×List MemPlace} (h:DataW.trod enc Tryz.prog w base spare held n 27 [v]=some x):∃xs,DR (Yu w) w (.row dF usC xs) v/\xs.length<=9223372036854775807/\∀x,x∈xs->(fun _=>True) x:=
 yh (cs:=usC) (Q:=fun _=>True) (k:=3) Tryz.underlying27 (by kernel_rfl) (by decide) (fun l n1 y hl ht=>by
  obtain ⟨_,hf⟩:=Zc Tryz.underlying157 (by kernel_rfl) (by kernel_rfl) ht
  obtain ⟨v0,y0,n0,e0,t0⟩:=hf 0 _ rfl
  obtain ⟨v1,y1,n1,e1,t1⟩:=hf 1 _ rfl
  obtain ⟨v2,y2,n2,e2,t2⟩:=hf 2 _ rfl
  obtain ⟨a0,g0,_,w0⟩:=DataW.trod_int Tryz.underlying3 t0
  simp at g0;subst g0
  obtain ⟨a1,g1,_,w1⟩:=DataW.trod_int Tryz.underlying3 t1
  simp at g1;subst g1
  obtain ⟨a2,g2,_,w2⟩:=DataW.trod_int Tryz.underlying3 t2
  simp at g2;subst g2
  refine ⟨⟨a0,a1,a2⟩,rfl,trivial,fun j g u hg hu=> ?_⟩
  match j,hg,hu with
  |0,hg,hu=>rw[e0]at hu;cases hu;cases hg;exact .sc _ rfl
  |1,hg,hu=>rw[e1]at hu;cases hu;cases hg;exact .sc _ rfl
  |2,hg,hu=>rw[e2]at hu;cases hu;cases hg;exact .sc _ rfl
  |j+3,hg,hu=>simp[usC]at hg) h
theorem zEf {n:Nat} {v:Value} {x:DataW H×List MemPlace} (h:DataW.trod enc Tryz.prog w base spare held n 28 [v]=some x):∃xs,DR (Yu w) w (.row dF rtC xs) v/\xs.length<=9223372036854775807/\∀x,x∈xs->(fun x=>ym x.num/\ym x.den) x:=
 yh (cs:=rtC) (Q:=fun x=>ym x.num/\ym x.den) (k:=5) Tryz.underlying28 (by kernel_rfl) (by decide) (fun l n1 y hl ht=>by
  obtain ⟨_,hf⟩:=Zc Tryz.underlying159 (by kernel_rfl) (by kernel_rfl) ht
  obtain ⟨v0,y0,n0,e0,t0⟩:=hf 0 _ rfl
  obtain ⟨v1,y1,n1,e1,t1⟩:=hf 1 _ rfl
  obtain ⟨v2,y2,n2,e2,t2⟩:=hf 2 _ rfl
  obtain ⟨v3,y3,n3,e3,t3⟩:=hf 3 _ rfl
  obtain ⟨v4,y4,n4,e4,t4⟩:=hf 4 _ rfl
  obtain ⟨a0,g0,_,w0⟩:=DataW.trod_int Tryz.underlying3 t0
  simp at g0;subst g0
  obtain ⟨a1,g1,_,w1⟩:=DataW.trod_int Tryz.underlying3 t1
  simp at g1;subst g1
  obtain ⟨a2,g2,_,w2⟩:=DataW.trod_int Tryz.underlying3 t2
  simp at g2;subst g2
  obtain ⟨a3,g3,_,w3⟩:=DataW.trod_int Tryz.underlying3 t3
  simp at g3;subst g3
  obtain ⟨a4,g4,_,w4⟩:=DataW.trod_int Tryz.underlying3 t4
  simp at g4;subst g4
  refine ⟨⟨a0,a1,a2,a3,a4⟩,rfl,⟨zIg w2,zIg w3⟩,fun j g u hg hu=> ?_⟩
  match j,hg,hu with
  |0,hg,hu=>rw[e0]at hu;cases hu;cases hg;exact .sc _ rfl
  |1,hg,hu=>rw[e1]at hu;cases hu;cases hg;exact .sc _ rfl
  |2,hg,hu=>rw[e2]at hu;cases hu;cases hg;exact .sc _ rfl
  |3,hg,hu=>rw[e3]at hu;cases hu;cases hg;exact .sc _ rfl
  |4,hg,hu=>rw[e4]at hu;cases hu;cases hg;exact .sc _ rfl
  |j+5,hg,hu=>simp[rtC]at hg) h
theorem zEg {n:Nat} {v:Value} {x:DataW H×List MemPlace} (h:DataW.trod enc Tryz.prog w base spare held n 29 [v]=some x):∃xs,DR (Yu w) w (.row dF htC xs) v/\xs.length<=9223372036854775807/\∀x,x∈xs->(fun _=>True) x:=
 yh (cs:=htC) (Q:=fun _=>True) (k:=3) Tryz.underlying29 (by kernel_rfl) (by decide) (fun l n1 y hl ht=>by
  obtain ⟨_,hf⟩:=Zc Tryz.underlying161 (by kernel_rfl) (by kernel_rfl) ht
  obtain ⟨v0,y0,n0,e0,t0⟩:=hf 0 _ rfl
  obtain ⟨v1,y1,n1,e1,t1⟩:=hf 1 _ rfl
  obtain ⟨v2,y2,n2,e2,t2⟩:=hf 2 _ rfl
  obtain ⟨a0,g0,_,w0⟩:=DataW.trod_int Tryz.underlying3 t0
  simp at g0;subst g0
  obtain ⟨a1,g1,_,w1⟩:=DataW.trod_int Tryz.underlying3 t1
  simp at g1;subst g1
  obtain ⟨a2,g2,_,w2⟩:=DataW.trod_int Tryz.underlying3 t2
  simp at g2;subst g2
  refine ⟨⟨a0,a1,a2⟩,rfl,trivial,fun j g u hg hu=> ?_⟩
  match j,hg,hu with
  |0,hg,hu=>rw[e0]at hu;cases hu;cases hg;exact .sc _ rfl
  |1,hg,hu=>rw[e1]at hu;cases hu;cases hg;exact .sc _ rfl
  |2,hg,hu=>rw[e2]at hu;cases hu;cases hg;exact .sc _ rfl
  |j+3,hg,hu=>simp[htC]at hg) h
theorem zKv {n:Nat} {v:Value} {x:DataW H×List MemPlace} (h:DataW.trod enc Tryz.prog w base spare held n 103 [v]=some x):∃xs,DR (Yu w) w (.row dF zTj xs) v/\xs.length<=9223372036854775807/\∀x,x∈xs->(fun _=>True) x:=
 yh (cs:=zTj) (Q:=fun _=>True) (k:=3) Tryz.underlying103 (by kernel_rfl) (by decide) (fun l n1 y hl ht=>by
  obtain ⟨_,hf⟩:=Zc Tryz.underlying210 (by kernel_rfl) (by kernel_rfl) ht
  obtain ⟨v0,y0,n0,e0,t0⟩:=hf 0 _ rfl
  obtain ⟨v1,y1,n1,e1,t1⟩:=hf 1 _ rfl
  obtain ⟨v2,y2,n2,e2,t2⟩:=hf 2 _ rfl
  obtain ⟨a0,g0,_,w0⟩:=DataW.trod_int Tryz.underlying3 t0
  simp at g0;subst g0
  obtain ⟨a1,g1,_,w1⟩:=DataW.trod_int Tryz.underlying3 t1
  simp at g1;subst g1
  obtain ⟨a2,g2,_⟩:=DataW.trod_bool Tryz.underlying4 t2
  simp at g2;subst g2
  refine ⟨⟨a0,a1,a2⟩,rfl,trivial,fun j g u hg hu=> ?_⟩
  match j,hg,hu with
  |0,hg,hu=>rw[e0]at hu;cases hu;cases hg;exact .sc _ rfl
  |1,hg,hu=>rw[e1]at hu;cases hu;cases hg;exact .sc _ rfl
  |2,hg,hu=>rw[e2]at hu;cases hu;cases hg;exact .sc _ rfl
  |j+3,hg,hu=>simp[zTj]at hg) h
theorem zEc {n:Nat} {v:Value} {x:DataW H×List MemPlace} (h:DataW.trod enc Tryz.prog w base spare held n 36 [v]=some x):∃xs,DR (Yu w) w (.row dF sgC xs) v/\xs.length<=9223372036854775807/\∀x,x∈xs->(fun _=>True) x:=
 yh (cs:=sgC) (Q:=fun _=>True) (k:=9) Tryz.underlying36 (by kernel_rfl) (by decide) (fun l n1 y hl ht=>by
  obtain ⟨_,hf⟩:=Zc Tryz.underlying45 (by kernel_rfl) (by kernel_rfl) ht
  obtain ⟨v0,y0,n0,e0,t0⟩:=hf 0 _ rfl
  obtain ⟨v1,y1,n1,e1,t1⟩:=hf 1 _ rfl
  obtain ⟨v2,y2,n2,e2,t2⟩:=hf 2 _ rfl
  obtain ⟨v3,y3,n3,e3,t3⟩:=hf 3 _ rfl
  obtain ⟨v4,y4,n4,e4,t4⟩:=hf 4 _ rfl
  obtain ⟨v5,y5,n5,e5,t5⟩:=hf 5 _ rfl
  obtain ⟨v6,y6,n6,e6,t6⟩:=hf 6 _ rfl
  obtain ⟨v7,y7,n7,e7,t7⟩:=hf 7 _ rfl
  obtain ⟨v8,y8,n8,e8,t8⟩:=hf 8 _ rfl
  obtain ⟨a0,g0,_,w0⟩:=DataW.trod_int Tryz.underlying3 t0
  simp at g0;subst g0
  obtain ⟨a1,g1,_,w1⟩:=DataW.trod_int Tryz.underlying3 t1
  simp at g1;subst g1
  obtain ⟨a2,g2,_,w2⟩:=DataW.trod_int Tryz.underlying3 t2
  simp at g2;subst g2
  obtain ⟨a3,g3,_,w3⟩:=DataW.trod_int Tryz.underlying3 t3
  simp at g3;subst g3
  obtain ⟨a4,g4,_,w4⟩:=DataW.trod_int Tryz.underlying3 t4
  simp at g4;subst g4
  obtain ⟨a5,g5,_,w5⟩:=DataW.trod_int Tryz.underlying3 t5
  simp at g5;subst g5
  obtain ⟨a6,g6,_,w6⟩:=DataW.trod_int Tryz.underlying3 t6
  simp at g6;subst g6
  obtain ⟨a7,g7,_,w7⟩:=DataW.trod_int Tryz.underlying3 t7
  simp at g7;subst g7
  obtain ⟨a8,g8,_,w8⟩:=DataW.trod_int Tryz.underlying3 t8
  simp at g8;subst g8
  refine ⟨⟨a0,a1,a2,a3,a4,a5,a6,a7,a8⟩,rfl,trivial,fun j g u hg hu=> ?_⟩
  match j,hg,hu with
  |0,hg,hu=>rw[e0]at hu;cases hu;cases hg;exact .sc _ rfl
  |1,hg,hu=>rw[e1]at hu;cases hu;cases hg;exact .sc _ rfl
  |2,hg,hu=>rw[e2]at hu;cases hu;cases hg;exact .sc _ rfl
  |3,hg,hu=>rw[e3]at hu;cases hu;cases hg;exact .sc _ rfl
  |4,hg,hu=>rw[e4]at hu;cases hu;cases hg;exact .sc _ rfl
  |5,hg,hu=>rw[e5]at hu;cases hu;cases hg;exact .sc _ rfl
  |6,hg,hu=>rw[e6]at hu;cases hu;cases hg;exact .sc _ rfl
  |7,hg,hu=>rw[e7]at hu;cases hu;cases hg;exact .sc _ rfl
  |8,hg,hu=>rw[e8]at hu;cases hu;cases hg;exact .sc _ rfl
  |j+9,hg,hu=>simp[sgC]at hg) h
theorem Hs {n:Nat} {v:Value} {x:DataW H×List MemPlace} (h:DataW.trod enc Tryz.prog w base spare held n 37 [v]=some x):∃xs,DR (Yu w) w (.row dF alC xs) v/\xs.length<=9223372036854775807/\∀x,x∈xs->(fun _=>True) x:=
 yh (cs:=alC) (Q:=fun _=>True) (k:=2) Tryz.underlying37 (by kernel_rfl) (by decide) (fun l n1 y hl ht=>by
  obtain ⟨_,hf⟩:=Zc Tryz.underlying84 (by kernel_rfl) (by kernel_rfl) ht
  obtain ⟨v0,y0,n0,e0,t0⟩:=hf 0 _ rfl
  obtain ⟨v1,y1,n1,e1,t1⟩:=hf 1 _ rfl
  obtain ⟨a0,g0,_,w0⟩:=DataW.trod_int Tryz.underlying3 t0
  simp at g0;subst g0
  obtain ⟨a1,g1,_,w1⟩:=DataW.trod_int Tryz.underlying3 t1
  simp at g1;subst g1
  refine ⟨⟨a0,a1⟩,rfl,trivial,fun j g u hg hu=> ?_⟩
  match j,hg,hu with
  |0,hg,hu=>rw[e0]at hu;cases hu;cases hg;exact .sc _ rfl
  |1,hg,hu=>rw[e1]at hu;cases hu;cases hg;exact .sc _ rfl
  |j+2,hg,hu=>simp[alC]at hg) h
theorem zKw {n:Nat} {v:Value} {x:DataW H×List MemPlace} (h:DataW.trod enc Tryz.prog w base spare held n 38 [v]=some x):∃xs,DR (Yu w) w (.row dF acC xs) v/\xs.length<=9223372036854775807/\∀x,x∈xs->(fun _=>True) x:=
 yh (cs:=acC) (Q:=fun _=>True) (k:=9) Tryz.underlying38 (by kernel_rfl) (by decide) (fun l n1 y hl ht=>by
  obtain ⟨_,hf⟩:=Zc Tryz.underlying66 (by kernel_rfl) (by kernel_rfl) ht
  obtain ⟨v0,y0,n0,e0,t0⟩:=hf 0 _ rfl
  obtain ⟨v1,y1,n1,e1,t1⟩:=hf 1 _ rfl
  obtain ⟨v2,y2,n2,e2,t2⟩:=hf 2 _ rfl
  obtain ⟨v3,y3,n3,e3,t3⟩:=hf 3 _ rfl
  obtain ⟨v4,y4,n4,e4,t4⟩:=hf 4 _ rfl
  obtain ⟨v5,y5,n5,e5,t5⟩:=hf 5 _ rfl
  obtain ⟨v6,y6,n6,e6,t6⟩:=hf 6 _ rfl
  obtain ⟨v7,y7,n7,e7,t7⟩:=hf 7 _ rfl
  obtain ⟨v8,y8,n8,e8,t8⟩:=hf 8 _ rfl
  obtain ⟨a0,g0,_,w0⟩:=DataW.trod_int Tryz.underlying3 t0
  simp at g0;subst g0
  obtain ⟨a1,g1,_,w1⟩:=DataW.trod_int Tryz.underlying3 t1
  simp at g1;subst g1
  obtain ⟨a2,g2,_,w2⟩:=DataW.trod_int Tryz.underlying3 t2
  simp at g2;subst g2
  obtain ⟨a3,g3,_,w3⟩:=DataW.trod_int Tryz.underlying3 t3
  simp at g3;subst g3
  obtain ⟨a4,g4,_,w4⟩:=DataW.trod_int Tryz.underlying3 t4
  simp at g4;subst g4
  obtain ⟨a5,g5,_,w5⟩:=DataW.trod_int Tryz.underlying3 t5
  simp at g5;subst g5
  obtain ⟨a6,g6,_,w6⟩:=DataW.trod_int Tryz.underlying3 t6
  simp at g6;subst g6
  obtain ⟨a7,g7,_,w7⟩:=DataW.trod_int Tryz.underlying3 t7
  simp at g7;subst g7
  obtain ⟨a8,g8,_,w8⟩:=DataW.trod_int Tryz.underlying3 t8
  simp at g8;subst g8
  refine ⟨⟨a0,a1,a2,a3,a4,a5,a6,a7,a8⟩,rfl,trivial,fun j g u hg hu=> ?_⟩
  match j,hg,hu with
  |0,hg,hu=>rw[e0]at hu;cases hu;cases hg;exact .sc _ rfl
  |1,hg,hu=>rw[e1]at hu;cases hu;cases hg;exact .sc _ rfl
  |2,hg,hu=>rw[e2]at hu;cases hu;cases hg;exact .sc _ rfl
  |3,hg,hu=>rw[e3]at hu;cases hu;cases hg;exact .sc _ rfl
  |4,hg,hu=>rw[e4]at hu;cases hu;cases hg;exact .sc _ rfl
  |5,hg,hu=>rw[e5]at hu;cases hu;cases hg;exact .sc _ rfl
  |6,hg,hu=>rw[e6]at hu;cases hu;cases hg;exact .sc _ rfl
  |7,hg,hu=>rw[e7]at hu;cases hu;cases hg;exact .sc _ rfl
  |8,hg,hu=>rw[e8]at hu;cases hu;cases hg;exact .sc _ rfl
  |j+9,hg,hu=>simp[acC]at hg) h
theorem zEi {n:Nat} {v:Value} {x:DataW H×List MemPlace} (h:DataW.trod enc Tryz.prog w base spare held n 39 [v]=some x):∃xs,DR (Yu w) w (.row dF fcC xs) v/\xs.length<=9223372036854775807/\∀x,x∈xs->(fun _=>True) x:=
 yh (cs:=fcC) (Q:=fun _=>True) (k:=3) Tryz.underlying39 (by kernel_rfl) (by decide) (fun l n1 y hl ht=>by
  obtain ⟨_,hf⟩:=Zc Tryz.underlying47 (by kernel_rfl) (by kernel_rfl) ht
  obtain ⟨v0,y0,n0,e0,t0⟩:=hf 0 _ rfl
  obtain ⟨v1,y1,n1,e1,t1⟩:=hf 1 _ rfl
  obtain ⟨v2,y2,n2,e2,t2⟩:=hf 2 _ rfl
  obtain ⟨a0,g0,_,w0⟩:=DataW.trod_int Tryz.underlying3 t0
  simp at g0;subst g0
  obtain ⟨a1,g1,_,w1⟩:=DataW.trod_int Tryz.underlying3 t1
  simp at g1;subst g1
  obtain ⟨a2,g2,_,w2⟩:=DataW.trod_int Tryz.underlying3 t2
  simp at g2;subst g2
  refine ⟨⟨a0,a1,a2⟩,rfl,trivial,fun j g u hg hu=> ?_⟩
  match j,hg,hu with
  |0,hg,hu=>rw[e0]at hu;cases hu;cases hg;exact .sc _ rfl
  |1,hg,hu=>rw[e1]at hu;cases hu;cases hg;exact .sc _ rfl
  |2,hg,hu=>rw[e2]at hu;cases hu;cases hg;exact .sc _ rfl
  |j+3,hg,hu=>simp[fcC]at hg) h
theorem zEb:∀(k n:Nat) {v:Value} {x:DataW H×List MemPlace},n<=k->DataW.trod enc Tryz.prog w base spare held n 96 [v]=some x->∃xs,DR (Yu w) w (.row dF (tmC k) xs) v/\xs.length<=9223372036854775807/\∀x,x∈xs->(fun t=>∀j,n<=j+1->Qa j t) x:=by
 intro k
 induction k with
 |zero=>
  intro n v x hn h
  rcases vt Tryz.underlying96 h with ⟨h0,_⟩|⟨a,len,cap,n1,hfu,_⟩
  ·simp at h0
   subst h0
   exact ⟨[],.row dF (tmC 0) [] none 0 0 0 0 (fun _ _=>undef) (fun h=>absurd rfl h) (Nat.zero_le _) (fun e he=>(by cases he)) (fun i e j x a=>(by simp at a)) (fun i e j x a=>(by simp at a)) (fun i e j x a=>(by simp at a)),by simp,fun x h=>by cases h⟩
  ·omega
 |succ k ih=>
  intro n v x hn h
  exact Wf (cs:=tmC (k+1)) (Q:=fun t=>∀j,n<=j+1->Qa j t) (k:=3) Tryz.underlying96 (by kernel_rfl) (by decide) (fun l n1 y hfu hl ht=>by
   obtain ⟨_,n2,hf2,hf⟩:=WB Tryz.underlying98 (by kernel_rfl) (by kernel_rfl) ht
   obtain ⟨v0,y0,e0,t0⟩:=hf 0 _ rfl
   obtain ⟨v1,y1,e1,t1⟩:=hf 1 _ rfl
   obtain ⟨v2,y2,e2,t2⟩:=hf 2 _ rfl
   obtain ⟨a0,g0,_,_⟩:=DataW.trod_int Tryz.underlying3 t0
   simp at g0;subst g0
   obtain ⟨a1,g1,_,_⟩:=DataW.trod_int Tryz.underlying3 t1
   simp at g1;subst g1
   obtain ⟨xs,x2,l2,q2⟩:=ih n2 (by omega) t2
   refine ⟨.mk a0 a1 xs,rfl,fun j hj=> ?_,fun j g u hg hu=> ?_⟩
   ·cases j with
    |zero=>omega
    |succ j=>exact ⟨l2,fun a ha=>q2 a ha j (by omega)⟩
   ·match j,hg,hu with
    |0,hg,hu=>rw[e0]at hu;cases hu;cases hg;exact .sc _ rfl
    |1,hg,hu=>rw[e1]at hu;cases hu;cases hg;exact .sc _ rfl
    |2,hg,hu=>rw[e2]at hu;cases hu;cases hg;exact x2
    |j+3,hg,hu=>simp[tmC]at hg) h
theorem zEd [Dep] {n:Nat} {v:Value} {x:DataW H×List MemPlace} (hn:n<=Dep.d) (h:DataW.trod enc Tryz.prog w base spare held n 102 [v]=some x):∃xs,DR (Yu w) w (.row dF zDr xs) v/\xs.length<=9223372036854775807/\∀x,x∈xs->(fun x:Rul=>Qa Dep.d x.term) x:=
 Wf (cs:=zDr) (Q:=fun x:Rul=>Qa Dep.d x.term) (k:=4) Tryz.underlying102 (by kernel_rfl) (by decide) (fun l n1 y hfu hl ht=>by
  obtain ⟨ys,n',hf1,_,hll,hyl,hg⟩:=DataW.trod_struct Tryz.underlying100 ht
  match l,hl with
  | [v0,v1,v2,v3],_=>
    have g0:=hg 0 _ rfl
    have g1:=hg 1 _ rfl
    have e0:DataW.trod enc Tryz.prog w base spare held n' 3 [v0]=_:=g0
    have e1:DataW.trod enc Tryz.prog w base spare held n' 98 [v1,v2,v3]=_:=g1
    match ys,hyl with
    | [y0,y1],_=>
      obtain ⟨a0,f0,_,_⟩:=DataW.trod_int Tryz.underlying3 e0
      simp at f0;subst f0
      obtain ⟨_,n2,hf2,hf⟩:=WB Tryz.underlying98 (by kernel_rfl) (by kernel_rfl) e1
      obtain ⟨u1,z1,i1,t1⟩:=hf 0 _ rfl
      obtain ⟨u2,z2,i2,t2⟩:=hf 1 _ rfl
      obtain ⟨u3,z3,i3,t3⟩:=hf 2 _ rfl
      simp at i1 i2 i3
      subst i1;subst i2;subst i3
      obtain ⟨a1,f1,_,_⟩:=DataW.trod_int Tryz.underlying3 t1
      obtain ⟨a2,f2,_,_⟩:=DataW.trod_int Tryz.underlying3 t2
      simp at f1 f2
      subst f1;subst f2
      obtain ⟨xs,x3,l3,q3⟩:=zEb Dep.d n2 (by omega) t3
      refine ⟨⟨a0,a1,a2,xs⟩,rfl,?_,fun j g u hg hu=> ?_⟩
      ·cases hd:(Dep.d:Nat)with
       |zero=>omega
       |succ k=>exact ⟨l3,fun a ha=>q3 a ha k (by omega)⟩
      ·match j,hg,hu with
       |0,hg,hu=>cases hu;cases hg;exact .sc _ rfl
       |1,hg,hu=>cases hu;cases hg;exact .sc _ rfl
       |2,hg,hu=>cases hu;cases hg;exact .sc _ rfl
       |3,hg,hu=>cases hu;cases hg;exact x3
       |j+4,hg,hu=>simp at hu) h
theorem zKt [Dep] {n:Nat} {v:Value} {x:DataW H×List MemPlace} (hn:n<=Dep.d) (h:DataW.trod enc Tryz.prog w base spare held n 26 [v]=some x):∃xs,DR (Yu w) w (.row dF odC xs) v/\xs.length<=9223372036854775807/\∀x,x∈xs->(fun o=>o.name.size<=9223372036854775807/\∀x,x∈o.rules->Qa Dep.d x.term) x:=
 Wf (cs:=odC) (Q:=fun o=>o.name.size<=9223372036854775807/\∀x,x∈o.rules->Qa Dep.d x.term) (k:=4) Tryz.underlying26 (by kernel_rfl) (by decide) (fun l n1 y hfu hl ht=>by
  obtain ⟨_,n2,hf2,hf⟩:=WB Tryz.underlying105 (by kernel_rfl) (by kernel_rfl) ht
  obtain ⟨v0,y0,e0,t0⟩:=hf 0 _ rfl
  obtain ⟨v1,y1,e1,t1⟩:=hf 1 _ rfl
  obtain ⟨v2,y2,e2,t2⟩:=hf 2 _ rfl
  obtain ⟨v3,y3,e3,t3⟩:=hf 3 _ rfl
  obtain ⟨a0,g0,_,z0⟩:=DataW.trod_string Tryz.underlying9 t0
  simp at g0;subst g0
  unfold maxLen at z0
  obtain ⟨a1,g1,_⟩:=DataW.trod_bool Tryz.underlying4 t1
  simp at g1;subst g1
  obtain ⟨a2,x2,l2,q2⟩:=zKv t2
  obtain ⟨a3,x3,l3,q3⟩:=zEd (by omega) t3
  refine ⟨⟨a0,a1,a2,a3⟩,rfl,⟨z0,q3⟩,fun j g u hg hu=> ?_⟩
  match j,hg,hu with
  |0,hg,hu=>rw[e0]at hu;cases hu;cases hg;exact .sc _ rfl
  |1,hg,hu=>rw[e1]at hu;cases hu;cases hg;exact .sc _ rfl
  |2,hg,hu=>rw[e2]at hu;cases hu;cases hg;exact x2
  |3,hg,hu=>rw[e3]at hu;cases hu;cases hg;exact x3
  |j+4,hg,hu=>simp[odC]at hg) h
theorem zEe {r:Reach} {b0:Nat} {v:Value} {d:DataW H} {ps:List MemPlace} (hv:Value.okWide Tryz.prog w r b0 31 v) (h:DataW.Trod enc Tryz.prog w base spare held 31 v d ps):
 ∃(D:Dep) (x:Rlm),VR (fun _=>none) (Yu w) w (rlG x) v/\MemX x:=by
 obtain ⟨cs,rfl,hsz⟩:=uG Tryz.underlying31 hv
 obtain ⟨fuel,hf⟩:=h
 have hf':DataW.trod enc Tryz.prog w base spare held fuel 31 cs.toList=some (d,ps):=hf
 obtain ⟨hl,hc⟩:=Zc Tryz.underlying31 (by kernel_rfl) (by kernel_rfl) hf'
 obtain ⟨v0,y0,n0,e0,t0⟩:=hc 0 _ rfl
 obtain ⟨v1,y1,n1,e1,t1⟩:=hc 1 _ rfl
 obtain ⟨v2,y2,n2,e2,t2⟩:=hc 2 _ rfl
 obtain ⟨v3,y3,n3,e3,t3⟩:=hc 3 _ rfl
 obtain ⟨v4,y4,n4,e4,t4⟩:=hc 4 _ rfl
 obtain ⟨v5,y5,n5,e5,t5⟩:=hc 5 _ rfl
 obtain ⟨v6,y6,n6,e6,t6⟩:=hc 6 _ rfl
 obtain ⟨v7,y7,n7,e7,t7⟩:=hc 7 _ rfl
 obtain ⟨a0,x0,l0,q0⟩:=zKs t0
 obtain ⟨a1,x1,l1,q1⟩:=Hr t1
 obtain ⟨a2,x2,l2,q2⟩:=Hq t2
 obtain ⟨a3,x3,l3,q3⟩:=zEh t3
 obtain ⟨D,hD⟩:∃D:Dep,n4<=D.d:=⟨⟨n4⟩,Nat.le_refl _⟩
 obtain ⟨a4,x4,l4,q4⟩:=zKt hD t4
 obtain ⟨a5,x5,l5,q5⟩:=zPu t5
 obtain ⟨a6,x6,l6,q6⟩:=zEf t6
 obtain ⟨a7,x7,l7,q7⟩:=zEg t7
 have hat:∀(j:Nat) u,cs[j]? =some u->(j=0/\u=v0)∨(j=1/\u=v1)∨(j=2/\u=v2)∨(j=3/\u=v3)∨(j=4/\u=v4)∨(j=5/\u=v5)∨(j=6/\u=v6)∨(j=7/\u=v7):=fun j u hu=>by
  have hu':cs.toList[j]? =some u:=by simpa using hu
  match j,hu' with
  |0,hu'=>rw[e0]at hu';cases hu';simp
  |1,hu'=>rw[e1]at hu';cases hu';simp
  |2,hu'=>rw[e2]at hu';cases hu';simp
  |3,hu'=>rw[e3]at hu';cases hu';simp
  |4,hu'=>rw[e4]at hu';cases hu';simp
  |5,hu'=>rw[e5]at hu';cases hu';simp
  |6,hu'=>rw[e6]at hu';cases hu';simp
  |7,hu'=>rw[e7]at hu';cases hu';simp
  |j+8,hu'=>have h2:=(List.getElem?_eq_some_iff.1 hu').1;rw[hl]at h2;exact absurd h2 (by show ¬j+8<8;omega)
 refine ⟨D,⟨a0,a1,a2,a3,a4,a5,a6,a7⟩,.agg _ cs (by show cs.size=8;rw[<-Array.length_toList,hl];rfl) (fun u hu=> ?_) (fun j g u hg hu=> ?_),⟨q0,q1,q3,fun o ho=>(q4 o ho).1,q6,l4,fun o ho=>(q4 o ho).2⟩⟩
 ·obtain ⟨j,hj⟩:=List.getElem?_of_mem hu
  rcases hat j u (by simpa using hj)with ⟨rfl,rfl⟩|⟨rfl,rfl⟩|⟨rfl,rfl⟩|⟨rfl,rfl⟩|⟨rfl,rfl⟩|⟨rfl,rfl⟩|⟨rfl,rfl⟩|⟨rfl,rfl⟩
  ·exact x0.one
  ·exact x1.one
  ·exact x2.one
  ·exact x3.one
  ·exact x4.one
  ·exact x5.one
  ·exact x6.one
  ·exact x7.one
 ·rcases hat j u hu with ⟨rfl,rfl⟩|⟨rfl,rfl⟩|⟨rfl,rfl⟩|⟨rfl,rfl⟩|⟨rfl,rfl⟩|⟨rfl,rfl⟩|⟨rfl,rfl⟩|⟨rfl,rfl⟩
  ·cases hg;exact .d x0
  ·cases hg;exact .d x1
  ·cases hg;exact .d x2
  ·cases hg;exact .d x3
  ·cases hg;exact .d x4
  ·cases hg;exact .d x5
  ·cases hg;exact .d x6
  ·cases hg;exact .d x7
theorem zKu {r:Reach} {b0:Nat} {v:Value} {d:DataW H} {ps:List MemPlace} (hv:Value.okWide Tryz.prog w r b0 41 v) (h:DataW.Trod enc Tryz.prog w base spare held 41 v d ps):
 ∃x:Fil,VR (fun _=>none) (Yu w) w (fiG x) v:=by
 obtain ⟨cs,rfl,hsz⟩:=uG Tryz.underlying41 hv
 obtain ⟨fuel,hf⟩:=h
 have hf':DataW.trod enc Tryz.prog w base spare held fuel 41 cs.toList=some (d,ps):=hf
 obtain ⟨ys,n,_,_,hl,hyl,hg⟩:=DataW.trod_struct Tryz.underlying41 hf'
 obtain ⟨l⟩:=cs
 have hl:l.length=19:=hl.trans (by kernel_rfl)
 match l,hl with
 | [u0,u1,u2,u3,u4,u5,u6,u7,u8,u9,u10,u11,u12,u13,u14,u15,u16,u17,u18],_=>
   match ys,hyl with
   | [y0,y1,y2,y3,y4],_=>
     have k0:DataW.trod enc Tryz.prog w base spare held n 35 [u0,u1,u2,u3,u4,u5,u6,u7,u8,u9,u10,u11,u12,u13,u14]=some y0:=hg 0 _ rfl
     have k1:DataW.trod enc Tryz.prog w base spare held n 36 [u15]=some y1:=hg 1 _ rfl
     obtain ⟨b1,x1,_,_⟩:=zEc k1
     have k2:DataW.trod enc Tryz.prog w base spare held n 37 [u16]=some y2:=hg 2 _ rfl
     obtain ⟨b2,x2,_,_⟩:=Hs k2
     have k3:DataW.trod enc Tryz.prog w base spare held n 38 [u17]=some y3:=hg 3 _ rfl
     obtain ⟨b3,x3,_,_⟩:=zKw k3
     have k4:DataW.trod enc Tryz.prog w base spare held n 39 [u18]=some y4:=hg 4 _ rfl
     obtain ⟨b4,x4,_,_⟩:=zEi k4
     obtain ⟨zs,n2,_,_,_,hzl,hg2⟩:=DataW.trod_struct Tryz.underlying35 k0
     match zs,hzl with
     | [z0,z1,z2,z3,z4,z5,z6,z7,z8,z9,z10,z11,z12],_=>
       have m0:DataW.trod enc Tryz.prog w base spare held n2 3 [u0]=some z0:=hg2 0 _ rfl
       obtain ⟨a0,f0,_,_⟩:=DataW.trod_int Tryz.underlying3 m0
       simp at f0;subst f0
       have m1:DataW.trod enc Tryz.prog w base spare held n2 3 [u1]=some z1:=hg2 1 _ rfl
       obtain ⟨a1,f1,_,_⟩:=DataW.trod_int Tryz.underlying3 m1
       simp at f1;subst f1
       have m2:DataW.trod enc Tryz.prog w base spare held n2 3 [u2]=some z2:=hg2 2 _ rfl
       obtain ⟨a2,f2,_,_⟩:=DataW.trod_int Tryz.underlying3 m2
       simp at f2;subst f2
       have m3:DataW.trod enc Tryz.prog w base spare held n2 3 [u3]=some z3:=hg2 3 _ rfl
       obtain ⟨a3,f3,_,_⟩:=DataW.trod_int Tryz.underlying3 m3
       simp at f3;subst f3
       have m4:DataW.trod enc Tryz.prog w base spare held n2 3 [u4]=some z4:=hg2 4 _ rfl
       obtain ⟨a4,f4,_,_⟩:=DataW.trod_int Tryz.underlying3 m4
       simp at f4;subst f4
       have m5:DataW.trod enc Tryz.prog w base spare held n2 33 [u5,u6,u7]=some z5:=hg2 5 _ rfl
       obtain ⟨_,hf5⟩:=Zc Tryz.underlying33 (by kernel_rfl) (by kernel_rfl) m5
       obtain ⟨w0,_,_,i0,s0⟩:=hf5 0 _ rfl
       simp at i0;subst i0
       obtain ⟨a5,f5,_,_⟩:=DataW.trod_int Tryz.underlying3 s0
       simp at f5;subst f5
       obtain ⟨w1,_,_,i1,s1⟩:=hf5 1 _ rfl
       simp at i1;subst i1
       obtain ⟨a6,f6,_,_⟩:=DataW.trod_int Tryz.underlying3 s1
       simp at f6;subst f6
       obtain ⟨w2,_,_,i2,s2⟩:=hf5 2 _ rfl
       simp at i2;subst i2
       obtain ⟨a7,f7,_,_⟩:=DataW.trod_int Tryz.underlying3 s2
       simp at f7;subst f7
       have m6:DataW.trod enc Tryz.prog w base spare held n2 3 [u8]=some z6:=hg2 6 _ rfl
       obtain ⟨a8,f8,_,_⟩:=DataW.trod_int Tryz.underlying3 m6
       simp at f8;subst f8
       have m7:DataW.trod enc Tryz.prog w base spare held n2 3 [u9]=some z7:=hg2 7 _ rfl
       obtain ⟨a9,f9,_,_⟩:=DataW.trod_int Tryz.underlying3 m7
       simp at f9;subst f9
       have m8:DataW.trod enc Tryz.prog w base spare held n2 3 [u10]=some z8:=hg2 8 _ rfl
       obtain ⟨a10,f10,_,_⟩:=DataW.trod_int Tryz.underlying3 m8
       simp at f10;subst f10
       have m9:DataW.trod enc Tryz.prog w base spare held n2 3 [u11]=some z9:=hg2 9 _ rfl
       obtain ⟨a11,f11,_,_⟩:=DataW.trod_int Tryz.underlying3 m9
       simp at f11;subst f11
       have m10:DataW.trod enc Tryz.prog w base spare held n2 3 [u12]=some z10:=hg2 10 _ rfl
       obtain ⟨a12,f12,_,_⟩:=DataW.trod_int Tryz.underlying3 m10
       simp at f12;subst f12
       have m11:DataW.trod enc Tryz.prog w base spare held n2 3 [u13]=some z11:=hg2 11 _ rfl
       obtain ⟨a13,f13,_,_⟩:=DataW.trod_int Tryz.underlying3 m11
       simp at f13;subst f13
       have m12:DataW.trod enc Tryz.prog w base spare held n2 3 [u14]=some z12:=hg2 12 _ rfl
       obtain ⟨a14,f14,_,_⟩:=DataW.trod_int Tryz.underlying3 m12
       simp at f14;subst f14
       refine ⟨⟨⟨a0,a1,a2,a3,a4,⟨a5,a6,a7⟩,a8,a9,a10,a11,a12,a13,a14⟩,b1,b2,b3,b4⟩,.agg _ _ rfl (fun u hu=> ?_) (fun j g u hg hu=> ?_)⟩
       ·simp only[List.mem_cons,List.not_mem_nil,or_false]at hu
        rcases hu with rfl|rfl|rfl|rfl|rfl|rfl|rfl|rfl|rfl|rfl|rfl|rfl|rfl|rfl|rfl|rfl|rfl|rfl|rfl
        ·rfl
        ·rfl
        ·rfl
        ·rfl
        ·rfl
        ·rfl
        ·rfl
        ·rfl
        ·rfl
        ·rfl
        ·rfl
        ·rfl
        ·rfl
        ·rfl
        ·rfl
        ·exact x1.one
        ·exact x2.one
        ·exact x3.one
        ·exact x4.one
       ·match j,hg,hu with
        |0,hg,hu=>cases hu;cases hg;exact .d (.sc _ rfl)
        |1,hg,hu=>cases hu;cases hg;exact .d (.sc _ rfl)
        |2,hg,hu=>cases hu;cases hg;exact .d (.sc _ rfl)
        |3,hg,hu=>cases hu;cases hg;exact .d (.sc _ rfl)
        |4,hg,hu=>cases hu;cases hg;exact .d (.sc _ rfl)
        |5,hg,hu=>cases hu;cases hg;exact .d (.sc _ rfl)
        |6,hg,hu=>cases hu;cases hg;exact .d (.sc _ rfl)
        |7,hg,hu=>cases hu;cases hg;exact .d (.sc _ rfl)
        |8,hg,hu=>cases hu;cases hg;exact .d (.sc _ rfl)
        |9,hg,hu=>cases hu;cases hg;exact .d (.sc _ rfl)
        |10,hg,hu=>cases hu;cases hg;exact .d (.sc _ rfl)
        |11,hg,hu=>cases hu;cases hg;exact .d (.sc _ rfl)
        |12,hg,hu=>cases hu;cases hg;exact .d (.sc _ rfl)
        |13,hg,hu=>cases hu;cases hg;exact .d (.sc _ rfl)
        |14,hg,hu=>cases hu;cases hg;exact .d (.sc _ rfl)
        |15,hg,hu=>cases hu;cases hg;exact .d x1
        |16,hg,hu=>cases hu;cases hg;exact .d x2
        |17,hg,hu=>cases hu;cases hg;exact .d x3
        |18,hg,hu=>cases hu;cases hg;exact .d x4
        |j+19,hg,hu=>simp at hu
end
end Go.Gh
namespace Go.Gh
open Go Go.Proofs
set_option maxRecDepth 1000000
set_option maxHeartbeats 2000000
set_option linter.unusedSimpArgs false
set_option linter.unusedVariables false
set_option linter.unnecessarySimpa false
end Go.Gh
namespace Go.Proofs.YtlnnombljiecmaaGreatDoor
open Go.ChangeShapes Go.WideShapes Go.ChangeAt Go.RowKit Go.Deep Go.Gh
theorem own:ownKnob Tryz.prog.godebug=none:=by kernel_rfl
theorem wG:laidOutB Tryz.prog=true:=by kernel_rfl
theorem scV {ν:Nu} {F:Fz} {w:World} (v:Value) (h:v.oneCell'=true):VR ν F w (.d (.sc v)) v:= .d (.sc v h)
def uQ:List (String×DataW Unit):=[("math/bits.deBruijn32tab",Rows.laid_math_bits_deBruijn32tab),("math/bits.deBruijn64tab",Rows.laid_math_bits_deBruijn64tab),("internal/strconv.uint64pow10",Rows.laid_internal_strconv_uint64pow10),("allonge/order.numbers",Rows.laid_allonge_order_numbers)]
def zEa:List Int:=[6,7,10,12,13,14,15,16,20,21]
theorem gPow:Tryz.prog.globalNamed "internal/strconv.uint64pow10" =some 1:=by kernel_rfl
theorem gOrd:Tryz.prog.globalNamed "allonge/order.numbers" =some 2:=by kernel_rfl
theorem Kg {W:World} (h:laidMetH Tryz.prog uQ W):UL (Yu W) W:=by
 rw[MakeChecks.laidMetH_plain _ _ _ (by kernel_rfl)]at h
 have h0:laidMet Tryz.prog (("internal/strconv.uint64pow10",Lib.tabData .u64 Lib.pow10Tab):: [("allonge/order.numbers",Lib.tabData .i64 zEa)]) W:=(laidMet.tail (laidMet.tail h))
 have h1:laidMet Tryz.prog (("allonge/order.numbers",Lib.tabData .i64 zEa):: []) W:=laidMet.tail h0
 have ht:=Lib.tabIs_of_head gPow (t:=283) (e:=245) (n:=20) (by kernel_rfl) Tryz.underlying283 Tryz.underlying245 (by kernel_rfl) (by kernel_rfl) h0
 have hu:=Lib.tabIs_of_head gOrd (t:=293) (e:=3) (n:=10) (by kernel_rfl) Tryz.underlying293 Tryz.underlying3 (by kernel_rfl) (by kernel_rfl) h1
 intro q hq
 have hq:q∈ [(1,Vl .u64 Lib.pow10Tab),(2,Vl .i64 zEa)]:=hq
 simp only[List.mem_cons,List.not_mem_nil,or_false]at hq
 rcases hq with rfl|rfl
 ·exact wj ht gPow (by decide)
 ·exact wj hu gOrd (by decide)
theorem zRj (os:Os) (args:Array Value):laidMetH Tryz.prog uQ ((World.laidAll Tryz.prog os uQ).forCall (fun _ _=>0) ⟨#[],args,[]⟩).memory:=by
 rw[MakeChecks.laidMetH_plain _ _ _ (by kernel_rfl)];exact laidMet_laidAll _ (by kernel_rfl) (by kernel_rfl)
end Go.Proofs.YtlnnombljiecmaaGreatDoor
namespace Go.Gh
end Go.Gh
namespace Go.Proofs.YtlnnombljiecmaaGreatDoor.once
open Go
set_option maxRecDepth 100000
theorem YU {a b:Bool} (h:a=true) (k:b=true):(a&&b)=true:=by rw[h,k];rfl
theorem jf0:(Rows.topOnceRow.wf (OpenSpec.ofChange Rows.topOnceSpec))=true:=by kernel_rfl
theorem jf1:(laidOutB Tryz.pinned.checked.prog)=true:=by kernel_rfl
theorem jf2:(mapsRowed Tryz.pinned.checked.prog)=true:=by kernel_rfl
theorem jf3:(Tryz.f4.params.all (fun t=>Tryz.pinned.checked.prog.readableRec t))=true:=by kernel_rfl
theorem jf4:(namedTie Tryz.pinned.checked.prog Rows.topOnceRow.named Rows.topOnceSpec.vars)=true:=by kernel_rfl
theorem jf5:(Rows.topOnceRow.stops== [])=true:=by kernel_rfl
theorem jf6:(Tryz.pinned.checked.prog.stops== [])=true:=by kernel_rfl
theorem jf7:(Rows.topOnceRow.knobs== [])=true:=by kernel_rfl
theorem jf8:(Tryz.pinned.checked.prog.stopKnobs== [])=true:=by kernel_rfl
theorem jf9:(Rows.topOnceRow.inPlace==Tryz.pinned.checked.prog.inPlace 4)=true:=by kernel_rfl
theorem jf10:(Rows.topOnceRow.unfollowed==Tryz.pinned.checked.prog.unfollowed 4)=true:=by kernel_rfl
theorem jf11:(Rows.topOnceRow.recurses==Tryz.pinned.checked.prog.recurses 4)=true:=by kernel_rfl
theorem jf12:(Rows.topOnceRow.named==Tryz.pinned.checked.prog.varsNamed 4)=true:=by kernel_rfl
theorem jf13:(Rows.topOnceRow.maps==(Tryz.f4.params.toList++Rows.topOnceSpec.plain.varTypes Tryz.pinned.checked.prog).any (fun t=>Tryz.pinned.checked.prog.mapsRec t))=true:=by kernel_rfl
theorem jf14:(Rows.topOnceRow.ifaces==(Tryz.f4.params.toList++Rows.topOnceSpec.plain.varTypes Tryz.pinned.checked.prog).any (fun t=>Tryz.pinned.checked.prog.ifacesRec t))=true:=by kernel_rfl
theorem jf15:(Rows.topOnceRow.mapsOut==Tryz.pinned.checked.prog.mapsAmong Tryz.f4.resultTypes.toList)=true:=by kernel_rfl
theorem jf16:(Rows.topOnceRow.loops==(Tryz.f4.params.toList++Rows.topOnceSpec.plain.varTypes Tryz.pinned.checked.prog).any (fun t=>Tryz.pinned.checked.prog.loopsFrom t))=true:=by kernel_rfl
theorem jf17:(Rows.topOnceRow.wideKeys==(Tryz.f4.params.toList++Rows.topOnceSpec.plain.varTypes Tryz.pinned.checked.prog++Tryz.f4.resultTypes.toList).any (fun t=>Tryz.pinned.checked.prog.wideKeysFrom t))=true:=by kernel_rfl
theorem jf18:(Rows.topOnceSpec.vars.all (fun t=>Tryz.pinned.checked.prog.varReadable t))=true:=by kernel_rfl
theorem jf19:(Tryz.f4.resultTypes.all (fun t=>Tryz.pinned.checked.prog.readableRec t&&decide (t<Tryz.pinned.checked.prog.types.size)))=true:=by kernel_rfl
theorem jf20:(Rows.topOnceRow.ifacesOut==Tryz.f4.resultTypes.toList.any (fun t=>Tryz.pinned.checked.prog.ifacesRec t))=true:=by kernel_rfl
theorem jf21:(Rows.topOnceRow.loopsOut==Tryz.f4.resultTypes.toList.any (fun t=>Tryz.pinned.checked.prog.loopsFrom t))=true:=by kernel_rfl
theorem jf22:(Rows.topOnceRow.plainKeys==Tryz.pinned.checked.prog.plainKeys)=true:=by kernel_rfl
theorem jf23:(Rows.topOnceRow.shortTexts.isNone)=true:=by kernel_rfl
theorem jf24:(Tryz.pinned.checked.prog.stopsHeard)=true:=by kernel_rfl
theorem jf25:(Tryz.pinned.checked.prog.mayEnter)=true:=by kernel_rfl
theorem jf26:(Rows.topOnceRow.lifted==Tryz.pinned.checked.prog.liftsFinal)=true:=by kernel_rfl
theorem jf27:(Tryz.pinned.checked.prog.make==some Rows.topOnceRow.make)=true:=by kernel_rfl
theorem jf29:(Rows.topOnceRow.pinned==Rows.topOnceRow.pinnedBy)=true:=by kernel_rfl
theorem jf30:(Rows.topOnceRow.veiled==(Tryz.f4.params.toList++Rows.topOnceSpec.plain.varTypes Tryz.pinned.checked.prog++Tryz.f4.resultTypes.toList).any (fun t=>Tryz.pinned.checked.prog.veiledRec t))=true:=by kernel_rfl
theorem jf31:(Rows.topOnceRow.veiledFits Tryz.pinned.checked.prog Tryz.f4.params.toList (Tryz.f4.params.toList++Rows.topOnceSpec.plain.varTypes Tryz.pinned.checked.prog++Tryz.f4.resultTypes.toList))=true:=by kernel_rfl
theorem joined:joinedFacts Tryz.pinned.checked.prog 4 Tryz.f4 Rows.topOnceSpec Rows.topOnceRow=true:=
 (YU (YU (YU (YU (YU (YU (YU (YU (YU (YU (YU (YU (YU (YU (YU (YU (YU (YU (YU (YU (YU (YU (YU (YU (YU (YU (YU (YU (YU (YU (YU jf0 jf1) jf2) jf3) jf4) jf5) jf6) jf7) jf8) jf9) jf10) jf11) jf12) jf13) jf14) jf15) jf16) jf17) jf18) jf19) jf20) jf21) jf22) jf23) jf24) jf25) jf26) jf27) (by kernel_rfl)) jf29) jf30) jf31)
end Go.Proofs.YtlnnombljiecmaaGreatDoor.once
