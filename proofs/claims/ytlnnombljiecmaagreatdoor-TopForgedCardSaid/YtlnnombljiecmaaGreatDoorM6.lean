/- Walks by the logic of calls, and plain laws (several texts in one). -/
import Derived.Test.YtlnnombljiecmaaGreatDoorM5
namespace Go.Gh
open Go Go.Proofs
set_option maxRecDepth 1000000
set_option maxHeartbeats 2000000
set_option linter.unusedSimpArgs false
set_option linter.unusedVariables false
set_option linter.unnecessarySimpa false
set_option linter.unusedSectionVars false
variable [Dep]
open Go.RowKit
def jM (f:Fil):Prop:=∀i j:Nat,i<=j->j<f.signs.length->(f.signs.getD i default).day<=(f.signs.getD j default).day
theorem UQ (l:List Sgn) (day:Int) {k:Nat} (h:k<(upto l day).length):(upto l day).getD k default=l.getD k default:=by
 obtain ⟨t,ht⟩:=List.takeWhile_prefix (l:=l) fun x:Sgn=> !decide (day<x.day)
 have e:upto l day++t=l:=ht
 rw[List.getD_eq_getElem?_getD,List.getD_eq_getElem?_getD,<-List.getElem?_append_left (l₂:=t) h,e]
theorem zMl:∀(l:List Sgn) (day:Int) (k:Nat),(∀i j:Nat,i<=j->j<l.length->(l.getD i default).day<=(l.getD j default).day)->k<l.length->(l.getD k default).day<=day->k<(upto l day).length:=by
 intro l
 induction l with
 |nil=>intro day k _ h;simp at h
 |cons a l ih=>
  intro day k hs h hd
  have h0:=hs 0 k (Nat.zero_le _) h
  have e0:((a::l).getD 0 default).day=a.day:=rfl
  have e:upto (a::l) day=a::upto l day:=by unfold upto;rw[List.takeWhile_cons,if_pos (by simp;omega)]
  rw[e]
  cases k with
  |zero=>simp
  |succ k=>
   have:=ih day k (fun i j h1 h2=>hs (i+1) (j+1) (by omega) (by simp;omega)) (by simpa using h) hd
   simp;omega
theorem Zj.at_ {f:Fil} (h:Zj f) (day:Int):Zj (atV f day):=by
 rw[yd]
 intro k hk hh
 have hk':k<(upto f.signs day).length:=hk
 have hle:=Wg (fun x:Sgn=> !decide (day<x.day)) f.signs
 have e:(upto f.signs day).getD k default=f.signs.getD k default:=UQ _ _ hk'
 rw[show (⟨f.bill,upto f.signs day,_,_,_⟩:Fil).signs.getD k default=f.signs.getD k default from e]at hh⊢
 exact h k (by have:(upto f.signs day).length<=f.signs.length:=hle;omega) hh
theorem uX (f:Fil) (first:Int) (was:Bool):∀(l:List Nat) (c:Chn) (x:Int),x∈(yN f first was l c).signs->x∈c.signs∨∃i,i∈l/\x=(i:Nat):=by
 intro l
 induction l with
 |nil=>intro c x h;exact .inl h
 |cons a l ih=>
  intro c x h
  rw[yN]at h
  split at h
  ·exact .inl h
  ·rcases ih _ _ h with h|⟨i,hi,e⟩
   ·have h':x∈c.signs++ [(a:Int)]:=h
    rcases List.mem_append.1 h' with h|h
    ·exact .inl h
    ·exact .inr ⟨a,by simp,by simpa using h⟩
   ·exact .inr ⟨i,by simp[hi],e⟩
theorem uY (f:Fil) (first:Int) (was:Bool):∀(l:List Nat) (c:Chn),(yN f first was l c).signs.length<=c.signs.length+l.length:=by
 intro l
 induction l with
 |nil=>intro c;exact Nat.le_refl _
 |cons a l ih=>
  intro c
  rw[yN]
  split
  ·simp
  ·have:=ih (ZM f first was c a)
   have h2:(ZM f first was c a).signs.length=c.signs.length+1:=by simp[ZM]
   simp only[List.length_cons];omega
theorem Xt {f:Fil} (hF:FitFi f) (hd:jM f) (day part:Int):(zJ (zj f day) part).length<=1000/\∀l,l∈zJ (zj f day) part->0<=l/\l<(atV f day).signs.length:=by
 have g1:=hF.signs
 refine ⟨?_,fun l hl=> ?_⟩
 ·have h1:=uY f (zR f day).1 (zR f day).2 (jv f part day) (ZK f)
  have h2:=uN f part day
  have h3:(ZK f).signs.length=0:=rfl
  show (yN f (zR f day).1 (zR f day).2 (jv f part day) (ZK f)).signs.length<=1000
  omega
 ·rcases uX f (zR f day).1 (zR f day).2 (jv f part day) (ZK f) l hl with h|⟨i,hi,rfl⟩
  ·cases h
  ·refine ⟨by omega,?_⟩
   have h1:=zHg hi
   have h2:=(List.mem_filter.1 hi).2
   have h3:(f.signs.getD i default).day<=day:=by
    simp only[KR,bb]at h2
    omega
   have:=zMl f.signs day i hd h1 h3
   rw[yd];show ((i:Nat):Int)<(upto f.signs day).length;omega
theorem zPt (f:Fil) (hF:FitFi f):0<(YH f).length/\(YH f).length<=1001:=by
 have h1:=Xu f
 have h2:=Zr ((ldR f).mergeSort fun x y=>decide (x<=y))
 have h3:((ldR f).mergeSort fun x y=>decide (x<=y)).length=(ldR f).length:=List.length_mergeSort _
 have g1:=hF.signs
 unfold YH
 split
 ·simp
 ·exact ⟨by omega,by omega⟩
theorem zPr (v:Ovw) (part by_:Int) (links:List Int):∀k x,x∈qa v part by_ links k->0<=x/\x<k:=by
 intro k
 induction k with
 |zero=>intro x h;cases h
 |succ k ih=>
  intro x h
  unfold qa at h
  split at h
  ·rcases List.mem_append.1 h with h|h
   ·have:=ih x h;omega
   ·rw[List.mem_singleton.1 h];omega
  ·have:=ih x h;omega
theorem Vp (v:Ovw) (part by_:Int) (links:List Int):(Zc v part by_ links).length<=v.now.signs.length/\∀x,x∈Zc v part by_ links->0<=x/\x<v.now.signs.length:=by
 unfold Zc
 split
 ·exact ⟨Nat.zero_le _,fun x h=>by cases h⟩
 ·exact ⟨Hm _ _ _ _ _,zPr _ _ _ _ _⟩
theorem Vc (c:Crt) (last:Int):∀(l:List Int) (o:Onr),(vg c last l o).length<=l.length+1:=by
 intro l
 induction l with
 |nil=>intro o;exact Nat.le_refl _
 |cons a l ih=>
  intro o
  rw[vg]
  split
  ·simp
  ·split
   ·have:=ih ⟨(c.v.now.signs.getD a.toNat default).to_,a,2⟩
    simp only[List.length_cons];omega
   ·have:=ih ⟨(c.v.now.signs.getD a.toNat default).to_,a,o.state⟩
    simp only[List.length_cons];omega
def WW (r:Rlm) (forum:Int) (f:Fil) (day p:Int) (o:Onr) (acc:List Clm) (s:Int):List Clm:=
 if (bif decide ((stO (YN r forum f day).1 o s (zJ (zj f day) p) (ZF r forum f day)).1=0)then true else decide (((atV f day).signs.getD s.toNat default).who=o.firm))=true then acc
 else acc++ [⟨((atV f day).signs.getD s.toNat default).who,o.firm,p,s,o.sign,(stO (YN r forum f day).1 o s (zJ (zj f day) p) (ZF r forum f day)).2,(qP r forum f s day).rest,f.bill.cur,(stO (YN r forum f day).1 o s (zJ (zj f day) p) (ZF r forum f day)).1⟩]
def wC (r:Rlm) (forum:Int) (f:Fil) (day p:Int) (acc:List Clm) (o:Onr):List Clm:=(Zc (zj f day) p o.sign (zJ (zj f day) p)).foldl (WW r forum f day p o) acc
def WX (r:Rlm) (forum:Int) (f:Fil) (day:Int) (acc:List Clm) (p:Int):List Clm:=(jW (YN r forum f day).1 (zJ (zj f day) p)).foldl (wC r forum f day p) acc
def qc (r:Rlm) (forum:Int) (f:Fil) (day:Int):List Clm:=if (!(YN r forum f day).2)=true then []else (YH (atV f day)).foldl (WX r forum f day) []
theorem Yu {α β:Type} (g:List β->α->List β) (n:Nat) (hg:∀a x,(g a x).length<=a.length+n):∀(l:List α) (a:List β),(l.foldl g a).length<=a.length+l.length*n:=by
 intro l
 induction l with
 |nil=>intro a;simp
 |cons x l ih=>
  intro a
  have h1:=ih (g a x)
  have h2:=hg a x
  have h3:(l.length+1)*n=l.length*n+n:=Nat.succ_mul _ _
  simp only[List.foldl_cons,List.length_cons]
  omega
theorem zBa (r:Rlm) (forum:Int) (f:Fil) (day p:Int) (o:Onr) (a:List Clm) (s:Int):(WW r forum f day p o a s).length<=a.length+1:=by
 unfold WW;split<;>simp
theorem zBc (r:Rlm) (forum:Int) (f:Fil) (day p:Int) (hF:FitFi f) (a:List Clm) (o:Onr):(wC r forum f day p a o).length<=a.length+1000:=by
 have h1:=Yu (WW r forum f day p o) 1 (zBa r forum f day p o) (Zc (zj f day) p o.sign (zJ (zj f day) p)) a
 have h2:=(Vp (zj f day) p o.sign (zJ (zj f day) p)).1
 have h3:(zj f day).now.signs.length<=1000:=(hF.at_ day).signs
 unfold wC;omega
theorem zBb (r:Rlm) (forum:Int) (f:Fil) (day:Int) (hF:FitFi f) (hd:jM f) (a:List Clm) (p:Int):(WX r forum f day a p).length<=a.length+1001000:=by
 have h1:=Yu (wC r forum f day p) 1000 (zBc r forum f day p hF) (jW (YN r forum f day).1 (zJ (zj f day) p)) a
 have h2:=Vc (YN r forum f day).1 (JP (zJ (zj f day) p)) (zJ (zj f day) p) (HM (YN r forum f day).1)
 have h3:=(Xt hF hd day p).1
 have h4:(jW (YN r forum f day).1 (zJ (zj f day) p)).length<=1001:=by unfold jW;omega
 have h5:(jW (YN r forum f day).1 (zJ (zj f day) p)).length*1000<=1001*1000:=Nat.mul_le_mul_right _ h4
 unfold WX;omega
theorem zBl (r:Rlm) (forum:Int) (f:Fil) (day:Int):∀(m:Nat) (a:List Efc) (k:Nat),(atV f day).signs.length-k<=m->k<=(atV f day).signs.length->a.length=k->(yt r forum f day a k).length=(atV f day).signs.length:=by
 intro m
 induction m with
 |zero=>
  intro a k h1 h2 h3
  unfold yt
  split
  ·rename_i h
   exact absurd (show k<(atV f day).signs.length from h) (by omega)
  ·omega
 |succ m ih=>
  intro a k h1 h2 h3
  unfold yt
  split
  ·rename_i h
   have h':k<(atV f day).signs.length:=h
   exact ih _ _ (by omega) (by omega) (by simp[h3])
  ·rename_i h
   have h':¬k<(atV f day).signs.length:=h
   omega
theorem zLu (r:Rlm) (forum:Int) (f:Fil) (day:Int):(ZF r forum f day).length=(atV f day).signs.length:=zBl r forum f day _ [] 0 (Nat.le_refl _) (Nat.zero_le _) rfl
theorem zUr (r:Rlm) (forum:Int) (f:Fil) (day:Int) (hR:RR r) (hF:FitFi f) (hB:Zj f) (hd:jM f) (hw:vl r f) (hp:0<=f.bill.pay/\f.bill.pay<r.cities.length):GM Tryz.prog 64 [rlG r,iG forum,fiG f,iG day] [] (.sl 0 9 0 (qc r forum f day).length) [some (.row 55 9 default clC (qc r forum f day) 0)]:=by
 have hF2:=hF.at_ day
 have hw2:=hw.at_ day
 have hB2:=hB.at_ day
 have g1:=hF2.signs
 refine ZO Tryz.func64 ?_
 refine gE [4,5,6,7,8] ?_
 refine gR [.call (zTg r forum f day hR hF)] [4,5,6,7,8,9,10] ?_
 refine gE [4,5,6,7,8,9,32] ?_
 refine zE (fun c1=> ?_) (fun c1=> ?_)
 ·refine gE [8] ?_
  have hV:qc r forum f day= []:=by rw[qc,if_pos c1]
  refine zAe env 8 55 9 (default:Clm) clC [.sl 0 9 0 (qc r forum f day).length] (hp:= ?_)
  simp only[zC,hV]
  repeat' first|exact trivial|exact rfl|(simp;done)|apply And.intro
 ·have hV:qc r forum f day=(YH (atV f day)).foldl (WX r forum f day) []:=by rw[qc,if_neg (by rw[c1];decide)]
  have hT:(YN r forum f day).1=⟨zj f day,r,forum,ZI r forum f day⟩:=by
   unfold YN at c1⊢;split
   ·rename_i h;rw[if_pos h]at c1;cases c1
   ·rfl
  obtain ⟨c,hc⟩:∃c,c=(YN r forum f day).1:=⟨_,rfl⟩
  rw[<-hc]
  have k1:c.v=zj f day:=by rw[hc,hT]
  have k2:c.r=r:=by rw[hc,hT]
  have k3:c.v.now=atV f day:=by rw[k1];rfl
  have k4:c.v.all=f:=by rw[k1];rfl
  have k5:c.v.lead=YH (atV f day):=by rw[k1];rfl
  have hN:FitFi c.v.now:=k3▸hF2
  have hA:FitFi c.v.all:=k4▸hF
  have hBn:Zj c.v.now:=k3▸hB2
  have hRc:RR c.r:=k2▸hR
  have hpp:0<=c.v.all.bill.pay/\c.v.all.bill.pay<c.r.cities.length:=by rw[k4,k2];exact hp
  have hbe:(ZF r forum f day).length=c.v.now.signs.length:=by rw[k3];exact zLu r forum f day
  have hld:0<c.v.lead.length/\c.v.lead.length<=1001:=by rw[k5];exact zPt _ hF2
  have hl1:∀p,(zJ c.v p).length<=1000/\∀l,l∈zJ c.v p->0<=l/\l<c.v.now.signs.length:=fun p=>by rw[k1];exact Xt hF hd day p
  have hli:∀p o,(Zc c.v p o (zJ c.v p)).length<=c.v.now.signs.length/\∀x,x∈Zc c.v p o (zJ c.v p)->0<=x/\x<c.v.now.signs.length:=fun p o=>Vp _ _ _ _
  have g2:c.v.now.signs.length<=1000:=hN.signs
  have hown:∀p,(jW c (zJ c.v p)).length<=1001:=fun p=>by
   have h2:=Vc c (JP (zJ c.v p)) (zJ c.v p) (HM c)
   have h3:=(hl1 p).1
   unfold jW;omega
  have eP:∀a p,WX r forum f day a p=(jW c (zJ c.v p)).foldl (wC r forum f day p) a:=fun a p=>by unfold WX;rw[<-hc,<-k1]
  have eO:∀p a o,wC r forum f day p a o=(Zc c.v p o.sign (zJ c.v p)).foldl (WW r forum f day p o) a:=fun p a o=>by unfold wC;rw[<-k1]
  have eS:∀p o a s,WW r forum f day p o a s=if (bif decide ((stO c o s (zJ c.v p) (ZF r forum f day)).1=0)then true else decide ((c.v.now.signs.getD s.toNat default).who=o.firm))=true then a else a++ [⟨(c.v.now.signs.getD s.toNat default).who,o.firm,p,s,o.sign,(stO c o s (zJ c.v p) (ZF r forum f day)).2,(qP r forum f s day).rest,f.bill.cur,(stO c o s (zJ c.v p) (ZF r forum f day)).1⟩]:=fun p o a s=>by unfold WW;rw[<-hc,<-k1,<-k3]
  rw[<-k5]at hV
  clear hT
  refine gR [.call (zSj r forum f day hR hF)] [4,5,6,7,8,9,11] ?_
  refine gE [4,5,6,7,8,9,11,12] ?_
  refine gE [4,5,6,7,8,9,11,12,40,41,42] ?_
  refine qb 6 0 55 9 (default:Clm) clC ?_
  refine zG (α:=List Clm×Nat) (fun x=>x.2<=c.v.lead.length/\x.1=(c.v.lead.take x.2).foldl (WX r forum f day) []/\x.1.length<=x.2*1001000) (fun x=>[(42,iG x.2)]) (fun x=>[(6,some (.box [.sl 7 9 0 x.1.length])),(7,some (.row 55 9 (default:Clm) clC (x.1) 0))]) (fun x=>c.v.lead.length-x.2) ([],0) ⟨Nat.zero_le _,rfl,Nat.le_refl _⟩ ?_ (hp:=by (try simp only[zC]);repeat' first|exact trivial|exact rfl|exact List.length_append.symm|exact zI.refl _|exact zH.refl _|omega|apply And.intro)
  rintro ⟨acc,k⟩ ⟨hk,hacc,hal⟩
  dsimp only at*
  refine gE [4,5,6,7,8,9,11,12,40,41,42,43] ?_
  refine zB (fun c2=> ?_) (fun c2=> ?_)
  ·have hk2:k<c.v.lead.length:=by omega
   have hnx:(c.v.lead.take (k+1)).foldl (WX r forum f day) []=WX r forum f day acc (c.v.lead.getD k default):=by rw[yI _ _ _ _ hk2,<-hacc]
   have hnl:=zBb r forum f day hF hd acc (c.v.lead.getD k default)
   rw[eP]at hnx hnl
   refine gP [] [4,5,6,7,8,9,11,12,14,40,41,42] ?_
   refine gR [.call (zKf c.v (c.v.lead.getD k default) hA)] [4,5,6,7,8,9,11,12,14,15,40,41,42] ?_
   refine gR [.call (zJd c (zJ c.v (c.v.lead.getD k default)))] [4,5,6,7,8,9,11,12,14,15,40,41,42,52] ?_
   generalize hpd:c.v.lead.getD k default=p at*
   have hlp:=hl1 p
   refine vA 10 11 (fun o:Onr=>[onG o]) (jW c (zJ c.v p)) (fun pre=>[(0,some (.box [.d (.row default ze r.currencies),.d (.row default ctC r.cities),.d (.row default inC r.groups),.d (.row default fmC r.firms),.d (.row default odC r.orders),.d (.row default usC r.usances),.d (.row default rtC r.rates),.d (.row default htC r.halts)])),(1,some (.box [iG forum])),(2,some (.box [iG f.bill.drawer,iG f.bill.drawee,iG f.bill.payee,iG f.bill.sum,iG f.bill.cur,iG f.bill.ten.kind,iG f.bill.ten.n,iG f.bill.ten.unit,iG f.bill.day,iG f.bill.city,iG f.bill.pay,iG f.bill.need,iG f.bill.rate,iG f.bill.flags,iG f.bill.parts,.d (.row default sgC f.signs),.d (.row default alC f.alters),.d (.row default acC f.acts),.d (.row default fcC f.facts)])),(3,some (.box [iG day])),(4,some (.box [iG c.v.all.bill.drawer,iG c.v.all.bill.drawee,iG c.v.all.bill.payee,iG c.v.all.bill.sum,iG c.v.all.bill.cur,iG c.v.all.bill.ten.kind,iG c.v.all.bill.ten.n,iG c.v.all.bill.ten.unit,iG c.v.all.bill.day,iG c.v.all.bill.city,iG c.v.all.bill.pay,iG c.v.all.bill.need,iG c.v.all.bill.rate,iG c.v.all.bill.flags,iG c.v.all.bill.parts,.d (.row default sgC c.v.all.signs),.d (.row default alC c.v.all.alters),.d (.row default acC c.v.all.acts),.d (.row default fcC c.v.all.facts),iG c.v.now.bill.drawer,iG c.v.now.bill.drawee,iG c.v.now.bill.payee,iG c.v.now.bill.sum,iG c.v.now.bill.cur,iG c.v.now.bill.ten.kind,iG c.v.now.bill.ten.n,iG c.v.now.bill.ten.unit,iG c.v.now.bill.day,iG c.v.now.bill.city,iG c.v.now.bill.pay,iG c.v.now.bill.need,iG c.v.now.bill.rate,iG c.v.now.bill.flags,iG c.v.now.bill.parts,.d (.row default sgC c.v.now.signs),.d (.row default alC c.v.now.alters),.d (.row default acC c.v.now.acts),.d (.row default fcC c.v.now.facts),iG c.v.day,.d (.row default inC c.v.lead),.d (.row default ze c.r.currencies),.d (.row default ctC c.r.cities),.d (.row default inC c.r.groups),.d (.row default fmC c.r.firms),.d (.row default odC c.r.orders),.d (.row default usC c.r.usances),.d (.row default rtC c.r.rates),.d (.row default htC c.r.halts),iG c.forum,iG c.due])),(5,some (.box [.d (.row default efC (ZF r forum f day))])),(6,some (.box [.sl 10 9 0 (pre.foldl (wC r forum f day p) acc).length])),(8,some (.box [iG p])),(9,some (.box [.d (.row default inC (zJ c.v p))])),(10,some (.row 55 9 (default:Clm) clC (pre.foldl (wC r forum f day p) acc) 0))]) (fun _=>True) (zZx c (zJ c.v p) hRc hN hlp.1 hlp.2) trivial ?_ ?_ (hps:=by (try simp only[zC]);repeat' first|exact trivial|exact rfl|exact hpd|exact zI.refl _|exact zH.refl _|omega|apply And.intro)
   ·rintro pre o rest he _
    have hpl:pre.length+1<=1001:=by have:=hown p;rw[<-he]at this;simp at this;omega
    obtain ⟨A,hA1⟩:∃A,A=pre.foldl (wC r forum f day p) acc:=⟨_,rfl⟩
    have hAl:A.length<=acc.length+pre.length*1000:=hA1▸Yu _ 1000 (zBc r forum f day p hF) pre acc
    have hZ:(pre++ [o]).foldl (wC r forum f day p) acc=(Zc c.v p o.sign (zJ c.v p)).foldl (WW r forum f day p o) A:=by rw[List.foldl_append,<-hA1];exact eO p A o
    rw[hZ,<-hA1]
    have hla:=hli p o.sign
    refine gE [4,5,6,7,9,11,12,14,15,16] ?_
    refine zEb ?_
    refine gR [.call (ZAr c.v p o.sign (zJ c.v p) hN hld hlp.1)] [4,5,6,7,9,11,12,14,15,16,60,61,62] ?_
    refine zG (α:=List Clm×Nat) (fun x=>x.2<=(Zc c.v p o.sign (zJ c.v p)).length/\x.1=((Zc c.v p o.sign (zJ c.v p)).take x.2).foldl (WW r forum f day p o) A/\x.1.length<=A.length+x.2) (fun x=>[(62,iG x.2)]) (fun x=>[(6,some (.box [.sl 10 9 0 x.1.length])),(10,some (.row 55 9 (default:Clm) clC (x.1) 0))]) (fun x=>(Zc c.v p o.sign (zJ c.v p)).length-x.2) (A,0) ⟨Nat.zero_le _,rfl,Nat.le_refl _⟩ ?_ (hp:=by (try simp only[zC]);repeat' first|exact trivial|exact rfl|exact List.length_append.symm|exact zI.refl _|exact zH.refl _|omega|apply And.intro)
    rintro ⟨L,j⟩ ⟨hj,hL,hLl⟩
    dsimp only at hj hL hLl⊢
    refine gE [4,5,6,7,9,11,12,14,15,16,60,61,62,63] ?_
    refine zB (fun c3=> ?_) (fun c3=> ?_)
    ·have hj2:j<(Zc c.v p o.sign (zJ c.v p)).length:=by omega
     have hs:=hla.2 _ (zK (l:=Zc c.v p o.sign (zJ c.v p)) (i:=j) hj2)
     have hstep:((Zc c.v p o.sign (zJ c.v p)).take (j+1)).foldl (WW r forum f day p o) A=WW r forum f day p o L ((Zc c.v p o.sign (zJ c.v p)).getD j default):=by rw[yI _ _ _ _ hj2,<-hL]
     rw[eS]at hstep
     refine gP [] [4,5,6,7,9,11,12,14,15,16,18,60,61,62] ?_
     refine gP [] [4,5,6,7,9,11,12,14,15,16,18,19,60,61,62] ?_
     refine gR [.call (zZh c o ((Zc c.v p o.sign (zJ c.v p)).getD j default) (zJ c.v p) (ZF r forum f day) hRc hN hA hBn hs hbe hlp.1 hpp)] [4,5,6,7,9,11,12,14,15,16,18,19,20,21,60,61,62] ?_
     refine gE [4,5,6,7,9,11,12,14,15,16,18,19,20,21,60,61,62,90] ?_
     refine zE (fun c4=> ?_) (fun c4=> ?_)
     ·rw[if_pos (by exact c4)]at hstep
      refine gP [] [4,5,6,7,9,11,12,14,15,16,60,61,62] ?_
      exact zD (L,j+1) ⟨hj2,hstep.symm,by dsimp only;omega⟩ (hp:=by (try simp only[zC]);repeat' first|exact trivial|exact rfl|exact List.length_append.symm|exact zI.refl _|exact zH.refl _|omega|apply And.intro) (hm:=by dsimp only;omega)
     ·rw[if_neg (by rw[show (bif decide ((stO c o ((Zc c.v p o.sign (zJ c.v p)).getD j default) (zJ c.v p) (ZF r forum f day)).1=0)then true else decide ((c.v.now.signs.getD ((Zc c.v p o.sign (zJ c.v p)).getD j default).toNat default).who=o.firm))=false from c4];decide)]at hstep
      refine gR [.call (zOb r forum f ((Zc c.v p o.sign (zJ c.v p)).getD j default) day hR hF hw)] [4,5,6,7,9,11,12,14,15,16,18,19,20,21,22,60,61,62] ?_
      refine gU [.el default clC ([(⟨(c.v.now.signs.getD ((Zc c.v p o.sign (zJ c.v p)).getD j default).toNat default).who,o.firm,p,((Zc c.v p o.sign (zJ c.v p)).getD j default),o.sign,(stO c o ((Zc c.v p o.sign (zJ c.v p)).getD j default) (zJ c.v p) (ZF r forum f day)).2,(qP r forum f ((Zc c.v p o.sign (zJ c.v p)).getD j default) day).rest,f.bill.cur,(stO c o ((Zc c.v p o.sign (zJ c.v p)).getD j default) (zJ c.v p) (ZF r forum f day)).1⟩:Clm)]:List Clm),.el default clC (L++ [(⟨(c.v.now.signs.getD ((Zc c.v p o.sign (zJ c.v p)).getD j default).toNat default).who,o.firm,p,((Zc c.v p o.sign (zJ c.v p)).getD j default),o.sign,(stO c o ((Zc c.v p o.sign (zJ c.v p)).getD j default) (zJ c.v p) (ZF r forum f day)).2,(qP r forum f ((Zc c.v p o.sign (zJ c.v p)).getD j default) day).rest,f.bill.cur,(stO c o ((Zc c.v p o.sign (zJ c.v p)).getD j default) (zJ c.v p) (ZF r forum f day)).1⟩:Clm)])] [4,5,6,7,9,11,12,14,15,16,60,61,62] ?_
      refine gP [] [4,5,6,7,9,11,12,14,15,16,60,61,62] ?_
      exact zD (L++ [(⟨(c.v.now.signs.getD ((Zc c.v p o.sign (zJ c.v p)).getD j default).toNat default).who,o.firm,p,((Zc c.v p o.sign (zJ c.v p)).getD j default),o.sign,(stO c o ((Zc c.v p o.sign (zJ c.v p)).getD j default) (zJ c.v p) (ZF r forum f day)).2,(qP r forum f ((Zc c.v p o.sign (zJ c.v p)).getD j default) day).rest,f.bill.cur,(stO c o ((Zc c.v p o.sign (zJ c.v p)).getD j default) (zJ c.v p) (ZF r forum f day)).1⟩:Clm)],j+1) ⟨hj2,hstep.symm,by simp only[List.length_append,List.length_cons,List.length_nil];omega⟩ (hp:=by (try simp only[zC]);repeat' first|exact trivial|exact rfl|exact List.length_append.symm|exact zI.refl _|exact zH.refl _|omega|apply And.intro) (hm:=by dsimp only;omega)
    ·have e:j=(Zc c.v p o.sign (zJ c.v p)).length:=by omega
     rw[e,List.take_length]at hL
     exact uD trivial (hps:=by simp only[zC,<-hL];repeat' first|exact trivial|exact rfl|(simp;done)|apply And.intro)
   ·intro _
    refine gP [] [4,5,6,7,8,9,11,12,40,41,42] ?_
    exact zD ((jW c (zJ c.v p)).foldl (wC r forum f day p) acc,k+1) ⟨hk2,hnx.symm,by dsimp only;omega⟩ (hp:=by (try simp only[zC]);repeat' first|exact trivial|exact rfl|exact List.length_append.symm|exact zI.refl _|exact zH.refl _|omega|apply And.intro) (hm:=by dsimp only;omega)
  ·have e:k=c.v.lead.length:=by omega
   refine gE [8] ?_
   rw[e,List.take_length,<-hV]at hacc
   refine yU env [.sl 0 9 0 (qc r forum f day).length] (hp:= ?_)
   simp only[zC,<-hacc]
   repeat' first|exact trivial|exact rfl|(simp;done)|apply And.intro
open Go.IntKind (i64)
structure Pky where
 debtor:Int
 creditor:Int
 part:Int
 sign:Int
 by_:Int
deriving DecidableEq
instance :Inhabited Pky:=⟨⟨0,0,0,0,0⟩⟩
abbrev pkG (x:Pky):G:= .agg [iG x.debtor,iG x.creditor,iG x.part,iG x.sign,iG x.by_]
def KP (a b:Pky):Bool:=decide (a.debtor=b.debtor)&&(decide (a.creditor=b.creditor)&&(decide (a.part=b.part)&&(decide (a.sign=b.sign)&&(decide (a.by_=b.by_)&&(true)))))
theorem zHf (a b:Pky):EqC Tryz.prog 241 [.int .i64 a.debtor,.int .i64 a.creditor,.int .i64 a.part,.int .i64 a.sign,.int .i64 a.by_] [.int .i64 b.debtor,.int .i64 b.creditor,.int .i64 b.part,.int .i64 b.sign,.int .i64 b.by_] (KP a b):=EqC.of Zk rfl rfl (by kernel_rfl) (by kernel_rfl) (.int Zk rfl rfl rfl rfl (.int Zk rfl rfl rfl rfl (.int Zk rfl rfl rfl rfl (.int Zk rfl rfl rfl rfl (.int Zk rfl rfl rfl rfl .nil)))))
def YZ (c:Clm):Pky:=⟨c.debtor,c.creditor,c.part,c.sign,c.by_⟩
theorem vp (c:Clm):GC Tryz.prog 156 [clG c] (pkG (YZ c)):=by
 refine zA Tryz.func156 ?_
 refine gE [1,2] ?_
 refine gE [2] ?_
 refine gT ?_
 rw[YZ];rfl
theorem Xd {l:List Clm} {i:Nat} {x:Int} (hi:i<l.length):uv (zP clC l) i 6 [.sc (.int .i64 x)]=zP clC (l.set i {l.getD i default with sum:=x}):=by
 have e:(zP clC l).getD i []=clC (l.getD i default):=by
  simp[zP,List.getD_eq_getElem?_getD,List.getElem?_eq_getElem hi]
 rw[uv,e]
 simp only[zP,List.map_set]
 rfl
theorem Xc {l:List Clm} {i:Nat} {x:Int} (hi:i<l.length):uv (zP clC l) i 8 [.sc (.int .i64 x)]=zP clC (l.set i {l.getD i default with state:=x}):=by
 have e:(zP clC l).getD i []=clC (l.getD i default):=by
  simp[zP,List.getD_eq_getElem?_getD,List.getElem?_eq_getElem hi]
 rw[uv,e]
 simp only[zP,List.map_set]
 rfl
theorem vt {a b:Pky} :KP a b=true↔a=b:=by
 cases a;cases b
 simp[KP]
def uB (x c:Clm):Clm:= {x with sum:=mxI x.sum c.sum,state:=vZ c.state x.state}
def Yk (x c:Clm):Clm:= {x with sum:=mnI 1099511627776 (i64.wrap (x.sum+c.sum)),state:=vZ x.state c.state}
def ZU (u:Clm->Clm->Clm) (c:Clm):List Clm->List Clm
 | []=>[c]
 |x::l=>if YZ x=YZ c then u x c::l else x::ZU u c l
theorem HF (u:Clm->Clm->Clm) (c:Clm):∀l,l.length<=(ZU u c l).length/\(ZU u c l).length<=l.length+1:=by
 intro l
 induction l with
 |nil=>simp[ZU]
 |cons x l ih=>rw[ZU];split<;>simp<;>omega
theorem jE (l:List Clm) (k:Nat) (h:k<l.length):l.drop k=l.getD k default::l.drop (k+1):=by
 rw[List.drop_eq_getElem_cons h,List.getD_eq_getElem?_getD,List.getElem?_eq_getElem h];rfl
theorem UX (l:List Clm) (k:Nat) (h:k<l.length) (y:Clm):l.take k++y::l.drop (k+1)=l.set k y:=(List.set_eq_take_append_cons_drop.trans (if_pos h)).symm
theorem Kt (l:List Clm) (k:Nat) (h:k<l.length) (x y:Clm):(l.set k x).set k y=l.set k y:=List.set_set x
theorem zYp (l:List Clm) (k:Nat) (h:k<l.length) (x:Clm):(l.set k x).getD k default=x:=by simp[List.getD_eq_getElem?_getD,h]
theorem ZBj (l:List Clm) (c:Clm) (hl:l.length<=8000000000):GM Tryz.prog 106 [.sl 0 9 0 l.length,clG c] [.row 55 9 default clC l 0] (.sl 1 9 0 (ZU uB c l).length) [none,some (.row 55 9 default clC (ZU uB c l) 0)]:=by
 refine ZO Tryz.func106 ?_
 refine gE [0,3,4] ?_
 refine gE [0,3,4,7,8,9] ?_
 refine zG (α:=Nat) (fun k=>k<=l.length/\ZU uB c l=l.take k++ZU uB c (l.drop k)) (fun k=>[(9,iG k)]) (fun _=>[]) (fun k=>l.length-k) 0 ⟨Nat.zero_le _,rfl⟩ ?_ (hp:=by (try simp only[zC]);repeat' first|exact trivial|exact rfl|exact zI.refl _|exact zH.refl _|omega|apply And.intro)
 rintro k ⟨hk,he⟩
 refine gE [0,3,4,7,8,9,10] ?_
 refine zB (fun c1=> ?_) (fun c1=> ?_)
 ·have hk2:k<l.length:=by omega
  rw[jE l k hk2,ZU]at he
  refine gP [] [0,3,4,5,6,7,8,9] ?_
  refine gR [.call (vp (l.getD k default)),.call (vp c),.eq (zHf (YZ (l.getD k default)) (YZ c))] [0,3,4,5,6,7,8,9,18] ?_
  refine zE (fun c2=> ?_) (fun c2=> ?_)
  ·rw[if_pos (vt.1 c2),UX l k hk2]at he
   refine gR [.el default clC (l.set k {(l.getD k default)with sum:=mxI (l.getD k default).sum c.sum})] [0,3,4,5,6,7,8,9] ?_ (hp:=(by simp only[zC,bb,toN,loI,hiI,Nat.zero_add];repeat' first|exact Nat.le_refl _|exact (Xd (by first|omega|(simp only[List.length_set];omega))).symm|exact trivial|exact zI.refl _|exact zH.refl _|exact rfl|omega|apply And.intro|intro _|(rw[List.length_set];exact hk2)|(simp;done)))
   refine gR [.call (zHp (c.state) ((l.getD k default).state)),.el default clC ((l.set k {(l.getD k default)with sum:=mxI (l.getD k default).sum c.sum}).set k {(l.set k {(l.getD k default)with sum:=mxI (l.getD k default).sum c.sum}).getD k default with state:=vZ c.state (l.getD k default).state})] [0,3,4,5,6,7,8,9] ?_ (hp:=(by simp only[zC,bb,toN,loI,hiI,Nat.zero_add];repeat' first|exact Nat.le_refl _|exact (Xc (by first|omega|(simp only[List.length_set];omega))).symm|exact trivial|exact zI.refl _|exact zH.refl _|exact rfl|omega|apply And.intro|intro _|(rw[List.length_set];exact hk2)|(simp;done)))
   refine gE [4] ?_
   have hS:((l.set k {(l.getD k default)with sum:=mxI (l.getD k default).sum c.sum}).set k {(l.set k {(l.getD k default)with sum:=mxI (l.getD k default).sum c.sum}).getD k default with state:=vZ c.state (l.getD k default).state})=ZU uB c l:=by rw[he,zYp l k hk2,Kt l k hk2];rfl
   refine yU env [.sl 1 9 0 (ZU uB c l).length] (hp:= ?_)
   simp only[zC,<-hS]
   repeat' first|exact trivial|exact rfl|(simp;done)|apply And.intro
  ·rw[if_neg (fun h=>absurd (vt.2 h) (by rw[c2];decide))]at he
   refine gP [] [0,3,4,7,8,9] ?_
   exact zD (k+1) ⟨hk2,by rw[he,List.take_succ_eq_append_getElem hk2,List.append_assoc,List.getD_eq_getElem?_getD,List.getElem?_eq_getElem hk2];rfl⟩ (hp:=by (try simp only[zC]);repeat' first|exact trivial|exact rfl|exact zI.refl _|exact zH.refl _|omega|apply And.intro) (hm:=by omega)
 ·have e:k=l.length:=by omega
  rw[e,List.take_length,List.drop_length,ZU]at he
  refine gU [.el default clC [c],.el default clC (l++ [c])] [4] ?_
  refine yU env [.sl 1 9 0 (ZU uB c l).length] (hp:= ?_)
  simp only[zC,he]
  repeat' first|exact trivial|exact rfl|(simp;done)|apply And.intro
theorem zVv (l:List Clm) (c:Clm) (hl:l.length<=8000000000):GM Tryz.prog 107 [.sl 0 9 0 l.length,clG c] [.row 55 9 default clC l 0] (.sl 1 9 0 (ZU Yk c l).length) [none,some (.row 55 9 default clC (ZU Yk c l) 0)]:=by
 refine ZO Tryz.func107 ?_
 refine gE [0,3,4] ?_
 refine gE [0,3,4,7,8,9] ?_
 refine zG (α:=Nat) (fun k=>k<=l.length/\ZU Yk c l=l.take k++ZU Yk c (l.drop k)) (fun k=>[(9,iG k)]) (fun _=>[]) (fun k=>l.length-k) 0 ⟨Nat.zero_le _,rfl⟩ ?_ (hp:=by (try simp only[zC]);repeat' first|exact trivial|exact rfl|exact zI.refl _|exact zH.refl _|omega|apply And.intro)
 rintro k ⟨hk,he⟩
 refine gE [0,3,4,7,8,9,10] ?_
 refine zB (fun c1=> ?_) (fun c1=> ?_)
 ·have hk2:k<l.length:=by omega
  rw[jE l k hk2,ZU]at he
  refine gP [] [0,3,4,5,6,7,8,9] ?_
  refine gR [.call (vp (l.getD k default)),.call (vp c),.eq (zHf (YZ (l.getD k default)) (YZ c))] [0,3,4,5,6,7,8,9,18] ?_
  refine zE (fun c2=> ?_) (fun c2=> ?_)
  ·rw[if_pos (vt.1 c2),UX l k hk2]at he
   refine zF env true [.el default clC (l.set k {(l.getD k default)with sum:=mnI 1099511627776 (i64.wrap ((l.getD k default).sum+c.sum))})] [0,3,4,5,6,7,8,9] ?_ (hp:=(by simp only[zC,bb,toN,loI,hiI,Nat.zero_add];repeat' first|exact Nat.le_refl _|exact (Xd (by first|omega|(simp only[List.length_set];omega))).symm|exact trivial|exact zI.refl _|exact zH.refl _|exact rfl|omega|apply And.intro|intro _|(rw[List.length_set];exact hk2)|(simp;done)))
   refine gR [.call (zHp ((l.getD k default).state) (c.state)),.el default clC ((l.set k {(l.getD k default)with sum:=mnI 1099511627776 (i64.wrap ((l.getD k default).sum+c.sum))}).set k {(l.set k {(l.getD k default)with sum:=mnI 1099511627776 (i64.wrap ((l.getD k default).sum+c.sum))}).getD k default with state:=vZ (l.getD k default).state c.state})] [0,3,4,5,6,7,8,9] ?_ (hp:=(by simp only[zC,bb,toN,loI,hiI,Nat.zero_add];repeat' first|exact Nat.le_refl _|exact (Xc (by first|omega|(simp only[List.length_set];omega))).symm|exact trivial|exact zI.refl _|exact zH.refl _|exact rfl|omega|apply And.intro|intro _|(rw[List.length_set];exact hk2)|(simp;done)))
   refine gE [4] ?_
   have hS:((l.set k {(l.getD k default)with sum:=mnI 1099511627776 (i64.wrap ((l.getD k default).sum+c.sum))}).set k {(l.set k {(l.getD k default)with sum:=mnI 1099511627776 (i64.wrap ((l.getD k default).sum+c.sum))}).getD k default with state:=vZ (l.getD k default).state c.state})=ZU Yk c l:=by rw[he,zYp l k hk2,Kt l k hk2];rfl
   refine yU env [.sl 1 9 0 (ZU Yk c l).length] (hp:= ?_)
   simp only[zC,<-hS]
   repeat' first|exact trivial|exact rfl|(simp;done)|apply And.intro
  ·rw[if_neg (fun h=>absurd (vt.2 h) (by rw[c2];decide))]at he
   refine gP [] [0,3,4,7,8,9] ?_
   exact zD (k+1) ⟨hk2,by rw[he,List.take_succ_eq_append_getElem hk2,List.append_assoc,List.getD_eq_getElem?_getD,List.getElem?_eq_getElem hk2];rfl⟩ (hp:=by (try simp only[zC]);repeat' first|exact trivial|exact rfl|exact zI.refl _|exact zH.refl _|omega|apply And.intro) (hm:=by omega)
 ·have e:k=l.length:=by omega
  rw[e,List.take_length,List.drop_length,ZU]at he
  refine gU [.el default clC [c],.el default clC (l++ [c])] [4] ?_
  refine yU env [.sl 1 9 0 (ZU Yk c l).length] (hp:= ?_)
  simp only[zC,he]
  repeat' first|exact trivial|exact rfl|(simp;done)|apply And.intro
theorem zLt (l:List Clm) (hl:l.length<=8000000000):GM Tryz.prog 104 [.d (.row default clC l)] [] (.sl 0 9 0 l.length) [some (.row 55 9 default clC l 0)]:=by
 refine ZO Tryz.func104 ?_
 refine gE [0,2] ?_
 refine zAf env (fun q hq=> ?_)
 refine zE (fun c1=> ?_) (fun c1=> ?_)
 ·have e:=hq c1
  refine gE [2] ?_
  refine zAe env 2 55 9 (default:Clm) clC [.sl 0 9 0 l.length] (hp:= ?_)
  simp only[zC,e]
  repeat' first|exact trivial|exact rfl|(simp;done)|apply And.intro
 ·refine gU [.el default clC [],.el default clC l] [2] ?_
  refine yU env [.sl 0 9 0 l.length] (hp:= ?_)
  simp only[zC]
  repeat' first|exact trivial|exact rfl|(simp;done)|apply And.intro
def ux (a:Act) (x:Clm):Int:=mnI (mxI 0 a.sum) (mxI 0 x.sum)
def zNw (a:Act) (q:Int) (x:Clm):Bool:=bif bif !decide (q=1)then (bif decide (x.turn=0)then true else decide (x.sign<a.at_))else false then !decide (x.debtor=a.who)else false
structure PaySt where
 now:List Clm
 steps:List Stp
 back:List Clm
def zJa (a:Act) (q:Int) (str:Bool) (s:PaySt) (k:Nat) (x:Clm):PaySt:=
 if (!Ws a str x)=true then s else
 ⟨s.now.set k {s.now.getD k default with sum:=IntKind.i64.wrap (mxI 0 x.sum-ux a x)},s.steps++ [⟨x.debtor,x.creditor,x.sign,ux a x⟩],if zNw a q x=true then ZU uB {x with creditor:=a.who,by_:=a.at_,sum:=ux a x} s.back else s.back⟩
def QM (a:Act) (q:Int) (str:Bool) (l:List Clm):Nat->PaySt
 |0=>⟨l,[],[]⟩
 |k+1=>zJa a q str (QM a q str l k) k (l.getD k default)
def qt (l:List Clm) (a:Act) (q:Int) (str:Bool):List Clm×List Stp:=((QM a q str l l.length).back.foldl (fun n c=>ZU Yk c n) (QM a q str l l.length).now,(QM a q str l l.length).steps)
theorem Va (a:Act) (q:Int) (str:Bool) (l:List Clm):∀k,(QM a q str l k).now.length=l.length/\(QM a q str l k).steps.length<=k/\(QM a q str l k).back.length<=k:=by
 intro k
 induction k with
 |zero=>exact ⟨rfl,Nat.le_refl _,Nat.le_refl _⟩
 |succ k ih=>
  unfold QM zJa
  split
  ·exact ⟨ih.1,by omega,by omega⟩
  ·refine ⟨by simp[ih.1],by simp;omega,?_⟩
   dsimp only
   split
   ·exact Nat.le_trans (HF uB _ _).2 (by omega)
   ·omega
theorem vI (u:Clm->Clm->Clm):∀(b n:List Clm),n.length<=(b.foldl (fun n c=>ZU u c n) n).length/\(b.foldl (fun n c=>ZU u c n) n).length<=n.length+b.length:=by
 intro b
 induction b with
 |nil=>intro n;simp
 |cons c b ih=>
  intro n
  have h1:=HF u c n
  have h2:=ih (ZU u c n)
  simp only[List.foldl_cons,List.length_cons]
  omega
theorem zNv (l:List Clm) (a:Act) (q:Int) (str:Bool):l.length<=(qt l a q str).1.length/\(qt l a q str).1.length<=2*l.length/\(qt l a q str).2.length<=l.length:=by
 have h1:=Va a q str l l.length
 have h2:=vI Yk (QM a q str l l.length).back (QM a q str l l.length).now
 unfold qt
 dsimp only
 omega
theorem zSy (l:List Clm) (a:Act) (q:Int) (str:Bool) (hl:l.length<=3000000000):GM Tryz.prog 67 [.d (.row default clC l),acG a,iG q,bG str] [] (.tup [.sl 0 9 0 (qt l a q str).1.length,.sl 1 4 0 (qt l a q str).2.length]) [some (.row 55 9 default clC (qt l a q str).1 0),some (.row 141 4 default stC (qt l a q str).2 0)]:=by
 refine ZO Tryz.func67 ?_
 refine gE [0,2,3,5,8,9] ?_
 refine gE [0,2,3,5,8,9,10] ?_
 refine gR [.callm [] (zLt l (by omega))] [0,2,3,5,8,9,10] ?_
 refine gE [0,2,3,5,8,9,10,11] ?_
 refine gE [2,3,5,8,9,10,11,22,23,24] ?_
 refine yc 9 141 4 (default:Stp) stC (by rfl) (by rfl) ?_
 refine yc 11 55 9 (default:Clm) clC (by rfl) (by rfl) ?_
 refine zG (α:=PaySt×Nat) (fun x=>x.2<=l.length/\x.1=QM a q str l x.2) (fun x=>[(24,iG x.2),(8,.sl 1 9 0 x.1.now.length),(9,.sl 2 4 0 x.1.steps.length),(11,.sl 3 9 0 x.1.back.length)]) (fun x=>[(1,some (.row 55 9 (default:Clm) clC (x.1.now) 0)),(2,some (.row 141 4 (default:Stp) stC (x.1.steps) 0)),(3,some (.row 55 9 (default:Clm) clC (x.1.back) 0))]) (fun x=>l.length-x.2) (⟨l,[],[]⟩,0) ⟨Nat.zero_le _,rfl⟩ ?_ (hp:=by (try simp only[zC]);repeat' first|exact trivial|exact rfl|exact zI.refl _|exact zH.refl _|omega|apply And.intro|(simp;done))
 rintro ⟨s,k⟩ ⟨hk,hs⟩
 dsimp only at*
 have hlen:=Va a q str l k
 rw[<-hs]at hlen
 obtain ⟨hn1,hn2,hn3⟩:=hlen
 refine gE [2,3,5,8,9,10,11,22,23,24,25] ?_
 refine zB (fun c1=> ?_) (fun c1=> ?_)
 ·have hk2:k<l.length:=by omega
  have hnx:QM a q str l (k+1)=zJa a q str s k (l.getD k default):=by rw[QM,<-hs]
  rw[zJa]at hnx
  refine gP [] [2,3,5,8,9,10,11,12,13,22,23,24] ?_
  refine gR [.call (zOz a str (l.getD k default))] [2,3,5,8,9,10,11,12,13,22,23,24,33] ?_
  refine zE (fun c2=> ?_) (fun c2=> ?_)
  ·rw[if_pos c2]at hnx
   refine gP [] [2,3,5,8,9,10,11,22,23,24] ?_
   exact zD (s,k+1) ⟨hk2,hnx.symm⟩ (hp:=by (try simp only[zC]);repeat' first|exact trivial|exact rfl|exact zI.refl _|exact zH.refl _|omega|apply And.intro|(simp;done)) (hm:=by dsimp only;omega)
  ·rw[if_neg (by rw[c2];decide)]at hnx
   refine gE [2,3,5,8,9,10,11,12,13,14,22,23,24] ?_
   refine zF env true [.el default clC (s.now.set k {s.now.getD k default with sum:=IntKind.i64.wrap (mxI 0 (l.getD k default).sum-ux a (l.getD k default))})] [2,3,5,8,9,10,11,13,14,22,23,24] ?_ (hp:=(by simp only[zC,bb,toN,loI,hiI,Nat.zero_add];repeat' first|exact Nat.le_refl _|exact (Xd (by omega)).symm|exact trivial|exact zI.refl _|exact zH.refl _|exact rfl|omega|apply And.intro|intro _|(simp;done)))
   refine gU [.el default stC [(⟨(l.getD k default).debtor,(l.getD k default).creditor,(l.getD k default).sign,ux a (l.getD k default)⟩:Stp)],.el default stC (s.steps++ [(⟨(l.getD k default).debtor,(l.getD k default).creditor,(l.getD k default).sign,ux a (l.getD k default)⟩:Stp)])] [2,3,5,8,9,10,11,13,14,22,23,24] ?_
   refine gE [2,3,5,8,9,10,11,13,14,22,23,24,79] ?_
   refine zE (fun c3=> ?_) (fun c3=> ?_)
   ·rw[if_pos (show zNw a q (l.getD k default)=true from c3)]at hnx
    refine gE [2,3,5,8,9,10,11,13,22,23,24] ?_
    refine gR [.callm [3] (ZBj s.back ({(l.getD k default)with creditor:=a.who,by_:=a.at_,sum:=ux a (l.getD k default)} :Clm) (by omega))] [2,3,5,8,9,10,11,22,23,24] ?_
    refine gP [] [2,3,5,8,9,10,11,22,23,24] ?_
    exact zD (_,k+1) ⟨hk2,hnx.symm⟩ (hp:=by (try simp only[zC]);repeat' first|exact trivial|exact rfl|exact zI.refl _|exact zH.refl _|omega|apply And.intro|(simp;done)) (hm:=by dsimp only;omega)
   ·rw[if_neg (by rw[show zNw a q (l.getD k default)=false from c3];decide)]at hnx
    refine gP [] [2,3,5,8,9,10,11,22,23,24] ?_
    exact zD (_,k+1) ⟨hk2,hnx.symm⟩ (hp:=by (try simp only[zC]);repeat' first|exact trivial|exact rfl|exact zI.refl _|exact zH.refl _|omega|apply And.intro|(simp;done)) (hm:=by dsimp only;omega)
 ·have e:k=l.length:=by omega
  subst e
  refine gE [8,9,92,93,94] ?_
  refine zG (α:=List Clm×Nat) (fun x=>x.2<=s.back.length/\x.1=(s.back.take x.2).foldl (fun n c=>ZU Yk c n) s.now) (fun x=>[(94,iG x.2),(8,.sl 1 9 0 x.1.length)]) (fun x=>[(1,some (.row 55 9 (default:Clm) clC (x.1) 0))]) (fun x=>s.back.length-x.2) (s.now,0) ⟨Nat.zero_le _,rfl⟩ ?_ (hp:=by (try simp only[zC]);repeat' first|exact trivial|exact rfl|exact zI.refl _|exact zH.refl _|omega|apply And.intro|(simp;done))
  rintro ⟨n,j⟩ ⟨hj,hn⟩
  dsimp only at*
  refine gE [8,9,92,93,94,95] ?_
  refine zB (fun c2=> ?_) (fun c2=> ?_)
  ·have hj2:j<s.back.length:=by omega
   have hst:(s.back.take (j+1)).foldl (fun n c=>ZU Yk c n) s.now=ZU Yk (s.back.getD j default) n:=by rw[yI _ _ _ _ hj2,<-hn]
   have hnl:=vI Yk (s.back.take j) s.now
   rw[<-hn,List.length_take]at hnl
   refine gP [] [8,9,16,92,93,94] ?_
   refine gR [.callm [1] (zVv n (s.back.getD j default) (by omega))] [8,9,92,93,94] ?_
   refine gP [] [8,9,92,93,94] ?_
   exact zD (_,j+1) ⟨hj2,hst.symm⟩ (hp:=by (try simp only[zC]);repeat' first|exact trivial|exact rfl|exact zI.refl _|exact zH.refl _|omega|apply And.intro|(simp;done)) (hm:=by dsimp only;omega)
  ·have e:j=s.back.length:=by omega
   rw[e,List.take_length]at hn
   refine gE [8,9] ?_
   have hV:(n,s.steps)=qt l a q str:=by rw[qt,<-hs,<-hn]
   have hV1:n=(qt l a q str).1:=congrArg Prod.fst hV
   have hV2:s.steps=(qt l a q str).2:=congrArg Prod.snd hV
   refine yU env [.sl 0 9 0 (qt l a q str).1.length,.sl 1 4 0 (qt l a q str).2.length] (hp:= ?_)
   simp only[zC,<-hV1,<-hV2]
   repeat' first|exact trivial|exact rfl|(simp;done)|apply And.intro
def qH (S:Nat) (g:Int->Int×Int) (l:List Clm):Prop:=∀x,x∈l->(0<=x.sign/\x.sign<S)/\x.debtor=(g x.sign).1/\x.part=(g x.sign).2
theorem HE (u:Clm->Clm->Clm) (c:Clm):∀l x,x∈ZU u c l->x∈l∨x=c∨∃y,y∈l/\x=u y c:=by
 intro l
 induction l with
 |nil=>intro x h;exact .inr (.inl (List.mem_singleton.1 h))
 |cons a l ih=>
  intro x h
  rw[ZU]at h
  split at h
  ·rcases List.mem_cons.1 h with rfl|h
   ·exact .inr (.inr ⟨a,by simp,rfl⟩)
   ·exact .inl (List.mem_cons_of_mem _ h)
  ·rcases List.mem_cons.1 h with rfl|h
   ·exact .inl (by simp)
   ·rcases ih x h with h|h|⟨y,h,e⟩
    ·exact .inl (List.mem_cons_of_mem _ h)
    ·exact .inr (.inl h)
    ·exact .inr (.inr ⟨y,List.mem_cons_of_mem _ h,e⟩)
def ui (u:Clm->Clm->Clm):Prop:=∀x c,(u x c).debtor=x.debtor/\(u x c).creditor=x.creditor/\(u x c).part=x.part/\(u x c).sign=x.sign/\(u x c).by_=x.by_
theorem Wz:ui uB:=fun _ _=>⟨rfl,rfl,rfl,rfl,rfl⟩
theorem Vu:ui Yk:=fun _ _=>⟨rfl,rfl,rfl,rfl,rfl⟩
theorem ui.key {u:Clm->Clm->Clm} (hu:ui u) (x c:Clm):YZ (u x c)=YZ x:=by
 obtain ⟨a,b,d,e,f⟩:=hu x c
 simp[YZ,a,b,d,e,f]
theorem qH.put {S:Nat} {g:Int->Int×Int} {u:Clm->Clm->Clm} (hu:ui u) {l:List Clm} {c:Clm} (hl:qH S g l) (hc:qH S g [c]):qH S g (ZU u c l):=fun x h=>by
 rcases HE u c l x h with h|rfl|⟨y,hy,rfl⟩
 ·exact hl x h
 ·exact hc x (by simp)
 ·obtain ⟨a,b,d,e,f⟩:=hu y c
  rw[a,d,e];exact hl y hy
theorem zIw {u:Clm->Clm->Clm} (hu:ui u) (c:Clm):∀l,(ZU u c l).map YZ=if YZ c∈l.map YZ then l.map YZ else l.map YZ++ [YZ c]:=by
 intro l
 induction l with
 |nil=>rfl
 |cons a l ih=>
  rw[ZU]
  by_cases h:YZ a=YZ c
  ·rw[if_pos h,if_pos (by simp[h])];simp[hu.key]
  ·rw[if_neg h,List.map_cons,ih]
   by_cases h2:YZ c∈l.map YZ
   ·rw[if_pos h2,if_pos (by simp only[List.map_cons,List.mem_cons];exact .inr h2),List.map_cons]
   ·rw[if_neg h2,if_neg (by simp only[List.map_cons,List.mem_cons];exact fun h3=>h3.elim (fun e=>h e.symm) h2)];simp
theorem qH.set {S:Nat} {g:Int->Int×Int} {l:List Clm} (hl:qH S g l) (k:Nat) (v:Int):qH S g (l.set k {l.getD k default with sum:=v}):=by
 by_cases hk:k<l.length
 ·intro x h
  rcases List.mem_or_eq_of_mem_set h with h|rfl
  ·exact hl x h
  ·exact hl (l.getD k default) (zK hk)
 ·rw[List.set_eq_of_length_le (by omega)];exact hl
structure PayT (S:Nat) (g:Int->Int×Int) (a:Act) (s:PaySt):Prop where
 now:qH S g s.now
 back:qH S g s.back
 who:∀x,x∈s.back->x.creditor=a.who/\x.by_=a.at_
 keys:(s.back.map YZ).Nodup
theorem zJb {S:Nat} {g:Int->Int×Int} (a:Act) (q:Int) (str:Bool) {l:List Clm} (hl:qH S g l):∀k,k<=l.length->PayT S g a (QM a q str l k):=by
 intro k
 induction k with
 |zero=>intro _;exact ⟨hl,fun _ h=>absurd h List.not_mem_nil,fun _ h=>absurd h List.not_mem_nil,List.nodup_nil⟩
 |succ k ih=>
  intro hk
  obtain ⟨h1,h2,h3,h4⟩:=ih (by omega)
  have hx:=hl (l.getD k default) (zK (by omega))
  unfold QM zJa
  split
  ·exact ⟨h1,h2,h3,h4⟩
  ·have hc:qH S g [{l.getD k default with creditor:=a.who,by_:=a.at_,sum:=ux a (l.getD k default)}]:=fun x h=>by
    rw[List.mem_singleton.1 h];exact hx
   refine ⟨h1.set k _,?_,?_,?_⟩
   ·dsimp only;split
    ·exact h2.put Wz hc
    ·exact h2
   ·dsimp only;split
    ·intro x h
     rcases HE _ _ _ _ h with h|rfl|⟨y,hy,rfl⟩
     ·exact h3 x h
     ·exact ⟨rfl,rfl⟩
     ·exact h3 y hy
    ·exact h3
   ·dsimp only;split
    ·rw[zIw Wz]
     split
     ·exact h4
     ·rename_i hn
      rw[List.nodup_append]
      exact ⟨h4,by simp,fun x hx y hy e=>hn (by rw[List.mem_singleton.1 hy]at e;rw[<-e];exact hx)⟩
    ·exact h4
theorem PayT.len {S:Nat} {g:Int->Int×Int} {a:Act} {s:PaySt} (h:PayT S g a s):s.back.length<=S:=by
 have hn:(s.back.map fun x=>x.sign).Nodup:=by
  have h4:=h.keys
  rw[List.Nodup,List.pairwise_map]at h4⊢
  refine List.Pairwise.imp_of_mem (fun {x y} hx hy hne e=>hne ?_) h4
  have a1:=h.back x hx
  have a2:=h.back y hy
  have a3:=h.who x hx
  have a4:=h.who y hy
  simp only[YZ,a1.2.1,a2.2.1,a1.2.2,a2.2.2,a3.1,a4.1,a3.2,a4.2]
  rw[show x.sign=y.sign from e]
 have:=Uj S _ hn fun x hx=>by
  obtain ⟨y,hy,rfl⟩:=List.mem_map.1 hx
  exact (h.back y hy).1
 simpa using this
theorem zIz {S:Nat} {g:Int->Int×Int} (a:Act) (q:Int) (str:Bool) {l:List Clm} (hl:qH S g l):qH S g (qt l a q str).1/\(qt l a q str).1.length<=l.length+S:=by
 have h:=zJb a q str hl l.length (Nat.le_refl _)
 have h1:=Va a q str l l.length
 have h2:=vI Yk (QM a q str l l.length).back (QM a q str l l.length).now
 have h3:=h.len
 refine ⟨?_,by unfold qt;dsimp only;omega⟩
 have:∀(b n:List Clm),qH S g b->qH S g n->qH S g (b.foldl (fun n c=>ZU Yk c n) n):=by
  intro b
  induction b with
  |nil=>intro n _ hn;exact hn
  |cons c b ih=>intro n hb hn;exact ih _ (fun x hx=>hb x (List.mem_cons_of_mem _ hx)) (hn.put Vu fun x hx=>hb x (by rw[List.mem_singleton.1 hx];simp))
 exact this _ _ h.back h.now
def ul (y:Sgn) (a:Act):Bool:=decide (y.who=a.to_)
theorem zTy (y:Sgn) (a:Act):GC Tryz.prog 66 [sgG y,.ep (acC a)] (bG (ul y a)):=by
 refine zA Tryz.func66 ?_
 refine gE [1,2,3] ?_
 refine gE [3] ?_
 refine gT ?_
 rw[ul];rfl
theorem Hy (l:List Sgn) (hl:l.length<=9223372036854775807) (a:Act):GC Tryz.prog 103 [.d (.row default sgC l),.fn (.func 66) [] [.ep (acC a)]] (iG (zO (fun y=>ul y a) l 0)):=by
 refine zA Tryz.func103 ?_
 refine gE [0,1,4] ?_
 refine gE [0,1,4,7,8] ?_
 refine zG (α:=Nat) (fun i=>i<=l.length/\zO (fun y=>ul y a) l 0=zO (fun y=>ul y a) (l.drop i) i) (fun i=>[(8,iG i)]) (fun _=>[]) (fun i=>l.length-i) 0 ⟨by omega,rfl⟩ ?_ (hp:=by simp[zC]<;>rfl)
 rintro i ⟨hi,he⟩
 refine gE [0,1,4,7,8,9] ?_
 refine zB ?_ ?_<;>intro c1<;>try simp only[toN]at c1
 ·refine gE [0,1,4,5,7,8] ?_
  refine gR [.call (zTy (l.getD i default) a)] [0,1,4,5,7,8,16] ?_
  refine zE ?_ ?_<;>intro c2<;>try simp only[bb,toN]at c2
  ·refine gE [0,1,4,7,8] ?_
   refine gT ?_
   rw[he,YL (by omega),zO,if_pos (by exact c2)];rfl
  ·refine gE [0,1,4,7,8] ?_
   refine zD (i+1) ?_ (hp:=by simp[zC]<;>rfl)
   refine ⟨by omega,he.trans ?_⟩
   rw[YL (by omega),zO,if_neg (by rw[Bool.not_eq_true];exact c2)]
 ·refine gE [4] ?_
  refine gT ?_
  rw[he,jq (by omega)];rfl
theorem Hz (l:List Sgn) (hl:l.length<=9223372036854775807) (a:Act):GC Tryz.prog 65 [.d (.row default sgC l),.fn (.func 66) [] [.ep (acC a)]] (bG (l.any (fun y=>ul y a))):=by
 refine zA Tryz.func65 ?_
 refine gE [0,1,4] ?_
 refine gR [.call (Hy l hl a)] [4] ?_
 refine gT ?_
 rw[<-qh];rfl
theorem zKj (v:Ovw) (part by_:Int) (links:List Int):∀k x,x∈qa v part by_ links k->JH v x=part:=by
 intro k
 induction k with
 |zero=>intro x h;cases h
 |succ k ih=>
  intro x h
  unfold qa at h
  split at h
  ·rename_i hc
   rcases List.mem_append.1 h with h|h
   ·exact ih x h
   ·rw[List.mem_singleton.1 h];exact hc.1
  ·exact ih x h
theorem zKi (v:Ovw) (part by_:Int) (links:List Int):∀x,x∈Zc v part by_ links->JH v x=part:=by
 unfold Zc
 split
 ·exact fun x h=>by cases h
 ·exact zKj _ _ _ _ _
theorem Jq {α β:Type} (I:β->Prop) (g:β->α->β):∀(l:List α) (b:β),I b->(∀b x,x∈l->I b->I (g b x))->I (l.foldl g b):=by
 intro l
 induction l with
 |nil=>intro b h _;exact h
 |cons x l ih=>intro b h hg;exact ih _ (hg b x (by simp) h) fun b y hy=>hg b y (List.mem_cons_of_mem _ hy)
def Kd (f:Fil) (day:Int) (s:Int):Int×Int:=(((atV f day).signs.getD s.toNat default).who,JH (zj f day) s)
theorem Jw (r:Rlm) (forum:Int) (f:Fil) (day:Int):qH (atV f day).signs.length (Kd f day) (qc r forum f day):=by
 unfold qc
 split
 ·exact fun x h=>by cases h
 ·refine Jq (qH (atV f day).signs.length (Kd f day)) _ _ _ (fun x h=>by cases h) fun b p _ hb=> ?_
  refine Jq (qH (atV f day).signs.length (Kd f day)) _ _ _ hb fun b o _ hb=> ?_
  refine Jq (qH (atV f day).signs.length (Kd f day)) _ _ _ hb fun b s hs hb=> ?_
  unfold WW
  split
  ·exact hb
  ·intro x hx
   rcases List.mem_append.1 hx with hx|hx
   ·exact hb x hx
   ·rw[List.mem_singleton.1 hx]
    have h1:=(Vp _ _ _ _).2 s hs
    exact ⟨h1,rfl,(zKi _ _ _ _ s hs).symm⟩
theorem zAz (r:Rlm) (forum:Int) (f:Fil) (day:Int) (hF:FitFi f) (hd:jM f):(qc r forum f day).length<=1002001000:=by
 unfold qc
 split
 ·exact Nat.zero_le _
 ·have h1:=Yu (WX r forum f day) 1001000 (zBb r forum f day hF hd) (YH (atV f day)) []
  have h2:=(zPt _ (hF.at_ day)).2
  have h3:(YH (atV f day)).length*1001000<=1001*1001000:=Nat.mul_le_mul_right _ h2
  have h4:([]:List Clm).length=0:=rfl
  omega
def zGd (g:Fil) (a:Act):Bool:=bif bif !decide (a.kind=6)then true else decide (a.at_<0)then true else decide ((g.signs.length:Int)<=a.at_)
def wB (g:Fil) (acc:List Clm) (a:Act):List Clm:=if zGd g a=true then acc else (qt acc a (g.signs.getD a.at_.toNat default).kind (!(g.signs.any fun y=>ul y a))).1
def QL (r:Rlm) (forum:Int) (f:Fil) (day:Int):List Clm:=(atV f day).acts.foldl (wB (atV f day)) (qc r forum f day)
theorem Jj {S:Nat} {w:Int->Int×Int} {g:Fil} {acc:List Clm} (a:Act) (h:qH S w acc):qH S w (wB g acc a)/\(wB g acc a).length<=acc.length+S:=by
 unfold wB
 split
 ·exact ⟨h,by omega⟩
 ·exact zIz a _ _ h
def uO (e:Int×Int):Value×Value:=(.int .i64 e.1,.int .i64 e.2)
def zIv (k v:Int):List (Int×Int)->List (Int×Int)
 | []=>[(k,v)]
 |e::l=>if k=e.1 then (k,v)::l else e::zIv k v l
def uF (k:Int):List (Int×Int)->Option Int
 | []=>none
 |e::l=>if k=e.1 then some e.2 else uF k l
theorem ZAf (k v:Int):∀l:List (Int×Int),Xj (.int .i64 k) (.int .i64 v) (l.map uO)=some ((zIv k v l).map uO):=by
 intro l
 induction l with
 |nil=>rfl
 |cons a l ih=>
  show (match some (decide (k=a.1))with|some true=>_|some false=>_|none=>_)=_
  by_cases e:k=a.1
  ·rw[decide_eq_true e,zIv,if_pos e,List.map_cons]
   simp[uO,e]
  ·rw[decide_eq_false e]
   show (match Xj (.int .i64 k) (.int .i64 v) (l.map uO)with|some l'=>some (uO a::l')|none=>none)=_
   rw[ih,zIv,if_neg e];rfl
theorem zOx (k:Int):∀l:List (Int×Int),Xk (.int .i64 k) (l.map uO)=some ((uF k l).map fun v=> .int .i64 v):=by
 intro l
 induction l with
 |nil=>rfl
 |cons a l ih=>
  show (match some (decide (k=a.1))with|some true=>_|some false=>_|none=>_)=_
  by_cases e:k=a.1
  ·rw[decide_eq_true e,uF,if_pos e];rfl
  ·rw[decide_eq_false e]
   show Xk (.int .i64 k) (l.map uO)=_
   rw[ih,uF,if_neg e]
theorem ZAn (k:Int) (l:List (Int×Int)):zGr (.int .i64 k) (l.map uO) (.int .i64 0) (.int .i64 ((uF k l).getD 0)) (uF k l).isSome:=by
 cases h:uF k l with
 |some v=>exact .inl ⟨rfl,by rw[zOx,h];rfl⟩
 |none=>exact .inr ⟨rfl,rfl,by rw[zOx,h];rfl⟩
theorem zOi (M:List Int):Wo (M.map jD)=true:=by
 induction M with
 |nil=>rfl
 |cons a M ih=>show (_&&Wo (M.map jD))=true;rw[ih];rfl
theorem zNl (r:Rlm) (forum:Int) (f:Fil) (day:Int) (hR:RR r) (hF:FitFi f) (hB:Zj f) (hd:jM f) (hw:vl r f) (hp:0<=f.bill.pay/\f.bill.pay<r.cities.length):GM Tryz.prog 28 [rlG r,iG forum,fiG f,iG day] [] (.tup [.sl 0 9 0 (QL r forum f day).length,.junk]) [some (.row 55 9 default clC (QL r forum f day) 0)]:=by
 have hF2:=hF.at_ day
 have g1:=hF2.signs
 have g3:=hF2.acts
 refine ZO Tryz.func28 ?_
 refine gE [1,3,4,6,8,9] ?_
 refine gR [.call (Jc f day hF)] [1,3,4,6,8,9,10] ?_
 refine gR [.callm [] (zUr r forum f day hR hF hB hd hw hp)] [8,9,10,11] ?_
 refine gE [8,9,10,11,12] ?_
 refine gE [8,9,10,11,12,32,33,34] ?_
 refine zG (α:=List Clm×List (Int×Int)×Nat) (fun x=>x.2.2<=(atV f day).acts.length/\x.1=((atV f day).acts.take x.2.2).foldl (wB (atV f day)) (qc r forum f day)/\qH (atV f day).signs.length (Kd f day) x.1/\x.1.length<=1002001000+1000*x.2.2) (fun x=>[(34,iG x.2.2),(11,.sl 3 9 0 x.1.length)]) (fun x=>[(3,some (.row 55 9 (default:Clm) clC (x.1) 0)),(4,some (.mp (x.2.1.map uO)))]) (fun x=>(atV f day).acts.length-x.2.2) (qc r forum f day,[],0) ⟨Nat.zero_le _,rfl,Jw r forum f day,zAz r forum f day hF hd⟩ ?_ (hp:=by (try simp only[zC]);repeat' first|exact trivial|exact rfl|exact zI.refl _|exact zH.refl _|omega|apply And.intro|(simp;done))
 rintro ⟨acc,P,k⟩ ⟨hk,hacc,ht,hal⟩
 dsimp only at hk hacc ht hal⊢
 refine gE [8,9,10,11,12,32,33,34,35] ?_
 refine zB (fun c1=> ?_) (fun c1=> ?_)
 ·have hk2:k<(atV f day).acts.length:=by omega
  have hnx:((atV f day).acts.take (k+1)).foldl (wB (atV f day)) (qc r forum f day)=wB (atV f day) acc ((atV f day).acts.getD k default):=by rw[yI _ _ _ _ hk2,<-hacc]
  have hto:=Jj (g:=(atV f day)) ((atV f day).acts.getD k default) ht
  rw[wB]at hnx hto
  refine gP [] [8,9,10,11,12,14,32,33,34] ?_
  refine gE [8,9,10,11,12,14,32,33,34,53] ?_
  refine zE (fun c2=> ?_) (fun c2=> ?_)
  ·rw[if_pos (show zGd (atV f day) ((atV f day).acts.getD k default)=true from c2)]at hnx hto
   refine gP [] [8,9,10,11,12,32,33,34] ?_
   exact zD (acc,P,k+1) ⟨hk2,hnx.symm,ht,by dsimp only;omega⟩ (hp:=by (try simp only[zC]);repeat' first|exact trivial|exact rfl|exact zI.refl _|exact zH.refl _|omega|apply And.intro|(simp;done)) (hm:=by dsimp only;omega)
  ·have c2':=c2
   simp only[bb,toN]at c2'
   rw[if_neg (by rw[show zGd (atV f day) ((atV f day).acts.getD k default)=false from c2];decide)]at hnx hto
   refine zv 5 ?_
   refine gR [.call (Hz (atV f day).signs (by omega) ((atV f day).acts.getD k default))] [8,9,10,11,12,14,15,32,33,34] ?_
   refine gP [.callm [] (zSy acc ((atV f day).acts.getD k default) ((atV f day).signs.getD ((atV f day).acts.getD k default).at_.toNat default).kind (!((atV f day).signs.any fun y=>ul y ((atV f day).acts.getD k default))) (by omega))] [8,9,10,11,12,14,16,17,32,33,34] ?_
   have hz2:=(zNv acc ((atV f day).acts.getD k default) ((atV f day).signs.getD ((atV f day).acts.getD k default).at_.toNat default).kind (!((atV f day).signs.any fun y=>ul y ((atV f day).acts.getD k default)))).2.2
   obtain ⟨z,hz⟩:∃z,z=(qt acc ((atV f day).acts.getD k default) ((atV f day).signs.getD ((atV f day).acts.getD k default).at_.toNat default).kind (!((atV f day).signs.any fun y=>ul y ((atV f day).acts.getD k default)))):=⟨_,rfl⟩
   rw[<-hz]at hnx hto hz2⊢
   refine gE [8,9,10,11,12,14,16,17,18,32,33,34] ?_
   refine gE [8,9,10,11,12,14,16,18,32,33,34,74,75,76] ?_
   refine zG (α:=List Int×Nat) (fun x=>x.2<=z.2.length) (fun x=>[(76,iG x.2)]) (fun x=>[(8,some (.mp (x.1.map jD)))]) (fun x=>z.2.length-x.2) ([],0) (Nat.zero_le _) ?_ (hp:=by (try simp only[zC]);repeat' first|exact trivial|exact rfl|exact zI.refl _|exact zH.refl _|omega|apply And.intro|(simp;done))
   rintro ⟨M,j⟩ hj
   dsimp only at hj⊢
   refine gE [8,9,10,11,12,14,16,18,32,33,34,74,75,76,77] ?_
   refine zB (fun c3=> ?_) (fun c3=> ?_)
   ·have hj2:j<z.2.length:=by omega
    refine gP [] [8,9,10,11,12,14,16,18,20,32,33,34,74,75,76] ?_
    refine gR [.mp ((Wy M (z.2.getD j default).creditor).map jD)] [8,9,10,11,12,14,16,18,32,33,34,74,75,76] ?_ (hp:=by simp only[zC,Nat.zero_add,bb,toN];first|exact Wr _ _|exact ⟨Wr _ _,trivial⟩)
    refine gP [] [8,9,10,11,12,14,16,18,32,33,34,74,75,76] ?_
    exact zD (Wy M (z.2.getD j default).creditor,j+1) hj2 (hp:=by (try simp only[zC]);repeat' first|exact trivial|exact rfl|exact zI.refl _|exact zH.refl _|omega|apply And.intro|(simp;done)) (hm:=by dsimp only;omega)
   ·refine JS env false 1 [] 8 85 86 87 88 7 (M.map jD) (fun _ _=>True) (fun _=>[(8,.d (.sc (.slice none 0 0))),(9,.d (.sc (.map none))),(10,.ptr 2 0 0 0),(12,.mp 4),(14,.ep (acC ((atV f day).acts.getD k default))),(16,.sl 6 9 0 z.1.length),(32,.d (.row default acC (atV f day).acts)),(33,iG (atV f day).acts.length),(34,iG k)]) (fun P'=>[(0,some (.box [.d (.row default ze r.currencies),.d (.row default ctC r.cities),.d (.row default inC r.groups),.d (.row default fmC r.firms),.d (.row default odC r.orders),.d (.row default usC r.usances),.d (.row default rtC r.rates),.d (.row default htC r.halts)])),(1,some (.box [iG f.bill.drawer,iG f.bill.drawee,iG f.bill.payee,iG f.bill.sum,iG f.bill.cur,iG f.bill.ten.kind,iG f.bill.ten.n,iG f.bill.ten.unit,iG f.bill.day,iG f.bill.city,iG f.bill.pay,iG f.bill.need,iG f.bill.rate,iG f.bill.flags,iG f.bill.parts,.d (.row default sgC f.signs),.d (.row default alC f.alters),.d (.row default acC f.acts),.d (.row default fcC f.facts)])),(2,some (.box [iG ((atV f day).bill.drawer),iG ((atV f day).bill.drawee),iG ((atV f day).bill.payee),iG ((atV f day).bill.sum),iG ((atV f day).bill.cur),iG ((atV f day).bill.ten.kind),iG ((atV f day).bill.ten.n),iG ((atV f day).bill.ten.unit),iG ((atV f day).bill.day),iG ((atV f day).bill.city),iG ((atV f day).bill.pay),iG ((atV f day).bill.need),iG ((atV f day).bill.rate),iG ((atV f day).bill.flags),iG ((atV f day).bill.parts),.d (.row default sgC ((atV f day).signs)),.d (.row default alC ((atV f day).alters)),.d (.row default acC ((atV f day).acts)),.d (.row default fcC ((atV f day).facts))])),(4,some (.mp (P'.map uO))),(6,some (.row 55 9 (default:Clm) clC (z.1) 0))]) P trivial ?_ ?_ (zOi M)
    ·rintro r0 done kk v rest P' hperm _
     obtain ⟨e,he,hek⟩:=List.mem_map.1 (hperm.mem_iff.1 (List.mem_append_right _ List.mem_cons_self))
     simp only[jD,Prod.mk.injEq]at hek
     obtain ⟨rfl,rfl⟩:=hek
     refine wg env false [] [8,9,10,12,14,16,21,32,33,34,85] ?_
     refine zF env true [.look (.int .i64 ((uF e P').getD 0)) (uF e P').isSome,.mp ((zIv e (mnI 1099511627776 (IntKind.i64.wrap ((uF e P').getD 0+((atV f day).acts.getD k default).sum))) P').map uO)] [8,9,10,12,14,16,32,33,34,85] ?_ (hp:=by simp only[zC];repeat' first|exact ZAn _ _|exact ZAf _ _ _|exact trivial|apply And.intro)
     exact vC (zIv e (mnI 1099511627776 (IntKind.i64.wrap ((uF e P').getD 0+((atV f day).acts.getD k default).sum))) P') trivial
    ·intro done P' _ _
     refine gE [8,9,10,11,12,32,33,34] ?_
     refine gP [] [8,9,10,11,12,32,33,34] ?_
     exact zD (z.1,P',k+1) ⟨hk2,hnx.symm,hto.1,by dsimp only;omega⟩ (hp:=by (try simp only[zC]);repeat' first|exact trivial|exact rfl|exact zI.refl _|exact zH.refl _|omega|apply And.intro|(simp;done)) (hm:=by dsimp only;omega)
 ·have e:k=(atV f day).acts.length:=by omega
  rw[e,List.take_length]at hacc
  refine gE [8,9] ?_
  have hV:acc=QL r forum f day:=hacc
  refine yU env [.sl 0 9 0 (QL r forum f day).length,.junk] (hp:= ?_)
  simp only[zC,<-hV]
  repeat' first|exact trivial|exact rfl|(simp;done)|apply And.intro
theorem zUn (r:Rlm) (forum:Int) (f:Fil) (day:Int) (hR:RR r) (hF:FitFi f) (hB:Zj f) (hd:jM f) (hw:vl r f) (hp:0<=f.bill.pay/\f.bill.pay<r.cities.length):GM Tryz.prog 12 [rlG r,iG forum,fiG f,iG day] [] (.sl 0 9 0 (QL r forum f day).length) [some (.row 55 9 default clC (QL r forum f day) 0)]:=by
 refine ZO Tryz.func12 ?_
 refine gE [1,3,4,6,8] ?_
 refine gR [.callm [] (zNl r forum f day hR hF hB hd hw hp)] [8,9] ?_
 refine gE [8] ?_
 refine yU env [.sl 0 9 0 (QL r forum f day).length] (hp:= ?_)
 simp only[zC]
 repeat' first|exact trivial|exact rfl|(simp;done)|apply And.intro
theorem UZ (r:Rlm) (forum:Int) (f:Fil) (day:Int):qH (atV f day).signs.length (Kd f day) (QL r forum f day):=Jq _ _ _ _ (Jw r forum f day) fun b a _ hb=>(Jj a hb).1
theorem zNp (r:Rlm) (forum:Int) (f:Fil) (day:Int) (hF:FitFi f) (hd:jM f):(QL r forum f day).length<=1003001000:=by
 have h0:=zAz r forum f day hF hd
 have hF2:=hF.at_ day
 have:∀(l:List Act) (b:List Clm),qH (atV f day).signs.length (Kd f day) b->(l.foldl (wB (atV f day)) b).length<=b.length+1000*l.length:=by
  intro l
  induction l with
  |nil=>intro b _;simp
  |cons a l ih=>
   intro b hb
   have h1:=Jj (g:=atV f day) a hb
   have h2:=ih _ h1.1
   have h3:=hF2.signs
   simp only[List.foldl_cons,List.length_cons]
   omega
 have h1:=this (atV f day).acts _ (Jw r forum f day)
 have h3:=hF2.acts
 unfold QL
 omega
def qw (r:Rlm) (forum:Int) (f:Fil) (c:Clm) (day:Int) (k1:Nat):Int×Int:=if k1<f.acts.length then if (bif (bif decide (((f.acts.getD k1 default).kind)=6)then decide (((f.acts.getD k1 default).who)=c.creditor)else false)then decide (((f.acts.getD k1 default).at_)=c.by_)else false)=true then (15,(f.acts.getD k1 default).day)else qw r forum f c day (k1+1)else (14,(zBr r forum f day))
termination_by f.acts.length-k1
def yg (r:Rlm) (forum:Int) (f:Fil) (c:Clm) (day:Int):Int×Int:=if c.turn=0 then (13,(ZI r forum f day))else qw r forum f c day 0
theorem zVf (r:Rlm) (forum:Int) (f:Fil) (c:Clm) (day:Int) (hR:RR r) (hF:FitFi f) (hp:0<=f.bill.pay/\f.bill.pay<r.cities.length):GC Tryz.prog 92 [rlG r,iG forum,fiG f,clG c,iG day] (.tup [iG ((yg r forum f c day).1),iG ((yg r forum f c day).2)]):=by
 have hr:=hR.right.fit
 have h1:=hr.orders
 have h2:=hr.cities
 have h3:=hr.firms
 have g3:=hF.acts
 refine zA Tryz.func92 ?_
 refine gE [1,4,5,7,8,10,11] ?_
 refine gE [1,4,5,7,8,10,11,16] ?_
 refine zB ?_ ?_<;>intro c1<;>try simp only[toN]at c1
 ·refine gR [.call (Wt r forum f day hR (by first|assumption|exact FitFi.at_ (by assumption) _|exact FitFi.nof (by assumption)|exact FitFi.nof (FitFi.at_ (by assumption) _)))] [1,4,5,7,8,10,11] ?_
  refine gT ?_
  rw[yg,if_pos c1];rfl
 ·refine gE [1,4,5,7,8,10,11,23,24,25] ?_
  refine zG (α:=Nat) (fun x=>x<=f.acts.length/\qw r forum f c day 0=qw r forum f c day x) (fun x=>[(25,iG x)]) (fun x=>[]) (fun x=>f.acts.length-x) 0 ⟨by (try simp only[]);omega,rfl⟩ ?_ (hp:=by (try simp only[zC]);repeat' first|exact trivial|exact rfl|exact zI.refl _|exact zH.refl _|(simp;done)|apply And.intro)
  rintro k1 ⟨hi1,he⟩
  refine gE [1,4,5,7,8,10,11,23,24,25,26] ?_
  refine zB ?_ ?_<;>intro c2<;>try simp only[toN]at c2
  ·refine gE [1,4,5,7,8,10,11,13,23,24,25] ?_
   refine gE [1,4,5,7,8,10,11,13,23,24,25,45] ?_
   refine zE ?_ ?_<;>intro c3<;>try simp only[bb,toN]at c3
   ·refine gE [1,4,5,7,8,10,11,23,24,25] ?_
    refine gT ?_
    rw[yg,if_neg c1,he,qw,if_pos (by omega),if_pos (by (try simp only[bb,toN]);exact c3)];rfl
   ·refine gE [1,4,5,7,8,10,11,23,24,25] ?_
    refine zD (k1+1) ?_ (hp:=by (try simp only[zC]);repeat' first|exact trivial|exact rfl|exact zI.refl _|exact zH.refl _|(simp;done)|apply And.intro)
    refine ⟨by (try simp only[]);omega,he.trans ?_⟩
    rw[qw,if_pos (by omega),iN (by (try simp only[bb,toN]);exact c3)]
    try rfl
  ·refine gR [.call (zYf r forum f day hR (by first|assumption|exact FitFi.at_ (by assumption) _|exact FitFi.nof (by assumption)|exact FitFi.nof (FitFi.at_ (by assumption) _)))] [10,11] ?_
   refine gT ?_
   rw[yg,if_neg c1,he,qw,if_neg (by omega)];rfl
def qM (r:Rlm) (forum:Int) (f:Fil) (c:Clm) (day:Int) (a16_1:Int) (k1:Nat):Int×Int:=if k1<((atV f day).acts).length then if (bif (bif (zGx (((atV f day).acts).getD k1 default) c)then decide (((yg r forum (atV f day) c day).2)<=((((atV f day).acts).getD k1 default).day))else false)then decide (((((atV f day).acts).getD k1 default).day)<=a16_1)else false)=true then qM r forum f c day (IntKind.i64.wrap (((((atV f day).acts).getD k1 default).day)+(((Yf r forum ((yg r forum (atV f day) c day).1) (⟨(atV f day),c.sign,c.sign,(-1),(ZI r forum (atV f day) day),day⟩:Cas)).cell).n))) (k1+1)else qM r forum f c day a16_1 (k1+1)else (a16_1,0)
termination_by ((atV f day).acts).length-k1
def jp (r:Rlm) (forum:Int) (f:Fil) (c:Clm) (day:Int):Int×Int:=if (bif decide (c.sign<0)then true else decide ((((atV f day).signs).length:Int)<=c.sign))=true then (0,1)else if (bif (!decide (((Yf r forum ((yg r forum (atV f day) c day).1) (⟨(atV f day),c.sign,c.sign,(-1),(ZI r forum (atV f day) day),day⟩:Cas)).err)=0))then true else decide (((yg r forum (atV f day) c day).2)=(-1)))=true then (0,4)else if (!((Yf r forum ((yg r forum (atV f day) c day).1) (⟨(atV f day),c.sign,c.sign,(-1),(ZI r forum (atV f day) day),day⟩:Cas)).cell).known)=true then (0,17)else qM r forum f c day (IntKind.i64.wrap (((yg r forum (atV f day) c day).2)+(((Yf r forum ((yg r forum (atV f day) c day).1) (⟨(atV f day),c.sign,c.sign,(-1),(ZI r forum (atV f day) day),day⟩:Cas)).cell).n))) 0
theorem zVs (r:Rlm) (forum:Int) (f:Fil) (c:Clm) (day:Int) (hR:RR r) (hF:FitFi f) (hp:0<=f.bill.pay/\f.bill.pay<r.cities.length):GC Tryz.prog 63 [rlG r,iG forum,fiG f,clG c,iG day] (.tup [iG ((jp r forum f c day).1),iG ((jp r forum f c day).2)]):=by
 have hr:=hR.right.fit
 have h1:=hr.orders
 have h2:=hr.cities
 have h3:=hr.firms
 have hF2:=hF.at_ day
 have g1:(atV f day).signs.length<=1000:=hF2.signs
 have g3:(atV f day).acts.length<=1000:=hF2.acts
 have hp2:0<=(atV f day).bill.pay/\(atV f day).bill.pay<r.cities.length:=by rw[yd];exact hp
 refine zA Tryz.func63 ?_
 refine gE [1,4,5,7,8,10,11] ?_
 refine gR [.call (Jc f day (by first|assumption|exact FitFi.at_ (by assumption) _))] [1,4,5,7,8,10,11] ?_
 refine gE [1,4,5,7,8,10,11,32] ?_
 refine zE ?_ ?_<;>intro c1<;>try simp only[bb,toN]at c1
 ·refine gE [1,4,5,7,8,10,11] ?_
  refine gT ?_
  rw[jp,if_pos (by (try simp only[bb,toN]);exact c1)];rfl
 ·refine gR [.call (zVf r forum (atV f day) c day hR (by first|assumption|exact FitFi.at_ (by assumption) _|exact FitFi.nof (by assumption)|exact FitFi.nof (FitFi.at_ (by assumption) _)) (by first|assumption|exact hp2))] [1,4,5,7,8,10,11,12,13] ?_
  refine gR [.call (Wt r forum (atV f day) day hR (by first|assumption|exact FitFi.at_ (by assumption) _|exact FitFi.nof (by assumption)|exact FitFi.nof (FitFi.at_ (by assumption) _)))] [1,4,5,7,8,10,11,12,13,14] ?_
  refine gR [.call (wn r forum ((yg r forum (atV f day) c day).1) (⟨(atV f day),c.sign,c.sign,(-1),(ZI r forum (atV f day) day),day⟩:Cas) hR (by first|assumption|exact FitFi.at_ (by assumption) _|exact FitFi.nof (by assumption)|exact FitFi.nof (FitFi.at_ (by assumption) _)))] [7,8,10,11,13,15] ?_
  refine gE [7,8,10,11,13,15,59] ?_
  refine zE ?_ ?_<;>intro c2<;>try simp only[bb,toN]at c2
  ·refine gE [7,8,10,11,13,15] ?_
   refine gT ?_
   rw[jp,iN (by (try simp only[bb,toN]);exact c1),if_pos (by (try simp only[bb,toN]);exact c2)];rfl
  ·refine gE [7,8,10,11,13,15,67] ?_
   refine zE ?_ ?_<;>intro c3<;>try simp only[bb,toN]at c3
   ·refine gE [7,8,10,11,13,15] ?_
    refine gT ?_
    rw[jp,iN (by (try simp only[bb,toN]);exact c1),iN (by (try simp only[bb,toN]);exact c2),if_pos (by (try simp only[bb,toN]);exact c3)];rfl
   ·refine zF env true [] [7,8,10,11,13,15,16] ?_
    refine gE [8,10,11,13,15,16,78,79,80] ?_
    refine zG (α:=Int×Nat) (fun x=>x.2<=((atV f day).acts).length/\qM r forum f c day (IntKind.i64.wrap (((yg r forum (atV f day) c day).2)+(((Yf r forum ((yg r forum (atV f day) c day).1) (⟨(atV f day),c.sign,c.sign,(-1),(ZI r forum (atV f day) day),day⟩:Cas)).cell).n))) 0=qM r forum f c day x.1 x.2) (fun x=>[(16,iG x.1),(80,iG x.2)]) (fun x=>[]) (fun x=>((atV f day).acts).length-x.2) (IntKind.i64.wrap (((yg r forum (atV f day) c day).2)+(((Yf r forum ((yg r forum (atV f day) c day).1) (⟨(atV f day),c.sign,c.sign,(-1),(ZI r forum (atV f day) day),day⟩:Cas)).cell).n)),0) ⟨by (try simp only[]);omega,rfl⟩ ?_ (hp:=by (try simp only[zC]);repeat' first|exact trivial|exact rfl|exact zI.refl _|exact zH.refl _|(simp;done)|apply And.intro)
    rintro ⟨a16_1,k1⟩ ⟨hi1,he⟩
    dsimp only at*
    refine gE [8,10,11,13,15,16,78,79,80,81] ?_
    refine zB ?_ ?_<;>intro c4<;>try simp only[toN]at c4
    ·refine gE [8,10,11,13,15,16,18,78,79,80] ?_
     refine gR [.call (zVx (((atV f day).acts).getD k1 default) c)] [8,10,11,13,15,16,18,78,79,80,98] ?_
     refine zE ?_ ?_<;>intro c5<;>try simp only[bb,toN]at c5
     ·refine zF env true [] [8,10,11,13,15,16,78,79,80] ?_
      refine gE [8,10,11,13,15,16,78,79,80] ?_
      refine zD ((IntKind.i64.wrap (((((atV f day).acts).getD k1 default).day)+(((Yf r forum ((yg r forum (atV f day) c day).1) (⟨(atV f day),c.sign,c.sign,(-1),(ZI r forum (atV f day) day),day⟩:Cas)).cell).n)),k1+1)) ?_ (hp:=by (try simp only[zC]);repeat' first|exact trivial|exact rfl|exact zI.refl _|exact zH.refl _|(simp;done)|apply And.intro) (hm:=by dsimp only;omega)
      refine ⟨by (try simp only[]);omega,he.trans ?_⟩
      rw[qM,if_pos (by omega),if_pos (by (try simp only[bb,toN]);exact c5)]
      try rfl
     ·refine gE [8,10,11,13,15,16,78,79,80] ?_
      refine zD ((a16_1,k1+1)) ?_ (hp:=by (try simp only[zC]);repeat' first|exact trivial|exact rfl|exact zI.refl _|exact zH.refl _|(simp;done)|apply And.intro) (hm:=by dsimp only;omega)
      refine ⟨by (try simp only[]);omega,he.trans ?_⟩
      rw[qM,if_pos (by omega),iN (by (try simp only[bb,toN]);exact c5)]
      try rfl
    ·refine gE [10,11] ?_
     refine gT ?_
     rw[jp,iN (by (try simp only[bb,toN]);exact c1),iN (by (try simp only[bb,toN]);exact c2),iN (by (try simp only[bb,toN]);exact c3),he,qM,if_neg (by omega)];rfl
def Wv (r:Rlm) (forum:Int) (f:Fil) (c:Clm) (day:Int):Int:=if ((jp r forum f c day).2)=17 then 2 else if (bif decide (((jp r forum f c day).2)=0)then decide (((jp r forum f c day).1)<day)else false)=true then 1 else 0
theorem zPx (r:Rlm) (forum:Int) (f:Fil) (c:Clm) (day:Int) (hR:RR r) (hF:FitFi f) (hp:0<=f.bill.pay/\f.bill.pay<r.cities.length):GC Tryz.prog 26 [rlG r,iG forum,fiG f,clG c,iG day] (iG (Wv r forum f c day)):=by
 refine zA Tryz.func26 ?_
 refine gE [1,4,5,7,8,10] ?_
 refine gR [.call (zVs r forum f c day hR (by first|assumption|exact FitFi.at_ (by assumption) _|exact FitFi.nof (by assumption)|exact FitFi.nof (FitFi.at_ (by assumption) _)) (by assumption))] [4,10,11,12] ?_
 refine gE [4,10,11,12,22] ?_
 refine zB ?_ ?_<;>intro c1<;>try simp only[toN]at c1
 ·refine gE [10] ?_
  refine gT ?_
  rw[Wv,if_pos c1];rfl
 ·refine gE [10,25] ?_
  refine zE ?_ ?_<;>intro c2<;>try simp only[bb,toN]at c2
  ·refine gE [10] ?_
   refine gT ?_
   rw[Wv,if_neg c1,if_pos (by (try simp only[bb,toN]);exact c2)];rfl
  ·refine gE [10] ?_
   refine gT ?_
   rw[Wv,if_neg c1,iN (by (try simp only[bb,toN]);exact c2)];rfl
def KC (n:Int) (len:Int):Bool:=(bif decide (0<=n)then decide (n<len)else false)
theorem QX (n:Int) (len:Int):GC Tryz.prog 36 [iG n,iG len] (bG (KC n len)):=by
 refine zA Tryz.func36 ?_
 refine gE [0,1,4] ?_
 refine gE [4] ?_
 refine gT ?_
 rw[KC];rfl
def Kl (b:Bil):Bool:=if b.ten.kind=0 then (bif decide (b.ten.n=0)then decide (b.ten.unit=0)else false)else if b.ten.kind=4 then (bif decide (b.ten.n=0)then decide (b.ten.unit=0)else false)else if b.ten.kind=1 then (bif (bif decide (1<=b.ten.n)then decide (b.ten.n<=400)else false)then (bif decide (b.ten.unit=0)then true else decide (b.ten.unit=1))else false)else if b.ten.kind=2 then (bif (bif decide (1<=b.ten.n)then decide (b.ten.n<=400)else false)then (bif decide (b.ten.unit=0)then true else decide (b.ten.unit=1))else false)else if b.ten.kind=3 then (bif (bif decide (b.day<=b.ten.n)then decide (b.ten.n<=100000)else false)then decide (b.ten.unit=0)else false)else false
theorem zTi (b:Bil):GC Tryz.prog 69 [zBj b] (bG (Kl b)):=by
 refine zA Tryz.func69 ?_
 refine gE [1,2] ?_
 refine gE [1,2,3] ?_
 refine gE [1,2,3,7] ?_
 refine gE [1,2,3,7,8] ?_
 refine zB ?_ ?_<;>intro c1<;>try simp only[toN]at c1
 ·refine zB ?_ ?_<;>intro c2<;>try simp only[toN]at c2
  ·refine gE [2] ?_
   refine gT ?_
   rw[Kl,if_pos c1];rfl
  ·exact absurd c1 c2
 ·refine gE [1,2,3,7,8] ?_
  refine zB ?_ ?_<;>intro c3<;>try simp only[toN]at c3
  ·refine gE [2] ?_
   refine gT ?_
   rw[Kl,if_neg c1,if_pos c3];rfl
  ·refine gE [1,2,3,7,19] ?_
   refine zB ?_ ?_<;>intro c4<;>try simp only[toN]at c4
   ·refine zB ?_ ?_<;>intro c5<;>try simp only[toN]at c5
    ·refine gE [2] ?_
     refine gT ?_
     rw[Kl,if_neg c1,if_neg c3,if_pos c4];rfl
    ·exact absurd c4 c5
   ·refine gE [1,2,3,7,19] ?_
    refine zB ?_ ?_<;>intro c6<;>try simp only[toN]at c6
    ·refine gE [2] ?_
     refine gT ?_
     rw[Kl,if_neg c1,if_neg c3,if_neg c4,if_pos c6];rfl
    ·refine gE [1,2,3,40] ?_
     refine zB ?_ ?_<;>intro c7<;>try simp only[toN]at c7
     ·refine gE [2] ?_
      refine gT ?_
      rw[Kl,if_neg c1,if_neg c3,if_neg c4,if_neg c6,if_pos c7];rfl
     ·refine gE [2] ?_
      refine gT ?_
      rw[Kl,if_neg c1,if_neg c3,if_neg c4,if_neg c6,if_neg c7];rfl
def UH (r:Rlm) (b:Bil):Int:=if (yw r)=0 then if (bif (bif (bif (!(bif (bif (bif (KC b.drawer (r.firms.length:Int))then (KC b.drawee (r.firms.length:Int))else false)then (bif decide (b.payee=(-1))then true else (KC b.payee (r.firms.length:Int)))else false)then (bif decide (b.need=(-1))then true else (KC b.need (r.firms.length:Int)))else false))then true else (!(KC b.cur (r.currencies.length:Int))))then true else (!(KC b.city (r.cities.length:Int))))then true else (!(KC b.pay (r.cities.length:Int))))=true then 1 else if (bif (bif (bif (bif (bif decide (b.sum<1)then true else decide (1099511627776<b.sum))then true else decide (b.day<0))then true else decide (100000<b.day))then true else decide (b.rate<0))then true else decide (1000<b.rate))=true then 3 else if (bif decide (b.parts<1)then true else decide (4<b.parts))=true then 15 else if (bif (bif (bif decide (b.flags<0)then true else decide (7<b.flags))then true else (bif (!decide ((yO .i64 b.flags 4)=0))then decide (b.payee=(-1))else false))then true else (!(Kl b)))=true then 2 else if b.ten.kind=4 then (zBz r b.city b.pay).2 else 0 else (yw r)
theorem zXm (r:Rlm) (b:Bil) (hr:FitR r):GC Tryz.prog 30 [rlG r,zBj b] (iG (UH r b)):=by
 have h1:=hr.orders
 have h2:=hr.cities
 have h3:=hr.firms
 refine zA Tryz.func30 ?_
 refine gE [2,3,4] ?_
 refine gR [.call (wz r hr)] [2,3,4,5] ?_
 refine gE [2,3,4,5,14] ?_
 refine zT ?_ ?_<;>intro c1<;>try simp only[toN]at c1
 ·refine gE [2,3,4] ?_
  refine gT ?_
  rw[UH,if_neg c1];rfl
 ·refine gE [2,3,4,6,7] ?_
  refine gR [.call (QX b.drawer (r.firms.length:Int)),.call (QX b.drawee (r.firms.length:Int)),.call (QX b.payee (r.firms.length:Int)),.call (QX b.need (r.firms.length:Int))] [2,3,4,7,8] ?_
  refine gR [.call (QX b.cur (r.currencies.length:Int)),.call (QX b.city (r.cities.length:Int)),.call (QX b.pay (r.cities.length:Int))] [2,3,4,54] ?_
  refine zE ?_ ?_<;>intro c2<;>try simp only[bb,toN]at c2
  ·refine gE [2,3,4] ?_
   refine gT ?_
   rw[UH,if_pos c1,if_pos (by (try simp only[bb,toN]);exact c2)];rfl
  ·refine gE [2,3,4,80] ?_
   refine zE ?_ ?_<;>intro c3<;>try simp only[bb,toN]at c3
   ·refine gE [2,3,4] ?_
    refine gT ?_
    rw[UH,if_pos c1,iN (by (try simp only[bb,toN]);exact c2),if_pos (by (try simp only[bb,toN]);exact c3)];rfl
   ·refine gE [2,3,4,109] ?_
    refine zE ?_ ?_<;>intro c4<;>try simp only[bb,toN]at c4
    ·refine gE [2,3,4] ?_
     refine gT ?_
     rw[UH,if_pos c1,iN (by (try simp only[bb,toN]);exact c2),iN (by (try simp only[bb,toN]);exact c3),if_pos (by (try simp only[bb,toN]);exact c4)];rfl
    ·refine gR [.call (zTi b)] [2,3,4,118] ?_
     refine zE ?_ ?_<;>intro c5<;>try simp only[bb,toN]at c5
     ·refine gE [2,3,4] ?_
      refine gT ?_
      rw[UH,if_pos c1,iN (by (try simp only[bb,toN]);exact c2),iN (by (try simp only[bb,toN]);exact c3),iN (by (try simp only[bb,toN]);exact c4),if_pos (by (try simp only[bb,toN]);exact c5)];rfl
     ·refine gE [2,3,4,146] ?_
      refine zB ?_ ?_<;>intro c6<;>try simp only[toN]at c6
      ·refine gR [.call (UP r b.city b.pay hr)] [4,10] ?_
       refine gE [4] ?_
       refine gT ?_
       rw[UH,if_pos c1,iN (by (try simp only[bb,toN]);exact c2),iN (by (try simp only[bb,toN]);exact c3),iN (by (try simp only[bb,toN]);exact c4),iN (by (try simp only[bb,toN]);exact c5),if_pos c6];rfl
      ·refine gE [4] ?_
       refine gT ?_
       rw[UH,if_pos c1,iN (by (try simp only[bb,toN]);exact c2),iN (by (try simp only[bb,toN]);exact c3),iN (by (try simp only[bb,toN]);exact c4),iN (by (try simp only[bb,toN]);exact c5),if_neg c6];rfl
theorem zLv (f:Fil) (i:Int) (hF:FitFi f) (hB:Zj f) (hi:0<=i/\i<f.signs.length):GC Tryz.prog 27 [fiG f,iG i] (iG (QG f i)):=by
 have g1:=hF.signs
 refine zA Tryz.func27 ?_
 refine gE [1,2,4] ?_
 refine zG (α:=Int) (fun s=>(0<=s/\s<f.signs.length)/\QG f i=QG f s) (fun s=>[(1,iG s)]) (fun _=>[]) (fun s=>s.toNat) i ⟨hi,rfl⟩ ?_ (hp:=by (try simp only[zC]);repeat' first|exact trivial|exact rfl|omega|apply And.intro)
 rintro s ⟨hs,he⟩
 rw[vH hB hs.1 hs.2]at he
 refine gP [] [1,2,4,20] ?_
 refine zE (fun c1=> ?_) (fun c1=> ?_)
 ·rw[if_pos c1]at he
  have hk:=c1
  simp only[bb]at hk
  have hb:=hB s.toNat (by omega) hk
  refine gP [] [1,2,4] ?_
  exact zD (f.signs.getD s.toNat default).for_ ⟨⟨hb.1,by omega⟩,he⟩ (hp:=by (try simp only[zC]);repeat' first|exact trivial|exact rfl|omega|apply And.intro) (hm:=by omega)
 ·rw[if_neg (by rw[c1];decide)]at he
  refine gE [4] ?_
  refine gT ?_
  rw[he];rfl
theorem zSp (f:Fil) (i:Int) (hi:0<=i/\i<(f.signs.length:Int)) (hF:FitFi f:=by assumption) (hB:Zj f:=by assumption):GC Tryz.prog 27 [fiG f,iG i] (iG (QG f i)):=zLv f i hF hB hi
def JK (f:Fil) (l:List Clm) (i:Int) (a7_1:List Clm) (k1:Nat):List Clm:=if k1<l.length then if (bif (bif (bif decide (0<=((l.getD k1 default).sign))then decide (((l.getD k1 default).sign)<(f.signs.length:Int))else false)then (!decide (((l.getD k1 default).sign)=i))else false)then (!decide ((QG f ((l.getD k1 default).sign))=i))else false)=true then JK f l i (a7_1++ [(l.getD k1 default)]) (k1+1)else JK f l i a7_1 (k1+1)else a7_1
termination_by l.length-k1
def Vd (f:Fil) (l:List Clm) (i:Int):List Clm:=JK f l i [] 0
theorem zGl (f:Fil) (l:List Clm) (i:Int) (hF:FitFi f) (hB:Zj f) (hl:l.length<=4000000000):GC Tryz.prog 11 [fiG f,.d (.row default clC l),iG i] (.d (.row default clC (Vd f l i))):=by
 have g1:=hF.signs
 refine zA Tryz.func11 ?_
 refine gE [1,2,3,6] ?_
 refine gR [.el default clC ([]:List Clm)] [1,2,3,6,7] ?_
 refine gE [1,2,3,6,7,8] ?_
 refine zG (α:=List Clm×Nat) (fun x=>x.2<=l.length/\JK f l i [] 0=JK f l i x.1 x.2/\x.1.length<=x.2) (fun x=>[(7,.sl 1 9 0 x.1.length),(8,iG x.2)]) (fun x=>[(1,some (.row 55 9 default clC x.1 0))]) (fun x=>l.length-x.2) ([],0) ⟨by (try simp only[]);omega,rfl,by first|omega|(simp;done)|(simp only[List.length_append,List.length_cons,List.length_nil,List.length_set,List.length_replicate];omega)⟩ ?_ (hp:=by simp[zC]<;>rfl)
 rintro ⟨a7_1,k1⟩ ⟨hi1,he,hl_a7_1⟩
 dsimp only at*
 refine gE [1,2,3,6,7,8,14] ?_
 refine zB ?_ ?_<;>intro c1<;>try simp only[toN]at c1
 ·refine gE [1,2,3,6,7,8,9] ?_
  refine gR [.callq (Q:=0<=((l.getD k1 default).sign)/\((l.getD k1 default).sign)<(f.signs.length:Int)) (fun hq=>zSp f ((l.getD k1 default).sign) hq)] [1,2,3,6,7,8,9,45] ?_
  refine zE ?_ ?_<;>intro c2<;>try simp only[bb,toN]at c2
  ·refine gU [.el default clC ([(l.getD k1 default)]:List Clm),.el default clC (a7_1++ [(l.getD k1 default)])] [1,2,3,6,7,8] ?_
   refine gE [1,2,3,6,7,8] ?_
   refine zD ((a7_1++ [(l.getD k1 default)],k1+1)) ?_ (hp:=by simp[zC]<;>rfl) (hm:=by dsimp only;omega)
   refine ⟨by (try simp only[]);omega,he.trans ?_,by first|omega|(simp;done)|(simp only[List.length_append,List.length_cons,List.length_nil,List.length_set,List.length_replicate];omega)⟩
   rw[JK,if_pos (by omega),if_pos (by (try simp only[bb,toN]);exact c2)]
   try rfl
  ·refine gE [1,2,3,6,7,8] ?_
   refine zD ((a7_1,k1+1)) ?_ (hp:=by simp[zC]<;>rfl) (hm:=by dsimp only;omega)
   refine ⟨by (try simp only[]);omega,he.trans ?_,by first|omega|(simp;done)|(simp only[List.length_append,List.length_cons,List.length_nil,List.length_set,List.length_replicate];omega)⟩
   rw[JK,if_pos (by omega),iN (by (try simp only[bb,toN]);exact c2)]
   try rfl
 ·refine gE [6] ?_
  refine gT ?_
  rw[Vd,he,JK,if_neg (by omega)];rfl
theorem KZ {α:Type} [Inhabited α] {l:List α} {Q:α->Prop} (h:∀i,i<l.length->Q (l.getD i default)):∀x,x∈l->Q x:=by
 intro c hc
 obtain ⟨i,hi,rfl⟩:=List.getElem_of_mem hc
 have:=h i hi
 rwa[List.getD_eq_getElem?_getD,List.getElem?_eq_getElem hi]at this
structure MemX (r:Rlm):Prop where
 curS:∀s,s∈r.currencies->s.size<=9223372036854775807
 city:∀c,c∈r.cities->FitC c
 firm:∀c,c∈r.firms->c.name.size<=9223372036854775807
 order:∀o,o∈r.orders->o.name.size<=9223372036854775807
 rate:∀x,x∈r.rates->yY x.num/\yY x.den
 lo:r.orders.length<=9223372036854775807
 tm:∀o,o∈r.orders->∀x,x∈o.rules->QN Dep.d x.term
theorem ZBs {r:Rlm} (h:zEh r=true):(r.currencies.length<50/\r.cities.length<50/\r.groups.length<50/\r.firms.length<210/\r.orders.length<50/\r.usances.length<110/\r.rates.length<110/\r.halts.length<50)/\∀i,i<r.orders.length->(r.orders.getD i default).choices.length<=40/\(r.orders.getD i default).rules.length<=40:=by
 have q2:∀n k1 i,50-i=n->i<=50->Yv r k1 i=true->(r.currencies.length<50/\r.cities.length<50/\r.groups.length<50/\r.firms.length<210/\r.orders.length<50/\r.usances.length<110/\r.rates.length<110/\r.halts.length<50)/\∀j,i<=j->j<r.orders.length->(r.orders.getD j default).choices.length<=40/\(r.orders.getD j default).rules.length<=40:=by
  intro n
  induction n with
  |zero=>
   intro k1 i hn hi h
   unfold Yv at h
   rw[if_neg (by intro hx;simp only[bb]at hx;omega)]at h
   simp only[bb]at h
   exact ⟨by omega,fun j a b=>by omega⟩
  |succ n ih=>
   intro k1 i hn hi h
   unfold Yv at h
   split at h
   ·split at h
    ·cases h
    ·rename_i hc
     rw[Bool.not_eq_true]at hc
     simp only[bb]at hc
     obtain ⟨h1,h2⟩:=ih k1 (i+1) (by omega) (by omega) h
     refine ⟨h1,fun j a b=> ?_⟩
     by_cases hj:j=i
     ·rw[hj];omega
     ·exact h2 j (by omega) b
   ·rename_i hc
    rw[Bool.not_eq_true]at hc
    simp only[bb]at h hc
    exact ⟨by omega,fun j a b=>by omega⟩
 have q1:∀n i,50-i=n->i<=50->JU r i=true->Yv r i 0=true∨∃k,Yv r k 0=true:=by
  intro n
  induction n with
  |zero=>
   intro i hn hi h
   unfold JU at h
   rw[if_neg (by intro hx;simp only[bb]at hx;omega)]at h
   exact .inl h
  |succ n ih=>
   intro i hn hi h
   unfold JU at h
   split at h
   ·split at h
    ·cases h
    ·rcases ih (i+1) (by omega) (by omega) h with h|h
     ·exact .inr ⟨_,h⟩
     ·exact .inr h
   ·exact .inl h
 have h0:∃k,Yv r k 0=true:=by
  rcases q1 _ 0 rfl (by omega) h with h|h
  ·exact ⟨_,h⟩
  ·exact h
 obtain ⟨k,hk⟩:=h0
 obtain ⟨h1,h2⟩:=q2 _ k 0 rfl (by omega) hk
 exact ⟨h1,fun i hi=>h2 i (Nat.zero_le _) hi⟩
theorem zRd {r:Rlm} (hm:MemX r) (h:zEh r=true):FitR r:=by
 obtain ⟨h1,h2⟩:=ZBs h
 refine ⟨by omega,hm.curS,by omega,hm.city,by omega,by omega,hm.firm,by omega,fun o ho=>⟨hm.order o ho,?_⟩,by omega,by omega,hm.rate,by omega⟩
 have:=KZ (Q:=fun o:Od=>o.choices.length<=40/\o.rules.length<=40) h2 o ho
 omega
theorem zLl {f:Fil} (h:zAp f=true):FitFi f:=by
 unfold zAp at h
 simp only[bb]at h
 exact ⟨by omega,by omega,by omega,by omega⟩
def je (r:Rlm) (f:Fil) (k1:Nat):Bool:=if k1<r.orders.length then if (!(vW (r.orders.getD k1 default)))=true then false else je r f (k1+1)else true
termination_by r.orders.length-k1
def WQ (r:Rlm) (f:Fil):Bool:=if (bif (!(zEh r))then true else (!(zAp f)))=true then false else je r f 0
theorem zRf (r:Rlm) (f:Fil) (hm:MemX r):GC Tryz.prog 20 [rlG r,fiG f] (bG (WQ r f)):=by
 have h1:=hm.lo
 refine zA Tryz.func20 ?_
 refine gE [2,3,4] ?_
 refine gR [.call (zWv r),.call (zRi f)] [2,4,13] ?_
 refine zE ?_ ?_<;>intro c1<;>try simp only[bb,toN]at c1
 ·refine gE [2,4] ?_
  refine gT ?_
  rw[WQ,if_pos (by (try simp only[bb,toN]);exact c1)];rfl
 ·refine gE [2,4,5] ?_
  refine zG (α:=Nat) (fun x=>x<=r.orders.length/\je r f 0=je r f x) (fun x=>[(5,iG x)]) (fun x=>[]) (fun x=>r.orders.length-x) 0 ⟨by (try simp only[]);omega,rfl⟩ ?_ (hp:=by simp[zC]<;>rfl)
  rintro k1 ⟨hi1,he⟩
  refine gE [2,4,5,18] ?_
  refine zB ?_ ?_<;>intro c2<;>try simp only[toN]at c2
  ·have ho2:=hm.tm _ (zK (l:=r.orders) (i:=k1) (by omega))
   refine gR [.call (zRg (r.orders.getD k1 default) (by assumption))] [2,4,5,27] ?_
   refine zE ?_ ?_<;>intro c3<;>try simp only[bb,toN]at c3
   ·refine gE [2,4,5] ?_
    refine gT ?_
    rw[WQ,iN (by (try simp only[bb,toN]);exact c1),he,je,if_pos (by omega),if_pos (by (try simp only[bb,toN]);exact c3)];rfl
   ·refine gE [2,4,5] ?_
    refine zD (k1+1) ?_ (hp:=by simp[zC]<;>rfl)
    refine ⟨by (try simp only[]);omega,he.trans ?_⟩
    rw[je,if_pos (by omega),iN (by (try simp only[bb,toN]);exact c3)]
    try rfl
  ·refine gE [4] ?_
   refine gT ?_
   rw[WQ,iN (by (try simp only[bb,toN]);exact c1),he,je,if_neg (by omega)];rfl
theorem jC {r:Rlm} {f:Fil} (hm:MemX r) (h:WQ r f=true):FitR r/\FitFi f:=by
 unfold WQ at h
 split at h
 ·cases h
 ·rename_i hc
  rw[Bool.not_eq_true]at hc
  simp only[bb]at hc
  exact ⟨zRd hm hc.1,zLl hc.2⟩
theorem zTp:∀(k:Nat) (t:Tm) (n lv:Int),0<=n->n<=1000->QN k t->0<=uo k t n lv->YP k t/\uo k t n lv<n:=by
 have loop:∀(f:Tm->Int->Int->Int) (t:Tm) (n lv:Int),(∀a,a∈t.args->∀m l,0<=m->m<=1000->0<=f a m l->f a m l<m)->∀q i a,t.args.length-i=q->i<=t.args.length->a<=1000->0<=jn f t n lv a i->0<=a/\jn f t n lv a i<=a/\(t.args.length:Int)-i<=a-jn f t n lv a i/\∀j,i<=j->j<t.args.length->∃m,0<=m/\m<=1000/\0<=f (t.args.getD j default) m (IntKind.i64.wrap (lv-1)):=by
  intro f t n lv hf q
  induction q with
  |zero=>
   intro i a hq hi ha h
   unfold jn at h⊢
   rw[if_neg (by intro hx;simp only[bb]at hx;omega)]at h⊢
   exact ⟨h,Int.le_refl _,by omega,fun j a b=>by omega⟩
  |succ q ih=>
   intro i a hq hi ha h
   have hS:i<t.args.length:=by omega
   unfold jn at h⊢
   by_cases h0:0<=a
   ·have hc:(bif decide ((i:Int)<(t.args.length:Int))then decide (0<=a)else false)=true:=by simp only[bb];omega
    rw[if_pos hc]at h⊢
    have hm:=zK hS
    by_cases hz:0<=f (t.args.getD i default) a (IntKind.i64.wrap (lv-1))
    ·have hlt:=hf _ hm _ _ h0 ha hz
     obtain ⟨p1,p2,p3,p4⟩:=ih (i+1) _ (by omega) (by omega) (by omega) h
     refine ⟨h0,by omega,by omega,fun j j1 j2=> ?_⟩
     by_cases hj:j=i
     ·rw[hj];exact ⟨a,h0,ha,hz⟩
     ·exact p4 j (by omega) j2
    ·exfalso
     unfold jn at h
     rw[if_neg (by intro hx;simp only[bb]at hx;omega)]at h
     exact hz h
   ·rw[if_neg (by intro hx;simp only[bb]at hx;omega)]at h
    exact absurd h h0
 intro k
 induction k with
 |zero=>
  intro t n lv h0 hn ht h
  have ha:t.args= []:=ht
  have e:IntKind.i64.wrap (n-1)=n-1:=Ze (by unfold inR;omega)
  refine ⟨ha,?_⟩
  rw[show uo 0 t n lv=XX (fun _ _ _=>0) t n lv from rfl]at h⊢
  unfold XX at h⊢
  rw[e]at h⊢
  split at h
  ·omega
  ·rename_i hc
   rw[if_neg hc]
   have:=loop (fun _ _ _=>0) t n lv (fun a h=>by rw[ha]at h;cases h) _ 0 (n-1) rfl (Nat.zero_le _) (by omega) h
   omega
 |succ k ih=>
  intro t n lv h0 hn ht h
  have e:IntKind.i64.wrap (n-1)=n-1:=Ze (by unfold inR;omega)
  rw[show uo (k+1) t n lv=XX (uo k) t n lv from rfl]at h⊢
  unfold XX at h⊢
  rw[e]at h⊢
  split at h
  ·omega
  ·rename_i hc
   rw[if_neg hc]
   obtain ⟨p1,p2,p3,p4⟩:=loop (uo k) t n lv (fun a ha m l m0 m1 hz=>(ih a m l m0 m1 (ht.2 a ha) hz).2) _ 0 (n-1) rfl (Nat.zero_le _) (by omega) h
   refine ⟨⟨by omega,fun a ha=> ?_⟩,by omega⟩
   obtain ⟨i,hi,rfl⟩:=List.getElem_of_mem ha
   obtain ⟨m,m0,m1,hz⟩:=p4 i (Nat.zero_le _) hi
   rw[show t.args.getD i default=t.args[i]by rw[List.getD_eq_getElem?_getD,List.getElem?_eq_getElem hi];rfl]at hz
   exact (ih _ m _ m0 m1 (ht.2 _ ha) hz).1
theorem zLk {t:Tm} (h:Uz t=true) (hm:QN Dep.d t):YP Dep.d t:=by
 unfold Uz at h
 exact (zTp Dep.d t 100 20 (by decide) (by decide) hm (by simpa using h)).1
theorem zLj {o:Od} (h:vW o=true) (hm:∀x,x∈o.rules->QN Dep.d x.term):∀x,x∈o.rules->YP Dep.d x.term:=by
 have:∀n i,o.rules.length-i=n->jf o i=true->∀j,i<=j->j<o.rules.length->Uz (o.rules.getD j default).term=true:=by
  intro n
  induction n with
  |zero=>intro i hn _ j h1 h2;omega
  |succ n ih=>
   intro i hn h j h1 h2
   have hS:i<o.rules.length:=by omega
   unfold jf at h
   rw[if_pos hS]at h
   split at h
   ·cases h
   ·rename_i hf
    by_cases hj:j=i
    ·rw[hj];simpa using hf
    ·exact ih _ (by omega) h j (by omega) h2
 unfold vW at h
 split at h
 ·cases h
 ·intro x hx
  obtain ⟨i,hi,rfl⟩:=List.getElem_of_mem hx
  have h1:=this _ 0 rfl h i (Nat.zero_le _) hi
  rw[show o.rules.getD i default=o.rules[i]by rw[List.getD_eq_getElem?_getD,List.getElem?_eq_getElem hi];rfl]at h1
  exact zLk h1 (hm _ hx)
theorem zRe {r:Rlm} {f:Fil} (hm:MemX r) (h:WQ r f=true):∀o,o∈r.orders->∀x,x∈o.rules->YP Dep.d x.term:=by
 have:∀n i,r.orders.length-i=n->je r f i=true->∀j,i<=j->j<r.orders.length->vW (r.orders.getD j default)=true:=by
  intro n
  induction n with
  |zero=>intro i hn _ j h1 h2;omega
  |succ n ih=>
   intro i hn h j h1 h2
   have hS:i<r.orders.length:=by omega
   unfold je at h
   rw[if_pos hS]at h
   split at h
   ·cases h
   ·rename_i hf
    by_cases hj:j=i
    ·rw[hj];simpa using hf
    ·exact ih _ (by omega) h j (by omega) h2
 unfold WQ at h
 split at h
 ·cases h
 ·intro o ho
  obtain ⟨i,hi,rfl⟩:=List.getElem_of_mem ho
  have h1:=this _ 0 rfl h i (Nat.zero_le _) hi
  rw[show r.orders.getD i default=r.orders[i]by rw[List.getD_eq_getElem?_getD,List.getElem?_eq_getElem hi];rfl]at h1
  exact zLj h1 (hm.tm _ ho)
theorem zSb (r:Rlm) (hr:FitR r):GC Tryz.prog 21 [rlG r] (iG (ZJ r)):=XG r hr
theorem zXp (r:Rlm) (f:Fil) (hq:FitR r/\FitFi f):GC Tryz.prog 22 [rlG r,fiG f] (iG (WZ r f)):=zRy r f hq.1 hq.2
def zAo (r:Rlm) (f:Fil):Bool:=(bif (bif (bif (bif (WQ r f)then decide ((ZJ r)=0)else false)then decide ((WZ r f)=0)else false)then decide ((f.signs.length:Int)<=20)else false)then decide ((f.acts.length:Int)<=30)else false)
theorem zWu (r:Rlm) (f:Fil) (hm:MemX r):GC Tryz.prog 7 [rlG r,fiG f] (bG (zAo r f)):=by
 refine zA Tryz.func7 ?_
 refine gE [2,3,4] ?_
 refine gR [.call (zRf r f (by assumption)),.callq (Q:=FitR r) (fun hq=>zSb r hq),.callq (Q:=FitR r/\FitFi f) (fun hq=>zXp r f hq)] [4] ?_ (hp:=(by simp only[zC,bb,toN];repeat' first|exact trivial|exact zI.refl _|exact zH.refl _|exact rfl|exact (jC hm (by assumption)).1|exact (jC hm (And.left (by assumption))).1|exact (jC hm (by assumption)).2|exact (jC hm (And.left (by assumption))).2|omega|apply And.intro|intro _))
 refine gT ?_
 rw[zAo];rfl
structure Ck (r:Rlm) (f:Fil):Prop where
 ls:f.signs.length<=40
 la:f.alters.length<=4
 lc:f.acts.length<=100
 lf:f.facts.length<=200
 ne:0<f.signs.length
 bill:QE r f.bill=0
 sign:∀k:Nat,k<f.signs.length->YT r f (k:Int)=0
 alt:∀k:Nat,k<f.alters.length->(if 0<k then (f.alters.getD (k-1) default).at_+1 else 1)<=(f.alters.getD k default).at_/\(f.alters.getD k default).at_<=f.signs.length/\1<=(f.alters.getD k default).sum/\(f.alters.getD k default).sum<=1099511627776
 act:∀k:Nat,k<f.acts.length->QK r f (k:Int)=0
 fact:∀k:Nat,k<f.facts.length->qN f (k:Int)=0
theorem zEs (r:Rlm) (f:Fil) (a b:Int) (c:Nat) (d:Int) (a2:Nat) (b2:Int) (c2:Nat) {e:Int} (k:Nat) (he:e≠0):Yc r f a b c d a2 b2 c2 e k≠0:=by
 unfold Yc
 rw[if_neg (by intro hx;simp only[bb]at hx;exact he hx.2)];exact he
theorem zEt (r:Rlm) (f:Fil) (a b:Int) (c:Nat) (d:Int) (a2:Nat) {e:Int} (k:Nat) (he:e≠0):Yd r f a b c d a2 e k≠0:=by
 unfold Yd
 rw[if_neg (by intro hx;simp only[bb]at hx;exact he hx.2)];exact zEs _ _ _ _ _ _ _ _ _ _ he
theorem uW (r:Rlm) (f:Fil) (a b:Int) (c:Nat) (e:Int) (k:Nat) (he:e≠0):zt r f a b c e k≠0:=by
 unfold zt
 rw[if_neg (by intro hx;simp only[bb]at hx;exact he hx.2)];exact zEt _ _ _ _ _ _ _ _ he
theorem zXo {r:Rlm} {f:Fil} (h:WZ r f=0):Ck r f:=by
 have q4:∀n k e a b c d a2 b2 c2,f.facts.length-k=n->Yc r f a b c d a2 b2 c2 e k=0->e=0/\∀j,k<=j->j<f.facts.length->qN f (j:Int)=0:=by
  intro n
  induction n with
  |zero=>
   intro k e a b c d a2 b2 c2 hn h
   unfold Yc at h
   rw[if_neg (by intro hx;simp only[bb]at hx;omega)]at h
   exact ⟨h,fun j h1 h2=>by omega⟩
  |succ n ih=>
   intro k e a b c d a2 b2 c2 hn h
   unfold Yc at h
   by_cases hc:e=0
   ·rw[if_pos (by simp only[bb];omega)]at h
    obtain ⟨h1,h2⟩:=ih _ _ _ _ _ _ _ _ _ (by omega) h
    refine ⟨hc,fun j a b=> ?_⟩
    by_cases hj:j=k
    ·rw[hj];exact h1
    ·exact h2 j (by omega) b
   ·rw[if_neg (by intro hx;simp only[bb]at hx;exact hc hx.2)]at h
    exact absurd h hc
 have q3:∀n k e a b c d a2,f.acts.length-k=n->Yd r f a b c d a2 e k=0->e=0/\(∀j,k<=j->j<f.acts.length->QK r f (j:Int)=0)/\∀j,j<f.facts.length->qN f (j:Int)=0:=by
  intro n
  induction n with
  |zero=>
   intro k e a b c d a2 hn h
   unfold Yd at h
   rw[if_neg (by intro hx;simp only[bb]at hx;omega)]at h
   obtain ⟨h1,h2⟩:=q4 _ _ _ _ _ _ _ _ _ _ rfl h
   exact ⟨h1,fun j a b=>by omega,fun j hj=>h2 j (Nat.zero_le _) hj⟩
  |succ n ih=>
   intro k e a b c d a2 hn h
   unfold Yd at h
   by_cases hc:e=0
   ·rw[if_pos (by simp only[bb];omega)]at h
    obtain ⟨h1,h2,h3⟩:=ih _ _ _ _ _ _ _ (by omega) h
    refine ⟨hc,fun j a b=> ?_,h3⟩
    by_cases hj:j=k
    ·rw[hj];exact h1
    ·exact h2 j (by omega) b
   ·rw[if_neg (by intro hx;simp only[bb]at hx;exact hc hx.2)]at h
    exact absurd (q4 _ _ _ _ _ _ _ _ _ _ rfl h).1 hc
 have q2:∀n k e a b c,f.alters.length-k=n->f.alters.length<=4->f.signs.length<=40->(0<k->1<=(f.alters.getD (k-1) default).at_/\(f.alters.getD (k-1) default).at_<=f.signs.length)->zt r f a b c e k=0->e=0/\(∀j,k<=j->j<f.alters.length->(if 0<j then (f.alters.getD (j-1) default).at_+1 else 1)<=(f.alters.getD j default).at_/\(f.alters.getD j default).at_<=f.signs.length/\1<=(f.alters.getD j default).sum/\(f.alters.getD j default).sum<=1099511627776)/\(∀j,j<f.acts.length->QK r f (j:Int)=0)/\∀j,j<f.facts.length->qN f (j:Int)=0:=by
  intro n
  induction n with
  |zero=>
   intro k e a b c hn hl hs hp h
   unfold zt at h
   rw[if_neg (by intro hx;simp only[bb]at hx;omega)]at h
   obtain ⟨h1,h2,h3⟩:=q3 _ _ _ _ _ _ _ _ rfl h
   exact ⟨h1,fun j a b=>by omega,fun j hj=>h2 j (Nat.zero_le _) hj,h3⟩
  |succ n ih=>
   intro k e a b c hn hl hs hp h
   unfold zt at h
   by_cases hc:e=0
   ·have hk:k<f.alters.length:=by omega
    rw[if_pos (by simp only[bb];omega)]at h
    subst hc
    have key:∀(lo:Int),(lo=if 0<k then (f.alters.getD (k-1) default).at_+1 else 1)->1<=lo->(if (!(wiV ((f.alters.getD k default).at_) lo (f.signs.length:Int)))=true then zt r f a b c 1 (k+1)else if (!(wiV ((f.alters.getD k default).sum) 1 1099511627776))=true then zt r f a b c 3 (k+1)else zt r f a b c 0 (k+1))=0->(∀j,k<=j->j<f.alters.length->(if 0<j then (f.alters.getD (j-1) default).at_+1 else 1)<=(f.alters.getD j default).at_/\(f.alters.getD j default).at_<=f.signs.length/\1<=(f.alters.getD j default).sum/\(f.alters.getD j default).sum<=1099511627776)/\(∀j,j<f.acts.length->QK r f (j:Int)=0)/\∀j,j<f.facts.length->qN f (j:Int)=0:=by
     intro lo hlo hlo1 h
     by_cases h1:wiV ((f.alters.getD k default).at_) lo (f.signs.length:Int)=true
     ·by_cases h2:wiV ((f.alters.getD k default).sum) 1 1099511627776=true
      ·rw[if_neg (by rw[h1];decide),if_neg (by rw[h2];decide)]at h
       rw[Zy]at h1 h2
       obtain ⟨_,h4,h5⟩:=ih (k+1) 0 a b c (by omega) hl hs (fun _=>by rw[show k+1-1=k by omega];omega) h
       refine ⟨fun j a b=> ?_,h5⟩
       by_cases hj:j=k
       ·subst hj;rw[<-hlo];exact ⟨h1.1,h1.2,h2.1,h2.2⟩
       ·exact h4 j (by omega) b
      ·rw[if_neg (by rw[h1];decide),if_pos (by simpa using h2)]at h
       exact absurd h (uW r f a b c 3 (k+1) (by decide))
     ·rw[if_pos (by simpa using h1)]at h
      exact absurd h (uW r f a b c 1 (k+1) (by decide))
    refine ⟨rfl,?_⟩
    by_cases hk0:0<k
    ·obtain ⟨p1,p2⟩:=hp hk0
     have e1:(IntKind.i64.wrap ((k:Int)-1)).toNat=k-1:=by rw[Ze (by unfold inR;omega)];omega
     have e2:IntKind.i64.wrap ((f.alters.getD (k-1) default).at_+1)=(f.alters.getD (k-1) default).at_+1:=Ze (by unfold inR;omega)
     rw[if_pos (by omega),e1,e2]at h
     exact key _ (by rw[if_pos hk0]) (by omega) h
    ·rw[if_neg (by omega)]at h
     exact key 1 (by rw[if_neg hk0]) (by omega) h
   ·rw[if_neg (by intro hx;simp only[bb]at hx;exact hc hx.2)]at h
    exact absurd (q3 _ _ _ _ _ _ _ _ rfl h).1 hc
 have q1:∀n k e a,f.signs.length-k=n->f.alters.length<=4->f.signs.length<=40->Ql r f a e k=0->e=0/\(∀j,k<=j->j<f.signs.length->YT r f (j:Int)=0)/\∃b c,zt r f a b c 0 0=0:=by
  intro n
  induction n with
  |zero=>
   intro k e a hn hl hs h
   unfold Ql at h
   rw[if_neg (by intro hx;simp only[bb]at hx;omega)]at h
   obtain ⟨h1,_⟩:=q2 _ _ _ _ _ _ rfl hl hs (fun h=>absurd h (by omega)) h
   subst h1
   exact ⟨rfl,fun j a b=>by omega,_,_,h⟩
  |succ n ih=>
   intro k e a hn hl hs h
   unfold Ql at h
   by_cases hc:e=0
   ·rw[if_pos (by simp only[bb];omega)]at h
    obtain ⟨h1,h2,h3⟩:=ih _ _ _ (by omega) hl hs h
    refine ⟨hc,fun j a b=> ?_,h3⟩
    by_cases hj:j=k
    ·rw[hj];exact h1
    ·exact h2 j (by omega) b
   ·rw[if_neg (by intro hx;simp only[bb]at hx;exact hc hx.2)]at h
    exact absurd (q2 _ _ _ _ _ _ rfl hl hs (fun h=>absurd h (by omega)) h).1 hc
 unfold WZ at h
 split at h
 ·cases h
 ·rename_i hl
  rw[Bool.not_eq_true]at hl
  simp only[bb]at hl
  have hb:QE r f.bill=0/\0<f.signs.length/\Ql r f 0 0 0=0:=by
   split at h
   ·have:=(q1 _ _ _ _ rfl (by omega) (by omega) h).1;omega
   ·rename_i hc
    have h1:=(q1 _ _ _ _ rfl (by omega) (by omega) h).1
    rw[Bool.not_eq_true]at hc
    simp only[bb]at hc
    unfold JZ at h
    rw[h1]at h
    exact ⟨h1,by omega,h⟩
  obtain ⟨hb1,hb2,h⟩:=hb
  obtain ⟨_,h2,b,c,h3⟩:=q1 _ _ _ _ rfl (by omega) (by omega) h
  obtain ⟨_,h4,h5,h6⟩:=q2 _ _ _ _ _ _ rfl (by omega) (by omega) (fun h=>absurd h (by omega)) h3
  exact ⟨by omega,by omega,by omega,by omega,hb2,hb1,fun k hk=>h2 k (Nat.zero_le _) hk,fun k hk=>h4 k (Nat.zero_le _) hk,h5,h6⟩
structure Bl10 (r:Rlm) (b:Bil):Prop where
 realm:ZJ r=0
 drawer:0<=b.drawer/\b.drawer<r.firms.length
 drawee:0<=b.drawee/\b.drawee<r.firms.length
 payee:b.payee= -1∨0<=b.payee/\b.payee<r.firms.length
 need:b.need= -1∨0<=b.need/\b.need<r.firms.length
 cur:0<=b.cur/\b.cur<r.currencies.length
 city:0<=b.city/\b.city<r.cities.length
 pay:0<=b.pay/\b.pay<r.cities.length
 sum:1<=b.sum/\b.sum<=1099511627776
 day:0<=b.day/\b.day<=100000
 rate:0<=b.rate/\b.rate<=1000
 parts:1<=b.parts/\b.parts<=4
 flags:0<=b.flags/\b.flags<=7
 order:b.payee= -1->yO .i64 b.flags 4=0
 ten:VM b=true
 us:b.ten.kind=4->(zId r b.city b.pay).2=0
theorem vu {r:Rlm} {b:Bil} (h:QE r b=0):Bl10 r b:=by
 unfold QE at h
 split at h
 ·rename_i h0
  split at h
  ·cases h
  ·rename_i h1
   rw[Bool.not_eq_true]at h1
   simp only[Vm,Kc,VH,bb]at h1
   split at h
   ·cases h
   ·rename_i h2
    rw[Bool.not_eq_true]at h2
    simp only[VH,bb]at h2
    split at h
    ·cases h
    ·rename_i h3
     rw[Bool.not_eq_true]at h3
     simp only[bb]at h3
     split at h
     ·cases h
     ·rename_i h4
      rw[Bool.not_eq_true]at h4
      simp only[bb]at h4
      have h5:VM b=true:=by
       have:=h4.2
       simpa using this
      refine ⟨h0,by omega,by omega,by omega,by omega,by omega,by omega,by omega,by omega,by omega,by omega,by omega,by omega,fun hp=> ?_,h5,fun hk=> ?_⟩
      ·have:=h4.1
       have h6:=this.2
       rcases h6 with h6|h6
       ·exact absurd hp h6
       ·exact h6
      ·rw[if_pos hk]at h;exact h
 ·rename_i h0;exact absurd h h0
structure Sg12 (r:Rlm) (f:Fil) (k:Nat) (s:Sgn):Prop where
 part:0<=s.part/\s.part<=f.bill.parts-1
 who:0<=s.who/\s.who<r.firms.length
 city:0<=s.city/\s.city<r.cities.length
 first:k=0->s.day=f.bill.day
 late:s.day<=100000
 rise:0<k->(f.signs.getD (k-1) default).day<=s.day
 fits:Yb r f k=true
 once:s.kind=1->∀j,j<k->¬((f.signs.getD j default).kind=1/\(f.signs.getD j default).part=s.part)
theorem zNb {r:Rlm} {f:Fil} (hr:FitR r) (hb:Bl10 r f.bill) {k:Nat} (h:YT r f (k:Int)=0):Sg12 r f k (f.signs.getD k default):=by
 have a1:=hr.firms
 have a2:=hr.cities
 have a3:=hb.parts
 have e1:IntKind.i64.wrap (f.bill.parts-1)=f.bill.parts-1:=Ze (by unfold inR;omega)
 have e2:IntKind.i64.wrap ((r.firms.length:Int)-1)=(r.firms.length:Int)-1:=Ze (by unfold inR;omega)
 have e3:IntKind.i64.wrap ((r.cities.length:Int)-1)=(r.cities.length:Int)-1:=Ze (by unfold inR;omega)
 unfold YT at h
 rw[e1,e2,e3,show ((k:Int)).toNat=k from rfl]at h
 split at h
 ·cases h
 ·rename_i h1
  have h1:wiV (f.signs.getD k default).part 0 (f.bill.parts-1)=true:=by simpa using h1
  rw[Zy]at h1
  split at h
  ·cases h
  ·rename_i h2
   rw[Bool.not_eq_true]at h2
   simp only[bb,zFp,Zy,Bool.not_eq_false']at h2
   split at h
   ·cases h
   ·rename_i h3
    rw[Bool.not_eq_true]at h3
    simp only[bb]at h3
    have hk:∀j:Int,yR r f (k:Int) j=0->Yb r f (k:Int)=true/\((f.signs.getD k default).kind=1->∀j,j<k->¬((f.signs.getD j default).kind=1/\(f.signs.getD j default).part=(f.signs.getD k default).part)):=by
     intro j h
     unfold yR at h
     split at h
     ·cases h
     ·rename_i h4
      refine ⟨by simpa using h4,?_⟩
      have hL:∀n i,k-i=n->i<=k->qW r f (k:Int) j i=0->(f.signs.getD k default).kind=1->∀j,i<=j->j<k->¬((f.signs.getD j default).kind=1/\(f.signs.getD j default).part=(f.signs.getD k default).part):=by
       intro n
       induction n with
       |zero=>intro i hn hi _ _ j q1 q2;omega
       |succ n ih=>
        intro i hn hi h hkd j q1 q2
        unfold qW at h
        rw[show ((k:Int)).toNat=k from rfl]at h
        rw[if_pos (by simp only[bb];omega)]at h
        split at h
        ·cases h
        ·rename_i h5
         by_cases hj:j=i
         ·subst hj
          intro hc
          exact h5 (by simp only[bb];exact hc)
         ·exact ih (i+1) (by omega) (by omega) h hkd j (by omega) q2
      exact fun hkd j hj=>hL _ 0 rfl (Nat.zero_le _) h hkd j (Nat.zero_le _) hj
    have hrise:0<k->(f.signs.getD (k-1) default).day<=(f.signs.getD k default).day:=fun hk0=>by
     rw[if_pos (show (0:Int)<(k:Int)by omega),show (((k:Int)-1).toNat)=k-1 by omega]at h
     split at h
     ·cases h
     ·omega
    have hfin:yR r f (k:Int) 0=0:=by
     split at h
     ·split at h
      ·cases h
      ·exact h
     ·exact h
    obtain ⟨h5,h6⟩:=hk 0 hfin
    exact ⟨h1,by omega,by omega,fun hk0=>by omega,by omega,hrise,h5,h6⟩
structure Eqv (k:Int) (F G:Fil):Prop where
 bill:G.bill=F.bill
 signs:G.signs=F.signs
 alters:G.alters=F.alters
 acts:G.acts=F.acts∨∃p,p.kind=6/\G.acts=F.acts++ [p]
 facts:∀i,i≠k->G.facts.filter (fun x=>decide (x.at_=i))=F.facts.filter (fun x=>decide (x.at_=i))
theorem Eqv.get {k:Int} {F G:Fil} (h:Eqv k F G) {i:Nat} (hi:i<F.acts.length):i<G.acts.length/\G.acts.getD i default=F.acts.getD i default:=by
 rcases h.acts with e|⟨p,_,e⟩<;>rw[e]
 ·exact ⟨hi,rfl⟩
 ·refine ⟨by simp;omega,?_⟩
  rw[List.getD_eq_getElem?_getD,List.getElem?_append_left hi,List.getD_eq_getElem?_getD]
theorem Eqv.past {k:Int} {F G:Fil} (h:Eqv k F G) {i:Nat} (hi:¬i<F.acts.length) (hj:i<G.acts.length):(G.acts.getD i default).kind=6/\¬i+1<G.acts.length:=by
 rcases h.acts with e|⟨p,hp,e⟩<;>rw[e]at hj⊢
 ·exact absurd hj hi
 ·have:i=F.acts.length:=by simp at hj;omega
  subst this
  refine ⟨?_,by simp⟩
  rw[List.getD_eq_getElem?_getD,List.getElem?_append_right (Nat.le_refl _)]
  simpa using hp
def At (k day:Int) (f g:Fil):Prop:=Eqv k (atV f day) (atV g day)
theorem zYs (f:Fil) (day:Int):atV (atV f day) day=atV f day:=by
 have tt:∀ {α:Type} (p:α->Bool) (l:List α),(l.takeWhile p).takeWhile p=l.takeWhile p:=fun p l=>by
  induction l with
  |nil=>rfl
  |cons a l ih=>
   rw[List.takeWhile_cons]
   split
   ·rename_i h;rw[List.takeWhile_cons,if_pos h,ih]
   ·rfl
 have ff:∀ {α:Type} (p:α->Bool) (l:List α),(l.filter p).filter p=l.filter p:=fun p l=>by
  rw[List.filter_filter];simp
 rw[yd (atV f day),yd f]
 have e:upto (upto f.signs day) day=upto f.signs day:=tt _ _
 simp only[e,tt,ff]
theorem At.at_ {k day:Int} {f g:Fil} (h:At k day f g):At k day (atV f day) (atV g day):=by
 unfold At;rw[zYs,zYs];exact h
theorem zHm (f:Fil) (day:Int):(atV f day).bill=f.bill:=by rw[yd]
theorem At.bill {k day:Int} {f g:Fil} (h:At k day f g):g.bill=f.bill:=by
 have:=Eqv.bill h
 rwa[zHm,zHm]at this
theorem XA (f:Fil) (kind at_:Int):ZW f kind at_=match (f.facts.filter (fun x=>decide (x.at_=at_))).find? (fun x=>decide (x.kind=kind))with|some x=>jz (!decide (x.n=0))|none=>⟨false,0⟩:=by
 have:∀n i,f.facts.length-i=n->i<=f.facts.length->Qj f kind at_ i=match ((f.facts.drop i).filter (fun x=>decide (x.at_=at_))).find? (fun x=>decide (x.kind=kind))with|some x=>jz (!decide (x.n=0))|none=>⟨false,0⟩:=by
  intro n
  induction n with
  |zero=>
   intro i hn hi
   have e:i=f.facts.length:=by omega
   unfold Qj
   rw[if_neg (by omega),e,List.drop_length];rfl
  |succ n ih=>
   intro i hn hi
   have hi2:i<f.facts.length:=by omega
   have e3:f.facts.drop i=f.facts.getD i default::f.facts.drop (i+1):=by rw[List.drop_eq_getElem_cons hi2,List.getD_eq_getElem?_getD,List.getElem?_eq_getElem hi2];rfl
   have hr:=ih (i+1) (by omega) hi2
   unfold Qj
   rw[if_pos hi2,e3]
   generalize f.facts.getD i default=y at*
   by_cases h1:y.at_=at_
   ·rw[List.filter_cons_of_pos (by simpa using h1)]
    by_cases h2:y.kind=kind
    ·rw[if_pos (by simp[h1,h2]),List.find?_cons_of_pos (by simpa using h2)]
    ·rw[if_neg (by simp[h2]),List.find?_cons_of_neg (by simpa using h2)];exact hr
   ·rw[if_neg (by simp[h1]),List.filter_cons_of_neg (by simpa using h1)];exact hr
 have h:=this _ 0 rfl (Nat.zero_le _)
 rw[List.drop_zero]at h
 exact h
theorem zRj {k:Int} {F G:Fil} (h:Eqv k F G) (kind:Int) {at_:Int} (ha:at_≠k):ZW G kind at_=ZW F kind at_:=by
 rw[XA,XA,h.facts at_ ha]
theorem zYy {k:Int} {F G:Fil} (h:Eqv k F G) (r:Rlm) {s hd:Int} (d due day:Int) (h1:s≠k) (h2:mxI hd 0≠k):ql r ⟨G,s,hd,d,due,day⟩=ql r ⟨F,s,hd,d,due,day⟩:=by
 have hb:qU ⟨G,s,hd,d,due,day⟩=qU ⟨F,s,hd,d,due,day⟩:=by simp only[qU,h.signs]
 have ha:((⟨G,s,hd,d,due,day⟩:Cas).file.alters.any fun a=>vL a ⟨G,s,hd,d,due,day⟩)=((⟨F,s,hd,d,due,day⟩:Cas).file.alters.any fun a=>vL a ⟨F,s,hd,d,due,day⟩):=by
  show G.alters.any _=F.alters.any _
  rw[h.alters];rfl
 unfold ql
 rw[hb,ha]
 simp only[h.signs,h.bill,zRj h _ h1,zRj h _ h2]
theorem zIx (r:Rlm) (forum:Int):∀c c':Cas,c.file.signs=c'.file.signs->c.file.bill=c'.file.bill->c.sign=c'.sign->ZZ r forum c=ZZ r forum c':=by
 rintro ⟨⟨b,s,al,ac,fc⟩,sg,hd,de,du,dy⟩ ⟨⟨b',s',al',ac',fc'⟩,sg',hd',de',du',dy'⟩ h1 h2 h3
 dsimp only at h1 h2 h3
 subst h1 h2 h3
 rfl
theorem ZBq {k day:Int} {f g:Fil} (h:At k day f g) (r:Rlm) (forum q:Int) {s hd:Int} (d due:Int) (h1:s≠k) (h2:mxI hd 0≠k):Zm r forum q ⟨g,s,hd,d,due,day⟩=Zm r forum q ⟨f,s,hd,d,due,day⟩:=by
 have e1:(ofV r ⟨g,s,hd,d,due,day⟩).2=(ofV r ⟨f,s,hd,d,due,day⟩).2:=zYy h r d due day h1 h2
 have e2:ZZ r forum (ofV r ⟨g,s,hd,d,due,day⟩).1=ZZ r forum (ofV r ⟨f,s,hd,d,due,day⟩).1:=zIx r forum _ _ h.signs (Eqv.bill h) rfl
 unfold Zm
 rw[e1,e2]
theorem XK {k day:Int} {f g:Fil} (h:At k day f g) (r:Rlm) (forum q:Int) {s hd:Int} (d due:Int) (h1:s≠k) (h2:mxI hd 0≠k):Yf r forum q ⟨g,s,hd,d,due,day⟩=Yf r forum q ⟨f,s,hd,d,due,day⟩:=by
 unfold Yf
 rw[ZBq h r forum q d due h1 h2]
theorem zHq (f:Fil) (day:Int):atV ⟨f.bill,f.signs,f.alters,f.acts,[]⟩ day=⟨(atV f day).bill,(atV f day).signs,(atV f day).alters,(atV f day).acts,[]⟩:=by
 rw[yd,yd];rfl
theorem zEy {k day:Int} {f g:Fil} (h:At k day f g) (r:Rlm) (forum q:Int):Qb r forum q g day=Qb r forum q f day:=by
 refine XK (k:= -7) ?_ r forum q (-1) (-1) (by decide) (by decide)
 unfold At
 rw[zHq,zHq]
 have hb:(atV g day).bill=(atV f day).bill:=Eqv.bill h
 exact ⟨hb,h.signs,h.alters,h.acts,fun _ _=>rfl⟩
theorem zNd {k:Int} {F G:Fil} (h:Eqv k F G):qB G=qB F:=by
 have h2:∀n i a1 k1 a,F.acts.length-i=n->Zs G a1 k1 a i=Zs F a1 k1 a i:=by
  intro n
  induction n with
  |zero=>
   intro i a1 k1 a hn
   have hF:¬i<F.acts.length:=by omega
   unfold Zs
   rw[if_neg hF]
   by_cases hG:i<G.acts.length
   ·obtain ⟨p1,p2⟩:=h.past hF hG
    rw[if_pos hG,p1,if_neg (by simp),if_neg (by simp),Zs,if_neg p2]
   ·rw[if_neg hG]
  |succ n ih=>
   intro i a1 k1 a hn
   have hF:i<F.acts.length:=by omega
   obtain ⟨g1,g2⟩:=h.get hF
   unfold Zs
   rw[if_pos g1,if_pos hF,g2,h.bill,ih _ _ _ _ (by omega),ih _ _ _ _ (by omega)]
 have h1:∀n i a,F.signs.length-i=n->YU G a i=YU F a i:=by
  intro n
  induction n with
  |zero=>
   intro i a hn
   unfold YU
   have hS:¬i<F.signs.length:=by omega
   rw[h.signs,if_neg hS,if_neg hS];exact h2 _ _ _ _ _ rfl
  |succ n ih=>
   intro i a hn
   unfold YU
   have hS:i<F.signs.length:=by omega
   rw[h.signs,if_pos hS,if_pos hS,h.bill,ih _ _ (by omega),ih _ _ (by omega)]
 exact h1 _ _ _ rfl
theorem Ul {k day:Int} {f g:Fil} (h:At k day f g) (r:Rlm) (forum:Int):ZI r forum g day=ZI r forum f day:=by
 unfold ZI
 rw[zEy h.at_,zNd h,h.signs,Eqv.bill h]
structure Seen2 (k:Int) (v w:Dvw):Prop where
 r:w.r=v.r
 forum:w.forum=v.forum
 sign:w.sign=v.sign
 day:w.day=v.day
 due:w.due=v.due
 f:Eqv k v.f w.f
 at_:At k v.day v.f w.f
theorem zPi {k day:Int} {f g:Fil} (h:At k day f g) (r:Rlm) (forum s:Int):Seen2 k (zk r forum f s day) (zk r forum g s day):=⟨rfl,rfl,rfl,rfl,Ul h r forum,h,h.at_⟩
section
variable {k:Int} {v w:Dvw} (h:Seen2 k v w)
include h
theorem Qc (q:Int) (h0:0<=v.sign) (h1:v.sign≠k):zN w q=zN v q:=by
 have h2:mxI v.sign 0≠k:=by unfold mxI;rw[if_neg (by omega)];exact h1
 unfold zN
 rw[h.r,h.forum,h.sign,h.due,h.day]
 exact XK h.at_ v.r v.forum q (-1) v.due h1 h2
theorem wk (said:Sad) (fr:Int):ZH w said fr=ZH v said fr:=by
 unfold ZH;rw[h.r,h.f.bill]
theorem zZi:Yj w=Yj v:=by
 unfold Yj;rw[h.r,h.forum,h.day,zEy h.at_,h.f.bill]
theorem zMq (on:Int) (t:Dtm):ZD w on t=ZD v on t:=by
 unfold ZD;rw[h.day]
theorem zHd {kind:Int} (hk:kind≠6) (fr:Int):yM w kind fr=yM v kind fr:=by
 have h2:∀n i,v.f.acts.length-i=n->yr w kind fr i=yr v kind fr i:=by
  intro n
  induction n with
  |zero=>
   intro i hn
   have hF:¬i<v.f.acts.length:=by omega
   unfold yr
   rw[if_neg hF]
   by_cases hG:i<w.f.acts.length
   ·obtain ⟨p1,p2⟩:=h.f.past hF hG
    rw[if_pos hG,p1,if_neg (by rw[decide_eq_false (fun e:6=kind=>hk e.symm)];simp),yr,if_neg p2]
   ·rw[if_neg hG]
  |succ n ih=>
   intro i hn
   have hF:i<v.f.acts.length:=by omega
   obtain ⟨g1,g2⟩:=h.f.get hF
   unfold yr
   rw[if_pos g1,if_pos hF,g2,h.f.bill,ih _ (by omega)]
 exact h2 _ _ rfl
theorem Uc:yf w=yf v:=by
 unfold yf;rw[h.due,zHd h (by decide)]
theorem WV:ZA w=ZA v:=by
 unfold ZA;rw[h.due,Uc h]
theorem zZu (h0:0<=v.sign) (h1:v.sign≠k):YV w=YV v:=by
 unfold YV
 simp only[h.f.bill,h.due,zHd h (show (2:Int)≠6 by decide),zZi h,zMq h,Uc h,zNd h.f,Qc h _ h0 h1,wk h]
theorem zZt (h0:0<=v.sign) (h1:v.sign≠k):Qu w=Qu v:=by
 have h2:∀n i j a,v.f.acts.length-i=n->yK w j a i=yK v j a i:=by
  intro n
  induction n with
  |zero=>
   intro i j a hn
   have hF:¬i<v.f.acts.length:=by omega
   unfold yK
   rw[if_neg hF]
   by_cases hG:i<w.f.acts.length
   ·obtain ⟨p1,p2⟩:=h.f.past hF hG
    rw[if_pos hG,p1,if_pos (by simp),yK,if_neg p2]
   ·rw[if_neg hG]
  |succ n ih=>
   intro i j a hn
   have hF:i<v.f.acts.length:=by omega
   obtain ⟨g1,g2⟩:=h.f.get hF
   unfold yK
   rw[if_pos g1,if_pos hF,g2]
   simp only[h.f.bill,WV h,wk h,Qc h _ h0 h1,ih (i+1) _ _ (show v.f.acts.length-(i+1)=n by omega)]
 unfold Qu qr
 simp only[wk h,Qc h _ h0 h1,WV h,h.day,h2 _ _ _ _ rfl]
theorem ZAe (h0:0<=v.sign) (h1:v.sign≠k):Qx w=Qx v:=by
 have h3:∀n i k1 a b c,k1<v.f.acts.length->b.length-i=n->yp w a b k1 c i=yp v a b k1 c i:=by
  intro n
  induction n with
  |zero=>
   intro i k1 a b c hk hn
   obtain ⟨g1,g2⟩:=h.f.get hk
   unfold yp
   have hS:¬i<b.length:=by omega
   rw[if_neg hS,if_neg hS]
   simp only[g2,wk h,Qc h _ h0 h1,h.f.signs,h.sign]
  |succ n ih=>
   intro i k1 a b c hk hn
   obtain ⟨g1,g2⟩:=h.f.get hk
   unfold yp
   have hS:i<b.length:=by omega
   rw[if_pos hS,if_pos hS]
   simp only[g2,wk h,Qc h _ h0 h1,ih (i+1) k1 _ _ _ hk (show b.length-(i+1)=n by omega)]
 have h2:∀n i a b,v.f.acts.length-i=n->yb w a b i=yb v a b i:=by
  intro n
  induction n with
  |zero=>
   intro i a b hn
   have hF:¬i<v.f.acts.length:=by omega
   unfold yb
   rw[if_neg hF,h.day]
   by_cases hG:i<w.f.acts.length
   ·obtain ⟨p1,p2⟩:=h.f.past hF hG
    rw[if_pos hG,p1,if_neg (by decide),yb,if_neg p2,h.day]
   ·rw[if_neg hG]
  |succ n ih=>
   intro i a b hn
   have hF:i<v.f.acts.length:=by omega
   obtain ⟨g1,g2⟩:=h.f.get hF
   unfold yb
   rw[if_pos g1,if_pos hF,g2]
   simp only[WV h,wk h,Qc h _ h0 h1,h3 _ _ i _ _ _ hF rfl,ih (i+1) _ _ (show v.f.acts.length-(i+1)=n by omega)]
 unfold Qx
 simp only[wk h,Qc h _ h0 h1,WV h,h2 _ _ _ _ rfl]
end
theorem ZAx {k day:Int} {f g:Fil} (h:At k day f g) (r:Rlm) (forum:Int) {s:Int} (h0:0<=s) (h1:s≠k):Qy r forum g s day=Qy r forum f s day:=by
 have hl:=zPi h r forum s
 have e1:=zZu hl h0 h1
 have e2:=zZt hl h0 h1
 have e3:=ZAe hl h0 h1
 have e4:∀q,zN (zk r forum g s day) q=zN (zk r forum f s day) q:=fun q=>Qc hl q h0 h1
 have e5:=hl.due
 have e6:=hl.f.signs
 unfold Qy
 rw[e1,e2,e3,e4,e4,e5,e6]
theorem ZBy {k day:Int} {f g:Fil} (h:At k day f g) (r:Rlm) (forum:Int):zBr r forum g day=zBr r forum f day:=WV (zPi h r forum 0)
theorem zTk {k:Int} {F G:Fil} (h:Eqv k F G) (i:Int):JB G i=JB F i:=by
 have:∀n j a,F.alters.length-j=n->yn G i a j=yn F i a j:=by
  intro n
  induction n with
  |zero=>
   intro j a hn
   have hS:¬j<F.alters.length:=by omega
   unfold yn
   rw[h.alters,if_neg hS,if_neg hS]
  |succ n ih=>
   intro j a hn
   have hS:j<F.alters.length:=by omega
   unfold yn
   rw[h.alters,if_pos hS,if_pos hS,ih _ _ (by omega),ih _ _ (by omega)]
 unfold JB
 rw[h.bill];exact this _ _ _ rfl
structure Seen3 (k:Int) (v w:Bvw):Prop where
 r:w.r=v.r
 forum:w.forum=v.forum
 day:w.day=v.day
 form:w.form=v.form
 due:w.due=v.due
 f:Eqv k v.f w.f
 at_:At k v.day v.f w.f
theorem KX {k day:Int} {f g:Fil} (h:At k day f g) (r:Rlm) (forum:Int):Seen3 k (ZL r forum f day) (ZL r forum g day):=
 ⟨rfl,rfl,rfl,by show Jz _=Jz _;rw[zEy h.at_],Ul h.at_ r forum,h,h.at_⟩
theorem zZe {k:Int} {F G:Fil} (h:Eqv k F G) (day:Int):wA G day=wA F day:=by
 rcases h.acts with e|⟨p,hp,e⟩
 ·unfold wA;rw[e]
 ·unfold wA
  rw[e,List.foldl_append]
  show (if zMx p day=true then _ else _)=_
  rw[if_neg (by rw[zMx,hp];simp)]
theorem zMw {k:Int} {F G:Fil} (h:Eqv k F G) (s day:Int):qV G s day=qV F s day:=by
 unfold qV;rw[zZe h,h.signs]
section
variable {k:Int} {v w:Bvw} (h:Seen3 k v w)
include h
theorem KW (q:Int) {s:Int} (h0:0<=s) (h1:s≠k):yD w q s=yD v q s:=by
 have h2:mxI s 0≠k:=by unfold mxI;rw[if_neg (by omega)];exact h1
 unfold yD
 rw[h.r,h.forum,h.due,h.day,XK h.at_ v.r v.forum q (-1) v.due h1 h2]
theorem zXu {s:Int} (h0:0<=s) (h1:s≠k):qO w s=qO v s:=by
 have:∀n j a,v.f.alters.length-j=n->yX w s a j=yX v s a j:=by
  intro n
  induction n with
  |zero=>
   intro j a hn
   have hS:¬j<v.f.alters.length:=by omega
   unfold yX
   rw[h.f.alters,if_neg hS,if_neg hS,zTk h.f,KW h 4 h0 h1]
  |succ n ih=>
   intro j a hn
   have hS:j<v.f.alters.length:=by omega
   unfold yX
   rw[h.f.alters,if_pos hS,if_pos hS,ih _ _ (by omega)]
 exact this _ _ _ rfl
theorem zFb {s:Int} (h0:0<=s) (h1:s≠k):qQ w s=qQ v s:=by
 unfold qQ jJ
 rw[zMw h.f,h.day,h.form,KW h 1 h0 h1,KW h 2 h0 h1,zXu h h0 h1,h.f.signs]
end
theorem zBm (r:Rlm) (forum:Int) (f:Fil) (day:Int):∀(m:Nat) (a:List Efc) (i:Nat),(atV f day).signs.length-i=m->i<=(atV f day).signs.length->a=(List.range i).map (fun (j:Nat)=>qQ (ZL r forum f day) j)->yt r forum f day a i=(List.range (atV f day).signs.length).map (fun (j:Nat)=>qQ (ZL r forum f day) j):=by
 intro m
 induction m with
 |zero=>
  intro a i hn hi ha
  have hS:¬i<(ZL r forum f day).f.signs.length:=by show ¬i<(atV f day).signs.length;omega
  have e:i=(atV f day).signs.length:=by omega
  unfold yt
  rw[if_neg hS,ha,e]
 |succ m ih=>
  intro a i hn hi ha
  have hS:i<(ZL r forum f day).f.signs.length:=by show i<(atV f day).signs.length;omega
  unfold yt
  rw[if_pos hS]
  refine ih _ _ (by omega) (by omega) ?_
  rw[ha,List.range_succ,List.map_append];rfl
theorem Jx (r:Rlm) (forum:Int) (f:Fil) (day:Int) {s:Int} (h0:0<=s) (h1:s<(atV f day).signs.length):(ZF r forum f day).getD s.toNat default=qQ (ZL r forum f day) s:=by
 have e:=zBm r forum f day _ [] 0 rfl (Nat.zero_le _) rfl
 rw[show ZF r forum f day=_ from e,List.getD_eq_getElem?_getD,List.getElem?_map,List.getElem?_range (by omega)]
 show qQ _ ((s.toNat:Nat):Int)=_
 rw[Int.toNat_of_nonneg h0]
theorem zXz {k day:Int} {f g:Fil} (h:At k day f g) (r:Rlm) (forum:Int) {s:Int} (h1:s≠k):zX r forum g s day=zX r forum f s day:=by
 have hl:=KX h r forum
 have e:(ZL r forum g day).f.signs=(ZL r forum f day).f.signs:=hl.f.signs
 unfold zX
 rw[e]
 split
 ·rfl
 ·rename_i hc
  rw[Bool.not_eq_true]at hc
  simp only[bb]at hc
  rw[zFb hl (by omega) h1]
theorem zZz {k day:Int} {f g:Fil} (h:At k day f g) (r:Rlm) (forum:Int) {s:Int} (h0:0<=s) (h1:s≠k):qP r forum g s day=qP r forum f s day:=by
 have h2:mxI s 0≠k:=by unfold mxI;rw[if_neg (by omega)];exact h1
 have e1:=zXz h r forum h1
 have e2:=Ul h r forum
 have e3:∀q,Yf r forum q ⟨g,s,s,-1,ZI r forum f day,day⟩=Yf r forum q ⟨f,s,s,-1,ZI r forum f day,day⟩:=fun q=>XK h r forum q (-1) _ h1 h2
 have e4:(atV g day).signs=(atV f day).signs:=h.signs
 have e5:=h.bill
 have hL:∀n i a b c,(atV f day).acts.length-i=n->Yo r forum g s day a b i c=Yo r forum f s day a b i c:=by
  intro n
  induction n with
  |zero=>
   intro i a b c hn
   have hF:¬i<(atV f day).acts.length:=by omega
   unfold Yo
   rw[if_neg hF,e1,e5]
   by_cases hG:i<(atV g day).acts.length
   ·obtain ⟨p1,p2⟩:=Eqv.past h hF hG
    rw[if_pos hG,p1,if_neg (by decide),Yo,if_neg p2,e1,e5]
   ·rw[if_neg hG]
  |succ n ih=>
   intro i a b c hn
   have hF:i<(atV f day).acts.length:=by omega
   obtain ⟨g1,g2⟩:=Eqv.get h hF
   unfold Yo
   rw[if_pos g1,if_pos hF,g2,ih _ _ _ _ (by omega),ih _ _ _ _ (by omega)]
 unfold qP Qv JI JJ
 simp only[e1,e2,e3,e4,e5,hL _ _ _ _ _ rfl]
theorem zQz {α:Type} [Inhabited α] (p:α->Bool):∀(l:List α) (i:Nat),(zO p l i= -1/\l.find? p=none)∨∃j:Nat,zO p l i=((i+j:Nat):Int)/\l.find? p=some (l.getD j default):=by
 intro l
 induction l with
 |nil=>intro i;exact .inl ⟨rfl,rfl⟩
 |cons a l ih=>
  intro i
  unfold zO
  cases h:p a with
  |true=>exact .inr ⟨0,by rw[if_pos rfl];rfl,by rw[List.find?_cons_of_pos h];rfl⟩
  |false=>
   rw[if_neg (by decide),List.find?_cons_of_neg (by rw[h];decide)]
   rcases ih (i+1)with ⟨h1,h2⟩|⟨j,h1,h2⟩
   ·exact .inl ⟨h1,h2⟩
   ·exact .inr ⟨j+1,by rw[h1];congr 1;omega,by rw[h2];rfl⟩
theorem UY (v:Ovw) (kind s:Int):QQ v kind s=match (v.now.facts.filter (fun x=>decide (x.at_=s))).find? (fun x=>decide (x.kind=kind))with|some x=>if x.n=0 then 0 else 1|none=>2:=by
 have e:(v.now.facts.filter (fun x=>decide (x.at_=s))).find? (fun x=>decide (x.kind=kind))=v.now.facts.find? (fun y=>VS y kind s):=by
  rw[List.find?_filter]
  congr 1
  funext x
  unfold VS
  by_cases h1:x.kind=kind<;>by_cases h2:x.at_=s<;>simp[h1,h2]
 rw[e]
 unfold QQ
 rcases zQz (fun y=>VS y kind s) v.now.facts 0 with ⟨h1,h2⟩|⟨j,h1,h2⟩
 ·rw[h1,h2,if_pos (by decide)]
 ·rw[h1,h2,if_neg (by omega),Nat.zero_add];rfl
structure Sim (k day:Int) (f g:Fil):Prop where
 at_:At k day f g
 links:∀part,zJ (zj g day) part=zJ (zj f day) part
 off:∀part l,l∈zJ (zj f day) part->0<=l/\l≠k
theorem zZg {k:Int} {F G:Fil} (h:Eqv k F G):Ko G=Ko F:=by
 rcases h.acts with e|⟨p,hp,e⟩
 ·unfold Ko;rw[e]
 ·unfold Ko
  rw[e,List.foldl_append]
  show (if decide (p.kind=7)=true then _ else _)=_
  rw[if_neg (by rw[hp];decide)]
theorem zPu {k:Int} {F G:Fil} (h:Eqv k F G):YH G=YH F:=by
 have e:ldR G=ldR F:=by
  unfold ldR
  have:ldB G=ldB F:=by funext j;unfold ldB;rw[h.signs,zZg h]
  rw[this,h.signs]
 unfold YH;rw[e]
theorem try_e {k day:Int} {f g:Fil} (h:At k day f g) (r:Rlm) (forum:Int):(YN r forum f day).2=(YN r forum g day).2:=by
 unfold YN;split<;>rfl
structure Seen4 (k:Int) (c d:Crt):Prop where
 r:d.r=c.r
 forum:d.forum=c.forum
 due:d.due=c.due
 day:d.v.day=c.v.day
 lead:d.v.lead=c.v.lead
 now:Eqv k c.v.now d.v.now
 at_:At k c.v.day c.v.now d.v.now
 all:At k c.v.day c.v.all d.v.all
theorem zMm {r:Rlm} {forum:Int} {f:Fil} {day:Int} (h:¬(!(YN r forum f day).2)=true):(YN r forum f day).1=⟨zj f day,r,forum,ZI r forum f day⟩:=by
 unfold YN at h⊢
 split
 ·rename_i h1;rw[if_pos h1]at h;exact absurd rfl h
 ·rfl
theorem zXj {k day:Int} {f g:Fil} (h:At k day f g) (r:Rlm) (forum:Int):Seen4 k ⟨zj f day,r,forum,ZI r forum f day⟩ ⟨zj g day,r,forum,ZI r forum g day⟩:=
 ⟨rfl,rfl,Ul h r forum,rfl,zPu h,h,h.at_,h⟩
section
variable {k:Int} {c d:Crt} (h:Seen4 k c d)
include h
theorem zNf (kind:Int) {s:Int} (h1:s≠k):QQ d.v kind s=QQ c.v kind s:=by
 rw[UY,UY,h.now.facts s h1]
theorem zZv {l last:Int} (h1:l≠k) (h0:0<=last) (h2:last≠k):JG d l last=JG c l last:=by
 have h3:mxI last 0≠k:=by unfold mxI;rw[if_neg (by omega)];exact h2
 unfold JG
 rw[zNf h 0 h1,zNf h 2 h1,h.r,h.forum,h.due,h.day,XK h.at_ c.r c.forum 3 (-1) c.due h1 h3]
theorem zZy (last:Int) (h0:0<=last) (h2:last≠k):∀(l:List Int) (o:Onr),(∀x,x∈l->x≠k)->vg d last l o=vg c last l o:=by
 intro l
 induction l with
 |nil=>intro o _;rfl
 |cons a l ih=>
  intro o hl
  have e:=zZv h (hl a (by simp)) h0 h2
  have hl':∀x,x∈l->x≠k:=fun x hx=>hl x (List.mem_cons_of_mem _ hx)
  rw[vg,vg,e,h.now.signs,ih _ hl',ih _ hl']
theorem own_e (l:List Int) (hl:∀x,x∈l->0<=x/\x≠k):jW d l=jW c l:=by
 have e0:HM d=HM c:=by unfold HM;rw[h.now.bill]
 unfold jW
 rw[e0]
 cases l with
 |nil=>rfl
 |cons a l=>
  have hm:JP (a::l)∈a::l:=by
   unfold JP
   exact zK (by simp only[List.length_cons];omega)
  obtain ⟨h1,h2⟩:=hl _ hm
  exact zZy h _ h1 h2 _ _ fun x hx=>(hl x hx).2
theorem zZw (s:Int):JH d.v s=JH c.v s:=by
 unfold JH;rw[h.lead,h.now.signs]
theorem ZAs (part by_:Int) (links:List Int):∀n,qa d.v part by_ links n=qa c.v part by_ links n:=by
 intro n
 induction n with
 |zero=>rfl
 |succ n ih=>
  have e:∀l,vi d.v by_ links l n=vi c.v by_ links l n:=fun l=>by unfold vi;rw[h.now.signs]
  rw[qa,qa,ih,zZw h,e]
theorem lia_e (part by_:Int) (links:List Int):Zc d.v part by_ links=Zc c.v part by_ links:=by
 unfold Zc;rw[ZAs h,h.now.signs]
theorem bas_e (s:Int):QH d.v s=QH c.v s:=by
 have:∀n s,qR d.v.now n s=qR c.v.now n s:=by
  intro n
  induction n with
  |zero=>intro s;rfl
  |succ n ih=>intro s;rw[qR,qR,h.now.signs,ih]
 exact this _ _
theorem st_e (o:Onr) {s:Int} (links:List Int) (effs effs':List Efc) (h0:0<=QH c.v s) (h1:QH c.v s≠k) (he:(effs'.getD s.toNat default).binds=(effs.getD s.toNat default).binds) (hr:(effs'.getD (QH c.v s).toNat default).recourse=(effs.getD (QH c.v s).toNat default).recourse):stO d o s links effs'=stO c o s links effs:=by
 have e1:=bas_e h s
 have e2:Qy d.r d.forum d.v.all (QH c.v s) d.v.day=Qy c.r c.forum c.v.all (QH c.v s) c.v.day:=by
  rw[h.r,h.forum,h.day];exact ZAx h.all c.r c.forum h0 h1
 have e3:(d.v.now.acts.any fun y=>ut y)=c.v.now.acts.any fun y=>ut y:=by
  rcases h.now.acts with e|⟨p,hp,e⟩<;>rw[e]
  rw[List.any_append]
  simp[ut,hp]
 have hL:∀n i a b,links.length-i=n->JD d o s links effs' a b i=JD c o s links effs a b i:=by
  intro n
  induction n with
  |zero=>
   intro i a b hn
   have hS:¬i<links.length:=by omega
   unfold JD
   rw[if_neg hS,if_neg hS,e1,he,e2]
  |succ n ih=>
   intro i a b hn
   have hS:i<links.length:=by omega
   unfold JD
   rw[if_pos hS,if_pos hS,e1]
   simp only[ih (i+1) _ _ (show links.length-(i+1)=n by omega)]
 unfold stO
 rw[e1,h.now.signs,h.due,h.day,he,hr,e3,hL _ _ _ _ rfl]
end
def yh (k:Int) (F:Fil) (s:Int):Bool:= !decide (s=k)&& !decide (QG F s=k)
theorem jc {α:Type} (p:Clm->Bool) {g1 g2:List Clm->α->List Clm} :∀(l:List α) (a b:List Clm),a.filter p=b.filter p->(∀x,x∈l->∀a b,a.filter p=b.filter p->(g1 a x).filter p=(g2 b x).filter p)->(l.foldl g1 a).filter p=(l.foldl g2 b).filter p:=by
 intro l
 induction l with
 |nil=>intro a b h _;exact h
 |cons x l ih=>intro a b h hg;exact ih _ _ (hg x (by simp) a b h) fun y hy=>hg y (List.mem_cons_of_mem _ hy)
theorem clm_e {k day:Int} {f g:Fil} (h:Sim k day f g) (hB:Zj f) (r:Rlm) (forum:Int):(qc r forum g day).filter (fun x=>yh k (atV f day) x.sign)=(qc r forum f day).filter (fun x=>yh k (atV f day) x.sign):=by
 have ht:=try_e h.at_ r forum
 by_cases hc:(!(YN r forum f day).2)=true
 ·rw[qc,qc,if_pos hc,if_pos (by rw[<-ht];exact hc)]
 ·have hc':¬(!(YN r forum g day).2)=true:=by rw[<-ht];exact hc
  rw[qc,qc,if_neg hc,if_neg hc']
  have hF:=zMm hc
  have hG:=zMm hc'
  have hC:=zXj h.at_ r forum
  have hle:YH (atV g day)=YH (atV f day):=zPu h.at_
  rw[hle]
  refine jc _ _ _ _ rfl fun p _ a b hab=> ?_
  have hlk:=h.links p
  unfold WX
  rw[hF,hG,hlk,own_e hC _ (fun x hx=>h.off p x hx)]
  refine jc _ _ _ _ hab fun o _ a b hab=> ?_
  unfold wC
  rw[hlk,lia_e hC p o.sign (zJ (zj f day) p)]
  refine jc _ _ _ _ hab fun s hs a b hab=> ?_
  have hsr:=(Vp _ _ _ _).2 s hs
  have hs2:s<(atV f day).signs.length:=hsr.2
  have hbr:=zSq (hB.at_ day) ⟨hsr.1,hs2⟩
  have hsg:(atV g day).signs=(atV f day).signs:=h.at_.signs
  unfold WW
  rw[hF,hG,hlk,hsg,h.at_.bill]
  by_cases hk:yh k (atV f day) s=true
  ·have hk1:s≠k:=by intro e;simp[yh,e]at hk
   have hk2:QG (atV f day) s≠k:=by intro e;simp[yh,e]at hk
   have e1:((ZF r forum g day).getD s.toNat default).binds=((ZF r forum f day).getD s.toNat default).binds:=by
    rw[Jx r forum f day hsr.1 hs2,Jx r forum g day hsr.1 (by rw[hsg];exact hs2),zFb (KX h.at_ r forum) hsr.1 hk1]
   have e2:((ZF r forum g day).getD (QG (atV f day) s).toNat default).recourse=((ZF r forum f day).getD (QG (atV f day) s).toNat default).recourse:=by
    rw[Jx r forum f day hbr.1 hbr.2,Jx r forum g day hbr.1 (by rw[hsg];exact hbr.2),zFb (KX h.at_ r forum) hbr.1 hk2]
   rw[st_e hC o (zJ (zj f day) p) (ZF r forum f day) (ZF r forum g day) hbr.1 hk2 e1 e2,zZz h.at_ r forum hsr.1 hk1]
   split
   ·exact hab
   ·rw[List.filter_append,List.filter_append,hab]
  ·have hf:∀x:Clm,x.sign=s-> [x].filter (fun x=>yh k (atV f day) x.sign)= []:=fun x hx=>List.filter_cons_of_neg (by rw[hx];exact hk)
   have e:∀(q:Prop) [Decidable q] (l:List Clm) (x:Clm),x.sign=s->(if q then l else l++ [x]).filter (fun x=>yh k (atV f day) x.sign)=l.filter (fun x=>yh k (atV f day) x.sign):=fun q _ l x hx=>by
    split
    ·rfl
    ·rw[List.filter_append,hf x hx,List.append_nil]
   rw[e _ _ _ rfl,e _ _ _ rfl,hab]
end Go.Gh
