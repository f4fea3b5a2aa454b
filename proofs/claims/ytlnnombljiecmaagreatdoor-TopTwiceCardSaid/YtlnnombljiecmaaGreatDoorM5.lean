/- Walks by the logic of calls, and plain laws (several texts in one). -/
import Derived.Test.YtlnnombljiecmaaGreatDoorM3
import Derived.Test.YtlnnombljiecmaaGreatDoorGh4
import Derived.Test.YtlnnombljiecmaaGreatDoorM4
namespace Go.Gh
open Go Go.Proofs
set_option maxRecDepth 1000000
set_option maxHeartbeats 2000000
set_option linter.unusedSimpArgs false
set_option linter.unusedVariables false
set_option linter.unnecessarySimpa false
set_option linter.unusedSectionVars false
variable [Dep]
open Go.RowKit
def Wl (l:List Int) (k:Int):List Int:=if k∈l then l else l++ [k]
def zDp (a:Act) (day:Int):Bool:=bif decide (a.kind=7)then decide (a.day<=day)else false
def JO (f:Fil) (day:Int):List Int:=f.acts.foldl (fun l a=>if zDp a day=true then Wl l a.at_ else l) []
def jW (k:Int):Value×Value:=(.int .i64 k,.bool true)
theorem vh (k:Int):∀l:List Int,KT (.int .i64 k) (.bool true) (l.map jW)=some ((Wl l k).map jW):=by
 intro l
 induction l with
 |nil=>rfl
 |cons a l ih=>
  show (match some (decide (k=a))with|some true=>_|some false=>_|none=>_)=_
  by_cases e:k=a
  ·subst e
   rw[decide_eq_true rfl]
   simp[Wl,jW]
  rw[decide_eq_false e]
  show (match KT (.int .i64 k) (.bool true) (l.map jW)with|some l'=>some (jW a::l')|none=>none)=_
  rw[ih]
  simp only[Wl,List.mem_cons,e,false_or]
  split<;>rfl
theorem zQw (k:Int):∀l:List Int,KU (.int .i64 k) (l.map jW)=some (if k∈l then some (.bool true)else none):=by
 intro l
 induction l with
 |nil=>rfl
 |cons a l ih=>
  show (match some (decide (k=a))with|some true=>_|some false=>_|none=>_)=_
  by_cases e:k=a
  ·subst e
   rw[decide_eq_true rfl]
   simp[jW]
  rw[decide_eq_false e]
  show KU (.int .i64 k) (l.map jW)=_
  rw[ih]
  simp[e]
theorem Ke (k:Int) (l:List Int):zIo (.int .i64 k) (l.map jW) (.bool false) (.bool (decide (k∈l))) (decide (k∈l)):=by
 by_cases h:k∈l
 ·exact .inl ⟨decide_eq_true h,by rw[zQw,iP h,decide_eq_true h]⟩
 exact .inr ⟨decide_eq_false h,by rw[decide_eq_false h],by rw[zQw,iQ h]⟩
theorem yb {α β:Type} [Inhabited α] (g:β->α->β) (z:β) (l:List α) (k:Nat) (hk:k<l.length):(l.take (k+1)).foldl g z=g ((l.take k).foldl g z) (l.getD k dF):=by
 rw[List.take_succ_eq_append_getElem hk,List.foldl_append]
 simp[List.getD_eq_getElem?_getD,List.getElem?_eq_getElem hk]
theorem XA (f:Fil) (day:Int) (hF:FitFi f):GM Tryz.prog 80 [fiG f,iG day] [] (.mp 0) [some (.mp ((JO f day).map jW))]:=by
 have g3:=hF.acts
 refine ZX Tryz.func80 ?_
 refine gE [1,2] ?_
 refine zz 0 ?_
 refine gE [1,2,5] ?_
 refine gE [1,5,10,11,12] ?_
 refine zI (α:=List Int×Nat) (fun x=>x.2<=f.acts.length/\x.1=(f.acts.take x.2).foldl (fun l a=>if zDp a day=true then Wl l a.at_ else l) []) (fun x=>[(12,iG x.2)]) (fun x=>[(1,some (.mp (x.1.map jW)))]) (fun x=>f.acts.length-x.2) ([],0) ⟨Nat.zero_le _,rfl⟩ ?_ (hp:=t45)
 rintro ⟨L,k⟩ ⟨hk,hL⟩
 dsimp only at*
 refine gE [1,5,10,11,12,13] ?_
 refine zB (fun c1=> ?_) (fun c1=> ?_)
 ·refine gP [] [1,5,7,10,11,12] ?_
  refine gE [1,5,7,10,11,12,24] ?_
  refine zF (fun c2=> ?_) (fun c2=> ?_)
  ·refine gR [.mp ((Wl L (f.acts.getD k dF).at_).map jW)] [1,5,10,11,12] ?_ (hp:=by simp only[zC];first|exact vh _ _|exact ⟨vh _ _,trivial⟩)
   refine gP [] [1,5,10,11,12] ?_
   refine zD (Wl L (f.acts.getD k dF).at_,k+1) ⟨by dsimp only;omega,?_⟩ (hp:=t45) (hm:=by dsimp only;omega)
   rw[yb _ _ _ _ t11,<-hL]
   exact (iP c2).symm
  refine gP [] [1,5,10,11,12] ?_
  refine zD (L,k+1) ⟨by dsimp only;omega,?_⟩ (hp:=t45) (hm:=by dsimp only;omega)
  rw[yb _ _ _ _ t11,<-hL]
  exact (iQ (by rw[show zDp (f.acts.getD k dF) day=false from c2];decide)).symm
 have e:k=f.acts.length:=by omega
 subst e
 rw[List.take_length]at hL
 refine gE [4] ?_
 refine Kq env [.mp 0] (hp:= ?_)
 simp only[zC]
 first|exact ⟨by rw[hL];rfl,trivial⟩|(rw[hL];rfl)
def UA (f:Fil) (part day:Int) (k:Nat):Bool:=bif bif bif decide ((f.bF.getD k dF).kind=2)then decide ((f.bF.getD k dF).part=part)else false then decide ((f.bF.getD k dF).day<=day)else false then !decide ((k:Int)∈JO f day)else false
def Jt (f:Fil) (part day:Int):List Nat:=(List.range f.bF.length).filter (UA f part day)
theorem zKm {p:Nat->Bool} {n k:Nat} (hk:k<n) (h:p k=true):∃rest,(List.range k).filter p++k::rest=(List.range n).filter p/\(List.range (k+1)).filter p=(List.range k).filter p++ [k]:=by
 obtain ⟨m,rfl⟩:∃m,n=k+1+m:=⟨n-(k+1),by omega⟩
 have e1:(List.range (k+1)).filter p=(List.range k).filter p++ [k]:=by rw[List.range_succ,List.filter_append];simp[h]
 refine ⟨((List.range m).map (k+1+·)).filter p,?_,e1⟩
 rw[List.range_add,List.filter_append,e1];simp
theorem zKn {p:Nat->Bool} {k:Nat} (h:p k=false):(List.range (k+1)).filter p=(List.range k).filter p:=by rw[List.range_succ,List.filter_append];simp[h]
theorem zZf (f:Fil) (part day:Int) (hF:FitFi f):Xv Tryz.prog 79 [.ep (fiC f),.ep [.sc (.int .i64 day)],.ep [.sc (.int .i64 part)]] (fun k:Nat=>[iG k,sgG (f.bF.getD k dF)]) (Jt f part day):=by
 have g1:=hF.bF
 refine Jm Tryz.func79 fun C hg hN=> ?_
 refine (yZ (c':=_) (K':=_) (n:=1000) (K:=[]) rfl ?_:GYK C _ (zOb _) _ [] _ _).gy
 refine ze env false [.callm [] (XA f day hF)] [0,1,2,3,5] ?_ (hp:=t14)
 refine ze env false [] [0,1,2,3,5,12,13,14] ?_
 refine Xw (β:=List Nat×Nat) (fun x=>x.2<=f.bF.length/\x.1=(List.range x.2).filter (UA f part day)) (fun x=>[(14,iG x.2)]) (fun _=>[]) (fun x=>(true,x.1)) (fun x=>f.bF.length-x.2) ([],0) ⟨Nat.zero_le _,rfl⟩ ?_
 rintro ⟨pre,k⟩ ⟨ha,he⟩
 dsimp only at*
 refine ze env false [] [0,1,2,3,5,12,13,14,15] ?_
 refine Vm (fun c1=> ?_) (fun c1=> ?_)
 ·have hk:k<f.bF.length:=by omega
  refine ze env false [] [0,1,2,3,5,6,7,12,13,14] ?_ (hp:=t14)
  cases ho:UA f part day k with
  |true=>
   obtain ⟨rest,hr,hr1⟩:=zKm hk ho
   refine wp ?_
   refine Yh env false 22 [.look (.bool (decide ((k:Int)∈JO f day))) (decide ((k:Int)∈JO f day))] ?_ (hp:=by simp only[zC,bb,toN];repeat' first|exact trivial|exact Ke _ _|apply And.intro|intro _|omega|(simp_all;done))
   refine Ve 40 ho ?_
   refine Yh env false 3 [] ?_
   refine JS k rest (by rw[hN,he];exact hr) (by rw[hg]) fun b=> ?_
   refine Yh env false 2 [] ?_
   refine wo [0,1,2,3,5,12,13,14,46] ?_
   refine Ur (fun c2=> ?_) (fun c2=> ?_)
   ·cases b with
    |true=>cases c2
    |false=>exact zDb (.inr rfl)
   refine ze env false [] [0,1,2,3,5,12,13,14] ?_
   cases b with
   |false=>cases c2
   |true=>exact jG (pre++ [k],k+1) ⟨hk,by dsimp only;rw[hr1,he]⟩
  |false=>
   refine wp ?_
   refine Yh env false 22 [.look (.bool (decide ((k:Int)∈JO f day))) (decide ((k:Int)∈JO f day))] ?_ (hp:=by simp only[zC,bb,toN];repeat' first|exact trivial|exact Ke _ _|apply And.intro|intro _|omega|(simp_all;done))
   refine Ve 40 ho ?_
   refine Yh env false 6 [.no,.nu] ?_
   refine wo [0,1,2,3,5,12,13,14,46] ?_
   refine Ur (fun c2=> ?_) (fun c2=> ?_)
   ·cases c2
   refine ze env false [] [0,1,2,3,5,12,13,14] ?_
   exact jG (pre,k+1) ⟨hk,by dsimp only;rw[zKn ho,he]⟩
 have e:k=f.bF.length:=by omega
 refine vM (.inl ?_)
 rw[he,e];rfl
theorem zZe (f:Fil) (part day:Int):GC Tryz.prog 47 [fiG f,iG part,iG day] (.fn (.func 79) [] [.ep (fiC f),.ep [.sc (.int .i64 day)],.ep [.sc (.int .i64 part)]]):=by
 refine zA Tryz.func47 ?_
 refine gE [3,4,5] ?_
 refine zz 0 ?_
 refine zz 1 ?_
 refine zz 2 ?_
 refine gE [6] ?_
 refine gT ?_
 rfl
def qo (f:Fil) (sign day:Int):Bool:=bif bif decide (0<=sign)then decide (sign<f.bF.length)else false then decide (sign∈JO f day)else false
theorem zDn (f:Fil) (sign day:Int) (hF:FitFi f):GC Tryz.prog 182 [fiG f,iG sign,iG day] (bG (qo f sign day)):=by
 refine zA Tryz.func182 ?_
 refine gE [1,2,3] ?_
 refine Jn ?_
 refine ZC env false 10 [] ?_
 cases hc:(bif decide (0<=sign)then decide (sign<f.bF.length)else false)with
 |true=>
  refine ZC env false 7 [.callm [] (XA f day hF),.look (.bool (decide (sign∈JO f day))) (decide (sign∈JO f day))] ?_ (hp:=by simp only[zC,bb,toN];repeat' first|exact trivial|exact zH.refl _|exact zE.refl _|exact Ke _ _|apply And.intro|intro _|omega|(simp_all;done))
  refine Yo [6] ?_
  refine gT ?_
  rw[qo,hc];rfl
 |false=>
  refine ZC env false 4 [.no] ?_
  refine zSc (bG false) ?_
  refine ZC env false 2 [] ?_
  refine Yo [6] ?_
  refine gT ?_
  rw[qo,hc];rfl
def ZV (f:Fil) (first:Int) (was:Bool) (c:Chn) (i:Nat):Chn:=
 ⟨c.bF++ [(i:Int)],(f.bF.getD i dF).to_,c.bN,decide ((f.bF.getD i dF).to_= -1),vX c.agent (f.bF.getD i dF).flags,if (bif was then decide (first<(f.bF.getD i dF).day)else false)=true then c.late++ [(i:Int)]else c.late⟩
def vt (f:Fil) (c:Chn) (i:Nat):Bool:=bif !c.bearer then !decide ((f.bF.getD i dF).who=c.bM)else false
def yu (f:Fil) (first:Int) (was:Bool):List Nat->Chn->Chn
 | [],c=>c
 |i::l,c=>if vt f c i=true then {c with bN:=i} else yu f first was l (ZV f first was c i)
def Za (f:Fil):Chn:=⟨[],f.bill.bQ,-1,decide (f.bill.bQ= -1),0,[]⟩
def JA (f:Fil) (part day:Int):Chn:=yu f (zX f day).1 (zX f day).2 (Jt f part day) (Za f)
theorem zKc (f:Fil) (first:Int) (was:Bool):∀(l:List Nat) (c:Chn),(l.foldl (ZV f first was) c).bF.length=c.bF.length+l.length/\(l.foldl (ZV f first was) c).late.length<=c.late.length+l.length:=by
 intro l
 induction l with
 |nil=>intro c;simp
 |cons a l ih=>
  intro c
  obtain ⟨h1,h2⟩:=ih (ZV f first was c a)
  have h3:(ZV f first was c a).bF.length=c.bF.length+1:=by simp[ZV]
  have h4:(ZV f first was c a).late.length<=c.late.length+1:=by
   show (if _ then _ else _:List Int).length<=_
   split<;>simp
  simp only[List.foldl_cons,List.length_cons]
  omega
theorem uz (f:Fil) (part day:Int):(Jt f part day).length<=f.bF.length:=by
 have:=List.length_filter_le (UA f part day) (List.range f.bF.length)
 simpa [Jt]using this
theorem Kz {f:Fil} {part day:Int} {k:Nat} (h:k∈Jt f part day):k<f.bF.length:=by
 simpa using (List.mem_filter.1 h).1
theorem zCl (f:Fil) (part day:Int) (hF:FitFi f):GC Tryz.prog 19 [fiG f,iG part,iG day] (chG (JA f part day)):=by
 have g1:=hF.bF
 have g3:=hF.acts
 refine zA Tryz.func19 ?_
 refine gE [1,2,3,6] ?_
 refine gE [1,2,3,6,7] ?_
 refine gR [.call (zZh f day t11)] [1,2,3,6,7,8,9] ?_
 refine gR [.call (zZe f part day)] [6,7,8,9,29] ?_
 refine Qo 2 0 3 1 (dF:Int) inC ?_
 refine Qo 2 5 3 1 (dF:Int) inC ?_
 have hlen:=uz f part day
 refine vn 5 7 (fun k:Nat=>[iG k,sgG (f.bF.getD k dF)]) (Jt f part day) (fun pre=>[(1,some (.box [.d (.sc (.slice none 0 0)),iG 0,iG 0,bG false,iG 0,.d (.sc (.slice none 0 0))])),(2,some (.box [.sl 5 1 0 (pre.foldl (ZV f (zX f day).1 (zX f day).2) (Za f)).bF.length,iG (pre.foldl (ZV f (zX f day).1 (zX f day).2) (Za f)).bM,iG (pre.foldl (ZV f (zX f day).1 (zX f day).2) (Za f)).bN,bG (pre.foldl (ZV f (zX f day).1 (zX f day).2) (Za f)).bearer,iG (pre.foldl (ZV f (zX f day).1 (zX f day).2) (Za f)).agent,.sl 6 1 0 (pre.foldl (ZV f (zX f day).1 (zX f day).2) (Za f)).late.length])),(3,some (.box [iG (zX f day).1])),(4,some (.box [bG (zX f day).2])),(5,some (.row 3 1 dF inC (pre.foldl (ZV f (zX f day).1 (zX f day).2) (Za f)).bF 0)),(6,some (.row 3 1 dF inC (pre.foldl (ZV f (zX f day).1 (zX f day).2) (Za f)).late 0))]) (fun pre=>∀rest,pre++rest=Jt f part day->JA f part day=yu f (zX f day).1 (zX f day).2 rest (pre.foldl (ZV f (zX f day).1 (zX f day).2) (Za f))) (zZf f part day hF) (fun rest h=>by subst h;rfl) ?_ ?_
 ·rintro pre k rest he hI
  have hk:k<f.bF.length:=Kz (part:=part) (day:=day) (by rw[<-he];simp)
  have hI1:=hI _ he
  have hl:=zKc f (zX f day).1 (zX f day).2 pre (Za f)
  have hpl:pre.length+1<=(Jt f part day).length:=by rw[<-he];simp
  obtain ⟨c,hc⟩:∃c,c=pre.foldl (ZV f (zX f day).1 (zX f day).2) (Za f):=⟨_,rfl⟩
  rw[<-hc]at hI1 hl⊢
  simp only[show (Za f).bF.length=0 from rfl,show (Za f).late.length=0 from rfl]at hl
  have hfold:(pre++ [k]).foldl (ZV f (zX f day).1 (zX f day).2) (Za f)=ZV f (zX f day).1 (zX f day).2 c k:=by rw[List.foldl_append,<-hc];rfl
  have hnext:vt f c k=false->∀rest',(pre++ [k])++rest'=Jt f part day->JA f part day=yu f (zX f day).1 (zX f day).2 rest' (ZV f (zX f day).1 (zX f day).2 c k):=fun c1 rest' h=>by
   have h2:=hI (k::rest') (by rw[<-h];simp)
   rw[<-hc,yu,iQ (by rw[c1];decide)]at h2
   exact h2
  have z1:(ZV f (zX f day).1 (zX f day).2 c k).bF=c.bF++ [(k:Int)]:=rfl
  have z2:(ZV f (zX f day).1 (zX f day).2 c k).bM=(f.bF.getD k dF).to_:=rfl
  have z3:(ZV f (zX f day).1 (zX f day).2 c k).bN=c.bN:=rfl
  have z4:(ZV f (zX f day).1 (zX f day).2 c k).bearer=decide ((f.bF.getD k dF).to_= -1):=rfl
  have z5:(ZV f (zX f day).1 (zX f day).2 c k).agent=vX c.agent (f.bF.getD k dF).flags:=rfl
  have z6:(ZV f (zX f day).1 (zX f day).2 c k).late=if (bif (zX f day).2 then decide ((zX f day).1<(f.bF.getD k dF).day)else false)=true then c.late++ [(k:Int)]else c.late:=rfl
  rw[hfold]
  generalize ZV f (zX f day).1 (zX f day).2 c k=z at z1 z2 z3 z4 z5 z6 hnext⊢
  refine gE [6,7,8,9,10,31] ?_
  refine gE [6,7,8,9,10,11] ?_
  refine zFq ?_
  refine gE [6,7,8,9,10,11,41] ?_
  refine zF (fun c1=> ?_) (fun c1=> ?_)
  ·refine gE [6,7] ?_
   refine zSl ?_
   refine gE [6,7] ?_
   refine gT ?_
   rw[hI1,yu,iP (show vt f c k=true from c1)];rfl
  refine gU [.el dF inC [(k:Int)],.el dF inC (c.bF++ [(k:Int)])] [6,7,8,9,10,11] ?_
  refine gR [.call (zJz c.agent (f.bF.getD k dF).flags)] [6,7,8,9,10,11] ?_
  refine gE [6,7,8,9,10,11,69] ?_
  refine zF (fun c2=> ?_) (fun c2=> ?_)
  ·refine gU [.el dF inC [(k:Int)],.el dF inC (c.late++ [(k:Int)])] [6,7] ?_
   rw[iP c2]at z6
   exact um (hnext c1) (hps:=by simp only[zC,z1,z2,z3,z4,z5,z6];repeat' first|exact trivial|exact rfl|(simp;done)|apply And.intro)
  rw[iQ (by rw[c2];decide)]at z6
  exact um (hnext c1) (hps:=by simp only[zC,z1,z2,z3,z4,z5,z6];repeat' first|exact trivial|exact rfl|(simp;done)|apply And.intro)
 intro hI
 have hI1:=hI [] t25
 refine gE [6,7] ?_
 refine gT ?_
 rw[hI1];rfl
def QW (v:Bvw) (sign:Int) (jb_3_3_1:Int):Efc:=if (bif decide (((v.f.bF.getD sign.toNat dF).kind)=1)then true else decide (((v.f.bF.getD sign.toNat dF).kind)=4))=true then ⟨sign,(v.f.bF.getD sign.toNat dF).kind,(v.f.bF.getD sign.toNat dF).who,jb_3_3_1,(qP v sign).1,mnI ((qP v sign).2) ((v.f.bF.getD sign.toNat dF).sum),(bif (!decide (((v.f.bF.getD sign.toNat dF).kind)=1))then decide ((YA .i64 ((v.f.bF.getD sign.toNat dF).flags) 1)=0)else false)⟩else ⟨sign,(v.f.bF.getD sign.toNat dF).kind,(v.f.bF.getD sign.toNat dF).who,jb_3_3_1,(qP v sign).1,(qP v sign).2,(bif (!decide (((v.f.bF.getD sign.toNat dF).kind)=1))then decide ((YA .i64 ((v.f.bF.getD sign.toNat dF).flags) 1)=0)else false)⟩
def qD (v:Bvw) (sign:Int):Efc:=if (!(qo v.f sign v.day))=true then QW v sign (vu [v.form,(yW v 1 sign),(yW v 2 sign)])else QW v sign 0
theorem zJi (v:Bvw) (sign:Int) (hR:RR v.r) (hF:FitFi v.f) (hs:0<=sign/\sign<v.f.bF.length):GC Tryz.prog 142 [bvG v,iG sign] (efG (qD v sign)):=by
 have hr:=hR.right.fit
 refine zA Tryz.func142 ?_
 refine gE [1,2,4] ?_
 refine gE [1,2,4,5] ?_
 refine gE [1,2,4,5,6] ?_
 refine gR [.call (zDn v.f sign v.day (by first|assumption|exact FitFi.at_ t12 _))] [1,2,4,5,6,34] ?_
 refine yO (α:=Int) (fun x=>qD v sign=QW v sign x) (fun x=>⟨[(1,iG sign),(2,.ptr 0 0 0 0),(4,.ptr 1 0 0 0),(5,.ptr 2 0 0 0),(6,.ptr 3 0 0 0)],[(0,some (.box [.d (.row dF zf v.r.bA),.d (.row dF ctC v.r.bB),.d (.row dF inC v.r.groups),.d (.row dF fmC v.r.bC),.d (.row dF odC v.r.bD),.d (.row dF usC v.r.bE),.d (.row dF rtC v.r.rates),.d (.row dF htC v.r.halts),iG v.bK,iG v.day,iG v.f.bill.bP,iG v.f.bill.bO,iG v.f.bill.bQ,iG v.f.bill.sum,iG v.f.bill.cur,iG v.f.bill.ten.kind,iG v.f.bill.ten.n,iG v.f.bill.ten.unit,iG v.f.bill.day,iG v.f.bill.city,iG v.f.bill.pay,iG v.f.bill.need,iG v.f.bill.rate,iG v.f.bill.flags,iG v.f.bill.parts,.d (.row dF sgC v.f.bF),.d (.row dF alC v.f.bH),.d (.row dF acC v.f.acts),.d (.row dF fcC v.f.facts),iG v.form,iG v.due])),(1,some (.box [iG 0,iG 0,iG 0,iG 0,iG 0,iG 0,bG false])),(2,some (.box [iG ((v.f.bF.getD sign.toNat dF).kind),iG ((v.f.bF.getD sign.toNat dF).part),iG ((v.f.bF.getD sign.toNat dF).who),iG ((v.f.bF.getD sign.toNat dF).for_),iG ((v.f.bF.getD sign.toNat dF).to_),iG ((v.f.bF.getD sign.toNat dF).sum),iG ((v.f.bF.getD sign.toNat dF).day),iG ((v.f.bF.getD sign.toNat dF).city),iG ((v.f.bF.getD sign.toNat dF).flags)])),(3,some (.box [iG sign,iG ((v.f.bF.getD sign.toNat dF).kind),iG ((v.f.bF.getD sign.toNat dF).who),iG x,iG 0,iG 0,bG (bif (!decide (((v.f.bF.getD sign.toNat dF).kind)=1))then decide ((YA .i64 ((v.f.bF.getD sign.toNat dF).flags) 1)=0)else false)]))],4⟩) ?_ ?_
 ·rintro jb_3_3_1 hjc1
  refine gR [.call (zUf v sign hR hF)] [4,5,6] ?_
  refine gE [4,5,6,61] ?_
  refine zF ?_ ?_<;>intro c1<;>try simp only[bb,toN]at c1
  ·refine gE [4,6] ?_
   refine gE [4] ?_
   refine gT ?_
   rw[hjc1,QW,iP (show (bif decide (((v.f.bF.getD sign.toNat dF).kind)=1)then true else decide (((v.f.bF.getD sign.toNat dF).kind)=4))=true by (try simp only[bb,toN]);exact c1)];rfl
  refine gE [4] ?_
  refine gT ?_
  rw[hjc1,QW,iQ (show ¬((bif decide (((v.f.bF.getD sign.toNat dF).kind)=1)then true else decide (((v.f.bF.getD sign.toNat dF).kind)=4))=true)by rw[Bool.not_eq_true];(try simp only[bb,toN]);exact c1)];rfl
 refine zF ?_ ?_<;>intro c2<;>try simp only[bb,toN]at c2
 ·refine gR [.call (UL v 1 sign hR hF),.call (UL v 2 sign hR hF),.el dF inC [v.form,(yW v 1 sign),(yW v 2 sign)],.call (zCq [v.form,(yW v 1 sign),(yW v 2 sign)] t17)] [1,2,4,5,6] ?_
  refine zV ((vu [v.form,(yW v 1 sign),(yW v 2 sign)])) ?_ (hp:=t40)
  exact by rw[qD,iP (show (!(qo v.f sign v.day))=true by (try simp only[bb,toN]);exact c2)]
 refine zV (0) ?_ (hp:=t40)
 exact by rw[qD,iQ (show ¬((!(qo v.f sign v.day))=true)by rw[Bool.not_eq_true];(try simp only[bb,toN]);exact c2)]
def YL (r:Rlm) (bK:Int) (f:Fil) (day:Int) (a10_1:List Efc) (k1:Nat):List Efc:=if k1<(((ZU r bK f day).f).bF).length then YL r bK f day (a10_1++ [(qD (ZU r bK f day) (k1:Int))]) (k1+1)else a10_1
termination_by (((ZU r bK f day).f).bF).length-k1
def ZM (r:Rlm) (bK:Int) (f:Fil) (day:Int):List Efc:=YL r bK f day [] 0
theorem zUj (r:Rlm) (bK:Int) (f:Fil) (day:Int) (hR:RR r) (hF:FitFi f):GC Tryz.prog 97 [rlG r,iG bK,fiG f,iG day] (.d (.row dF efC (ZM r bK f day))):=by
 have hr:=hR.right.fit
 have h1:=hr.bD
 have h2:=hr.bB
 have h3:=hr.bC
 have hF2:=hF.at_ day
 have g1:(ZU r bK f day).f.bF.length<=1000:=hF2.bF
 refine zA Tryz.func97 ?_
 refine gE [1,3,4,6,8] ?_
 refine gR [.call (zCm r bK f day hR (by first|assumption|exact FitFi.at_ t12 _|exact FitFi.nof t12|exact FitFi.nof (FitFi.at_ t12 _)))] [8,9] ?_
 refine gE [8,9,10] ?_
 refine gE [8,9,10,20,21] ?_
 refine YV 10 226 7 (dF:Efc) efC t26 t26 ?_
 refine zI (α:=List Efc×Nat) (fun x=>x.2<=(((ZU r bK f day).f).bF).length/\YL r bK f day [] 0=YL r bK f day x.1 x.2/\x.1.length<=x.2) (fun x=>[(10,.sl 3 7 0 x.1.length),(21,iG x.2)]) (fun x=>[(3,some (.row 226 7 dF efC x.1 0))]) (fun x=>(((ZU r bK f day).f).bF).length-x.2) ([],0) ⟨by (try simp only[]);omega,rfl,by first|omega|(simp;done)|(simp only[List.length_append,List.length_cons,List.length_nil,List.length_set,List.length_replicate];omega)⟩ ?_ (hp:=t40)
 rintro ⟨a10_1,k1⟩ ⟨hi1,he,hl_a10_1⟩
 dsimp only at*
 refine gE [8,9,10,20,21,22] ?_
 refine zB ?_ ?_<;>intro c1<;>try simp only[toN]at c1
 ·refine gE [8,9,10,11,20,21] ?_
  refine gU [.call (zJi (ZU r bK f day) (k1:Int) (by first|exact hR) (by first|exact hF|exact hF2) t36),.el dF efC ([(qD (ZU r bK f day) (k1:Int))]:List Efc),.el dF efC (a10_1++ [(qD (ZU r bK f day) (k1:Int))])] [8,9,10,20,21] ?_
  refine gE [8,9,10,20,21] ?_
  refine zD ((a10_1++ [(qD (ZU r bK f day) (k1:Int))],k1+1)) ?_ (hp:=t40) (hm:=by dsimp only;omega)
  refine ⟨by (try simp only[]);omega,he.trans ?_,by first|omega|(simp;done)|(simp only[List.length_append,List.length_cons,List.length_nil,List.length_set,List.length_replicate];omega)⟩
  rw[YL,iP t11]
  try rfl
 refine gE [8] ?_
 refine gT ?_
 rw[ZM,he,YL,iQ t11];rfl
def zW (r:Rlm) (bK:Int) (f:Fil) (sign:Int) (day:Int):Efc×Bool:=if (bif decide (sign<0)then true else decide (((((ZU r bK f day).f).bF).length:Int)<=sign))=true then (⟨0,0,0,0,0,0,false⟩,false)else ((qD (ZU r bK f day) sign),true)
theorem zUk (r:Rlm) (bK:Int) (f:Fil) (sign:Int) (day:Int) (hR:RR r) (hF:FitFi f):GC Tryz.prog 152 [rlG r,iG bK,fiG f,iG sign,iG day] (.tup [efG ((zW r bK f sign day).1),bG ((zW r bK f sign day).2)]):=by
 have hr:=hR.right.fit
 have h1:=hr.bD
 have h2:=hr.bB
 have h3:=hr.bC
 have hF2:=hF.at_ day
 have g1:(ZU r bK f day).f.bF.length<=1000:=hF2.bF
 refine zA Tryz.func152 ?_
 refine gE [1,3,4,5,7,10,11] ?_
 refine gR [.call (zCm r bK f day hR (by first|assumption|exact FitFi.at_ t12 _|exact FitFi.nof t12|exact FitFi.nof (FitFi.at_ t12 _)))] [3,10,11,12] ?_
 refine gE [3,10,11,12,27] ?_
 refine zF ?_ ?_<;>intro c1<;>try simp only[bb,toN]at c1
 ·refine gE [3,10,11,12] ?_
  refine gT ?_
  rw[zW,iP (by (try simp only[bb,toN]);exact c1)];rfl
 refine gR [.call (zJi (ZU r bK f day) sign (by first|exact hR) (by first|exact hF|exact hF2) t36)] [10,11] ?_
 refine gT ?_
 rw[zW,iN (by (try simp only[bb,toN]);exact c1)];rfl
def jT (r:Rlm) (bK:Int) (f:Fil) (sign:Int) (day:Int):Kpt:=if (bif decide (sign<0)then true else decide (((((zn r bK f sign day).f).bF).length:Int)<=sign))=true then ⟨0,0,0,0⟩else if ((zn r bK f sign day).due)=(-1)then ⟨(Yk (zn r bK f sign day)),2,2,(Uq [(Yk (zn r bK f sign day)),2,2])⟩else ⟨(Yk (zn r bK f sign day)),(YE (zO (zn r bK f sign day) 8) (jN (zn r bK f sign day))),(YE (zO (zn r bK f sign day) 11) (jS (zn r bK f sign day))),(Uq [(Yk (zn r bK f sign day)),(YE (zO (zn r bK f sign day) 8) (jN (zn r bK f sign day))),(YE (zO (zn r bK f sign day) 11) (jS (zn r bK f sign day)))])⟩
theorem zIr (r:Rlm) (bK:Int) (f:Fil) (sign:Int) (day:Int) (hR:RR r) (hF:FitFi f) (hp:0<=f.bill.pay/\f.bill.pay<r.bB.length):GC Tryz.prog 151 [rlG r,iG bK,fiG f,iG sign,iG day] (kpG (jT r bK f sign day)):=by
 have hr:=hR.right.fit
 have h1:=hr.bD
 have h2:=hr.bB
 have h3:=hr.bC
 have hF2:=hF.at_ day
 have hp2:0<=(zn r bK f sign day).f.bill.pay/\(zn r bK f sign day).f.bill.pay<r.bB.length:=by show 0<=(atV f day).bill.pay/\(atV f day).bill.pay<_;rw[Zb];exact hp
 have g1:(zn r bK f sign day).f.bF.length<=1000:=hF2.bF
 refine zA Tryz.func151 ?_
 refine gE [1,3,4,5,7,10] ?_
 refine gR [.call (zIn r bK f sign day hR (by first|assumption|exact FitFi.at_ t12 _|exact FitFi.nof t12|exact FitFi.nof (FitFi.at_ t12 _)))] [3,10,11] ?_
 refine gE [10,11,28] ?_
 refine zF ?_ ?_<;>intro c1<;>try simp only[bb,toN]at c1
 ·refine gE [10,11] ?_
  refine gT ?_
  rw[jT,iP (by (try simp only[bb,toN]);exact c1)];rfl
 refine gE [10,11,12] ?_
 refine gR [.call (zWs (zn r bK f sign day) (by first|exact hR) (by first|exact hF2|exact hF) (by first|exact hp2|exact hp))] [10,11,12] ?_
 refine gE [10,11,12,37] ?_
 refine zP ?_ ?_<;>intro c2<;>try simp only[toN]at c2
 ·refine gR [.call (QY (zn r bK f sign day) 8 (by first|exact hR) (by first|exact hF2|exact hF)),.call (zWq (zn r bK f sign day) (by first|exact hR) (by first|exact hF2|exact hF) (by first|exact hp2|exact hp)),.call (Uy (zO (zn r bK f sign day) 8) (jN (zn r bK f sign day)))] [10,11,12] ?_
  refine gR [.call (QY (zn r bK f sign day) 11 (by first|exact hR) (by first|exact hF2|exact hF)),.call (zXd (zn r bK f sign day) (by first|exact hR) (by first|exact hF2|exact hF) (by first|exact hp2|exact hp) t36),.call (Uy (zO (zn r bK f sign day) 11) (jS (zn r bK f sign day)))] [10,12] ?_
  refine gR [.el dF inC [(Yk (zn r bK f sign day)),(YE (zO (zn r bK f sign day) 8) (jN (zn r bK f sign day))),(YE (zO (zn r bK f sign day) 11) (jS (zn r bK f sign day)))],.call (wO [(Yk (zn r bK f sign day)),(YE (zO (zn r bK f sign day) 8) (jN (zn r bK f sign day))),(YE (zO (zn r bK f sign day) 11) (jS (zn r bK f sign day)))] t17)] [10,12] ?_
  refine gE [10] ?_
  refine gT ?_
  rw[jT,iN (by (try simp only[bb,toN]);exact c1),iQ c2];rfl
 refine gR [.el dF inC [(Yk (zn r bK f sign day)),2,2],.call (wO [(Yk (zn r bK f sign day)),2,2] t17)] [10,12] ?_
 refine gE [10] ?_
 refine gT ?_
 rw[jT,iN (by (try simp only[bb,toN]);exact c1),iP c2];rfl
open Go.RowKit Go.Sort
structure Ovw where
 all:Fil
 now:Fil
 day:Int
 lead:List Int
instance :Inhabited Ovw:=⟨⟨dF,dF,0,[]⟩⟩
abbrev ovG (x:Ovw):G:= .agg [iG x.all.bill.bP,iG x.all.bill.bO,iG x.all.bill.bQ,iG x.all.bill.sum,iG x.all.bill.cur,iG x.all.bill.ten.kind,iG x.all.bill.ten.n,iG x.all.bill.ten.unit,iG x.all.bill.day,iG x.all.bill.city,iG x.all.bill.pay,iG x.all.bill.need,iG x.all.bill.rate,iG x.all.bill.flags,iG x.all.bill.parts,.d (.row dF sgC x.all.bF),.d (.row dF alC x.all.bH),.d (.row dF acC x.all.acts),.d (.row dF fcC x.all.facts),iG x.now.bill.bP,iG x.now.bill.bO,iG x.now.bill.bQ,iG x.now.bill.sum,iG x.now.bill.cur,iG x.now.bill.ten.kind,iG x.now.bill.ten.n,iG x.now.bill.ten.unit,iG x.now.bill.day,iG x.now.bill.city,iG x.now.bill.pay,iG x.now.bill.need,iG x.now.bill.rate,iG x.now.bill.flags,iG x.now.bill.parts,.d (.row dF sgC x.now.bF),.d (.row dF alC x.now.bH),.d (.row dF acC x.now.acts),.d (.row dF fcC x.now.facts),iG x.day,.d (.row dF inC x.lead)]
structure Crt where
 v:Ovw
 r:Rlm
 bK:Int
 due:Int
instance :Inhabited Crt:=⟨⟨dF,dF,0,0⟩⟩
def crtC (x:Crt):List D:=[.sc (.int .i64 x.v.all.bill.bP),.sc (.int .i64 x.v.all.bill.bO),.sc (.int .i64 x.v.all.bill.bQ),.sc (.int .i64 x.v.all.bill.sum),.sc (.int .i64 x.v.all.bill.cur),.sc (.int .i64 x.v.all.bill.ten.kind),.sc (.int .i64 x.v.all.bill.ten.n),.sc (.int .i64 x.v.all.bill.ten.unit),.sc (.int .i64 x.v.all.bill.day),.sc (.int .i64 x.v.all.bill.city),.sc (.int .i64 x.v.all.bill.pay),.sc (.int .i64 x.v.all.bill.need),.sc (.int .i64 x.v.all.bill.rate),.sc (.int .i64 x.v.all.bill.flags),.sc (.int .i64 x.v.all.bill.parts),.row dF sgC x.v.all.bF,.row dF alC x.v.all.bH,.row dF acC x.v.all.acts,.row dF fcC x.v.all.facts,.sc (.int .i64 x.v.now.bill.bP),.sc (.int .i64 x.v.now.bill.bO),.sc (.int .i64 x.v.now.bill.bQ),.sc (.int .i64 x.v.now.bill.sum),.sc (.int .i64 x.v.now.bill.cur),.sc (.int .i64 x.v.now.bill.ten.kind),.sc (.int .i64 x.v.now.bill.ten.n),.sc (.int .i64 x.v.now.bill.ten.unit),.sc (.int .i64 x.v.now.bill.day),.sc (.int .i64 x.v.now.bill.city),.sc (.int .i64 x.v.now.bill.pay),.sc (.int .i64 x.v.now.bill.need),.sc (.int .i64 x.v.now.bill.rate),.sc (.int .i64 x.v.now.bill.flags),.sc (.int .i64 x.v.now.bill.parts),.row dF sgC x.v.now.bF,.row dF alC x.v.now.bH,.row dF acC x.v.now.acts,.row dF fcC x.v.now.facts,.sc (.int .i64 x.v.day),.row dF inC x.v.lead,.row dF zf x.r.bA,.row dF ctC x.r.bB,.row dF inC x.r.groups,.row dF fmC x.r.bC,.row dF odC x.r.bD,.row dF usC x.r.bE,.row dF rtC x.r.rates,.row dF htC x.r.halts,.sc (.int .i64 x.bK),.sc (.int .i64 x.due)]
abbrev zZn (x:Crt):G:= .agg [iG x.v.all.bill.bP,iG x.v.all.bill.bO,iG x.v.all.bill.bQ,iG x.v.all.bill.sum,iG x.v.all.bill.cur,iG x.v.all.bill.ten.kind,iG x.v.all.bill.ten.n,iG x.v.all.bill.ten.unit,iG x.v.all.bill.day,iG x.v.all.bill.city,iG x.v.all.bill.pay,iG x.v.all.bill.need,iG x.v.all.bill.rate,iG x.v.all.bill.flags,iG x.v.all.bill.parts,.d (.row dF sgC x.v.all.bF),.d (.row dF alC x.v.all.bH),.d (.row dF acC x.v.all.acts),.d (.row dF fcC x.v.all.facts),iG x.v.now.bill.bP,iG x.v.now.bill.bO,iG x.v.now.bill.bQ,iG x.v.now.bill.sum,iG x.v.now.bill.cur,iG x.v.now.bill.ten.kind,iG x.v.now.bill.ten.n,iG x.v.now.bill.ten.unit,iG x.v.now.bill.day,iG x.v.now.bill.city,iG x.v.now.bill.pay,iG x.v.now.bill.need,iG x.v.now.bill.rate,iG x.v.now.bill.flags,iG x.v.now.bill.parts,.d (.row dF sgC x.v.now.bF),.d (.row dF alC x.v.now.bH),.d (.row dF acC x.v.now.acts),.d (.row dF fcC x.v.now.facts),iG x.v.day,.d (.row dF inC x.v.lead),.d (.row dF zf x.r.bA),.d (.row dF ctC x.r.bB),.d (.row dF inC x.r.groups),.d (.row dF fmC x.r.bC),.d (.row dF odC x.r.bD),.d (.row dF usC x.r.bE),.d (.row dF rtC x.r.rates),.d (.row dF htC x.r.halts),iG x.bK,iG x.due]
theorem yH (zs:List Int):(Lib.compact zs).length<=zs.length:=by
 have:=List.length_filter_le (Lib.keeps zs.toArray) (List.range zs.length)
 simpa [Lib.compact,Lib.compactUpTo]using this
theorem zVp (ty:Nat) (zs:List Int) (h:zs.length<=1000):GM Tryz.prog 180 [.sl 0 1 0 zs.length] [.row ty 1 dF inC zs 0] .junk [some (.row ty 1 dF inC (zs.mergeSort fun x y=>decide (x<=y)) 0)]:=
 zSi (v:=fun _ _=> .tuple #[]) (ext:=[]) Tryz.func180 rfl rfl t25 (fun _ _ _ _ _ _ _=> .junk _) (fun _ _ _ _ _ _ _=> .junk _)
  (fun hz blk cap w h1 h2 h3=>(Tryz.slices_Sort_int blk 0 cap zs w h1 h2 t11).mono fun e w' ⟨x,n,os,y⟩=>⟨x,n,os,by rw[List.append_nil];exact y⟩)
  (fun hz A cap w=>Tryz.slices_Sort_int_none A cap w)
theorem zGe (ty:Nat) (zs:List Int) (h:zs.length<=1000):GM Tryz.prog 181 [.sl 0 1 0 zs.length] [.row ty 1 dF inC zs 0] (.sl 0 1 0 (Lib.compact zs).length) [some (.row ty 1 dF inC (Lib.compact zs) 0)]:=
 zSi (v:=fun A c=> .slice A (Lib.compact zs).length c) (ext:=List.replicate (zs.length-(Lib.compact zs).length) 0) Tryz.func181 rfl rfl (by have:=yH zs;simp;omega)
  (fun ν F w r k hk e=> .sl 0 1 0 _ _ _ (fun _=>⟨r,k,e,rfl,by have:=yH zs;omega,rfl⟩) (fun _ _=> .inl ⟨r,k,e,rfl,rfl⟩) (by have:=yH zs;omega))
  (fun hz ν F w A c h=>by
   have e:(Lib.compact zs).length=0:=by have:=yH zs;rw[hz]at this⊢;simpa using this
   rw[e];exact .sl 0 1 0 0 A c (fun h=>absurd h t23) (fun _ _=>h) (Nat.zero_le _))
  (fun hz blk cap w h1 h2 h3=>(Tryz.slices_Compact_int blk 0 cap zs w h1 t11 h3).mono fun e w' ⟨x,q,y⟩=>⟨x,q,#[],by rw[Sort.grow_empty];exact y⟩)
  (fun hz A cap w=>by
   have e:(Lib.compact zs).length=0:=by have:=yH zs;rw[hz]at this⊢;simpa using this
   simp only[e];exact Tryz.slices_Compact_int_empty A cap w)
def HZ (g:Fil):List Int:=g.acts.foldl (fun l a=>if decide (a.kind=7)=true then Wl l a.at_ else l) []
def ldB (g:Fil) (k:Nat):Bool:=bif decide ((g.bF.getD k dF).kind=2)then !decide ((k:Int)∈HZ g)else false
def ldR (g:Fil):List Int:=((List.range g.bF.length).filter (ldB g)).map fun k=>(g.bF.getD k dF).part
def YZ (g:Fil):List Int:=if (Lib.compact ((ldR g).mergeSort fun x y=>decide (x<=y))).length=0 then [0]else Lib.compact ((ldR g).mergeSort fun x y=>decide (x<=y))
def zm (f:Fil) (day:Int):Ovw:=⟨f,atV f day,day,YZ (atV f day)⟩
theorem Kg (g:Fil):(ldR g).length<=g.bF.length:=by
 have:=List.length_filter_le (ldB g) (List.range g.bF.length)
 simpa [ldR]using this
theorem zQj (f:Fil) (day:Int) (hF:FitFi f):GC Tryz.prog 140 [fiG f,iG day] (ovG (zm f day)):=by
 have hF2:=hF.at_ day
 have g1:=hF2.bF
 have g3:=hF2.acts
 refine zA Tryz.func140 ?_
 refine gE [1,2,4] ?_
 refine gR [.call (JB f day hF)] [4,5] ?_
 refine gE [4,5,6] ?_
 refine gE [4,5,6,20,21,22] ?_
 refine zI (α:=List Int×Nat) (fun x=>x.2<=(atV f day).acts.length/\x.1=((atV f day).acts.take x.2).foldl (fun l a=>if decide (a.kind=7)=true then Wl l a.at_ else l) []) (fun x=>[(22,iG x.2)]) (fun x=>[(3,some (.mp (x.1.map jW)))]) (fun x=>(atV f day).acts.length-x.2) ([],0) ⟨Nat.zero_le _,rfl⟩ ?_ (hp:=t52)
 rintro ⟨L,k⟩ ⟨hk,hL⟩
 dsimp only at*
 refine gE [4,5,6,20,21,22,23] ?_
 refine zB (fun c1=> ?_) (fun c1=> ?_)
 ·refine gP [] [4,5,6,8,20,21,22] ?_
  refine gE [4,5,6,8,20,21,22,28] ?_
  refine zB (fun c2=> ?_) (fun c2=> ?_)
  ·refine gR [.mp ((Wl L ((atV f day).acts.getD k dF).at_).map jW)] [4,5,6,20,21,22] ?_ (hp:=by simp only[zC];first|exact vh _ _|exact ⟨vh _ _,trivial⟩)
   refine gP [] [4,5,6,20,21,22] ?_
   refine zD (Wl L ((atV f day).acts.getD k dF).at_,k+1) ⟨by dsimp only;omega,?_⟩ (hp:=t52) (hm:=by dsimp only;omega)
   rw[yb _ _ _ _ t11,<-hL]
   exact (iP (decide_eq_true c2)).symm
  refine gP [] [4,5,6,20,21,22] ?_
  refine zD (L,k+1) ⟨by dsimp only;omega,?_⟩ (hp:=t52) (hm:=by dsimp only;omega)
  rw[yb _ _ _ _ t11,<-hL]
  exact (iQ (by simpa using c2)).symm
 have e:k=(atV f day).acts.length:=by omega
 subst e
 rw[List.take_length]at hL
 obtain rfl:L=HZ (atV f day):=hL
 refine gE [4,5,6,35,36,37] ?_
 refine Qo 2 39 3 1 (dF:Int) inC ?_
 refine zI (α:=List Int×Nat) (fun x=>x.2<=(atV f day).bF.length/\x.1=((List.range x.2).filter (ldB (atV f day))).map fun k=>((atV f day).bF.getD k dF).part) (fun x=>[(37,iG x.2)]) (fun x=>[(2,some (.box [iG f.bill.bP,iG f.bill.bO,iG f.bill.bQ,iG f.bill.sum,iG f.bill.cur,iG f.bill.ten.kind,iG f.bill.ten.n,iG f.bill.ten.unit,iG f.bill.day,iG f.bill.city,iG f.bill.pay,iG f.bill.need,iG f.bill.rate,iG f.bill.flags,iG f.bill.parts,.d (.row dF sgC f.bF),.d (.row dF alC f.bH),.d (.row dF acC f.acts),.d (.row dF fcC f.facts),iG ((atV f day).bill.bP),iG ((atV f day).bill.bO),iG ((atV f day).bill.bQ),iG ((atV f day).bill.sum),iG ((atV f day).bill.cur),iG ((atV f day).bill.ten.kind),iG ((atV f day).bill.ten.n),iG ((atV f day).bill.ten.unit),iG ((atV f day).bill.day),iG ((atV f day).bill.city),iG ((atV f day).bill.pay),iG ((atV f day).bill.need),iG ((atV f day).bill.rate),iG ((atV f day).bill.flags),iG ((atV f day).bill.parts),.d (.row dF sgC ((atV f day).bF)),.d (.row dF alC ((atV f day).bH)),.d (.row dF acC ((atV f day).acts)),.d (.row dF fcC ((atV f day).facts)),iG day,.sl 4 1 0 x.1.length])),(4,some (.row 3 1 dF inC x.1 0))]) (fun x=>(atV f day).bF.length-x.2) ([],0) ⟨Nat.zero_le _,rfl⟩ ?_ (hp:=t52)
 rintro ⟨l,k⟩ ⟨hk,hl⟩
 dsimp only at*
 refine gE [4,5,6,35,36,37,38] ?_
 refine zB (fun c3=> ?_) (fun c3=> ?_)
 ·have hll:l.length<=k:=by
   rw[hl,List.length_map]
   have:=List.length_filter_le (ldB (atV f day)) (List.range k)
   simpa using this
  refine gP [] [4,5,6,9,10,35,36,37] ?_
  refine gR [.look (.bool (decide ((k:Int)∈HZ (atV f day)))) (decide ((k:Int)∈HZ (atV f day)))] [4,5,6,9,10,35,36,37,50] ?_ (hp:=by simp only[zC,bb,toN];repeat' first|exact trivial|exact Ke _ _|apply And.intro|intro _|omega|(simp_all;done))
  refine zF (fun c4=> ?_) (fun c4=> ?_)
  ·refine gU [.el dF inC [((atV f day).bF.getD k dF).part],.el dF inC (l++ [((atV f day).bF.getD k dF).part])] [4,5,6,35,36,37] ?_
   refine gP [] [4,5,6,35,36,37] ?_
   refine zD (l++ [((atV f day).bF.getD k dF).part],k+1) ⟨by dsimp only;omega,?_⟩ (hp:=t50) (hm:=by dsimp only;omega)
   rw[List.range_succ,List.filter_append,List.map_append,<-hl,List.filter_cons_of_pos (by exact c4)];rfl
  refine gP [] [4,5,6,35,36,37] ?_
  refine zD (l,k+1) ⟨by dsimp only;omega,?_⟩ (hp:=t52) (hm:=by dsimp only;omega)
  rw[List.range_succ,List.filter_append,List.map_append,<-hl,List.filter_cons_of_neg (by rw[show ldB (atV f day) k=false from c4];decide)];simp
 have e:k=(atV f day).bF.length:=by omega
 subst e
 obtain rfl:l=ldR (atV f day):=hl
 have hln:=Kg (atV f day)
 obtain ⟨z,hz⟩:∃z,z=(ldR (atV f day)).mergeSort fun x y=>decide (x<=y):=⟨_,rfl⟩
 have hzl:z.length=(ldR (atV f day)).length:=by rw[hz];simp
 have hs:=zVp 3 (ldR (atV f day)) t11
 rw[<-hz]at hs
 have hc:=zGe 3 z t11
 have hcl:=yH z
 have hlead:YZ (atV f day)=if (Lib.compact z).length=0 then [0]else Lib.compact z:=by rw[YZ,<-hz]
 generalize Lib.compact z=y at hc hlead hcl
 refine gR [.callm [4] hs] [4,5] ?_ (hp:=by simp only[zC];repeat' first|exact trivial|exact zH.refl _|exact zE.refl _|exact rfl|apply And.intro)
 refine gR [.callm [4] hc] [4,5] ?_ (hp:=by simp only[zC,hzl];repeat' first|exact trivial|exact zH.refl _|exact zE.refl _|exact rfl|apply And.intro)
 refine gE [4,5,69] ?_
 refine zB (fun c3=> ?_) (fun c3=> ?_)
 ·refine gU [.el dF inC [0]] [4,5] ?_
  refine gE [4,5] ?_
  refine gT ?_
  rw[zm,hlead,iP t11];rfl
 refine gE [4,5] ?_
 refine gT ?_
 rw[zm,hlead,iQ t11];rfl
def uA (x0:Fct) (kind:Int) (sign:Int):Bool:=(bif decide (x0.kind=kind)then decide (x0.at_=sign)else false)
theorem zPi (x0:Fct) (kind:Int) (sign:Int):GC Tryz.prog 222 [fcG x0,.ep [.sc (.int .i64 kind)],.ep [.sc (.int .i64 sign)]] (bG (uA x0 kind sign)):=by
 refine zA Tryz.func222 ?_
 refine gE [1,2,3,4] ?_
 refine gE [4] ?_
 refine gT ?_
 rw[uA];rfl
theorem Kj (l:List Fct) (hl:l.length<=9223372036854775807) (kind:Int) (sign:Int):GC Tryz.prog 221 [.d (.row dF fcC l),.fn (.func 222) [] [.ep [.sc (.int .i64 kind)],.ep [.sc (.int .i64 sign)]]] (iG (zQ (fun y=>uA y kind sign) l 0)):=by
 refine zA Tryz.func221 ?_
 refine gE [0,1,4] ?_
 refine gE [0,1,4,7,8] ?_
 refine zI (α:=Nat) (fun i=>i<=l.length/\zQ (fun y=>uA y kind sign) l 0=zQ (fun y=>uA y kind sign) (l.drop i) i) (fun i=>[(8,iG i)]) (fun _=>[]) (fun i=>l.length-i) 0 ⟨by omega,rfl⟩ ?_ (hp:=t40)
 rintro i ⟨hi,he⟩
 refine gE [0,1,4,7,8,9] ?_
 refine zB ?_ ?_<;>intro c1<;>try simp only[toN]at c1
 ·refine gE [0,1,4,5,7,8] ?_
  refine gR [.call (zPi (l.getD i dF) kind sign)] [0,1,4,5,7,8,16] ?_
  refine zF ?_ ?_<;>intro c2<;>try simp only[bb,toN]at c2
  ·refine gE [0,1,4,7,8] ?_
   refine gT ?_
   rw[he,Yb t11,zQ,iP (by exact c2)];rfl
  refine gE [0,1,4,7,8] ?_
  refine zD (i+1) ?_ (hp:=t40)
  refine ⟨by omega,he.trans ?_⟩
  rw[Yb t11,zQ,iQ (by rw[Bool.not_eq_true];exact c2)]
 refine gE [4] ?_
 refine gT ?_
 rw[he,JJ t11];rfl
def Qf (v:Ovw) (kind:Int) (sign:Int):Int:=if (zQ (fun y=>uA y kind sign) v.now.facts 0)<0 then 2 else if ((v.now.facts.getD ((zQ (fun y=>uA y kind sign) v.now.facts 0).toNat) dF).n)=0 then 0 else 1
theorem Hf (v:Ovw) (kind:Int) (sign:Int) (hF:FitFi v.now):GC Tryz.prog 186 [ovG v,iG kind,iG sign] (iG (Qf v kind sign)):=by
 have g4:=hF.facts
 refine zA Tryz.func186 ?_
 refine gE [3,4,5,6] ?_
 refine zz 1 ?_
 refine zz 2 ?_
 refine gR [.call (Kj v.now.facts t11 kind sign)] [3,6,7] ?_
 refine gE [3,6,7,13] ?_
 refine zB ?_ ?_<;>intro c1<;>try simp only[toN]at c1
 ·refine gE [6] ?_
  refine gT ?_
  rw[Qf,iP c1];rfl
 have hi:=uv (fun y=>uA y kind sign) v.now.facts 0
 refine gE [6,16] ?_
 refine zB ?_ ?_<;>intro c2<;>try simp only[toN]at c2
 ·refine gE [6] ?_
  refine gT ?_
  rw[Qf,iQ c1,iP c2];rfl
 refine gE [6] ?_
 refine gT ?_
 rw[Qf,iQ c1,iQ c2];rfl
def Yd (r:Rlm) (bK:Int) (f:Fil) (day:Int):Crt×Bool:=if (bif decide (bK<0)then true else decide ((r.bD.length:Int)<=bK))=true then (⟨⟨⟨⟨0,0,0,0,0,⟨0,0,0⟩,0,0,0,0,0,0,0⟩,[],[],[],[]⟩,⟨⟨0,0,0,0,0,⟨0,0,0⟩,0,0,0,0,0,0,0⟩,[],[],[],[]⟩,0,[]⟩,⟨[],[],[],[],[],[],[],[]⟩,0,0⟩,false)else (⟨(zm f day),r,bK,(ZT r bK f day)⟩,true)
theorem zVh (r:Rlm) (bK:Int) (f:Fil) (day:Int) (hR:RR r) (hF:FitFi f):GC Tryz.prog 96 [rlG r,iG bK,fiG f,iG day] (.tup [zZn ((Yd r bK f day).1),bG ((Yd r bK f day).2)]):=by
 have hr:=hR.right.fit
 have h1:=hr.bD
 have h2:=hr.bB
 have h3:=hr.bC
 refine zA Tryz.func96 ?_
 refine gE [1,3,4,6,8,9] ?_
 refine gE [1,3,4,6,8,9,18] ?_
 refine zF ?_ ?_<;>intro c1<;>try simp only[bb,toN]at c1
 ·refine gE [1,3,4,6,8,9] ?_
  refine Zq env ?_
  rw[Yd,iP (by (try simp only[bb,toN]);exact c1)];exact Ent.tup ⟨Ent.agg ⟨Ent.refl _,Ent.refl _,Ent.refl _,Ent.refl _,Ent.refl _,Ent.refl _,Ent.refl _,Ent.refl _,Ent.refl _,Ent.refl _,Ent.refl _,Ent.refl _,Ent.refl _,Ent.refl _,Ent.refl _,Ent.nil,Ent.nil,Ent.nil,Ent.nil,Ent.refl _,Ent.refl _,Ent.refl _,Ent.refl _,Ent.refl _,Ent.refl _,Ent.refl _,Ent.refl _,Ent.refl _,Ent.refl _,Ent.refl _,Ent.refl _,Ent.refl _,Ent.refl _,Ent.refl _,Ent.nil,Ent.nil,Ent.nil,Ent.nil,Ent.refl _,Ent.nil,Ent.nil,Ent.nil,Ent.nil,Ent.nil,Ent.nil,Ent.nil,Ent.nil,Ent.nil,Ent.refl _,Ent.refl _,trivial⟩,Ent.refl _,trivial⟩
 refine gR [.call (zQj f day (by first|assumption|exact FitFi.at_ t12 _)),.call (vi r bK f day hR (by first|assumption|exact FitFi.at_ t12 _|exact FitFi.nof t12|exact FitFi.nof (FitFi.at_ t12 _)))] [8,9] ?_
 refine gT ?_
 rw[Yd,iN (by (try simp only[bb,toN]);exact c1)];rfl
def zK (v:Ovw) (part:Int):List Int:=(JA v.all part v.day).bF
theorem zLz (v:Ovw) (part:Int) (hA:FitFi v.all):GC Tryz.prog 98 [ovG v,iG part] (.d (.row dF inC (zK v part))):=by
 refine zA Tryz.func98 ?_
 refine gE [1,2,4] ?_
 refine gR [.call (zCl v.all part v.day (by first|assumption|exact FitFi.at_ t12 _))] [4] ?_
 refine gT ?_
 rw[zK];rfl
def Jd (v:Ovw) (sign:Int):Int:=if (bif decide (sign=0)then true else (!(qv v.lead ((v.now.bF.getD sign.toNat dF).part))))=true then (v.lead.getD 0 dF)else (v.now.bF.getD sign.toNat dF).part
theorem zQa (v:Ovw) (sign:Int) (hF:FitFi v.now) (hs:0<=sign/\sign<v.now.bF.length) (hl:0<v.lead.length/\v.lead.length<=1001):GC Tryz.prog 146 [ovG v,iG sign] (iG (Jd v sign)):=by
 have g1:=hF.bF
 refine zA Tryz.func146 ?_
 refine gE [1,2,4] ?_
 refine gE [1,2,4,5] ?_
 refine gR [.call ((fun l x h=>zh l h x) v.lead ((v.now.bF.getD sign.toNat dF).part) t17)] [2,4,5,21] ?_
 refine zF ?_ ?_<;>intro c1<;>try simp only[bb,toN]at c1
 ·refine gE [4,5] ?_
  refine gT ?_
  rw[Jd,iP (by (try simp only[bb,toN]);exact c1)];rfl
 refine gE [4] ?_
 refine gT ?_
 rw[Jd,iN (by (try simp only[bb,toN]);exact c1)];rfl
def Ud (a:Act):Bool:=(bif decide (a.kind=1)then true else decide (a.kind=3))
theorem zKd (a:Act):GC Tryz.prog 150 [acG a] (bG (Ud a)):=by
 refine zA Tryz.func150 ?_
 refine gE [1,2] ?_
 refine gE [2] ?_
 refine gT ?_
 rw[Ud];rfl
theorem Uk (l:List Act) (hl:l.length<=9223372036854775807):GC Tryz.prog 189 [.d (.row dF acC l),fG 150] (iG (zQ (fun y=>Ud y) l 0)):=by
 refine zA Tryz.func189 ?_
 refine gE [0,1,4] ?_
 refine gE [0,1,4,7,8] ?_
 refine zI (α:=Nat) (fun i=>i<=l.length/\zQ (fun y=>Ud y) l 0=zQ (fun y=>Ud y) (l.drop i) i) (fun i=>[(8,iG i)]) (fun _=>[]) (fun i=>l.length-i) 0 ⟨by omega,rfl⟩ ?_ (hp:=t40)
 rintro i ⟨hi,he⟩
 refine gE [0,1,4,7,8,9] ?_
 refine zB ?_ ?_<;>intro c1<;>try simp only[toN]at c1
 ·refine gE [0,1,4,5,7,8] ?_
  refine gR [.call (zKd (l.getD i dF))] [0,1,4,5,7,8,16] ?_
  refine zF ?_ ?_<;>intro c2<;>try simp only[bb,toN]at c2
  ·refine gE [0,1,4,7,8] ?_
   refine gT ?_
   rw[he,Yb t11,zQ,iP (by exact c2)];rfl
  refine gE [0,1,4,7,8] ?_
  refine zD (i+1) ?_ (hp:=t40)
  refine ⟨by omega,he.trans ?_⟩
  rw[Yb t11,zQ,iQ (by rw[Bool.not_eq_true];exact c2)]
 refine gE [4] ?_
 refine gT ?_
 rw[he,JJ t11];rfl
theorem Un (l:List Act) (hl:l.length<=9223372036854775807):GC Tryz.prog 149 [.d (.row dF acC l),fG 150] (bG (l.any (fun y=>Ud y))):=by
 refine zA Tryz.func149 ?_
 refine gE [0,1,4] ?_
 refine gR [.call (Uk l hl)] [4] ?_
 refine gT ?_
 rw[<-QB];rfl
def Jc (c:Crt) (link:Int) (last:Int):Int:=(zCb (Xq (Qf c.v 0 link) (Qf c.v 2 link)) (wS (qQ c.r c.bK 3 (⟨c.v.now,link,last,(-1),c.due,c.v.day⟩:Cas))))
theorem zPz (c:Crt) (link:Int) (last:Int) (hR:RR c.r) (hF:FitFi c.v.now):GC Tryz.prog 144 [zZn c,iG link,iG last] (iG (Jc c link last)):=by
 have hr:=hR.right.fit
 refine zA Tryz.func144 ?_
 refine gE [1,2,3,6] ?_
 refine gE [1,3,6,7] ?_
 refine gR [.call (Hf c.v 0 link t12),.call (Hf c.v 2 link t12),.call (ZAe (Qf c.v 0 link) (Qf c.v 2 link))] [3,6,7,8] ?_
 refine gR [.call (WP c.r c.bK 3 (⟨c.v.now,link,last,(-1),c.due,c.v.day⟩:Cas) hR (by first|assumption|exact FitFi.at_ t12 _|exact FitFi.nof t12|exact FitFi.nof (FitFi.at_ t12 _))),.call (vR (qQ c.r c.bK 3 (⟨c.v.now,link,last,(-1),c.due,c.v.day⟩:Cas))),.call (zZg (Xq (Qf c.v 0 link) (Qf c.v 2 link)) (wS (qQ c.r c.bK 3 (⟨c.v.now,link,last,(-1),c.due,c.v.day⟩:Cas))))] [6] ?_
 refine gT ?_
 rw[Jc];rfl
def yY (g:Fil):Prop:=∀k:Nat,k<g.bF.length->((g.bF.getD k dF).kind=3∨(g.bF.getD k dF).kind=4)->0<=(g.bF.getD k dF).for_/\(g.bF.getD k dF).for_<(k:Int)
def JK (g:Fil):Nat->Int->Int
 |0,s=>s
 |n+1,s=>if (bif decide ((g.bF.getD s.toNat dF).kind=3)then true else decide ((g.bF.getD s.toNat dF).kind=4))=true then JK g n (g.bF.getD s.toNat dF).for_ else s
def vv (g:Fil) (s:Int):Int:=JK g (s.toNat+1) s
theorem UP {g:Fil} (hB:yY g):∀(n m:Nat) (s:Int),0<=s->s<g.bF.length->s<n->s<m->JK g n s=JK g m s/\0<=JK g n s/\JK g n s<=s:=by
 intro n
 induction n with
 |zero=>intro m s h0 _ h1 _;omega
 |succ n ih=>
  intro m s h0 hs h1 h2
  obtain ⟨m,rfl⟩:∃k,m=k+1:=⟨m-1,by omega⟩
  unfold JK
  split
  ·rename_i hk
   simp only[bb]at hk
   have:=hB s.toNat t11 hk
   obtain ⟨a,b,c⟩:=ih m (g.bF.getD s.toNat dF).for_ this.1 t11 t11 t11
   exact ⟨a,b,by omega⟩
  exact ⟨rfl,h0,Int.le_refl _⟩
theorem Xr {g:Fil} (hB:yY g) {s:Int} (h0:0<=s) (hs:s<g.bF.length):vv g s=if (bif decide ((g.bF.getD s.toNat dF).kind=3)then true else decide ((g.bF.getD s.toNat dF).kind=4))=true then vv g (g.bF.getD s.toNat dF).for_ else s:=by
 rw[vv,JK]
 split
 ·rename_i hk
  simp only[bb]at hk
  have:=hB s.toNat t11 hk
  exact (UP hB _ _ _ this.1 t11 t11 t11).1
 rfl
theorem ZAj:∀(n:Nat) (v:Ovw) (s:Int),FitFi v.now->yY v.now->0<=s->s<v.now.bF.length->s<n->GC Tryz.prog 147 [ovG v,iG s] (iG (vv v.now s)):=by
 intro n
 induction n with
 |zero=>intro v s _ _ h0 _ h;omega
 |succ n ih=>
  intro v s hF hB h0 hs hn
  have g1:=hF.bF
  refine zA Tryz.func147 ?_
  refine gE [1,2] ?_
  refine gP [] [1,2,5] ?_
  refine gE [1,2,5,19] ?_
  refine zF (fun c1=> ?_) (fun c1=> ?_)
  ·have hk:=c1
   simp only[bb]at hk
   have:=hB s.toNat t11 hk
   refine gR [.call (ih v (v.now.bF.getD s.toNat dF).for_ hF hB this.1 t11 t11)] [4] ?_
   refine gT ?_
   rw[Xr hB h0 hs,iP c1];rfl
  refine gE [4] ?_
  refine gT ?_
  rw[Xr hB h0 hs,iQ (by rw[c1];decide)];rfl
theorem zUo (v:Ovw) (s:Int) (hF:FitFi v.now) (hB:yY v.now) (hs:0<=s/\s<v.now.bF.length):GC Tryz.prog 147 [ovG v,iG s] (iG (vv v.now s)):=ZAj (s.toNat+1) v s hF hB hs.1 hs.2 t11
def VV (v:Ovw) (by_:Int) (links l:List Int) (k:Nat):Bool:=
 if (v.now.bF.getD k dF).kind=0 then true else if (v.now.bF.getD k dF).kind=1 then true else if (v.now.bF.getD k dF).kind=2 then (bif bif decide ((k:Int)<=by_)then decide (YA .i64 (v.now.bF.getD k dF).flags 2=0)else false then qv links k else false)else qv l (v.now.bF.getD k dF).for_
def qt (v:Ovw) (part by_:Int) (links:List Int):Nat->List Int
 |0=>[]
 |k+1=>if Jd v k=part/\VV v by_ links (qt v part by_ links k) k=true then qt v part by_ links k++ [(k:Int)]else qt v part by_ links k
def Zn (v:Ovw) (part by_:Int) (links:List Int):List Int:=if (bif !decide (by_= -1)then !qv links by_ else false)=true then []else qt v part by_ links v.now.bF.length
theorem zAu (v:Ovw) (part by_:Int) (links:List Int):∀k,(qt v part by_ links k).length<=k:=by
 intro k
 induction k with
 |zero=>exact Nat.le_refl _
 |succ k ih=>
  unfold qt
  split
  ·rw[List.length_append];simp only[List.length_cons,List.length_nil];omega
  omega
theorem ZDc (v:Ovw) (part by_:Int) (links:List Int) (hF:FitFi v.now) (hl:0<v.lead.length/\v.lead.length<=1001) (hk:links.length<=1000):GC Tryz.prog 100 [ovG v,iG part,iG by_,qq links] (qq (Zn v part by_ links)):=by
 have g1:=hF.bF
 refine zA Tryz.func100 ?_
 refine gE [1,2,3,4] ?_
 refine gE [1,2,3,4,9] ?_
 refine gR [.call (zh links t11 by_)] [1,2,3,4,9,20] ?_
 refine zF (fun c1=> ?_) (fun c1=> ?_)
 ·refine gE [8] ?_
  refine Zq env ?_
  rw[Zn,iP (by exact c1)];exact Ent.nil
 refine gE [1,2,3,4,9,23,24,25] ?_
 refine YV 9 3 1 (dF:Int) inC t26 t26 ?_
 refine zI (α:=List Int×Nat×Nat) (fun x=>x.2.1<=v.now.bF.length/\x.1=qt v part by_ links x.2.1/\x.2.2<=x.1.length) (fun x=>[(25,iG x.2.1),(9,.sl 1 1 0 x.1.length)]) (fun x=>[(1,some (.row 3 1 dF inC x.1 x.2.2))]) (fun x=>v.now.bF.length-x.2.1) ([],0,0) ⟨Nat.zero_le _,rfl,Nat.le_refl _⟩ ?_ (hp:=t45)
 rintro ⟨l,k,fz⟩ ⟨hk2,hl,hfz⟩
 dsimp only at*
 have hll:l.length<=k:=hl▸zAu v part by_ links k
 refine gE [1,2,3,4,9,23,24,25,26] ?_
 refine zB (fun c2=> ?_) (fun c2=> ?_)
 ·refine gP [] [1,2,3,4,9,10,11,23,24,25] ?_
  refine gR [.call (zQa v (k:Int) hF t11 t12)] [1,2,3,4,9,10,11,23,24,25,34] ?_
  refine zP (fun c3=> ?_) (fun c3=> ?_)
  ·refine gP [] [1,2,3,4,9,23,24,25] ?_
   exact zD (l,k+1,fz) ⟨by dsimp only;omega,by rw[qt,<-hl,iQ (fun h=>c3 h.1)],by dsimp only;omega⟩ (hp:=t45) (hm:=by dsimp only;omega)
  have hpt:Jd v k=part:=c3
  refine gE [1,2,3,4,9,10,11,12,23,24,25] ?_
  refine gE [1,2,3,4,9,10,11,12,23,24,25,36] ?_
  refine gE [1,2,3,4,9,10,11,12,23,24,25,36,41] ?_
  refine zB (fun c4=> ?_) (fun c4=> ?_)
  ·refine zB (fun c5=> ?_) (fun c5=>absurd c4 c5)
   refine gE [1,2,3,4,9,10,11,12,23,24,25] ?_
   refine gE [1,2,3,4,9,10,23,24,25,60] ?_
   have hL:VV v by_ links l k=true:=by rw[VV,iP (show (v.now.bF.getD k dF).kind=0 from c4)]
   refine zF (fun c7=> ?_) (fun c7=> ?_)
   ·refine gU [.el dF inC [(k:Int)],.el dF inC (l++ [(k:Int)])] [1,2,3,4,9,23,24,25] ?_
    refine gP [] [1,2,3,4,9,23,24,25] ?_
    exact zD (l++ [(k:Int)],k+1,fz) ⟨by dsimp only;omega,by rw[qt,<-hl,iP ⟨hpt,hL.trans c7⟩],by dsimp only;simp only[List.length_append];omega⟩ (hp:=t50) (hm:=by dsimp only;omega)
   refine gP [] [1,2,3,4,9,23,24,25] ?_
   exact zD (l,k+1,fz) ⟨by dsimp only;omega,by rw[qt,<-hl,iQ (fun h=>absurd ((hL.symm.trans h.2).symm.trans c7) t23)],by dsimp only;omega⟩ (hp:=t45) (hm:=by dsimp only;omega)
  refine gE [1,2,3,4,9,10,11,12,23,24,25,36,41] ?_
  refine zB (fun c5=> ?_) (fun c5=> ?_)
  ·refine gE [1,2,3,4,9,10,11,12,23,24,25] ?_
   refine gE [1,2,3,4,9,10,23,24,25,60] ?_
   have hL:VV v by_ links l k=true:=by rw[VV,iQ (show ¬(v.now.bF.getD k dF).kind=0 from c4),iP (show (v.now.bF.getD k dF).kind=1 from c5)]
   refine zF (fun c7=> ?_) (fun c7=> ?_)
   ·refine gU [.el dF inC [(k:Int)],.el dF inC (l++ [(k:Int)])] [1,2,3,4,9,23,24,25] ?_
    refine gP [] [1,2,3,4,9,23,24,25] ?_
    exact zD (l++ [(k:Int)],k+1,fz) ⟨by dsimp only;omega,by rw[qt,<-hl,iP ⟨hpt,hL.trans c7⟩],by dsimp only;simp only[List.length_append];omega⟩ (hp:=t50) (hm:=by dsimp only;omega)
   refine gP [] [1,2,3,4,9,23,24,25] ?_
   exact zD (l,k+1,fz) ⟨by dsimp only;omega,by rw[qt,<-hl,iQ (fun h=>absurd ((hL.symm.trans h.2).symm.trans c7) t23)],by dsimp only;omega⟩ (hp:=t45) (hm:=by dsimp only;omega)
  refine gE [1,2,3,4,9,10,11,12,23,24,25,44] ?_
  refine zB (fun c6=> ?_) (fun c6=> ?_)
  ·refine gR [.call (zh links t11 (k:Int))] [1,2,3,4,9,10,11,12,23,24,25] ?_
   refine gE [1,2,3,4,9,10,23,24,25,60] ?_
   have hL:VV v by_ links l k=(bif bif decide ((k:Int)<=by_)then decide (YA .i64 (v.now.bF.getD k dF).flags 2=0)else false then qv links k else false):=by rw[VV,iQ (show ¬(v.now.bF.getD k dF).kind=0 from c4),iQ (show ¬(v.now.bF.getD k dF).kind=1 from c5),iP (show (v.now.bF.getD k dF).kind=2 from c6)]
   refine zF (fun c7=> ?_) (fun c7=> ?_)
   ·refine gU [.el dF inC [(k:Int)],.el dF inC (l++ [(k:Int)])] [1,2,3,4,9,23,24,25] ?_
    refine gP [] [1,2,3,4,9,23,24,25] ?_
    exact zD (l++ [(k:Int)],k+1,fz) ⟨by dsimp only;omega,by rw[qt,<-hl,iP ⟨hpt,hL.trans c7⟩],by dsimp only;simp only[List.length_append];omega⟩ (hp:=t50) (hm:=by dsimp only;omega)
   refine gP [] [1,2,3,4,9,23,24,25] ?_
   exact zD (l,k+1,fz) ⟨by dsimp only;omega,by rw[qt,<-hl,iQ (fun h=>absurd ((hL.symm.trans h.2).symm.trans c7) t23)],by dsimp only;omega⟩ (hp:=t45) (hm:=by dsimp only;omega)
  refine gR [.call (zh l t11 (v.now.bF.getD k dF).for_)] [1,2,3,4,9,10,11,12,23,24,25] ?_
  refine gE [1,2,3,4,9,10,23,24,25,60] ?_
  have hL:VV v by_ links l k=qv l (v.now.bF.getD k dF).for_:=by rw[VV,iQ (show ¬(v.now.bF.getD k dF).kind=0 from c4),iQ (show ¬(v.now.bF.getD k dF).kind=1 from c5),iQ (show ¬(v.now.bF.getD k dF).kind=2 from c6)]
  refine zF (fun c7=> ?_) (fun c7=> ?_)
  ·refine gU [.el dF inC [(k:Int)],.el dF inC (l++ [(k:Int)])] [1,2,3,4,9,23,24,25] ?_
   refine gP [] [1,2,3,4,9,23,24,25] ?_
   exact zD (l++ [(k:Int)],k+1,l.length) ⟨by dsimp only;omega,by rw[qt,<-hl,iP ⟨hpt,hL.trans c7⟩],by dsimp only;simp only[List.length_append];omega⟩ (hp:=t50) (hm:=by dsimp only;omega)
  refine gP [] [1,2,3,4,9,23,24,25] ?_
  exact zD (l,k+1,l.length) ⟨by dsimp only;omega,by rw[qt,<-hl,iQ (fun h=>absurd ((hL.symm.trans h.2).symm.trans c7) t23)],by dsimp only;omega⟩ (hp:=t45) (hm:=by dsimp only;omega)
 have e:k=v.now.bF.length:=by omega
 subst e
 refine gE [8] ?_
 refine gT ?_
 rw[Zn,iQ (by rw[c1];decide),<-hl];rfl
open Go.IntKind (i64)
def zBd (sum:Int) (rate:Int) (fr:Int) (till:Int):Int:=if ((zBc sum rate fr till 360).2)=3 then 1099511627776 else (zBc sum rate fr till 360).1
theorem zYg (sum:Int) (rate:Int) (fr:Int) (till:Int):GC Tryz.prog 153 [iG sum,iG rate,iG fr,iG till] (iG (zBd sum rate fr till)):=by
 refine zA Tryz.func153 ?_
 refine gE [0,1,2,3,8] ?_
 refine gR [.call (zYf sum rate fr till 360)] [8,9,10] ?_
 refine gE [8,9,20] ?_
 refine zB ?_ ?_<;>intro c1<;>try simp only[toN]at c1
 ·refine gE [8,9] ?_
  refine gT ?_
  rw[zBd,iP c1];rfl
 refine gE [8] ?_
 refine gT ?_
 rw[zBd,iQ c1];rfl
theorem zKv (rates:List Rt) (fr dst day:Int):∀(m:Nat) (a:Int) (k:Nat),rates.length-k<=m->a<k->k<=rates.length->QM rates fr dst day a k<rates.length:=by
 intro m
 induction m with
 |zero=>intro a k h1 h2 h3;unfold QM;rw[iQ t11];omega
 |succ m ih=>
  intro a k h1 h2 h3
  unfold QM
  split
  ·split
   ·exact ih _ _ t11 t11 t11
   exact ih _ _ t11 t11 t11
  omega
theorem Hx (rates:List Rt) (fr dst day:Int):qV rates fr dst day<rates.length:=zKv _ _ _ _ rates.length _ _ t11 t11 t11
def Jb (r:Rlm) (fr:Int) (dst:Int) (day:Int):Rto×Bool:=if 0<=(qV r.rates fr dst day)then ((wb ((r.rates.getD ((qV r.rates fr dst day).toNat) dF).num) ((r.rates.getD ((qV r.rates fr dst day).toNat) dF).den)).1,decide (((wb ((r.rates.getD ((qV r.rates fr dst day).toNat) dF).num) ((r.rates.getD ((qV r.rates fr dst day).toNat) dF).den)).2)=0))else if 0<=(qV r.rates dst fr day)then ((wb ((r.rates.getD ((qV r.rates dst fr day).toNat) dF).den) ((r.rates.getD ((qV r.rates dst fr day).toNat) dF).num)).1,decide (((wb ((r.rates.getD ((qV r.rates dst fr day).toNat) dF).den) ((r.rates.getD ((qV r.rates dst fr day).toNat) dF).num)).2)=0))else ((wb 0 0).1,decide (((wb 0 0).2)=0))
theorem Hm (r:Rlm) (fr:Int) (dst:Int) (day:Int) (hR:RR r):GC Tryz.prog 197 [rlG r,iG fr,iG dst,iG day] (.tup [rqG ((Jb r fr dst day).1),bG ((Jb r fr dst day).2)]):=by
 have hr:=hR.right.fit
 have hl:=hr.rates
 refine zA Tryz.func197 ?_
 refine gE [1,2,3,4,8,9] ?_
 refine gE [1,2,3,4,8,9,10,11] ?_
 refine gR [.call (zIe r.rates fr dst day t11)] [1,2,3,4,8,9,10,11,12] ?_
 have p1:=Hx r.rates fr dst day
 refine gE [1,2,3,4,8,9,10,11,12,23] ?_
 refine zB ?_ ?_<;>intro c1<;>try simp only[toN]at c1
 ·refine gE [8,9,10,11] ?_
  refine gR [.call (uY ((r.rates.getD ((qV r.rates fr dst day).toNat) dF).num) ((r.rates.getD ((qV r.rates fr dst day).toNat) dF).den) (by first|assumption|exact (hr.rate _ (zJ t11)).2|exact (hr.rate _ (zJ t11)).1|exact ⟨by omega,by omega⟩))] [8,9,14,15] ?_
  refine gE [8,9] ?_
  refine gT ?_
  rw[Jb,iP c1];rfl
 refine gR [.call (zIe r.rates dst fr day t11)] [4,8,9,10,11,13] ?_
 have p2:=Hx r.rates dst fr day
 refine gE [4,8,9,10,11,13,43] ?_
 refine zB ?_ ?_<;>intro c2<;>try simp only[toN]at c2
 ·refine gE [8,9,10,11] ?_
  refine gR [.call (uY ((r.rates.getD ((qV r.rates dst fr day).toNat) dF).den) ((r.rates.getD ((qV r.rates dst fr day).toNat) dF).num) (by first|assumption|exact (hr.rate _ (zJ t11)).2|exact (hr.rate _ (zJ t11)).1|exact ⟨by omega,by omega⟩))] [8,9,14,15] ?_
  refine gE [8,9] ?_
  refine gT ?_
  rw[Jb,iQ c1,iP c2];rfl
 refine gR [.call (uY 0 0 (by first|assumption|exact (hr.rate _ (zJ t11)).2|exact (hr.rate _ (zJ t11)).1|exact ⟨by omega,by omega⟩))] [8,9,14,15] ?_
 refine gE [8,9] ?_
 refine gT ?_
 rw[Jb,iQ c1,iQ c2];rfl
def XW (sum:Int) (a:Rto) (b:Rto):Int:=if (IntKind.u64.wrap ((IntKind.u64.wrap a.den)*(IntKind.u64.wrap b.den)))<=(IntKind.u64.wrap ((IntKind.u64.wrap a.num)*(IntKind.u64.wrap b.num)))then 0 else i64.wrap ((VY ((YQ (IntKind.u64.wrap sum) (IntKind.u64.wrap ((IntKind.u64.wrap ((IntKind.u64.wrap a.den)*(IntKind.u64.wrap b.den)))-(IntKind.u64.wrap ((IntKind.u64.wrap a.num)*(IntKind.u64.wrap b.num)))))).1) ((YQ (IntKind.u64.wrap sum) (IntKind.u64.wrap ((IntKind.u64.wrap ((IntKind.u64.wrap a.den)*(IntKind.u64.wrap b.den)))-(IntKind.u64.wrap ((IntKind.u64.wrap a.num)*(IntKind.u64.wrap b.num)))))).2) (IntKind.u64.wrap ((IntKind.u64.wrap a.den)*(IntKind.u64.wrap b.den)))).1)
theorem zRc (sum:Int) (a:Rto) (b:Rto):GC Tryz.prog 198 [iG sum,rqG a,rqG b] (iG (XW sum a b)):=by
 refine zA Tryz.func198 ?_
 refine gE [0,4,5,6] ?_
 refine zG env true [] [0,6,7,8] ?_
 refine gE [0,6,7,8,29] ?_
 refine zB ?_ ?_<;>intro c1<;>try simp only[toN]at c1
 ·refine gE [0,6,7,8] ?_
  refine gT ?_
  rw[XW,iP c1];rfl
 have w1:=yI (IntKind.u64.wrap a.num*IntKind.u64.wrap b.num)
 have w2:=yI (IntKind.u64.wrap a.den*IntKind.u64.wrap b.den)
 obtain ⟨m1,m2,m3,m4⟩:=zFb (yI sum) (yI (IntKind.u64.wrap (IntKind.u64.wrap a.den*IntKind.u64.wrap b.den)-IntKind.u64.wrap (IntKind.u64.wrap a.num*IntKind.u64.wrap b.num)))
 have m5:=m4 (IntKind.u64.wrap (IntKind.u64.wrap a.den*IntKind.u64.wrap b.den)) (by rw[IntKind.wrap_u64 (IntKind.u64.wrap (IntKind.u64.wrap a.den*IntKind.u64.wrap b.den)-_)];omega) t11
 refine zG env true [.call (zIl (IntKind.u64.wrap sum) (IntKind.u64.wrap ((IntKind.u64.wrap ((IntKind.u64.wrap a.den)*(IntKind.u64.wrap b.den)))-(IntKind.u64.wrap ((IntKind.u64.wrap a.num)*(IntKind.u64.wrap b.num))))) t39 t39)] [6,8,9,10] ?_
 refine gR [.call (zJb ((YQ (IntKind.u64.wrap sum) (IntKind.u64.wrap ((IntKind.u64.wrap ((IntKind.u64.wrap a.den)*(IntKind.u64.wrap b.den)))-(IntKind.u64.wrap ((IntKind.u64.wrap a.num)*(IntKind.u64.wrap b.num)))))).1) ((YQ (IntKind.u64.wrap sum) (IntKind.u64.wrap ((IntKind.u64.wrap ((IntKind.u64.wrap a.den)*(IntKind.u64.wrap b.den)))-(IntKind.u64.wrap ((IntKind.u64.wrap a.num)*(IntKind.u64.wrap b.num)))))).2) (IntKind.u64.wrap ((IntKind.u64.wrap a.den)*(IntKind.u64.wrap b.den))) t16 (by first|omega|exact (yI _).2) t16)] [6,11] ?_
 refine zG env true [] [6] ?_
 refine gT ?_
 rw[XW,iQ c1];rfl
def VJ (r:Rlm) (b:Bil) (city:Int) (sum:Int) (due:Int) (day:Int):Int:=if ((r.bB.getD (((r.bC.getD city.toNat dF).city).toNat) dF).cur)=b.cur then 0 else if (bif (!(Jb r b.cur ((r.bB.getD (((r.bC.getD city.toNat dF).city).toNat) dF).cur) due).2)then true else (!(Jb r ((r.bB.getD (((r.bC.getD city.toNat dF).city).toNat) dF).cur) b.cur day).2))=true then 0 else (XW sum ((Jb r b.cur ((r.bB.getD (((r.bC.getD city.toNat dF).city).toNat) dF).cur) due).1) ((Jb r ((r.bB.getD (((r.bC.getD city.toNat dF).city).toNat) dF).cur) b.cur day).1))
theorem zTk (r:Rlm) (b:Bil) (city:Int) (sum:Int) (due:Int) (day:Int) (hR:RR r) (hc:0<=city/\city<r.bC.length):GC Tryz.prog 155 [rlG r,zCr b,iG city,iG sum,iG due,iG day] (iG (VJ r b city sum due day)):=by
 have hr:=hR.right.fit
 have q1:=hR.right.firmC _ (zJ (l:=r.bC) (i:=city.toNat) t11)
 refine zA Tryz.func155 ?_
 refine gE [2,3,4,5,6,7,12] ?_
 refine gE [3,4,5,6,7,12,13] ?_
 refine gE [3,4,5,6,7,12,13,32] ?_
 refine zB ?_ ?_<;>intro c1<;>try simp only[toN]at c1
 ·refine gE [3,4,5,6,7,12,13] ?_
  refine gT ?_
  rw[VJ,iP c1];rfl
 refine gR [.call (Hm r b.cur ((r.bB.getD (((r.bC.getD city.toNat dF).city).toNat) dF).cur) due t12)] [3,5,6,7,12,13,14,15] ?_
 refine gR [.call (Hm r ((r.bB.getD (((r.bC.getD city.toNat dF).city).toNat) dF).cur) b.cur day t12)] [3,12,14,15,16,17] ?_
 refine gE [3,12,14,16,56] ?_
 refine zF ?_ ?_<;>intro c2<;>try simp only[bb,toN]at c2
 ·refine gE [3,12,14,16] ?_
  refine gT ?_
  rw[VJ,iQ c1,iP (by (try simp only[bb,toN]);exact c2)];rfl
 refine gR [.call (zRc sum ((Jb r b.cur ((r.bB.getD (((r.bC.getD city.toNat dF).city).toNat) dF).cur) due).1) ((Jb r ((r.bB.getD (((r.bC.getD city.toNat dF).city).toNat) dF).cur) b.cur day).1))] [12] ?_
 refine gT ?_
 rw[VJ,iQ c1,iN (by (try simp only[bb,toN]);exact c2)];rfl
def vK (r:Rlm) (f:Fil):Prop:=∀s,s∈f.bF->0<=s.who/\s.who<r.bC.length
theorem vK.at_ {r:Rlm} {f:Fil} (h:vK r f) (day:Int):vK r (atV f day):=by
 rw[Zb]
 exact fun s hs=>h s ((List.takeWhile_sublist _).subset hs)
def yq (r:Rlm) (bK:Int) (f:Fil) (sign:Int) (day:Int) (jb_5_1_1:Int) (jb_5_3_1:Int) (k1:Nat) (b5_2:Int):Owd:=if k1<((atV f day).acts).length then if (bif decide (((((atV f day).acts).getD k1 dF).kind)=4)then true else decide (((((atV f day).acts).getD k1 dF).kind)=5))=true then yq r bK f sign day jb_5_1_1 jb_5_3_1 (k1+1) (mnI 1099511627776 (i64.wrap (b5_2+((((atV f day).acts).getD k1 dF).sum))))else yq r bK f sign day jb_5_1_1 jb_5_3_1 (k1+1) b5_2 else ⟨((zW r bK f sign day).1).sum,jb_5_1_1,b5_2,jb_5_3_1,0,mnI 1099511627776 (i64.wrap ((i64.wrap ((i64.wrap ((((zW r bK f sign day).1).sum)+jb_5_1_1))+b5_2))+jb_5_3_1)),f.bill.cur⟩
termination_by ((atV f day).acts).length-k1
def jQ (r:Rlm) (bK:Int) (f:Fil) (sign:Int) (day:Int) (jb_5_1_1:Int) (jb_5_3_1:Int):Owd:=yq r bK f sign day jb_5_1_1 jb_5_3_1 0 0
def jP (r:Rlm) (bK:Int) (f:Fil) (sign:Int) (day:Int) (j18_2:Int) (jb_5_3_3:Int):Owd:=jQ r bK f sign day (zBd (((zW r bK f sign day).1).sum) j18_2 (ZT r bK f day) (mnI day 100000)) jb_5_3_3
def QN (r:Rlm) (bK:Int) (f:Fil) (sign:Int) (day:Int) (j18_2:Int):Owd:=if (wS (qQ r bK 17 (⟨f,sign,sign,(-1),(ZT r bK f day),day⟩:Cas)))=1 then jP r bK f sign day j18_2 (VJ r f.bill ((((atV f day).bF).getD sign.toNat dF).who) (((zW r bK f sign day).1).sum) (ZT r bK f day) (mnI day 100000))else jP r bK f sign day j18_2 0
def Yz (r:Rlm) (bK:Int) (f:Fil) (sign:Int) (day:Int):Owd:=if (bif (bif (!(zW r bK f sign day).2)then true else decide (sign<0))then true else decide ((((atV f day).bF).length:Int)<=sign))=true then ⟨0,0,0,0,0,0,0⟩else if (bif (!decide ((ZT r bK f day)=(-1)))then decide ((ZT r bK f day)<=(mnI day 100000))else false)=true then if f.bill.rate=0 then QN r bK f sign day (mnI 1000 (mxI 0 (zAe (qQ r bK 16 (⟨f,sign,sign,(-1),(ZT r bK f day),day⟩:Cas)))))else QN r bK f sign day f.bill.rate else jQ r bK f sign day 0 0
theorem zQe (r:Rlm) (bK:Int) (f:Fil) (sign:Int) (day:Int) (hR:RR r) (hF:FitFi f) (hw:vK r f):GC Tryz.prog 102 [rlG r,iG bK,fiG f,iG sign,iG day] (owG (Yz r bK f sign day)):=by
 have hr:=hR.right.fit
 have h1:=hr.bD
 have h2:=hr.bB
 have h3:=hr.bC
 have hF2:=hF.at_ day
 have hw2:=hw.at_ day
 have g3:=hF2.acts
 have g1:(atV f day).bF.length<=1000:=hF2.bF
 refine zA Tryz.func102 ?_
 refine gE [1,3,4,5,7,10] ?_
 refine gR [.call (JB f day (by first|assumption|exact FitFi.at_ t12 _))] [1,3,4,5,7,10,11] ?_
 refine gR [.call (zUk r bK f sign day hR (by first|assumption|exact FitFi.at_ t12 _|exact FitFi.nof t12|exact FitFi.nof (FitFi.at_ t12 _)))] [1,3,4,5,7,10,11,12,13] ?_
 refine gE [1,3,4,5,7,10,11,12,45] ?_
 refine zF ?_ ?_<;>intro c1<;>try simp only[bb,toN]at c1
 ·refine gE [1,3,4,5,7,10,11,12] ?_
  refine gT ?_
  rw[Yz,iP (show (bif (bif (!(zW r bK f sign day).2)then true else decide (sign<0))then true else decide ((((atV f day).bF).length:Int)<=sign))=true by (try simp only[bb,toN]);exact c1)];rfl
 refine gE [1,3,4,5,7,10,11,14] ?_
 refine gR [.call (vi r bK f day hR (by first|assumption|exact FitFi.at_ t12 _|exact FitFi.nof t12|exact FitFi.nof (FitFi.at_ t12 _)))] [1,3,4,5,7,10,11,14,15,16] ?_
 refine gE [1,3,5,7,10,11,14,15,16,17] ?_
 refine gE [1,3,5,7,10,11,14,15,16,17,72] ?_
 refine yO (α:=Int×Int) (fun x=>Yz r bK f sign day=jQ r bK f sign day x.1 x.2) (fun x=>⟨[(10,.ptr 2 0 0 0),(11,.ptr 3 0 0 0),(14,.ptr 5 0 0 0)],[(0,some (.box [.d (.row dF zf r.bA),.d (.row dF ctC r.bB),.d (.row dF inC r.groups),.d (.row dF fmC r.bC),.d (.row dF odC r.bD),.d (.row dF usC r.bE),.d (.row dF rtC r.rates),.d (.row dF htC r.halts)])),(1,some (.box [iG f.bill.bP,iG f.bill.bO,iG f.bill.bQ,iG f.bill.sum,iG f.bill.cur,iG f.bill.ten.kind,iG f.bill.ten.n,iG f.bill.ten.unit,iG f.bill.day,iG f.bill.city,iG f.bill.pay,iG f.bill.need,iG f.bill.rate,iG f.bill.flags,iG f.bill.parts,.d (.row dF sgC f.bF),.d (.row dF alC f.bH),.d (.row dF acC f.acts),.d (.row dF fcC f.facts)])),(2,some (.box [iG 0,iG 0,iG 0,iG 0,iG 0,iG 0,iG 0])),(3,some (.box [iG ((atV f day).bill.bP),iG ((atV f day).bill.bO),iG ((atV f day).bill.bQ),iG ((atV f day).bill.sum),iG ((atV f day).bill.cur),iG ((atV f day).bill.ten.kind),iG ((atV f day).bill.ten.n),iG ((atV f day).bill.ten.unit),iG ((atV f day).bill.day),iG ((atV f day).bill.city),iG ((atV f day).bill.pay),iG ((atV f day).bill.need),iG ((atV f day).bill.rate),iG ((atV f day).bill.flags),iG ((atV f day).bill.parts),.d (.row dF sgC ((atV f day).bF)),.d (.row dF alC ((atV f day).bH)),.d (.row dF acC ((atV f day).acts)),.d (.row dF fcC ((atV f day).facts))])),(4,some (.box [iG (((zW r bK f sign day).1).sign),iG (((zW r bK f sign day).1).kind),iG (((zW r bK f sign day).1).firm),iG (((zW r bK f sign day).1).binds),iG (((zW r bK f sign day).1).text),iG (((zW r bK f sign day).1).sum),bG (((zW r bK f sign day).1).recourse)])),(5,some (.box [iG (((zW r bK f sign day).1).sum),iG x.1,iG 0,iG x.2,iG 0,iG 0,iG f.bill.cur])),(6,some (.box [iG f.bill.bP,iG f.bill.bO,iG f.bill.bQ,iG f.bill.sum,iG f.bill.cur,iG f.bill.ten.kind,iG f.bill.ten.n,iG f.bill.ten.unit,iG f.bill.day,iG f.bill.city,iG f.bill.pay,iG f.bill.need,iG f.bill.rate,iG f.bill.flags,iG f.bill.parts,.d (.row dF sgC f.bF),.d (.row dF alC f.bH),.d (.row dF acC f.acts),.d (.row dF fcC f.facts),iG sign,iG sign,iG (-1),iG (ZT r bK f day),iG day]))],7⟩) ?_ ?_
 ·rintro ⟨jb_5_1_1,jb_5_3_1⟩ hjc1
  dsimp only at*
  refine gE [10,14,114,115,116] ?_
  refine zI (α:=Nat×Int) (fun x=>x.1<=((atV f day).acts).length/\yq r bK f sign day jb_5_1_1 jb_5_3_1 0 0=yq r bK f sign day jb_5_1_1 jb_5_3_1 x.1 x.2) (fun x=>[(116,iG x.1)]) (fun x=>[(5,some (.box [iG (((zW r bK f sign day).1).sum),iG jb_5_1_1,iG x.2,iG jb_5_3_1,iG 0,iG 0,iG f.bill.cur]))]) (fun x=>((atV f day).acts).length-x.1) (0,0) ⟨by (try simp only[]);omega,rfl⟩ ?_ (hp:=t41)
  rintro ⟨k1,b5_2⟩ ⟨hi1,he⟩
  dsimp only at*
  refine gE [10,14,114,115,116,117] ?_
  refine zB ?_ ?_<;>intro c2<;>try simp only[toN]at c2
  ·refine gE [10,14,20,114,115,116] ?_
   refine gE [10,14,20,114,115,116,127] ?_
   refine zF ?_ ?_<;>intro c3<;>try simp only[bb,toN]at c3
   ·refine zG env true [] [10,14,114,115,116] ?_
    refine gE [10,14,114,115,116] ?_
    refine zD ((k1+1,mnI 1099511627776 (i64.wrap (b5_2+((((atV f day).acts).getD k1 dF).sum))))) ?_ (hp:=t41) (hm:=by dsimp only;omega)
    refine ⟨by (try simp only[]);omega,he.trans ?_⟩
    rw[yq,iP (show k1<((atV f day).acts).length by omega),iP (show (bif decide (((((atV f day).acts).getD k1 dF).kind)=4)then true else decide (((((atV f day).acts).getD k1 dF).kind)=5))=true by (try simp only[bb,toN]);exact c3)]
    try rfl
   refine gE [10,14,114,115,116] ?_
   refine zD ((k1+1,b5_2)) ?_ (hp:=t41) (hm:=by dsimp only;omega)
   refine ⟨by (try simp only[]);omega,he.trans ?_⟩
   rw[yq,iP (show k1<((atV f day).acts).length by omega),iQ (show ¬((bif decide (((((atV f day).acts).getD k1 dF).kind)=4)then true else decide (((((atV f day).acts).getD k1 dF).kind)=5))=true)by rw[Bool.not_eq_true];(try simp only[bb,toN]);exact c3)]
   try rfl
  refine zG env true [] [10,14] ?_
  refine gE [10] ?_
  refine gT ?_
  rw[hjc1,jQ,he,yq,iQ (show ¬(k1<((atV f day).acts).length)by omega)];rfl
 refine zF ?_ ?_<;>intro c4<;>try simp only[bb,toN]at c4
 ·refine gE [1,3,5,7,10,11,14,15,16,17,18] ?_
  refine gE [1,3,5,7,10,11,14,15,16,17,18,77] ?_
  refine yO (α:=Int) (fun x=>Yz r bK f sign day=QN r bK f sign day x) (fun x=>⟨[(1,iG bK),(3,iG sign),(5,.ptr 0 0 0 0),(7,.ptr 1 0 0 0),(10,.ptr 2 0 0 0),(11,.ptr 3 0 0 0),(14,.ptr 5 0 0 0),(15,iG (ZT r bK f day)),(16,iG (mnI day 100000)),(17,.ptr 6 0 0 0),(18,iG x)],[(0,some (.box [.d (.row dF zf r.bA),.d (.row dF ctC r.bB),.d (.row dF inC r.groups),.d (.row dF fmC r.bC),.d (.row dF odC r.bD),.d (.row dF usC r.bE),.d (.row dF rtC r.rates),.d (.row dF htC r.halts)])),(1,some (.box [iG f.bill.bP,iG f.bill.bO,iG f.bill.bQ,iG f.bill.sum,iG f.bill.cur,iG f.bill.ten.kind,iG f.bill.ten.n,iG f.bill.ten.unit,iG f.bill.day,iG f.bill.city,iG f.bill.pay,iG f.bill.need,iG f.bill.rate,iG f.bill.flags,iG f.bill.parts,.d (.row dF sgC f.bF),.d (.row dF alC f.bH),.d (.row dF acC f.acts),.d (.row dF fcC f.facts)])),(2,some (.box [iG 0,iG 0,iG 0,iG 0,iG 0,iG 0,iG 0])),(3,some (.box [iG ((atV f day).bill.bP),iG ((atV f day).bill.bO),iG ((atV f day).bill.bQ),iG ((atV f day).bill.sum),iG ((atV f day).bill.cur),iG ((atV f day).bill.ten.kind),iG ((atV f day).bill.ten.n),iG ((atV f day).bill.ten.unit),iG ((atV f day).bill.day),iG ((atV f day).bill.city),iG ((atV f day).bill.pay),iG ((atV f day).bill.need),iG ((atV f day).bill.rate),iG ((atV f day).bill.flags),iG ((atV f day).bill.parts),.d (.row dF sgC ((atV f day).bF)),.d (.row dF alC ((atV f day).bH)),.d (.row dF acC ((atV f day).acts)),.d (.row dF fcC ((atV f day).facts))])),(4,some (.box [iG (((zW r bK f sign day).1).sign),iG (((zW r bK f sign day).1).kind),iG (((zW r bK f sign day).1).firm),iG (((zW r bK f sign day).1).binds),iG (((zW r bK f sign day).1).text),iG (((zW r bK f sign day).1).sum),bG (((zW r bK f sign day).1).recourse)])),(5,some (.box [iG (((zW r bK f sign day).1).sum),iG 0,iG 0,iG 0,iG 0,iG 0,iG f.bill.cur])),(6,some (.box [iG f.bill.bP,iG f.bill.bO,iG f.bill.bQ,iG f.bill.sum,iG f.bill.cur,iG f.bill.ten.kind,iG f.bill.ten.n,iG f.bill.ten.unit,iG f.bill.day,iG f.bill.city,iG f.bill.pay,iG f.bill.need,iG f.bill.rate,iG f.bill.flags,iG f.bill.parts,.d (.row dF sgC f.bF),.d (.row dF alC f.bH),.d (.row dF acC f.acts),.d (.row dF fcC f.facts),iG sign,iG sign,iG (-1),iG (ZT r bK f day),iG day]))],7⟩) ?_ ?_
  ·rintro j18_2 hjc2
   refine gR [.call (zYg (((zW r bK f sign day).1).sum) j18_2 (ZT r bK f day) (mnI day 100000))] [1,3,5,7,10,11,14,15,16,17] ?_
   refine gR [.call (WP r bK 17 (⟨f,sign,sign,(-1),(ZT r bK f day),day⟩:Cas) hR (by first|assumption|exact FitFi.at_ t12 _|exact FitFi.nof t12|exact FitFi.nof (FitFi.at_ t12 _))),.call (vR (qQ r bK 17 (⟨f,sign,sign,(-1),(ZT r bK f day),day⟩:Cas)))] [3,5,7,10,11,14,15,16,97] ?_
   refine yO (α:=Int) (fun x=>Yz r bK f sign day=jP r bK f sign day j18_2 x) (fun x=>⟨[(10,.ptr 2 0 0 0),(11,.ptr 3 0 0 0),(14,.ptr 5 0 0 0)],[(0,some (.box [.d (.row dF zf r.bA),.d (.row dF ctC r.bB),.d (.row dF inC r.groups),.d (.row dF fmC r.bC),.d (.row dF odC r.bD),.d (.row dF usC r.bE),.d (.row dF rtC r.rates),.d (.row dF htC r.halts)])),(1,some (.box [iG f.bill.bP,iG f.bill.bO,iG f.bill.bQ,iG f.bill.sum,iG f.bill.cur,iG f.bill.ten.kind,iG f.bill.ten.n,iG f.bill.ten.unit,iG f.bill.day,iG f.bill.city,iG f.bill.pay,iG f.bill.need,iG f.bill.rate,iG f.bill.flags,iG f.bill.parts,.d (.row dF sgC f.bF),.d (.row dF alC f.bH),.d (.row dF acC f.acts),.d (.row dF fcC f.facts)])),(2,some (.box [iG 0,iG 0,iG 0,iG 0,iG 0,iG 0,iG 0])),(3,some (.box [iG ((atV f day).bill.bP),iG ((atV f day).bill.bO),iG ((atV f day).bill.bQ),iG ((atV f day).bill.sum),iG ((atV f day).bill.cur),iG ((atV f day).bill.ten.kind),iG ((atV f day).bill.ten.n),iG ((atV f day).bill.ten.unit),iG ((atV f day).bill.day),iG ((atV f day).bill.city),iG ((atV f day).bill.pay),iG ((atV f day).bill.need),iG ((atV f day).bill.rate),iG ((atV f day).bill.flags),iG ((atV f day).bill.parts),.d (.row dF sgC ((atV f day).bF)),.d (.row dF alC ((atV f day).bH)),.d (.row dF acC ((atV f day).acts)),.d (.row dF fcC ((atV f day).facts))])),(4,some (.box [iG (((zW r bK f sign day).1).sign),iG (((zW r bK f sign day).1).kind),iG (((zW r bK f sign day).1).firm),iG (((zW r bK f sign day).1).binds),iG (((zW r bK f sign day).1).text),iG (((zW r bK f sign day).1).sum),bG (((zW r bK f sign day).1).recourse)])),(5,some (.box [iG (((zW r bK f sign day).1).sum),iG (zBd (((zW r bK f sign day).1).sum) j18_2 (ZT r bK f day) (mnI day 100000)),iG 0,iG x,iG 0,iG 0,iG f.bill.cur])),(6,some (.box [iG f.bill.bP,iG f.bill.bO,iG f.bill.bQ,iG f.bill.sum,iG f.bill.cur,iG f.bill.ten.kind,iG f.bill.ten.n,iG f.bill.ten.unit,iG f.bill.day,iG f.bill.city,iG f.bill.pay,iG f.bill.need,iG f.bill.rate,iG f.bill.flags,iG f.bill.parts,.d (.row dF sgC f.bF),.d (.row dF alC f.bH),.d (.row dF acC f.acts),.d (.row dF fcC f.facts),iG sign,iG sign,iG (-1),iG (ZT r bK f day),iG day]))],7⟩) ?_ ?_
   ·rintro jb_5_3_3 hjc3
    refine zV (((zBd (((zW r bK f sign day).1).sum) j18_2 (ZT r bK f day) (mnI day 100000)),jb_5_3_3)) ?_ (hp:=t41)
    exact by rw[hjc3,jP]
   refine zB ?_ ?_<;>intro c5<;>try simp only[toN]at c5
   ·refine gR [.call (zTk r f.bill ((((atV f day).bF).getD sign.toNat dF).who) (((zW r bK f sign day).1).sum) (ZT r bK f day) (mnI day 100000) t12 (by first|assumption|exact hw2 _ (zJ t11)|(constructor<;>omega)))] [10,11,14] ?_
    refine zV ((VJ r f.bill ((((atV f day).bF).getD sign.toNat dF).who) (((zW r bK f sign day).1).sum) (ZT r bK f day) (mnI day 100000))) ?_ (hp:=t41)
    exact by rw[hjc2,QN,iP c5]
   refine zV (0) ?_ (hp:=t41)
   exact by rw[hjc2,QN,iQ c5]
  refine zB ?_ ?_<;>intro c6<;>try simp only[toN]at c6
  ·refine gR [.call (WP r bK 16 (⟨f,sign,sign,(-1),(ZT r bK f day),day⟩:Cas) hR (by first|assumption|exact FitFi.at_ t12 _|exact FitFi.nof t12|exact FitFi.nof (FitFi.at_ t12 _))),.call (zQo (qQ r bK 16 (⟨f,sign,sign,(-1),(ZT r bK f day),day⟩:Cas)))] [1,3,5,7,10,11,14,15,16,17,18] ?_
   refine zV (mnI 1000 (mxI 0 (zAe (qQ r bK 16 (⟨f,sign,sign,(-1),(ZT r bK f day),day⟩:Cas))))) ?_ (hp:=t41)
   exact by rw[Yz,iQ (show ¬((bif (bif (!(zW r bK f sign day).2)then true else decide (sign<0))then true else decide ((((atV f day).bF).length:Int)<=sign))=true)by rw[Bool.not_eq_true];(try simp only[bb,toN]);exact c1),iP (show (bif (!decide ((ZT r bK f day)=(-1)))then decide ((ZT r bK f day)<=(mnI day 100000))else false)=true by (try simp only[bb,toN]);exact c4),iP c6]
  refine zV (f.bill.rate) ?_ (hp:=t41)
  exact by rw[Yz,iQ (show ¬((bif (bif (!(zW r bK f sign day).2)then true else decide (sign<0))then true else decide ((((atV f day).bF).length:Int)<=sign))=true)by rw[Bool.not_eq_true];(try simp only[bb,toN]);exact c1),iP (show (bif (!decide ((ZT r bK f day)=(-1)))then decide ((ZT r bK f day)<=(mnI day 100000))else false)=true by (try simp only[bb,toN]);exact c4),iQ c6]
 refine zV ((0,0)) ?_ (hp:=t41)
 exact by rw[Yz,iQ (show ¬((bif (bif (!(zW r bK f sign day).2)then true else decide (sign<0))then true else decide ((((atV f day).bF).length:Int)<=sign))=true)by rw[Bool.not_eq_true];(try simp only[bb,toN]);exact c1),iQ (show ¬((bif (!decide ((ZT r bK f day)=(-1)))then decide ((ZT r bK f day)<=(mnI day 100000))else false)=true)by rw[Bool.not_eq_true];(try simp only[bb,toN]);exact c4)]
def Jx (a:Int) (b:Int):Int:=if (bif decide (a=0)then true else decide (b=0))=true then 0 else if (bif decide (a=2)then true else decide (b=2))=true then 2 else 1
theorem UM (a:Int) (b:Int):GC Tryz.prog 148 [iG a,iG b] (iG (Jx a b)):=by
 refine zA Tryz.func148 ?_
 refine gE [0,1,4] ?_
 refine gE [0,1,4,5] ?_
 refine zF ?_ ?_<;>intro c1<;>try simp only[bb,toN]at c1
 ·refine gE [4] ?_
  refine gT ?_
  rw[Jx,iP (by (try simp only[bb,toN]);exact c1)];rfl
 refine gE [4,12] ?_
 refine zF ?_ ?_<;>intro c2<;>try simp only[bb,toN]at c2
 ·refine gE [4] ?_
  refine gT ?_
  rw[Jx,iN (by (try simp only[bb,toN]);exact c1),iP (by (try simp only[bb,toN]);exact c2)];rfl
 refine gE [4] ?_
 refine gT ?_
 rw[Jx,iN (by (try simp only[bb,toN]);exact c1),iN (by (try simp only[bb,toN]);exact c2)];rfl
def QX (v:Ovw) (s:Int):Int:=vv v.now s
theorem zUn (v:Ovw) (s:Int) (hF:FitFi v.now) (hB:yY v.now) (hs:0<=s/\s<v.now.bF.length):GC Tryz.prog 147 [ovG v,iG s] (iG (QX v s)):=zUo v s hF hB hs
theorem zGr {g:Fil} (hB:yY g) {s:Int} (h:0<=s/\s<g.bF.length):0<=vv g s/\vv g s<g.bF.length:=by
 have:=UP hB (s.toNat+1) (s.toNat+1) s h.1 h.2 t11 t11
 exact ⟨this.2.1,by have:=this.2.2;unfold vv;omega⟩
def JY (c:Crt) (o:Onr) (sign:Int) (links:List Int) (effs:List Efc) (a16_1:Int) (a17_1:Int) (k1:Nat):Int×Int:=if k1<links.length then if (links.getD k1 dF)<=o.sign then if (bif decide ((links.getD k1 dF)<=o.sign)then decide ((QX c.v sign)<=(links.getD k1 dF))else false)=true then JY c o sign links effs (i64.wrap (a16_1+1)) (i64.wrap (a17_1+1)) (k1+1)else JY c o sign links effs a16_1 (i64.wrap (a17_1+1)) (k1+1)else if (bif decide ((links.getD k1 dF)<=o.sign)then decide ((QX c.v sign)<=(links.getD k1 dF))else false)=true then JY c o sign links effs (i64.wrap (a16_1+1)) a17_1 (k1+1)else JY c o sign links effs a16_1 a17_1 (k1+1)else if (!(qv links (QX c.v sign)))=true then ((Jx (Jx o.state ((effs.getD sign.toNat dF).binds)) ((jT c.r c.bK c.v.all (QX c.v sign) c.v.day).all)),a17_1)else ((Jx (Jx o.state ((effs.getD sign.toNat dF).binds)) ((jT c.r c.bK c.v.all (QX c.v sign) c.v.day).all)),a16_1)
termination_by links.length-k1
def stO (c:Crt) (o:Onr) (sign:Int) (links:List Int) (effs:List Efc):Int×Int:=if ((c.v.now.bF.getD ((QX c.v sign).toNat) dF).kind)=1 then if (!(bif (!decide (c.due=(-1)))then decide (c.due<=c.v.day)else false))=true then (0,0)else ((Jx o.state ((effs.getD sign.toNat dF).binds)),0)else if (bif (bif (!(bif (!decide (c.due=(-1)))then decide (c.due<=c.v.day)else false))then (!(c.v.now.acts.any (fun y=>Ud y)))else false)then true else (!(effs.getD ((QX c.v sign).toNat) dF).recourse))=true then (0,0)else JY c o sign links effs 0 1 0
theorem ZBn (c:Crt) (o:Onr) (sign:Int) (links:List Int) (effs:List Efc) (hR:RR c.r) (hF:FitFi c.v.now) (hA:FitFi c.v.all) (hB:yY c.v.now) (hs:0<=sign/\sign<c.v.now.bF.length) (he:effs.length=c.v.now.bF.length) (hl:links.length<=1000) (hp:0<=c.v.all.bill.pay/\c.v.all.bill.pay<c.r.bB.length):GC Tryz.prog 101 [zZn c,onG o,iG sign,.d (.row dF inC links),.d (.row dF efC effs)] (.tup [iG ((stO c o sign links effs).1),iG ((stO c o sign links effs).2)]):=by
 have hb:0<=QX c.v sign/\QX c.v sign<c.v.now.bF.length:=zGr hB hs
 have g1:=hF.bF
 have g3:=hF.acts
 refine zA Tryz.func101 ?_
 refine gE [2,3,4,5,6,10,11] ?_
 refine gR [.call (zUn c.v sign t12 t12 t16)] [2,3,4,5,6,10,11,12] ?_
 refine gR [.call (UM o.state ((effs.getD sign.toNat dF).binds))] [3,4,5,6,10,11,12,13] ?_
 refine gE [3,4,5,6,10,11,12,13,14] ?_
 refine gE [3,4,5,6,10,11,12,13,14,51] ?_
 refine zB ?_ ?_<;>intro c1<;>try simp only[toN]at c1
 ·refine gE [3,4,5,6,10,11,12,13,14,53] ?_
  refine zF ?_ ?_<;>intro c2<;>try simp only[bb,toN]at c2
  ·refine gE [3,4,5,6,10,11,12,13,14] ?_
   refine gT ?_
   rw[stO,iP c1,iP (by (try simp only[bb,toN]);exact c2)];rfl
  refine gE [3,4,5,6,10,11,12,13,14] ?_
  refine gT ?_
  rw[stO,iP c1,iN (by (try simp only[bb,toN]);exact c2)];rfl
 refine gR [.call (Un c.v.now.acts t11)] [3,4,5,6,10,11,12,13,14,15] ?_
 refine gE [3,5,6,10,11,12,13,73] ?_
 refine zF ?_ ?_<;>intro c3<;>try simp only[bb,toN]at c3
 ·refine gE [3,5,6,10,11,12,13] ?_
  refine gT ?_
  rw[stO,iQ c1,iP (by (try simp only[bb,toN]);exact c3)];rfl
 refine gE [3,5,6,10,11,12,13,16,17] ?_
 refine gE [3,5,6,10,11,12,13,16,17,74,75,76] ?_
 refine zI (α:=Int×Int×Nat) (fun x=>x.2.2<=links.length/\JY c o sign links effs 0 1 0=JY c o sign links effs x.1 x.2.1 x.2.2) (fun x=>[(16,iG x.1),(17,iG x.2.1),(76,iG x.2.2)]) (fun x=>[]) (fun x=>links.length-x.2.2) (0,1,0) ⟨by (try simp only[]);omega,rfl⟩ ?_ (hp:=t41)
 rintro ⟨a16_1,a17_1,k1⟩ ⟨hi1,he⟩
 dsimp only at*
 refine gE [3,5,6,10,11,12,13,16,17,74,75,76,77] ?_
 refine zB ?_ ?_<;>intro c4<;>try simp only[toN]at c4
 ·refine gE [3,5,6,10,11,12,13,16,17,19,74,75,76] ?_
  refine gE [3,5,6,10,11,12,13,16,17,19,74,75,76,83] ?_
  refine zB ?_ ?_<;>intro c5<;>try simp only[toN]at c5
  ·refine zG env true [] [3,5,6,10,11,12,13,16,17,19,74,75,76] ?_
   refine gE [3,5,6,10,11,12,13,16,17,74,75,76,94] ?_
   refine zF ?_ ?_<;>intro c6<;>try simp only[bb,toN]at c6
   ·refine zG env true [] [3,5,6,10,11,12,13,16,17,74,75,76] ?_
    refine gE [3,5,6,10,11,12,13,16,17,74,75,76] ?_
    refine zD ((i64.wrap (a16_1+1),i64.wrap (a17_1+1),k1+1)) ?_ (hp:=t41) (hm:=by dsimp only;omega)
    refine ⟨by (try simp only[]);omega,he.trans ?_⟩
    rw[JY,iP t11,iP c5,iP (by (try simp only[bb,toN]);exact c6)]
    try rfl
   refine gE [3,5,6,10,11,12,13,16,17,74,75,76] ?_
   refine zD ((a16_1,i64.wrap (a17_1+1),k1+1)) ?_ (hp:=t41) (hm:=by dsimp only;omega)
   refine ⟨by (try simp only[]);omega,he.trans ?_⟩
   rw[JY,iP t11,iP c5,iN (by (try simp only[bb,toN]);exact c6)]
   try rfl
  refine gE [3,5,6,10,11,12,13,16,17,74,75,76,94] ?_
  refine zF ?_ ?_<;>intro c7<;>try simp only[bb,toN]at c7
  ·refine zG env true [] [3,5,6,10,11,12,13,16,17,74,75,76] ?_
   refine gE [3,5,6,10,11,12,13,16,17,74,75,76] ?_
   refine zD ((i64.wrap (a16_1+1),a17_1,k1+1)) ?_ (hp:=t41) (hm:=by dsimp only;omega)
   refine ⟨by (try simp only[]);omega,he.trans ?_⟩
   rw[JY,iP t11,iQ c5,iP (by (try simp only[bb,toN]);exact c7)]
   try rfl
  refine gE [3,5,6,10,11,12,13,16,17,74,75,76] ?_
  refine zD ((a16_1,a17_1,k1+1)) ?_ (hp:=t41) (hm:=by dsimp only;omega)
  refine ⟨by (try simp only[]);omega,he.trans ?_⟩
  rw[JY,iP t11,iQ c5,iN (by (try simp only[bb,toN]);exact c7)]
  try rfl
 refine gR [.call ((fun l x h=>zh l h x) links (QX c.v sign) t17)] [5,10,11,12,13,16,17,101] ?_
 refine zF ?_ ?_<;>intro c8<;>try simp only[bb,toN]at c8
 ·refine gE [5,10,11,12,13,16] ?_
  refine gR [.call (zIr c.r c.bK c.v.all (QX c.v sign) c.v.day t12 t12 t12),.call (UM (Jx o.state ((effs.getD sign.toNat dF).binds)) ((jT c.r c.bK c.v.all (QX c.v sign) c.v.day).all))] [10,11] ?_
  refine gT ?_
  rw[stO,iQ c1,iN (by (try simp only[bb,toN]);exact c3),he,JY,iQ t11,iP (by (try simp only[bb,toN]);exact c8)];rfl
 refine gR [.call (zIr c.r c.bK c.v.all (QX c.v sign) c.v.day t12 t12 t12),.call (UM (Jx o.state ((effs.getD sign.toNat dF).binds)) ((jT c.r c.bK c.v.all (QX c.v sign) c.v.day).all))] [10,11] ?_
 refine gT ?_
 rw[stO,iQ c1,iN (by (try simp only[bb,toN]);exact c3),he,JY,iQ t11,iN (by (try simp only[bb,toN]);exact c8)];rfl
def VT (c:Crt) (last:Int):List Int->Onr->List Onr
 | [],o=>[o]
 |l::ls,o=>if Jc c l last=0 then [o]else if Jc c l last=2 then ⟨o.firm,o.sign,2⟩::VT c last ls ⟨(c.v.now.bF.getD l.toNat dF).to_,l,2⟩else VT c last ls ⟨(c.v.now.bF.getD l.toNat dF).to_,l,o.state⟩
def Hy (c:Crt):Onr:=⟨c.v.now.bill.bQ,-1,1⟩
def Jj (l:List Int):Int:=l.getD ((l.length:Int)-1).toNat dF
def jq (c:Crt) (links:List Int):List Onr:=VT c (Jj links) links (Hy c)
theorem zNl (l:List Int) (k:Nat) (h:k<l.length):l.drop k=l.getD k dF::l.drop (k+1):=by
 rw[List.drop_eq_getElem_cons h,List.getD_eq_getElem?_getD,List.getElem?_eq_getElem h];rfl
theorem ZCf (c:Crt) (links:List Int) (hR:RR c.r) (hF:FitFi c.v.now) (hl:links.length<=1000) (hk:∀l,l∈links->0<=l/\l<c.v.now.bF.length):Xv Tryz.prog 143 [.ep (crtC c),.ep [.row dF inC links]] (fun o:Onr=>[onG o]) (jq c links):=by
 have g1:=hF.bF
 refine Jm Tryz.func143 fun C hg hN=> ?_
 refine (yZ (c':=_) (K':=_) (n:=1000) (K:=[]) rfl ?_:GYK C _ (zOb _) _ [] _ _).gy
 refine ze env false [] [0,1,2,4] ?_
 refine ze env false [] [0,1,2,4,14,15,16] ?_
 refine Xw (β:=List Onr×Onr×Nat) (fun x=>x.2.2<=links.length/\x.1++VT c (Jj links) (links.drop x.2.2) x.2.1=jq c links) (fun x=>[(16,iG x.2.2)]) (fun x=>[(0,some (.box [iG x.2.1.firm,iG x.2.1.sign,iG x.2.1.state]))]) (fun x=>(true,x.1)) (fun x=>links.length-x.2.2) ([],Hy c,0) ⟨Nat.zero_le _,rfl⟩ ?_
 rintro ⟨pre,o,k⟩ ⟨ha,he⟩
 dsimp only at*
 refine ze env false [] [0,1,2,4,14,15,16,17] ?_
 refine Vm (fun c1=> ?_) (fun c1=> ?_)
 ·have hk2:k<links.length:=by omega
  rw[zNl links k hk2,VT]at he
  have hlk:=hk _ (zJ (l:=links) (i:=k) hk2)
  refine ze env false [] [0,1,2,4,6,14,15,16] ?_ (hp:=t14)
  refine ze env false [.call (zPz c (links.getD k dF) (links.getD ((links.length:Int)-1).toNat dF) hR hF)] [0,1,2,4,6,7,14,15,16] ?_ (hp:=t14)
  refine ze env false [] [0,1,2,4,6,7,14,15,16,30] ?_
  refine Vm (fun c2=> ?_) (fun c2=> ?_)
  ·rw[iP (show Jc c (links.getD k dF) (Jj links)=0 from c2)]at he
   refine wp ?_
   refine Yh env false 2 [] ?_
   refine JS o [] (by rw[hN];exact he) (by rw[hg]) fun b=> ?_
   refine wo [] ?_
   cases b with
   |true=>exact vM (.inl (congrArg (Prod.mk true) he))
   |false=>exact vM (.inr rfl)
  rw[iQ (show ¬Jc c (links.getD k dF) (Jj links)=0 from c2)]at he
  refine ze env false [] [0,1,2,4,6,7,14,15,16,32] ?_
  refine Vm (fun c3=> ?_) (fun c3=> ?_)
  ·rw[iP (show Jc c (links.getD k dF) (Jj links)=2 from c3)]at he
   refine ze env false [] [0,1,2,4,6,14,15,16] ?_
   refine wp ?_
   refine Yh env false 2 [] ?_
   refine JS ⟨o.firm,o.sign,2⟩ _ (by rw[hN];exact he) (by rw[hg]) fun b=> ?_
   refine Yh env false 1 [] ?_
   refine wo [0,1,2,4,6,14,15,16,37] ?_
   refine Ur (fun c4=> ?_) (fun c4=> ?_)
   ·cases b with
    |true=>cases c4
    |false=>exact zDb (.inr rfl)
   refine ze env false [] [0,1,2,4,14,15,16] ?_ (hp:=t14)
   refine ze env false [] [0,1,2,4,14,15,16] ?_ (hp:=t14)
   cases b with
   |false=>cases c4
   |true=>exact jG (pre++ [⟨o.firm,o.sign,2⟩],⟨(c.v.now.bF.getD (links.getD k dF).toNat dF).to_,links.getD k dF,2⟩,k+1) ⟨hk2,by dsimp only;rw[List.append_assoc];exact he⟩ (hm:=by dsimp only;omega)
  rw[iQ (show ¬Jc c (links.getD k dF) (Jj links)=2 from c3)]at he
  refine ze env false [] [0,1,2,4,14,15,16] ?_ (hp:=t14)
  refine ze env false [] [0,1,2,4,14,15,16] ?_ (hp:=t14)
  exact jG (pre,⟨(c.v.now.bF.getD (links.getD k dF).toNat dF).to_,links.getD k dF,o.state⟩,k+1) ⟨hk2,he⟩ (hm:=by dsimp only;omega)
 have e:k=links.length:=by omega
 rw[e,List.drop_length,VT]at he
 refine wp ?_
 refine Yh env false 2 [] ?_
 refine JS o [] (by rw[hN];exact he) (by rw[hg]) fun b=> ?_
 refine wo [] ?_
 cases b with
 |true=>exact vM (.inl (congrArg (Prod.mk true) he))
 |false=>exact vM (.inr rfl)
theorem zKx (c:Crt) (links:List Int):GC Tryz.prog 99 [zZn c,qq links] (.fn (.func 143) [] [.ep (crtC c),.ep [.row dF inC links]]):=by
 refine zA Tryz.func99 ?_
 refine gE [2,3] ?_
 refine zz 0 ?_
 refine zz 1 ?_
 refine gE [4] ?_
 refine gT ?_
 rfl
def YB (f:Fil):Prop:=∀i j:Nat,i<=j->j<f.bF.length->(f.bF.getD i dF).day<=(f.bF.getD j dF).day
theorem Ux (l:List Sgn) (day:Int) {k:Nat} (h:k<(upto l day).length):(upto l day).getD k dF=l.getD k dF:=by
 obtain ⟨t,ht⟩:=List.takeWhile_prefix (l:=l) fun x:Sgn=> !decide (day<x.day)
 have e:upto l day++t=l:=ht
 rw[List.getD_eq_getElem?_getD,List.getD_eq_getElem?_getD,<-List.getElem?_append_left (l₂:=t) h,e]
theorem Vt:∀(l:List Sgn) (day:Int) (k:Nat),(∀i j:Nat,i<=j->j<l.length->(l.getD i dF).day<=(l.getD j dF).day)->k<l.length->(l.getD k dF).day<=day->k<(upto l day).length:=by
 intro l
 induction l with
 |nil=>intro day k _ h;simp at h
 |cons a l ih=>
  intro day k hs h hd
  have h0:=hs 0 k (Nat.zero_le _) h
  have e0:((a::l).getD 0 dF).day=a.day:=rfl
  have e:upto (a::l) day=a::upto l day:=by unfold upto;rw[List.takeWhile_cons,iP (by simp;omega)]
  rw[e]
  cases k with
  |zero=>simp
  |succ k=>
   have:=ih day k (fun i j h1 h2=>hs (i+1) (j+1) t11 (by simp;omega)) (by simpa using h) hd
   simp;omega
theorem yY.at_ {f:Fil} (h:yY f) (day:Int):yY (atV f day):=by
 rw[Zb]
 intro k hk hh
 have hk':k<(upto f.bF day).length:=hk
 have hle:=vQ (fun x:Sgn=> !decide (day<x.day)) f.bF
 have e:(upto f.bF day).getD k dF=f.bF.getD k dF:=Ux _ _ hk'
 rw[show (⟨f.bill,upto f.bF day,_,_,_⟩:Fil).bF.getD k dF=f.bF.getD k dF from e]at hh⊢
 exact h k (by have:(upto f.bF day).length<=f.bF.length:=hle;omega) hh
theorem zGj (f:Fil) (first:Int) (was:Bool):∀(l:List Nat) (c:Chn) (x:Int),x∈(yu f first was l c).bF->x∈c.bF∨∃i,i∈l/\x=(i:Nat):=by
 intro l
 induction l with
 |nil=>intro c x h;exact .inl h
 |cons a l ih=>
  intro c x h
  rw[yu]at h
  split at h
  ·exact .inl h
  rcases ih _ _ h with h|⟨i,hi,e⟩
  ·have h':x∈c.bF++ [(a:Int)]:=h
   rcases List.mem_append.1 h' with h|h
   ·exact .inl h
   exact .inr ⟨a,by simp,by simpa using h⟩
  exact .inr ⟨i,by simp[hi],e⟩
theorem UK (f:Fil) (first:Int) (was:Bool):∀(l:List Nat) (c:Chn),(yu f first was l c).bF.length<=c.bF.length+l.length:=by
 intro l
 induction l with
 |nil=>intro c;exact Nat.le_refl _
 |cons a l ih=>
  intro c
  rw[yu]
  split
  ·simp
  have:=ih (ZV f first was c a)
  have h2:(ZV f first was c a).bF.length=c.bF.length+1:=by simp[ZV]
  simp only[List.length_cons];omega
theorem Kf {f:Fil} (hF:FitFi f) (hd:YB f) (day part:Int):(zK (zm f day) part).length<=1000/\∀l,l∈zK (zm f day) part->0<=l/\l<(atV f day).bF.length:=by
 have g1:=hF.bF
 refine ⟨?_,fun l hl=> ?_⟩
 ·have h1:=UK f (zX f day).1 (zX f day).2 (Jt f part day) (Za f)
  have h2:=uz f part day
  have h3:(Za f).bF.length=0:=rfl
  show (yu f (zX f day).1 (zX f day).2 (Jt f part day) (Za f)).bF.length<=1000
  omega
 rcases zGj f (zX f day).1 (zX f day).2 (Jt f part day) (Za f) l hl with h|⟨i,hi,rfl⟩
 ·cases h
 refine ⟨by omega,?_⟩
 have h1:=Kz hi
 have h2:=(List.mem_filter.1 hi).2
 have h3:(f.bF.getD i dF).day<=day:=by
  simp only[UA,bb]at h2
  omega
 have:=Vt f.bF day i hd h1 h3
 rw[Zb];show ((i:Nat):Int)<(upto f.bF day).length;omega
theorem zRr (f:Fil) (hF:FitFi f):0<(YZ f).length/\(YZ f).length<=1001:=by
 have h1:=Kg f
 have h2:=yH ((ldR f).mergeSort fun x y=>decide (x<=y))
 have h3:((ldR f).mergeSort fun x y=>decide (x<=y)).length=(ldR f).length:=List.length_mergeSort _
 have g1:=hF.bF
 unfold YZ
 split
 ·simp
 exact ⟨by omega,by omega⟩
theorem zRp (v:Ovw) (part by_:Int) (links:List Int):∀k x,x∈qt v part by_ links k->0<=x/\x<k:=by
 intro k
 induction k with
 |zero=>intro x h;cases h
 |succ k ih=>
  intro x h
  unfold qt at h
  split at h
  ·rcases List.mem_append.1 h with h|h
   ·have:=ih x h;omega
   rw[List.mem_singleton.1 h];omega
  have:=ih x h;omega
theorem ua (v:Ovw) (part by_:Int) (links:List Int):(Zn v part by_ links).length<=v.now.bF.length/\∀x,x∈Zn v part by_ links->0<=x/\x<v.now.bF.length:=by
 unfold Zn
 split
 ·exact ⟨Nat.zero_le _,fun x h=>by cases h⟩
 exact ⟨zAu _ _ _ _ _,zRp _ _ _ _ _⟩
theorem uN (c:Crt) (last:Int):∀(l:List Int) (o:Onr),(VT c last l o).length<=l.length+1:=by
 intro l
 induction l with
 |nil=>intro o;exact Nat.le_refl _
 |cons a l ih=>
  intro o
  rw[VT]
  split
  ·simp
  split
  ·have:=ih ⟨(c.v.now.bF.getD a.toNat dF).to_,a,2⟩
   simp only[List.length_cons];omega
  have:=ih ⟨(c.v.now.bF.getD a.toNat dF).to_,a,o.state⟩
  simp only[List.length_cons];omega
def WN (r:Rlm) (bK:Int) (f:Fil) (day p:Int) (o:Onr) (acc:List Clm) (s:Int):List Clm:=
 if (bif decide ((stO (Yd r bK f day).1 o s (zK (zm f day) p) (ZM r bK f day)).1=0)then true else decide (((atV f day).bF.getD s.toNat dF).who=o.firm))=true then acc
 else acc++ [⟨((atV f day).bF.getD s.toNat dF).who,o.firm,p,s,o.sign,(stO (Yd r bK f day).1 o s (zK (zm f day) p) (ZM r bK f day)).2,(Yz r bK f s day).rest,f.bill.cur,(stO (Yd r bK f day).1 o s (zK (zm f day) p) (ZM r bK f day)).1⟩]
def wT (r:Rlm) (bK:Int) (f:Fil) (day p:Int) (acc:List Clm) (o:Onr):List Clm:=(Zn (zm f day) p o.sign (zK (zm f day) p)).foldl (WN r bK f day p o) acc
def vD (r:Rlm) (bK:Int) (f:Fil) (day:Int) (acc:List Clm) (p:Int):List Clm:=(jq (Yd r bK f day).1 (zK (zm f day) p)).foldl (wT r bK f day p) acc
def Yg (r:Rlm) (bK:Int) (f:Fil) (day:Int):List Clm:=if (!(Yd r bK f day).2)=true then []else (YZ (atV f day)).foldl (vD r bK f day) []
theorem qK {α β:Type} (g:List β->α->List β) (n:Nat) (hg:∀a x,(g a x).length<=a.length+n):∀(l:List α) (a:List β),(l.foldl g a).length<=a.length+l.length*n:=by
 intro l
 induction l with
 |nil=>intro a;simp
 |cons x l ih=>
  intro a
  have h1:=ih (g a x)
  have h2:=hg a x
  have h3:(l.length+1)*n=l.length*n+n:=Nat.succ_mul _ _
  simp only[List.foldl_cons,List.length_cons]
  omega
theorem zCh (r:Rlm) (bK:Int) (f:Fil) (day p:Int) (o:Onr) (a:List Clm) (s:Int):(WN r bK f day p o a s).length<=a.length+1:=by
 unfold WN;split<;>simp
theorem zCj (r:Rlm) (bK:Int) (f:Fil) (day p:Int) (hF:FitFi f) (a:List Clm) (o:Onr):(wT r bK f day p a o).length<=a.length+1000:=by
 have h1:=qK (WN r bK f day p o) 1 (zCh r bK f day p o) (Zn (zm f day) p o.sign (zK (zm f day) p)) a
 have h2:=(ua (zm f day) p o.sign (zK (zm f day) p)).1
 have h3:(zm f day).now.bF.length<=1000:=(hF.at_ day).bF
 unfold wT;omega
theorem zCi (r:Rlm) (bK:Int) (f:Fil) (day:Int) (hF:FitFi f) (hd:YB f) (a:List Clm) (p:Int):(vD r bK f day a p).length<=a.length+1001000:=by
 have h1:=qK (wT r bK f day p) 1000 (zCj r bK f day p hF) (jq (Yd r bK f day).1 (zK (zm f day) p)) a
 have h2:=uN (Yd r bK f day).1 (Jj (zK (zm f day) p)) (zK (zm f day) p) (Hy (Yd r bK f day).1)
 have h3:=(Kf hF hd day p).1
 have h4:(jq (Yd r bK f day).1 (zK (zm f day) p)).length<=1001:=by unfold jq;omega
 have h5:(jq (Yd r bK f day).1 (zK (zm f day) p)).length*1000<=1001*1000:=Nat.mul_le_mul_right _ h4
 unfold vD;omega
theorem zCt (r:Rlm) (bK:Int) (f:Fil) (day:Int):∀(m:Nat) (a:List Efc) (k:Nat),(atV f day).bF.length-k<=m->k<=(atV f day).bF.length->a.length=k->(YL r bK f day a k).length=(atV f day).bF.length:=by
 intro m
 induction m with
 |zero=>
  intro a k h1 h2 h3
  unfold YL
  split
  ·rename_i h
   exact absurd (show k<(atV f day).bF.length from h) t11
  omega
 |succ m ih=>
  intro a k h1 h2 h3
  unfold YL
  split
  ·rename_i h
   have h':k<(atV f day).bF.length:=h
   exact ih _ _ t11 t11 (by simp[h3])
  rename_i h
  have h':¬k<(atV f day).bF.length:=h
  omega
theorem zNq (r:Rlm) (bK:Int) (f:Fil) (day:Int):(ZM r bK f day).length=(atV f day).bF.length:=zCt r bK f day _ [] 0 (Nat.le_refl _) (Nat.zero_le _) rfl
theorem zWy (r:Rlm) (bK:Int) (f:Fil) (day:Int) (hR:RR r) (hF:FitFi f) (hB:yY f) (hd:YB f) (hw:vK r f) (hp:0<=f.bill.pay/\f.bill.pay<r.bB.length):GM Tryz.prog 64 [rlG r,iG bK,fiG f,iG day] [] (.sl 0 9 0 (Yg r bK f day).length) [some (.row 55 9 dF clC (Yg r bK f day) 0)]:=by
 have hF2:=hF.at_ day
 have hw2:=hw.at_ day
 have hB2:=hB.at_ day
 have g1:=hF2.bF
 refine ZX Tryz.func64 ?_
 refine gE [4,5,6,7,8] ?_
 refine gR [.call (zVh r bK f day hR hF)] [4,5,6,7,8,9,10] ?_
 refine gE [4,5,6,7,8,9,32] ?_
 refine zF (fun c1=> ?_) (fun c1=> ?_)
 ·refine gE [8] ?_
  have hV:Yg r bK f day= []:=by rw[Yg,iP c1]
  refine zBl env 8 55 9 (dF:Clm) clC [.sl 0 9 0 (Yg r bK f day).length] (hp:= ?_)
  simp only[zC,hV]
  repeat' first|exact trivial|exact rfl|(simp;done)|apply And.intro
 have hV:Yg r bK f day=(YZ (atV f day)).foldl (vD r bK f day) []:=by rw[Yg,iQ (by rw[c1];decide)]
 have hT:(Yd r bK f day).1=⟨zm f day,r,bK,ZT r bK f day⟩:=by
  unfold Yd at c1⊢;split
  ·rename_i h;rw[iP h]at c1;cases c1
  rfl
 obtain ⟨c,hc⟩:∃c,c=(Yd r bK f day).1:=⟨_,rfl⟩
 rw[<-hc]
 have k1:c.v=zm f day:=by rw[hc,hT]
 have k2:c.r=r:=by rw[hc,hT]
 have k3:c.v.now=atV f day:=by rw[k1];rfl
 have k4:c.v.all=f:=by rw[k1];rfl
 have k5:c.v.lead=YZ (atV f day):=by rw[k1];rfl
 have hN:FitFi c.v.now:=k3▸hF2
 have hA:FitFi c.v.all:=k4▸hF
 have hBn:yY c.v.now:=k3▸hB2
 have hRc:RR c.r:=k2▸hR
 have hpp:0<=c.v.all.bill.pay/\c.v.all.bill.pay<c.r.bB.length:=by rw[k4,k2];exact hp
 have hbe:(ZM r bK f day).length=c.v.now.bF.length:=by rw[k3];exact zNq r bK f day
 have hld:0<c.v.lead.length/\c.v.lead.length<=1001:=by rw[k5];exact zRr _ hF2
 have hl1:∀p,(zK c.v p).length<=1000/\∀l,l∈zK c.v p->0<=l/\l<c.v.now.bF.length:=fun p=>by rw[k1];exact Kf hF hd day p
 have hli:∀p o,(Zn c.v p o (zK c.v p)).length<=c.v.now.bF.length/\∀x,x∈Zn c.v p o (zK c.v p)->0<=x/\x<c.v.now.bF.length:=fun p o=>ua _ _ _ _
 have g2:c.v.now.bF.length<=1000:=hN.bF
 have hown:∀p,(jq c (zK c.v p)).length<=1001:=fun p=>by
  have h2:=uN c (Jj (zK c.v p)) (zK c.v p) (Hy c)
  have h3:=(hl1 p).1
  unfold jq;omega
 have eP:∀a p,vD r bK f day a p=(jq c (zK c.v p)).foldl (wT r bK f day p) a:=fun a p=>by unfold vD;rw[<-hc,<-k1]
 have eO:∀p a o,wT r bK f day p a o=(Zn c.v p o.sign (zK c.v p)).foldl (WN r bK f day p o) a:=fun p a o=>by unfold wT;rw[<-k1]
 have eS:∀p o a s,WN r bK f day p o a s=if (bif decide ((stO c o s (zK c.v p) (ZM r bK f day)).1=0)then true else decide ((c.v.now.bF.getD s.toNat dF).who=o.firm))=true then a else a++ [⟨(c.v.now.bF.getD s.toNat dF).who,o.firm,p,s,o.sign,(stO c o s (zK c.v p) (ZM r bK f day)).2,(Yz r bK f s day).rest,f.bill.cur,(stO c o s (zK c.v p) (ZM r bK f day)).1⟩]:=fun p o a s=>by unfold WN;rw[<-hc,<-k1,<-k3]
 rw[<-k5]at hV
 clear hT
 refine gR [.call (zUj r bK f day hR hF)] [4,5,6,7,8,9,11] ?_
 refine gE [4,5,6,7,8,9,11,12] ?_
 refine gE [4,5,6,7,8,9,11,12,40,41,42] ?_
 refine Qo 6 0 55 9 (dF:Clm) clC ?_
 refine zI (α:=List Clm×Nat) (fun x=>x.2<=c.v.lead.length/\x.1=(c.v.lead.take x.2).foldl (vD r bK f day) []/\x.1.length<=x.2*1001000) (fun x=>[(42,iG x.2)]) (fun x=>[(6,some (.box [.sl 7 9 0 x.1.length])),(7,some (.row 55 9 (dF:Clm) clC (x.1) 0))]) (fun x=>c.v.lead.length-x.2) ([],0) ⟨Nat.zero_le _,rfl,Nat.le_refl _⟩ ?_ (hp:=t48)
 rintro ⟨acc,k⟩ ⟨hk,hacc,hal⟩
 dsimp only at*
 refine gE [4,5,6,7,8,9,11,12,40,41,42,43] ?_
 refine zB (fun c2=> ?_) (fun c2=> ?_)
 ·have hk2:k<c.v.lead.length:=by omega
  have hnx:(c.v.lead.take (k+1)).foldl (vD r bK f day) []=vD r bK f day acc (c.v.lead.getD k dF):=by rw[yb _ _ _ _ hk2,<-hacc]
  have hnl:=zCi r bK f day hF hd acc (c.v.lead.getD k dF)
  rw[eP]at hnx hnl
  refine gP [] [4,5,6,7,8,9,11,12,14,40,41,42] ?_
  refine gR [.call (zLz c.v (c.v.lead.getD k dF) hA)] [4,5,6,7,8,9,11,12,14,15,40,41,42] ?_
  refine gR [.call (zKx c (zK c.v (c.v.lead.getD k dF)))] [4,5,6,7,8,9,11,12,14,15,40,41,42,52] ?_
  generalize hpd:c.v.lead.getD k dF=p at*
  have hlp:=hl1 p
  refine vn 10 11 (fun o:Onr=>[onG o]) (jq c (zK c.v p)) (fun pre=>[(0,some (.box [.d (.row dF zf r.bA),.d (.row dF ctC r.bB),.d (.row dF inC r.groups),.d (.row dF fmC r.bC),.d (.row dF odC r.bD),.d (.row dF usC r.bE),.d (.row dF rtC r.rates),.d (.row dF htC r.halts)])),(1,some (.box [iG bK])),(2,some (.box [iG f.bill.bP,iG f.bill.bO,iG f.bill.bQ,iG f.bill.sum,iG f.bill.cur,iG f.bill.ten.kind,iG f.bill.ten.n,iG f.bill.ten.unit,iG f.bill.day,iG f.bill.city,iG f.bill.pay,iG f.bill.need,iG f.bill.rate,iG f.bill.flags,iG f.bill.parts,.d (.row dF sgC f.bF),.d (.row dF alC f.bH),.d (.row dF acC f.acts),.d (.row dF fcC f.facts)])),(3,some (.box [iG day])),(4,some (.box [iG c.v.all.bill.bP,iG c.v.all.bill.bO,iG c.v.all.bill.bQ,iG c.v.all.bill.sum,iG c.v.all.bill.cur,iG c.v.all.bill.ten.kind,iG c.v.all.bill.ten.n,iG c.v.all.bill.ten.unit,iG c.v.all.bill.day,iG c.v.all.bill.city,iG c.v.all.bill.pay,iG c.v.all.bill.need,iG c.v.all.bill.rate,iG c.v.all.bill.flags,iG c.v.all.bill.parts,.d (.row dF sgC c.v.all.bF),.d (.row dF alC c.v.all.bH),.d (.row dF acC c.v.all.acts),.d (.row dF fcC c.v.all.facts),iG c.v.now.bill.bP,iG c.v.now.bill.bO,iG c.v.now.bill.bQ,iG c.v.now.bill.sum,iG c.v.now.bill.cur,iG c.v.now.bill.ten.kind,iG c.v.now.bill.ten.n,iG c.v.now.bill.ten.unit,iG c.v.now.bill.day,iG c.v.now.bill.city,iG c.v.now.bill.pay,iG c.v.now.bill.need,iG c.v.now.bill.rate,iG c.v.now.bill.flags,iG c.v.now.bill.parts,.d (.row dF sgC c.v.now.bF),.d (.row dF alC c.v.now.bH),.d (.row dF acC c.v.now.acts),.d (.row dF fcC c.v.now.facts),iG c.v.day,.d (.row dF inC c.v.lead),.d (.row dF zf c.r.bA),.d (.row dF ctC c.r.bB),.d (.row dF inC c.r.groups),.d (.row dF fmC c.r.bC),.d (.row dF odC c.r.bD),.d (.row dF usC c.r.bE),.d (.row dF rtC c.r.rates),.d (.row dF htC c.r.halts),iG c.bK,iG c.due])),(5,some (.box [.d (.row dF efC (ZM r bK f day))])),(6,some (.box [.sl 10 9 0 (pre.foldl (wT r bK f day p) acc).length])),(8,some (.box [iG p])),(9,some (.box [.d (.row dF inC (zK c.v p))])),(10,some (.row 55 9 (dF:Clm) clC (pre.foldl (wT r bK f day p) acc) 0))]) (fun _=>True) (ZCf c (zK c.v p) hRc hN hlp.1 hlp.2) trivial ?_ ?_ (hps:=by (try simp only[zC]);repeat' first|exact trivial|exact rfl|exact hpd|exact zH.refl _|exact zE.refl _|omega|apply And.intro)
  ·rintro pre o rest he _
   have hpl:pre.length+1<=1001:=by have:=hown p;rw[<-he]at this;simp at this;omega
   obtain ⟨A,hA1⟩:∃A,A=pre.foldl (wT r bK f day p) acc:=⟨_,rfl⟩
   have hAl:A.length<=acc.length+pre.length*1000:=hA1▸qK _ 1000 (zCj r bK f day p hF) pre acc
   have hZ:(pre++ [o]).foldl (wT r bK f day p) acc=(Zn c.v p o.sign (zK c.v p)).foldl (WN r bK f day p o) A:=by rw[List.foldl_append,<-hA1];exact eO p A o
   rw[hZ,<-hA1]
   have hla:=hli p o.sign
   refine gE [4,5,6,7,9,11,12,14,15,16] ?_
   refine zFq ?_
   refine gR [.call (ZDc c.v p o.sign (zK c.v p) hN hld hlp.1)] [4,5,6,7,9,11,12,14,15,16,60,61,62] ?_
   refine zI (α:=List Clm×Nat) (fun x=>x.2<=(Zn c.v p o.sign (zK c.v p)).length/\x.1=((Zn c.v p o.sign (zK c.v p)).take x.2).foldl (WN r bK f day p o) A/\x.1.length<=A.length+x.2) (fun x=>[(62,iG x.2)]) (fun x=>[(6,some (.box [.sl 10 9 0 x.1.length])),(10,some (.row 55 9 (dF:Clm) clC (x.1) 0))]) (fun x=>(Zn c.v p o.sign (zK c.v p)).length-x.2) (A,0) ⟨Nat.zero_le _,rfl,Nat.le_refl _⟩ ?_ (hp:=t48)
   rintro ⟨L,j⟩ ⟨hj,hL,hLl⟩
   dsimp only at hj hL hLl⊢
   refine gE [4,5,6,7,9,11,12,14,15,16,60,61,62,63] ?_
   refine zB (fun c3=> ?_) (fun c3=> ?_)
   ·have hj2:j<(Zn c.v p o.sign (zK c.v p)).length:=by omega
    have hs:=hla.2 _ (zJ (l:=Zn c.v p o.sign (zK c.v p)) (i:=j) hj2)
    have hstep:((Zn c.v p o.sign (zK c.v p)).take (j+1)).foldl (WN r bK f day p o) A=WN r bK f day p o L ((Zn c.v p o.sign (zK c.v p)).getD j dF):=by rw[yb _ _ _ _ hj2,<-hL]
    rw[eS]at hstep
    refine gP [] [4,5,6,7,9,11,12,14,15,16,18,60,61,62] ?_
    refine gP [] [4,5,6,7,9,11,12,14,15,16,18,19,60,61,62] ?_
    refine gR [.call (ZBn c o ((Zn c.v p o.sign (zK c.v p)).getD j dF) (zK c.v p) (ZM r bK f day) hRc hN hA hBn hs hbe hlp.1 hpp)] [4,5,6,7,9,11,12,14,15,16,18,19,20,21,60,61,62] ?_
    refine gE [4,5,6,7,9,11,12,14,15,16,18,19,20,21,60,61,62,90] ?_
    refine zF (fun c4=> ?_) (fun c4=> ?_)
    ·rw[iP (by exact c4)]at hstep
     refine gP [] [4,5,6,7,9,11,12,14,15,16,60,61,62] ?_
     exact zD (L,j+1) ⟨hj2,hstep.symm,by dsimp only;omega⟩ (hp:=t48) (hm:=by dsimp only;omega)
    rw[iQ (by rw[show (bif decide ((stO c o ((Zn c.v p o.sign (zK c.v p)).getD j dF) (zK c.v p) (ZM r bK f day)).1=0)then true else decide ((c.v.now.bF.getD ((Zn c.v p o.sign (zK c.v p)).getD j dF).toNat dF).who=o.firm))=false from c4];decide)]at hstep
    refine gR [.call (zQe r bK f ((Zn c.v p o.sign (zK c.v p)).getD j dF) day hR hF hw)] [4,5,6,7,9,11,12,14,15,16,18,19,20,21,22,60,61,62] ?_
    refine gU [.el dF clC ([(⟨(c.v.now.bF.getD ((Zn c.v p o.sign (zK c.v p)).getD j dF).toNat dF).who,o.firm,p,((Zn c.v p o.sign (zK c.v p)).getD j dF),o.sign,(stO c o ((Zn c.v p o.sign (zK c.v p)).getD j dF) (zK c.v p) (ZM r bK f day)).2,(Yz r bK f ((Zn c.v p o.sign (zK c.v p)).getD j dF) day).rest,f.bill.cur,(stO c o ((Zn c.v p o.sign (zK c.v p)).getD j dF) (zK c.v p) (ZM r bK f day)).1⟩:Clm)]:List Clm),.el dF clC (L++ [(⟨(c.v.now.bF.getD ((Zn c.v p o.sign (zK c.v p)).getD j dF).toNat dF).who,o.firm,p,((Zn c.v p o.sign (zK c.v p)).getD j dF),o.sign,(stO c o ((Zn c.v p o.sign (zK c.v p)).getD j dF) (zK c.v p) (ZM r bK f day)).2,(Yz r bK f ((Zn c.v p o.sign (zK c.v p)).getD j dF) day).rest,f.bill.cur,(stO c o ((Zn c.v p o.sign (zK c.v p)).getD j dF) (zK c.v p) (ZM r bK f day)).1⟩:Clm)])] [4,5,6,7,9,11,12,14,15,16,60,61,62] ?_
    refine gP [] [4,5,6,7,9,11,12,14,15,16,60,61,62] ?_
    exact zD (L++ [(⟨(c.v.now.bF.getD ((Zn c.v p o.sign (zK c.v p)).getD j dF).toNat dF).who,o.firm,p,((Zn c.v p o.sign (zK c.v p)).getD j dF),o.sign,(stO c o ((Zn c.v p o.sign (zK c.v p)).getD j dF) (zK c.v p) (ZM r bK f day)).2,(Yz r bK f ((Zn c.v p o.sign (zK c.v p)).getD j dF) day).rest,f.bill.cur,(stO c o ((Zn c.v p o.sign (zK c.v p)).getD j dF) (zK c.v p) (ZM r bK f day)).1⟩:Clm)],j+1) ⟨hj2,hstep.symm,by simp only[List.length_append,List.length_cons,List.length_nil];omega⟩ (hp:=t48) (hm:=by dsimp only;omega)
   have e:j=(Zn c.v p o.sign (zK c.v p)).length:=by omega
   rw[e,List.take_length]at hL
   exact um trivial (hps:=by simp only[zC,<-hL];repeat' first|exact trivial|exact rfl|(simp;done)|apply And.intro)
  intro _
  refine gP [] [4,5,6,7,8,9,11,12,40,41,42] ?_
  exact zD ((jq c (zK c.v p)).foldl (wT r bK f day p) acc,k+1) ⟨hk2,hnx.symm,by dsimp only;omega⟩ (hp:=t48) (hm:=by dsimp only;omega)
 have e:k=c.v.lead.length:=by omega
 refine gE [8] ?_
 rw[e,List.take_length,<-hV]at hacc
 refine yj env [.sl 0 9 0 (Yg r bK f day).length] (hp:= ?_)
 simp only[zC,<-hacc]
 repeat' first|exact trivial|exact rfl|(simp;done)|apply And.intro
structure Pky where
 bJ:Int
 bI:Int
 part:Int
 sign:Int
 by_:Int
deriving DecidableEq
instance :Inhabited Pky:=⟨⟨0,0,0,0,0⟩⟩
abbrev pkG (x:Pky):G:= .agg [iG x.bJ,iG x.bI,iG x.part,iG x.sign,iG x.by_]
def Ky (a b:Pky):Bool:=decide (a.bJ=b.bJ)&&(decide (a.bI=b.bI)&&(decide (a.part=b.part)&&(decide (a.sign=b.sign)&&(decide (a.by_=b.by_)&&(true)))))
theorem zJa (a b:Pky):EqC Tryz.prog 241 [.int .i64 a.bJ,.int .i64 a.bI,.int .i64 a.part,.int .i64 a.sign,.int .i64 a.by_] [.int .i64 b.bJ,.int .i64 b.bI,.int .i64 b.part,.int .i64 b.sign,.int .i64 b.by_] (Ky a b):=EqC.of Qx rfl rfl (by kernel_rfl) (by kernel_rfl) (.int Qx rfl rfl rfl rfl (.int Qx rfl rfl rfl rfl (.int Qx rfl rfl rfl rfl (.int Qx rfl rfl rfl rfl (.int Qx rfl rfl rfl rfl .nil)))))
def yE (c:Clm):Pky:=⟨c.bJ,c.bI,c.part,c.sign,c.by_⟩
theorem Vd (c:Clm):GC Tryz.prog 156 [clG c] (pkG (yE c)):=by
 refine zA Tryz.func156 ?_
 refine gE [1,2] ?_
 refine gE [2] ?_
 refine gT ?_
 rw[yE];rfl
theorem KL {l:List Clm} {i:Nat} {x:Int} (hi:i<l.length):Uf (zR clC l) i 6 [.sc (.int .i64 x)]=zR clC (l.set i {l.getD i dF with sum:=x}):=by
 have e:(zR clC l).getD i []=clC (l.getD i dF):=by
  simp[zR,List.getD_eq_getElem?_getD,List.getElem?_eq_getElem hi]
 rw[Uf,e]
 simp only[zR,List.map_set]
 rfl
theorem KK {l:List Clm} {i:Nat} {x:Int} (hi:i<l.length):Uf (zR clC l) i 8 [.sc (.int .i64 x)]=zR clC (l.set i {l.getD i dF with state:=x}):=by
 have e:(zR clC l).getD i []=clC (l.getD i dF):=by
  simp[zR,List.getD_eq_getElem?_getD,List.getElem?_eq_getElem hi]
 rw[Uf,e]
 simp only[zR,List.map_set]
 rfl
theorem Vg {a b:Pky} :Ky a b=true↔a=b:=by
 cases a;cases b
 simp[Ky]
def Wp (x c:Clm):Clm:= {x with sum:=mxI x.sum c.sum,state:=VM c.state x.state}
def yA (x c:Clm):Clm:= {x with sum:=mnI 1099511627776 (i64.wrap (x.sum+c.sum)),state:=VM x.state c.state}
def ZL (u:Clm->Clm->Clm) (c:Clm):List Clm->List Clm
 | []=>[c]
 |x::l=>if yE x=yE c then u x c::l else x::ZL u c l
theorem uH (u:Clm->Clm->Clm) (c:Clm):∀l,l.length<=(ZL u c l).length/\(ZL u c l).length<=l.length+1:=by
 intro l
 induction l with
 |nil=>simp[ZL]
 |cons x l ih=>rw[ZL];split<;>simp<;>omega
theorem jX (l:List Clm) (k:Nat) (h:k<l.length):l.drop k=l.getD k dF::l.drop (k+1):=by
 rw[List.drop_eq_getElem_cons h,List.getD_eq_getElem?_getD,List.getElem?_eq_getElem h];rfl
theorem XE (l:List Clm) (k:Nat) (h:k<l.length) (y:Clm):l.take k++y::l.drop (k+1)=l.set k y:=(List.set_eq_take_append_cons_drop.trans (iP h)).symm
theorem He (l:List Clm) (k:Nat) (h:k<l.length) (x y:Clm):(l.set k x).set k y=l.set k y:=List.set_set x
theorem ZAx (l:List Clm) (k:Nat) (h:k<l.length) (x:Clm):(l.set k x).getD k dF=x:=by simp[List.getD_eq_getElem?_getD,h]
theorem ZDu (l:List Clm) (c:Clm) (hl:l.length<=8000000000):GM Tryz.prog 106 [.sl 0 9 0 l.length,clG c] [.row 55 9 dF clC l 0] (.sl 1 9 0 (ZL Wp c l).length) [none,some (.row 55 9 dF clC (ZL Wp c l) 0)]:=by
 refine ZX Tryz.func106 ?_
 refine gE [0,3,4] ?_
 refine gE [0,3,4,7,8,9] ?_
 refine zI (α:=Nat) (fun k=>k<=l.length/\ZL Wp c l=l.take k++ZL Wp c (l.drop k)) (fun k=>[(9,iG k)]) (fun _=>[]) (fun k=>l.length-k) 0 ⟨Nat.zero_le _,rfl⟩ ?_ (hp:=t49)
 rintro k ⟨hk,he⟩
 refine gE [0,3,4,7,8,9,10] ?_
 refine zB (fun c1=> ?_) (fun c1=> ?_)
 ·have hk2:k<l.length:=by omega
  rw[jX l k hk2,ZL]at he
  refine gP [] [0,3,4,5,6,7,8,9] ?_
  refine gR [.call (Vd (l.getD k dF)),.call (Vd c),.eq (zJa (yE (l.getD k dF)) (yE c))] [0,3,4,5,6,7,8,9,18] ?_
  refine zF (fun c2=> ?_) (fun c2=> ?_)
  ·rw[iP (Vg.1 c2),XE l k hk2]at he
   refine gR [.el dF clC (l.set k {(l.getD k dF)with sum:=mxI (l.getD k dF).sum c.sum})] [0,3,4,5,6,7,8,9] ?_ (hp:=(by simp only[zC,bb,toN,loI,hiI,Nat.zero_add];repeat' first|exact Nat.le_refl _|exact (KL t21).symm|exact trivial|exact zH.refl _|exact zE.refl _|exact rfl|omega|apply And.intro|intro _|(rw[List.length_set];exact hk2)|(simp;done)))
   refine gR [.call (zJm (c.state) ((l.getD k dF).state)),.el dF clC ((l.set k {(l.getD k dF)with sum:=mxI (l.getD k dF).sum c.sum}).set k {(l.set k {(l.getD k dF)with sum:=mxI (l.getD k dF).sum c.sum}).getD k dF with state:=VM c.state (l.getD k dF).state})] [0,3,4,5,6,7,8,9] ?_ (hp:=(by simp only[zC,bb,toN,loI,hiI,Nat.zero_add];repeat' first|exact Nat.le_refl _|exact (KK t21).symm|exact trivial|exact zH.refl _|exact zE.refl _|exact rfl|omega|apply And.intro|intro _|(rw[List.length_set];exact hk2)|(simp;done)))
   refine gE [4] ?_
   have hS:((l.set k {(l.getD k dF)with sum:=mxI (l.getD k dF).sum c.sum}).set k {(l.set k {(l.getD k dF)with sum:=mxI (l.getD k dF).sum c.sum}).getD k dF with state:=VM c.state (l.getD k dF).state})=ZL Wp c l:=by rw[he,ZAx l k hk2,He l k hk2];rfl
   refine yj env [.sl 1 9 0 (ZL Wp c l).length] (hp:= ?_)
   simp only[zC,<-hS]
   repeat' first|exact trivial|exact rfl|(simp;done)|apply And.intro
  rw[iQ (fun h=>absurd (Vg.2 h) (by rw[c2];decide))]at he
  refine gP [] [0,3,4,7,8,9] ?_
  exact zD (k+1) ⟨hk2,by rw[he,List.take_succ_eq_append_getElem hk2,List.append_assoc,List.getD_eq_getElem?_getD,List.getElem?_eq_getElem hk2];rfl⟩ (hp:=t49) (hm:=by omega)
 have e:k=l.length:=by omega
 rw[e,List.take_length,List.drop_length,ZL]at he
 refine gU [.el dF clC [c],.el dF clC (l++ [c])] [4] ?_
 refine yj env [.sl 1 9 0 (ZL Wp c l).length] (hp:= ?_)
 simp only[zC,he]
 repeat' first|exact trivial|exact rfl|(simp;done)|apply And.intro
theorem zYc (l:List Clm) (c:Clm) (hl:l.length<=8000000000):GM Tryz.prog 107 [.sl 0 9 0 l.length,clG c] [.row 55 9 dF clC l 0] (.sl 1 9 0 (ZL yA c l).length) [none,some (.row 55 9 dF clC (ZL yA c l) 0)]:=by
 refine ZX Tryz.func107 ?_
 refine gE [0,3,4] ?_
 refine gE [0,3,4,7,8,9] ?_
 refine zI (α:=Nat) (fun k=>k<=l.length/\ZL yA c l=l.take k++ZL yA c (l.drop k)) (fun k=>[(9,iG k)]) (fun _=>[]) (fun k=>l.length-k) 0 ⟨Nat.zero_le _,rfl⟩ ?_ (hp:=t49)
 rintro k ⟨hk,he⟩
 refine gE [0,3,4,7,8,9,10] ?_
 refine zB (fun c1=> ?_) (fun c1=> ?_)
 ·have hk2:k<l.length:=by omega
  rw[jX l k hk2,ZL]at he
  refine gP [] [0,3,4,5,6,7,8,9] ?_
  refine gR [.call (Vd (l.getD k dF)),.call (Vd c),.eq (zJa (yE (l.getD k dF)) (yE c))] [0,3,4,5,6,7,8,9,18] ?_
  refine zF (fun c2=> ?_) (fun c2=> ?_)
  ·rw[iP (Vg.1 c2),XE l k hk2]at he
   refine zG env true [.el dF clC (l.set k {(l.getD k dF)with sum:=mnI 1099511627776 (i64.wrap ((l.getD k dF).sum+c.sum))})] [0,3,4,5,6,7,8,9] ?_ (hp:=(by simp only[zC,bb,toN,loI,hiI,Nat.zero_add];repeat' first|exact Nat.le_refl _|exact (KL t21).symm|exact trivial|exact zH.refl _|exact zE.refl _|exact rfl|omega|apply And.intro|intro _|(rw[List.length_set];exact hk2)|(simp;done)))
   refine gR [.call (zJm ((l.getD k dF).state) (c.state)),.el dF clC ((l.set k {(l.getD k dF)with sum:=mnI 1099511627776 (i64.wrap ((l.getD k dF).sum+c.sum))}).set k {(l.set k {(l.getD k dF)with sum:=mnI 1099511627776 (i64.wrap ((l.getD k dF).sum+c.sum))}).getD k dF with state:=VM (l.getD k dF).state c.state})] [0,3,4,5,6,7,8,9] ?_ (hp:=(by simp only[zC,bb,toN,loI,hiI,Nat.zero_add];repeat' first|exact Nat.le_refl _|exact (KK t21).symm|exact trivial|exact zH.refl _|exact zE.refl _|exact rfl|omega|apply And.intro|intro _|(rw[List.length_set];exact hk2)|(simp;done)))
   refine gE [4] ?_
   have hS:((l.set k {(l.getD k dF)with sum:=mnI 1099511627776 (i64.wrap ((l.getD k dF).sum+c.sum))}).set k {(l.set k {(l.getD k dF)with sum:=mnI 1099511627776 (i64.wrap ((l.getD k dF).sum+c.sum))}).getD k dF with state:=VM (l.getD k dF).state c.state})=ZL yA c l:=by rw[he,ZAx l k hk2,He l k hk2];rfl
   refine yj env [.sl 1 9 0 (ZL yA c l).length] (hp:= ?_)
   simp only[zC,<-hS]
   repeat' first|exact trivial|exact rfl|(simp;done)|apply And.intro
  rw[iQ (fun h=>absurd (Vg.2 h) (by rw[c2];decide))]at he
  refine gP [] [0,3,4,7,8,9] ?_
  exact zD (k+1) ⟨hk2,by rw[he,List.take_succ_eq_append_getElem hk2,List.append_assoc,List.getD_eq_getElem?_getD,List.getElem?_eq_getElem hk2];rfl⟩ (hp:=t49) (hm:=by omega)
 have e:k=l.length:=by omega
 rw[e,List.take_length,List.drop_length,ZL]at he
 refine gU [.el dF clC [c],.el dF clC (l++ [c])] [4] ?_
 refine yj env [.sl 1 9 0 (ZL yA c l).length] (hp:= ?_)
 simp only[zC,he]
 repeat' first|exact trivial|exact rfl|(simp;done)|apply And.intro
theorem zNp (l:List Clm) (hl:l.length<=8000000000):GM Tryz.prog 104 [.d (.row dF clC l)] [] (.sl 0 9 0 l.length) [some (.row 55 9 dF clC l 0)]:=by
 refine ZX Tryz.func104 ?_
 refine gE [0,2] ?_
 refine zBm env (fun q hq=> ?_)
 refine zF (fun c1=> ?_) (fun c1=> ?_)
 ·have e:=hq c1
  refine gE [2] ?_
  refine zBl env 2 55 9 (dF:Clm) clC [.sl 0 9 0 l.length] (hp:= ?_)
  simp only[zC,e]
  repeat' first|exact trivial|exact rfl|(simp;done)|apply And.intro
 refine gU [.el dF clC [],.el dF clC l] [2] ?_
 refine yj env [.sl 0 9 0 l.length] (hp:= ?_)
 simp only[zC]
 repeat' first|exact trivial|exact rfl|(simp;done)|apply And.intro
def JQ (a:Act) (x:Clm):Int:=mnI (mxI 0 a.sum) (mxI 0 x.sum)
def zPy (a:Act) (q:Int) (x:Clm):Bool:=bif bif !decide (q=1)then (bif decide (x.turn=0)then true else decide (x.sign<a.at_))else false then !decide (x.bJ=a.who)else false
structure PaySt where
 now:List Clm
 steps:List Stp
 back:List Clm
def zKt (a:Act) (q:Int) (str:Bool) (s:PaySt) (k:Nat) (x:Clm):PaySt:=
 if (!qf a str x)=true then s else
 ⟨s.now.set k {s.now.getD k dF with sum:=IntKind.i64.wrap (mxI 0 x.sum-JQ a x)},s.steps++ [⟨x.bJ,x.bI,x.sign,JQ a x⟩],if zPy a q x=true then ZL Wp {x with bI:=a.who,by_:=a.at_,sum:=JQ a x} s.back else s.back⟩
def Qa (a:Act) (q:Int) (str:Bool) (l:List Clm):Nat->PaySt
 |0=>⟨l,[],[]⟩
 |k+1=>zKt a q str (Qa a q str l k) k (l.getD k dF)
def Ye (l:List Clm) (a:Act) (q:Int) (str:Bool):List Clm×List Stp:=((Qa a q str l l.length).back.foldl (fun n c=>ZL yA c n) (Qa a q str l l.length).now,(Qa a q str l l.length).steps)
theorem uL (a:Act) (q:Int) (str:Bool) (l:List Clm):∀k,(Qa a q str l k).now.length=l.length/\(Qa a q str l k).steps.length<=k/\(Qa a q str l k).back.length<=k:=by
 intro k
 induction k with
 |zero=>exact ⟨rfl,Nat.le_refl _,Nat.le_refl _⟩
 |succ k ih=>
  unfold Qa zKt
  split
  ·exact ⟨ih.1,by omega,by omega⟩
  refine ⟨by simp[ih.1],by simp;omega,?_⟩
  dsimp only
  split
  ·exact Nat.le_trans (uH Wp _ _).2 t11
  omega
theorem vw (u:Clm->Clm->Clm):∀(b n:List Clm),n.length<=(b.foldl (fun n c=>ZL u c n) n).length/\(b.foldl (fun n c=>ZL u c n) n).length<=n.length+b.length:=by
 intro b
 induction b with
 |nil=>intro n;simp
 |cons c b ih=>
  intro n
  have h1:=uH u c n
  have h2:=ih (ZL u c n)
  simp only[List.foldl_cons,List.length_cons]
  omega
theorem Hv (l:List Clm) (a:Act) (q:Int) (str:Bool):l.length<=(Ye l a q str).1.length/\(Ye l a q str).1.length<=2*l.length/\(Ye l a q str).2.length<=l.length:=by
 have h1:=uL a q str l l.length
 have h2:=vw yA (Qa a q str l l.length).back (Qa a q str l l.length).now
 unfold Ye
 dsimp only
 omega
theorem zUy (l:List Clm) (a:Act) (q:Int) (str:Bool) (hl:l.length<=3000000000):GM Tryz.prog 67 [.d (.row dF clC l),acG a,iG q,bG str] [] (.tup [.sl 0 9 0 (Ye l a q str).1.length,.sl 1 4 0 (Ye l a q str).2.length]) [some (.row 55 9 dF clC (Ye l a q str).1 0),some (.row 141 4 dF stC (Ye l a q str).2 0)]:=by
 refine ZX Tryz.func67 ?_
 refine gE [0,2,3,5,8,9] ?_
 refine gE [0,2,3,5,8,9,10] ?_
 refine gR [.callm [] (zNp l t11)] [0,2,3,5,8,9,10] ?_
 refine gE [0,2,3,5,8,9,10,11] ?_
 refine gE [2,3,5,8,9,10,11,22,23,24] ?_
 refine YV 9 141 4 (dF:Stp) stC t26 t26 ?_
 refine YV 11 55 9 (dF:Clm) clC t26 t26 ?_
 refine zI (α:=PaySt×Nat) (fun x=>x.2<=l.length/\x.1=Qa a q str l x.2) (fun x=>[(24,iG x.2),(8,.sl 1 9 0 x.1.now.length),(9,.sl 2 4 0 x.1.steps.length),(11,.sl 3 9 0 x.1.back.length)]) (fun x=>[(1,some (.row 55 9 (dF:Clm) clC (x.1.now) 0)),(2,some (.row 141 4 (dF:Stp) stC (x.1.steps) 0)),(3,some (.row 55 9 (dF:Clm) clC (x.1.back) 0))]) (fun x=>l.length-x.2) (⟨l,[],[]⟩,0) ⟨Nat.zero_le _,rfl⟩ ?_ (hp:=t43)
 rintro ⟨s,k⟩ ⟨hk,hs⟩
 dsimp only at*
 have hlen:=uL a q str l k
 rw[<-hs]at hlen
 obtain ⟨hn1,hn2,hn3⟩:=hlen
 refine gE [2,3,5,8,9,10,11,22,23,24,25] ?_
 refine zB (fun c1=> ?_) (fun c1=> ?_)
 ·have hk2:k<l.length:=by omega
  have hnx:Qa a q str l (k+1)=zKt a q str s k (l.getD k dF):=by rw[Qa,<-hs]
  rw[zKt]at hnx
  refine gP [] [2,3,5,8,9,10,11,12,13,22,23,24] ?_
  refine gR [.call (zQz a str (l.getD k dF))] [2,3,5,8,9,10,11,12,13,22,23,24,33] ?_
  refine zF (fun c2=> ?_) (fun c2=> ?_)
  ·rw[iP c2]at hnx
   refine gP [] [2,3,5,8,9,10,11,22,23,24] ?_
   exact zD (s,k+1) ⟨hk2,hnx.symm⟩ (hp:=t43) (hm:=by dsimp only;omega)
  rw[iQ (by rw[c2];decide)]at hnx
  refine gE [2,3,5,8,9,10,11,12,13,14,22,23,24] ?_
  refine zG env true [.el dF clC (s.now.set k {s.now.getD k dF with sum:=IntKind.i64.wrap (mxI 0 (l.getD k dF).sum-JQ a (l.getD k dF))})] [2,3,5,8,9,10,11,13,14,22,23,24] ?_ (hp:=(by simp only[zC,bb,toN,loI,hiI,Nat.zero_add];repeat' first|exact Nat.le_refl _|exact (KL t11).symm|exact trivial|exact zH.refl _|exact zE.refl _|exact rfl|omega|apply And.intro|intro _|(simp;done)))
  refine gU [.el dF stC [(⟨(l.getD k dF).bJ,(l.getD k dF).bI,(l.getD k dF).sign,JQ a (l.getD k dF)⟩:Stp)],.el dF stC (s.steps++ [(⟨(l.getD k dF).bJ,(l.getD k dF).bI,(l.getD k dF).sign,JQ a (l.getD k dF)⟩:Stp)])] [2,3,5,8,9,10,11,13,14,22,23,24] ?_
  refine gE [2,3,5,8,9,10,11,13,14,22,23,24,79] ?_
  refine zF (fun c3=> ?_) (fun c3=> ?_)
  ·rw[iP (show zPy a q (l.getD k dF)=true from c3)]at hnx
   refine gE [2,3,5,8,9,10,11,13,22,23,24] ?_
   refine gR [.callm [3] (ZDu s.back ({(l.getD k dF)with bI:=a.who,by_:=a.at_,sum:=JQ a (l.getD k dF)} :Clm) t11)] [2,3,5,8,9,10,11,22,23,24] ?_
   refine gP [] [2,3,5,8,9,10,11,22,23,24] ?_
   exact zD (_,k+1) ⟨hk2,hnx.symm⟩ (hp:=t43) (hm:=by dsimp only;omega)
  rw[iQ (by rw[show zPy a q (l.getD k dF)=false from c3];decide)]at hnx
  refine gP [] [2,3,5,8,9,10,11,22,23,24] ?_
  exact zD (_,k+1) ⟨hk2,hnx.symm⟩ (hp:=t43) (hm:=by dsimp only;omega)
 have e:k=l.length:=by omega
 subst e
 refine gE [8,9,92,93,94] ?_
 refine zI (α:=List Clm×Nat) (fun x=>x.2<=s.back.length/\x.1=(s.back.take x.2).foldl (fun n c=>ZL yA c n) s.now) (fun x=>[(94,iG x.2),(8,.sl 1 9 0 x.1.length)]) (fun x=>[(1,some (.row 55 9 (dF:Clm) clC (x.1) 0))]) (fun x=>s.back.length-x.2) (s.now,0) ⟨Nat.zero_le _,rfl⟩ ?_ (hp:=t43)
 rintro ⟨n,j⟩ ⟨hj,hn⟩
 dsimp only at*
 refine gE [8,9,92,93,94,95] ?_
 refine zB (fun c2=> ?_) (fun c2=> ?_)
 ·have hj2:j<s.back.length:=by omega
  have hst:(s.back.take (j+1)).foldl (fun n c=>ZL yA c n) s.now=ZL yA (s.back.getD j dF) n:=by rw[yb _ _ _ _ hj2,<-hn]
  have hnl:=vw yA (s.back.take j) s.now
  rw[<-hn,List.length_take]at hnl
  refine gP [] [8,9,16,92,93,94] ?_
  refine gR [.callm [1] (zYc n (s.back.getD j dF) t11)] [8,9,92,93,94] ?_
  refine gP [] [8,9,92,93,94] ?_
  exact zD (_,j+1) ⟨hj2,hst.symm⟩ (hp:=t43) (hm:=by dsimp only;omega)
 have e:j=s.back.length:=by omega
 rw[e,List.take_length]at hn
 refine gE [8,9] ?_
 have hV:(n,s.steps)=Ye l a q str:=by rw[Ye,<-hs,<-hn]
 have hV1:n=(Ye l a q str).1:=congrArg Prod.fst hV
 have hV2:s.steps=(Ye l a q str).2:=congrArg Prod.snd hV
 refine yj env [.sl 0 9 0 (Ye l a q str).1.length,.sl 1 4 0 (Ye l a q str).2.length] (hp:= ?_)
 simp only[zC,<-hV1,<-hV2]
 repeat' first|exact trivial|exact rfl|(simp;done)|apply And.intro
def qh (S:Nat) (g:Int->Int×Int) (l:List Clm):Prop:=∀x,x∈l->(0<=x.sign/\x.sign<S)/\x.bJ=(g x.sign).1/\x.part=(g x.sign).2
theorem Wd (u:Clm->Clm->Clm) (c:Clm):∀l x,x∈ZL u c l->x∈l∨x=c∨∃y,y∈l/\x=u y c:=by
 intro l
 induction l with
 |nil=>intro x h;exact .inr (.inl (List.mem_singleton.1 h))
 |cons a l ih=>
  intro x h
  rw[ZL]at h
  split at h
  ·rcases List.mem_cons.1 h with rfl|h
   ·exact .inr (.inr ⟨a,by simp,rfl⟩)
   exact .inl (List.mem_cons_of_mem _ h)
  rcases List.mem_cons.1 h with rfl|h
  ·exact .inl t25
  rcases ih x h with h|h|⟨y,h,e⟩
  ·exact .inl (List.mem_cons_of_mem _ h)
  ·exact .inr (.inl h)
  exact .inr (.inr ⟨y,List.mem_cons_of_mem _ h,e⟩)
def VN (u:Clm->Clm->Clm):Prop:=∀x c,(u x c).bJ=x.bJ/\(u x c).bI=x.bI/\(u x c).part=x.part/\(u x c).sign=x.sign/\(u x c).by_=x.by_
theorem vm:VN Wp:=fun _ _=>⟨rfl,rfl,rfl,rfl,rfl⟩
theorem WD:VN yA:=fun _ _=>⟨rfl,rfl,rfl,rfl,rfl⟩
theorem VN.key {u:Clm->Clm->Clm} (hu:VN u) (x c:Clm):yE (u x c)=yE x:=by
 obtain ⟨a,b,d,e,f⟩:=hu x c
 simp[yE,a,b,d,e,f]
theorem qh.put {S:Nat} {g:Int->Int×Int} {u:Clm->Clm->Clm} (hu:VN u) {l:List Clm} {c:Clm} (hl:qh S g l) (hc:qh S g [c]):qh S g (ZL u c l):=fun x h=>by
 rcases Wd u c l x h with h|rfl|⟨y,hy,rfl⟩
 ·exact hl x h
 ·exact hc x t25
 obtain ⟨a,b,d,e,f⟩:=hu y c
 rw[a,d,e];exact hl y hy
theorem zKq {u:Clm->Clm->Clm} (hu:VN u) (c:Clm):∀l,(ZL u c l).map yE=if yE c∈l.map yE then l.map yE else l.map yE++ [yE c]:=by
 intro l
 induction l with
 |nil=>rfl
 |cons a l ih=>
  rw[ZL]
  by_cases h:yE a=yE c
  ·rw[iP h,iP (by simp[h])];simp[hu.key]
  rw[iQ h,List.map_cons,ih]
  by_cases h2:yE c∈l.map yE
  ·rw[iP h2,iP (by simp only[List.map_cons,List.mem_cons];exact .inr h2),List.map_cons]
  rw[iQ h2,iQ (by simp only[List.map_cons,List.mem_cons];exact fun h3=>h3.elim (fun e=>h e.symm) h2)];simp
theorem qh.set {S:Nat} {g:Int->Int×Int} {l:List Clm} (hl:qh S g l) (k:Nat) (v:Int):qh S g (l.set k {l.getD k dF with sum:=v}):=by
 by_cases hk:k<l.length
 ·intro x h
  rcases List.mem_or_eq_of_mem_set h with h|rfl
  ·exact hl x h
  exact hl (l.getD k dF) (zJ hk)
 rw[List.set_eq_of_length_le t11];exact hl
structure PayT (S:Nat) (g:Int->Int×Int) (a:Act) (s:PaySt):Prop where
 now:qh S g s.now
 back:qh S g s.back
 who:∀x,x∈s.back->x.bI=a.who/\x.by_=a.at_
 keys:(s.back.map yE).Nodup
theorem zKu {S:Nat} {g:Int->Int×Int} (a:Act) (q:Int) (str:Bool) {l:List Clm} (hl:qh S g l):∀k,k<=l.length->PayT S g a (Qa a q str l k):=by
 intro k
 induction k with
 |zero=>intro _;exact ⟨hl,fun _ h=>absurd h List.not_mem_nil,fun _ h=>absurd h List.not_mem_nil,List.nodup_nil⟩
 |succ k ih=>
  intro hk
  obtain ⟨h1,h2,h3,h4⟩:=ih t11
  have hx:=hl (l.getD k dF) (zJ t11)
  unfold Qa zKt
  split
  ·exact ⟨h1,h2,h3,h4⟩
  have hc:qh S g [{l.getD k dF with bI:=a.who,by_:=a.at_,sum:=JQ a (l.getD k dF)}]:=fun x h=>by
   rw[List.mem_singleton.1 h];exact hx
  refine ⟨h1.set k _,?_,?_,?_⟩
  ·dsimp only;split
   ·exact h2.put vm hc
   exact h2
  ·dsimp only;split
   ·intro x h
    rcases Wd _ _ _ _ h with h|rfl|⟨y,hy,rfl⟩
    ·exact h3 x h
    ·exact ⟨rfl,rfl⟩
    exact h3 y hy
   exact h3
  dsimp only;split
  ·rw[zKq vm]
   split
   ·exact h4
   rename_i hn
   rw[List.nodup_append]
   exact ⟨h4,by simp,fun x hx y hy e=>hn (by rw[List.mem_singleton.1 hy]at e;rw[<-e];exact hx)⟩
  exact h4
theorem PayT.len {S:Nat} {g:Int->Int×Int} {a:Act} {s:PaySt} (h:PayT S g a s):s.back.length<=S:=by
 have hn:(s.back.map fun x=>x.sign).Nodup:=by
  have h4:=h.keys
  rw[List.Nodup,List.pairwise_map]at h4⊢
  refine List.Pairwise.imp_of_mem (fun {x y} hx hy hne e=>hne ?_) h4
  have a1:=h.back x hx
  have a2:=h.back y hy
  have a3:=h.who x hx
  have a4:=h.who y hy
  simp only[yE,a1.2.1,a2.2.1,a1.2.2,a2.2.2,a3.1,a4.1,a3.2,a4.2]
  rw[show x.sign=y.sign from e]
 have:=XU S _ hn fun x hx=>by
  obtain ⟨y,hy,rfl⟩:=List.mem_map.1 hx
  exact (h.back y hy).1
 simpa using this
theorem zKs {S:Nat} {g:Int->Int×Int} (a:Act) (q:Int) (str:Bool) {l:List Clm} (hl:qh S g l):qh S g (Ye l a q str).1/\(Ye l a q str).1.length<=l.length+S:=by
 have h:=zKu a q str hl l.length (Nat.le_refl _)
 have h1:=uL a q str l l.length
 have h2:=vw yA (Qa a q str l l.length).back (Qa a q str l l.length).now
 have h3:=h.len
 refine ⟨?_,by unfold Ye;dsimp only;omega⟩
 have:∀(b n:List Clm),qh S g b->qh S g n->qh S g (b.foldl (fun n c=>ZL yA c n) n):=by
  intro b
  induction b with
  |nil=>intro n _ hn;exact hn
  |cons c b ih=>intro n hb hn;exact ih _ (fun x hx=>hb x (List.mem_cons_of_mem _ hx)) (hn.put WD fun x hx=>hb x (by rw[List.mem_singleton.1 hx];simp))
 exact this _ _ h.back h.now
end Go.Gh
