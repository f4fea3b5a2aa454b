/- Walks by the logic of calls, and plain laws (several texts in one). -/
import Derived.Test.YtlnnombljiecmaaGreatDoorM2
import Derived.Test.YtlnnombljiecmaaGreatDoorGh4
import Derived.Test.YtlnnombljiecmaaGreatDoorM1
namespace Go.Gh
open Go Go.Proofs
set_option maxRecDepth 1000000
set_option maxHeartbeats 2000000
set_option linter.unusedSimpArgs false
set_option linter.unusedVariables false
set_option linter.unnecessarySimpa false
set_option linter.unusedSectionVars false
variable [Dep]
open Go.RowKit
theorem zLi {o:Od} (ho:FitO o) {ask:Int} (h:(Yl o ask).2=0):YP Dep.d (Yl o ask).1:=by
 unfold Yl at h⊢
 split at h
 ·cases h
 ·rename_i h1
  rw[if_neg h1]
  split at h
  ·cases h
  ·rename_i h2
   rw[if_neg h2]
   split at h
   ·cases h
   ·rename_i h3
    rw[if_neg h3]
    have hi:=uJ (fun y=>vK y ask) o.rules 0
    exact ho.tm _ (zK (by omega))
structure RR (r:Rlm):Prop where
 right:RightR r
 fo:∀o,o∈r.orders->FitO o
theorem Uj:∀(n:Nat) (l:List Int),l.Nodup->(∀x,x∈l->0<=x/\x<n)->l.length<=n:=by
 intro n
 induction n with
 |zero=>
  intro l _ h
  cases l with
  |nil=>simp
  |cons a l=>have:=h a (by simp);omega
 |succ n ih=>
  intro l hn h
  by_cases hm:(n:Int)∈l
  ·have h1:=ih (l.erase n) (hn.erase _) fun x hx=>by
    have hx2:=(List.Nodup.mem_erase_iff hn).1 hx
    have:=h x hx2.2
    have:=hx2.1
    omega
   rw[List.length_erase_of_mem hm]at h1
   omega
  ·have h1:=ih l hn fun x hx=>by
    have:=h x hx
    have:x≠(n:Int):=fun e=>hm (e▸hx)
    omega
   omega
def vj (r:Rlm) (ask:Int) (places:List Int):Nat->List Int->List Int×Int
 |0,p=>(p,12)
 |n+1,p=>if (Zi r (p.getD (p.length-1) default) ask places).1=p.getD (p.length-1) default then (p,0)else
  if (bif !(Zi r (p.getD (p.length-1) default) ask places).2 then true else bif Qz p (Zi r (p.getD (p.length-1) default) ask places).1 then (r.orders.getD (Zi r (p.getD (p.length-1) default) ask places).1.toNat default).acc else false)=true then (p++ [(Zi r (p.getD (p.length-1) default) ask places).1],0)else
  if Qz p (Zi r (p.getD (p.length-1) default) ask places).1=true then (p++ [(Zi r (p.getD (p.length-1) default) ask places).1],12)else vj r ask places n (p++ [(Zi r (p.getD (p.length-1) default) ask places).1])
def Qi (r:Rlm) (forum ask:Int) (places:List Int):List Int×Int:=if (bif !WO r forum ask places then true else !decide (places.getD 0 default=forum))=true then ([],1)else vj r ask places (r.orders.length+1) [forum]
structure LwI (r:Rlm) (p:List Int):Prop where
 pos:1<=p.length
 nd:p.Nodup
 rng:∀x,x∈p->0<=x/\x<r.orders.length
theorem LwI.len {r:Rlm} {p:List Int} (h:LwI r p):p.length<=r.orders.length:=Uj _ _ h.nd h.rng
theorem zWs {r:Rlm} {o ask:Int} {places:List Int} (hf:∀x,x∈places->0<=x/\x<r.orders.length) (ho:0<=o/\o<r.orders.length) (h5:places.length=5) (hq:0<=ask/\ask<22):WO r o ask places=true:=by
 unfold WO
 rw[if_neg (by rw[Bool.not_eq_true];simp only[bb];omega)]
 rw[Bool.not_eq_true',List.any_eq_false]
 intro x hx
 have:=hf x hx
 unfold uy
 rw[Bool.not_eq_true]
 simp only[bb]
 omega
theorem zDv {r:Rlm} {o ask:Int} {places:List Int} (hf:∀x,x∈places->0<=x/\x<r.orders.length) (ho:0<=o/\o<r.orders.length) (h5:places.length=5) (hR:RightR r):∀(n k:Nat),(r.orders.getD o.toNat default).choices.length-k=n->0<=(YY r o ask places k).1/\(YY r o ask places k).1<r.orders.length:=by
 intro n
 induction n with
 |zero=>intro k h;rw[YY,if_neg (by omega)];exact ho
 |succ n ih=>
  intro k h
  rw[YY,if_pos (by omega)]
  split
  ·have hb:=hR.by_ _ (zK (l:=r.orders) (i:=o.toNat) (by omega)) _ (zK (i:=k) (by omega))
   exact hf _ (zK (by omega))
  ·exact ih _ (by omega)
theorem Un {r:Rlm} {o ask:Int} {places:List Int} (hf:∀x,x∈places->0<=x/\x<r.orders.length) (ho:0<=o/\o<r.orders.length) (h5:places.length=5) (hR:RightR r) (hq:0<=ask/\ask<22):0<=(Zi r o ask places).1/\(Zi r o ask places).1<r.orders.length:=by
 unfold Zi
 rw[if_neg (by rw[zWs hf ho h5 hq];simp)]
 exact zDv hf ho h5 hR _ 0 rfl
theorem LwI.next {r:Rlm} {p:List Int} (h:LwI r p) {x:Int} (hx:0<=x/\x<r.orders.length) (hn:Qz p x=false):LwI r (p++ [x]):=by
 refine ⟨by simp,?_,fun y hy=> ?_⟩
 ·rw[List.nodup_append]
  refine ⟨h.nd,by simp,fun a ha b hb e=> ?_⟩
  simp only[List.mem_singleton]at hb
  subst hb e
  unfold Qz at hn
  rw[List.any_eq_false]at hn
  exact hn a ha (by simp)
 ·rcases List.mem_append.1 hy with hy|hy
  ·exact h.rng y hy
  ·simp only[List.mem_singleton]at hy;subst hy;exact hx
theorem zGu {r:Rlm} {x:Int} (h:0<=x/\x<r.orders.length):LwI r [x]:=⟨by simp,by simp,fun y hy=>by simp only[List.mem_singleton]at hy;subst hy;exact h⟩
theorem ZAv (r:Rlm) (hR:RightR r) (forum ask:Int) (places:List Int) (hp:places.length<=9223372036854775807):GC Tryz.prog 177 [rlG r,iG forum,iG ask,qX places] (.tup [qX (Qi r forum ask places).1,iG (Qi r forum ask places).2]):=by
 have hr:=hR.fit
 have h1:=hr.orders
 refine zA Tryz.func177 ?_
 refine gE [1,2,3,4,8,9] ?_
 refine gR [.call (zHe r forum ask places hr hp)] [1,2,3,4,8,9,27] ?_ (hp:=(by simp only[zC,bb,toN];repeat' first|exact trivial|exact zI.refl _|exact rfl|(rename_i h;have:=KO h;omega)|omega|apply And.intro|intro _))
 refine zE ?_ ?_<;>intro c1<;>try simp only[bb,toN]at c1
 ·refine gE [1,2,3,4,8,9] ?_
  refine Zf env ?_
  rw[Qi,if_pos (by (try simp only[bb,toN]);exact c1)];exact Ent.tup ⟨Ent.nil,Ent.refl _,trivial⟩
 ·have hf:=KO c1.1
  refine gR [.el default inC [forum]] [2,3,4,8,9,10] ?_
  refine zG (α:=List Int×Nat) (fun x=>LwI r x.1/\vj r ask places (r.orders.length+1) [forum]=vj r ask places (r.orders.length+2-x.1.length) x.1/\x.2<=x.1.length) (fun x=>[(10,.sl 1 1 0 x.1.length)]) (fun x=>[(1,some (.row 3 1 default inC x.1 x.2))]) (fun x=>r.orders.length+2-x.1.length) ([forum],0) ⟨zGu ⟨hf.1,hf.2.1⟩,by simp,by simp⟩ ?_
  rintro ⟨p,z⟩ ⟨hL,he,hz⟩
  dsimp only at*
  have hp1:=hL.pos
  have hln:=hL.len
  refine gE [2,3,4,8,9,10,11] ?_
  simp only[(show (p.length:Int)-1=((p.length-1:Nat):Int)by have:=hL.pos;omega),toN]
  have hla:=hL.rng _ (zK (l:=p) (i:=p.length-1) (by omega))
  have hnx:=Un (ask:=ask) hf.2.2.2.2.2 hla hf.2.2.2.2.1 hR ⟨hf.2.2.1,hf.2.2.2.1⟩
  refine gR [.call (zPs r (p.getD (p.length-1) default) ask places hR hp)] [2,3,4,8,9,10,11,12,13] ?_
  refine gE [2,3,4,8,9,10,12,13,46] ?_
  refine zB ?_ ?_<;>intro c2<;>try simp only[toN]at c2
  ·refine gE [2,3,4,8,9,10,12,13] ?_
   refine gT ?_
   have eN:r.orders.length+2-p.length=(r.orders.length+1-p.length)+1:=by omega
   rw[Qi,iN (by (try simp only[bb,toN]);exact c1),he,eN,vj,if_pos c2];rfl
  ·refine gR [.call (zl p (by have:=hL.len;omega) (Zi r (p.getD (p.length-1) default) ask places).1)] [2,3,4,8,9,10,12,13,14] ?_
   refine gU [.el default inC [(Zi r (p.getD (p.length-1) default) ask places).1],.el default inC (p++ [(Zi r (p.getD (p.length-1) default) ask places).1])] [2,3,4,8,9,10,12,13,14] ?_
   refine gE [2,3,4,8,9,10,14,55] ?_
   refine zE ?_ ?_<;>intro c3<;>try simp only[bb,toN]at c3
   ·refine gE [2,3,4,8,9,10] ?_
    refine gT ?_
    have eN:r.orders.length+2-p.length=(r.orders.length+1-p.length)+1:=by omega
    rw[Qi,iN (by (try simp only[bb,toN]);exact c1),he,eN,vj,if_neg c2,if_pos (by (try simp only[bb,toN]);exact c3)];rfl
   ·refine gE [2,3,4,8,9,10,70] ?_
    refine zE ?_ ?_<;>intro c4<;>try simp only[bb,toN]at c4
    ·refine gE [2,3,4,8,9,10] ?_
     refine gT ?_
     have eN:r.orders.length+2-p.length=(r.orders.length+1-p.length)+1:=by omega
     rw[Qi,iN (by (try simp only[bb,toN]);exact c1),he,eN,vj,if_neg c2,iN (by (try simp only[bb,toN]);exact c3),if_pos c4];rfl
    ·refine zD ((p++ [(Zi r (p.getD (p.length-1) default) ask places).1],p.length)) ?_ (hm:=by have:=hL.len;simp only[List.length_append,List.length_cons,List.length_nil];omega)
     have eN:r.orders.length+2-p.length=(r.orders.length+1-p.length)+1:=by omega
     refine ⟨hL.next hnx c4,?_,by simp⟩
     rw[he,eN,vj,if_neg c2,iN (by (try simp only[bb,toN]);exact c3),if_neg (by rw[c4];simp)]
     rw[List.length_append,List.length_cons,List.length_nil]
     rw[show r.orders.length+2-(p.length+(0+1))=r.orders.length+1-p.length by omega]
structure FitFi (f:Fil):Prop where
 signs:f.signs.length<=1000
 alters:f.alters.length<=1000
 acts:f.acts.length<=1000
 facts:f.facts.length<=1000
theorem Jc (f:Fil) (day:Int) (h:FitFi f):GC Tryz.prog 13 [fiG f,iG day] (fiG (atV f day)):=at_ok f day (Nat.le_trans h.1 (by decide)) (Nat.le_trans h.2 (by decide)) (Nat.le_trans h.3 (by decide)) (Nat.le_trans h.4 (by decide))
theorem Wg {α:Type} (p:α->Bool) (l:List α):(l.takeWhile p).length<=l.length:=by
 induction l with
 |nil=>simp
 |cons a l ih=>rw[List.takeWhile_cons];split<;>simp<;>omega
theorem FitFi.at_ {f:Fil} (h:FitFi f) (day:Int):FitFi (atV f day):=by
 rw[yd]
 exact ⟨Nat.le_trans (Wg _ _) h.1,Nat.le_trans (List.length_filter_le _ _) h.2,Nat.le_trans (Wg _ _) h.3,Nat.le_trans (List.length_filter_le _ _) h.4⟩
def qU (c:Cas):Bool:=bif bif bif !va c.sign c.file.signs.length then true else decide (c.holder< -1)then true else decide ((c.file.signs.length:Int)<=mxI c.holder 0)then true else bif !decide (c.due= -1)then !va c.due 100001 else false
def Zg (n k:Int):Bool:= !decide (yO .i64 n k=0)
def ql (r:Rlm) (c:Cas):List Cel:=
 if qU c=true then []else
 if (!va (c.file.signs.getD c.sign.toNat default).day 100001)=true then []else
 let s:=c.file.signs.getD c.sign.toNat default
 let b:=c.file.bill
 let gap:=if c.due= -1 then 0 else IntKind.i64.wrap (s.day-c.due)
 let h:=mxI c.holder 0
 [⟨true,b.sum⟩,⟨true,b.parts⟩,⟨true,b.ten.kind⟩,⟨true,b.rate⟩,⟨true,s.kind⟩,⟨true,c.defence⟩,⟨true,gap⟩,
  jz (Zg b.flags 1),jz (decide (b.payee= -1)),jz (Zg b.flags 4),jz (Zg b.flags 2),jz (!decide (zh r b.city=zh r b.pay)),jz (c.file.alters.any fun a=>vL a c),jz (Zg s.flags 1),jz (decide (0<gap)),
  ZW c.file 0 c.sign,ZW c.file 1 c.sign,ZW c.file 2 c.sign,ZW c.file 3 h,ZW c.file 4 h]
def zXr (r:Rlm) (c:Cas) (s:Sgn) (gap:Int):List (Nat×Int):=[(0,c.file.bill.sum),(1,c.file.bill.parts),(2,c.file.bill.ten.kind),(3,c.file.bill.rate),(4,s.kind),(5,c.defence),(6,gap)]
def zXq (r:Rlm) (c:Cas) (s:Sgn) (gap:Int):List (Nat×Bool):=[(7,Zg c.file.bill.flags 1),(8,decide (c.file.bill.payee= -1)),(9,Zg c.file.bill.flags 4),(10,Zg c.file.bill.flags 2),(11,!decide (zh r c.file.bill.city=zh r c.file.bill.pay)),(12,c.file.alters.any fun a=>vL a c),(13,Zg s.flags 1),(14,decide (0<gap))]
def ZBw (e:Nat×Int):Value×Value:=(.int .i64 (e.1:Int),.int .i64 e.2)
def ZBv (e:Nat×Bool):Value×Value:=(.int .i64 (e.1:Int),.bool e.2)
def zUi (o:List Cel) (e:Nat×Int):List Cel:=o.set e.1 ⟨true,e.2⟩
def zUh (o:List Cel) (e:Nat×Bool):List Cel:=o.set e.1 (jz e.2)
theorem Ks {α:Type} (l:List α) (i j:Nat) (a b:α) (h:i≠j):(l.set i a).set j b=(l.set j b).set i a:=List.set_comm a b h
theorem Uw {α β:Type} {f:β->α->β} {l l':List α} (key:α->Nat) (hk:(l'.map key).Nodup) (hc:∀x y z,key x≠key y->f (f z x) y=f (f z y) x) (h:l.Perm l') (z:β):l.foldl f z=l'.foldl f z:=by
 have hn:(l.map key).Nodup:=(h.map key).nodup_iff.2 hk
 refine h.foldl_eq' (fun x hx y hy z=> ?_) z
 by_cases e:key x=key y
 ·have:x=y:=by
   obtain ⟨i,hi,rfl⟩:=List.mem_iff_getElem.1 hx
   obtain ⟨j,hj,rfl⟩:=List.mem_iff_getElem.1 hy
   have hij:i=j:=by
    refine (List.getElem_inj (h₀:=by simpa using hi) (h₁:=by simpa using hj) hn).1 ?_
    simpa using e
   subst hij;rfl
  rw[this]
 ·exact hc x y z e
theorem zAr {α:Type} {enc:α->Value×Value} (dec:Value×Value->α) (hd:∀x,dec (enc x)=x) {l l':List α} (h:(l.map enc).Perm (l'.map enc)):l.Perm l':=by
 have:=h.map dec
 rwa[List.map_map,List.map_map,show dec∘enc=id from funext hd,List.map_id,List.map_id]at this
theorem HH:∀(ds:List (Nat×Int)) (o:List Cel),(ds.foldl zUi o).length=o.length:=by
 intro ds
 induction ds with
 |nil=>intro o;rfl
 |cons a l ih=>intro o;rw[List.foldl_cons,ih];simp[zUi]
theorem HG:∀(ds:List (Nat×Bool)) (o:List Cel),(ds.foldl zUh o).length=o.length:=by
 intro ds
 induction ds with
 |nil=>intro o;rfl
 |cons a l ih=>intro o;rw[List.foldl_cons,ih];simp[zUh]
def dec1 (p:Value×Value):Nat×Int:=match p with|(.int _ a,.int _ b)=>(a.toNat,b)|_=>(0,0)
def dec2 (p:Value×Value):Nat×Bool:=match p with|(.int _ a,.bool b)=>(a.toNat,b)|_=>(0,false)
theorem zTf (r:Rlm) (c:Cas) (hr:FitR r) (hF:FitFi c.file):GC Tryz.prog 211 [rlG r,caG c] (.d (.row default ceC (ql r c))):=by
 have h1:=hF.signs
 have h2:=hF.alters
 have h3:=hF.facts
 refine zA Tryz.func211 ?_
 refine gE [2,3,4] ?_
 refine zv 1 ?_
 refine gE [2,3,4,5,6] ?_
 refine gE [2,3,4,5,6,7] ?_
 refine gR [.call (Jf c.sign (c.file.signs.length:Int)),.call (Jf c.due 100001)] [2,3,4,5,6,7,54] ?_
 refine zE (fun c1=> ?_) (fun c1=> ?_)
 ·refine gE [4] ?_
  refine Zf env ?_
  rw[ql,if_pos (by exact c1)];exact Ent.nil
 have hb:=c1
 have hv:qU c=false:=c1
 unfold qU va at hv
 simp only[bb]at hv
 have hs:0<=c.sign/\c.sign<c.file.signs.length:=by omega
 obtain ⟨s,es⟩:∃s,s=c.file.signs.getD c.sign.toNat default:=⟨_,rfl⟩
 obtain ⟨h,eh⟩:∃h,h=mxI c.holder 0:=⟨_,rfl⟩
 refine gP [] [2,3,5,6,7,8] ?_
 refine gR [.call (Jf (c.file.signs.getD c.sign.toNat default).day 100001)] [2,3,5,6,7,8,64] ?_
 refine zE (fun c2=> ?_) (fun c2=> ?_)
 ·refine gE [4] ?_
  refine Zf env ?_
  rw[ql,if_neg (by rw[show qU c=false from hb];decide),if_pos (by exact c2)];exact Ent.nil
 refine gE [2,3,5,6,7,8,9] ?_
 refine gE [2,3,5,6,7,8,9,67] ?_
 refine yV (α:=Int) (fun z=>z=(if c.due= -1 then 0 else IntKind.i64.wrap ((c.file.signs.getD c.sign.toNat default).day-c.due))) (fun z=>⟨[(2,.ptr 0 0 0 0),(3,.ep (caC c)),(5,.ptr 2 0 0 0),(6,.ptr 3 0 0 0),(7,iG (mxI c.holder 0)),(8,.ptr 4 0 0 0),(9,iG z)],[(0,some (.box [.d (.row default ze r.currencies),.d (.row default ctC r.cities),.d (.row default inC r.groups),.d (.row default fmC r.firms),.d (.row default odC r.orders),.d (.row default usC r.usances),.d (.row default rtC r.rates),.d (.row default htC r.halts)])),(2,some (.box [iG c.file.bill.drawer,iG c.file.bill.drawee,iG c.file.bill.payee,iG c.file.bill.sum,iG c.file.bill.cur,iG c.file.bill.ten.kind,iG c.file.bill.ten.n,iG c.file.bill.ten.unit,iG c.file.bill.day,iG c.file.bill.city,iG c.file.bill.pay,iG c.file.bill.need,iG c.file.bill.rate,iG c.file.bill.flags,iG c.file.bill.parts,.d (.row default sgC c.file.signs),.d (.row default alC c.file.alters),.d (.row default acC c.file.acts),.d (.row default fcC c.file.facts)])),(3,some (.box [iG c.file.bill.drawer,iG c.file.bill.drawee,iG c.file.bill.payee,iG c.file.bill.sum,iG c.file.bill.cur,iG c.file.bill.ten.kind,iG c.file.bill.ten.n,iG c.file.bill.ten.unit,iG c.file.bill.day,iG c.file.bill.city,iG c.file.bill.pay,iG c.file.bill.need,iG c.file.bill.rate,iG c.file.bill.flags,iG c.file.bill.parts])),(4,some (.box [iG ((c.file.signs.getD c.sign.toNat default).kind),iG ((c.file.signs.getD c.sign.toNat default).part),iG ((c.file.signs.getD c.sign.toNat default).who),iG ((c.file.signs.getD c.sign.toNat default).for_),iG ((c.file.signs.getD c.sign.toNat default).to_),iG ((c.file.signs.getD c.sign.toNat default).sum),iG ((c.file.signs.getD c.sign.toNat default).day),iG ((c.file.signs.getD c.sign.toNat default).city),iG ((c.file.signs.getD c.sign.toNat default).flags)]))],5⟩) ?_ ?_
 rotate_left
 ·refine zT (fun c3=> ?_) (fun c3=> ?_)
  ·refine zF env true [] [2,3,5,6,7,8,9] ?_
   exact za _ (by rw[if_neg c3]) (hp:=by (try simp only[zC]);repeat' first|exact trivial|exact rfl|apply And.intro)
  ·exact za 0 (by rw[if_pos c3]) (hp:=by (try simp only[zC]);repeat' first|exact trivial|exact rfl|apply And.intro)
 ·rintro gap eg
  refine gR [.el default ceC (List.replicate 20 (⟨false,0⟩:Cel))] [2,3,5,6,7,8,9,10] ?_ (hp:=(by simp only[zC,bb,toN,loI,hiI];repeat' first|exact trivial|exact zI.refl _|exact zH.refl _|exact rfl|(rw[zP,List.map_replicate];rfl)|omega|apply And.intro|intro _))
  refine JS env false 23 [.mp [(.int .i64 0,.int .i64 c.file.bill.sum)],.mp [(.int .i64 0,.int .i64 c.file.bill.sum),(.int .i64 1,.int .i64 c.file.bill.parts)],.mp [(.int .i64 0,.int .i64 c.file.bill.sum),(.int .i64 1,.int .i64 c.file.bill.parts),(.int .i64 2,.int .i64 c.file.bill.ten.kind)],.mp [(.int .i64 0,.int .i64 c.file.bill.sum),(.int .i64 1,.int .i64 c.file.bill.parts),(.int .i64 2,.int .i64 c.file.bill.ten.kind),(.int .i64 3,.int .i64 c.file.bill.rate)],.mp [(.int .i64 0,.int .i64 c.file.bill.sum),(.int .i64 1,.int .i64 c.file.bill.parts),(.int .i64 2,.int .i64 c.file.bill.ten.kind),(.int .i64 3,.int .i64 c.file.bill.rate),(.int .i64 4,.int .i64 ((c.file.signs.getD c.sign.toNat default).kind))],.mp [(.int .i64 0,.int .i64 c.file.bill.sum),(.int .i64 1,.int .i64 c.file.bill.parts),(.int .i64 2,.int .i64 c.file.bill.ten.kind),(.int .i64 3,.int .i64 c.file.bill.rate),(.int .i64 4,.int .i64 ((c.file.signs.getD c.sign.toNat default).kind)),(.int .i64 5,.int .i64 c.defence)],.mp [(.int .i64 0,.int .i64 c.file.bill.sum),(.int .i64 1,.int .i64 c.file.bill.parts),(.int .i64 2,.int .i64 c.file.bill.ten.kind),(.int .i64 3,.int .i64 c.file.bill.rate),(.int .i64 4,.int .i64 ((c.file.signs.getD c.sign.toNat default).kind)),(.int .i64 5,.int .i64 c.defence),(.int .i64 6,.int .i64 gap)]] 6 90 91 92 93 6 ((zXr r c (c.file.signs.getD c.sign.toNat default) gap).map ZBw) (fun done out=>∃ds:List (Nat×Int),done=ds.map ZBw/\out=ds.foldl zUi (List.replicate 20 (⟨false,0⟩:Cel))) (fun out=>[(2,.ptr 0 0 0 0),(3,.ep (caC c)),(5,.ptr 2 0 0 0),(6,.ptr 3 0 0 0),(7,iG (mxI c.holder 0)),(8,.ptr 4 0 0 0),(9,iG gap),(10,.sl 5 2 0 20)]) (fun out=>[(0,some (.box [.d (.row default ze r.currencies),.d (.row default ctC r.cities),.d (.row default inC r.groups),.d (.row default fmC r.firms),.d (.row default odC r.orders),.d (.row default usC r.usances),.d (.row default rtC r.rates),.d (.row default htC r.halts)])),(2,some (.box [iG c.file.bill.drawer,iG c.file.bill.drawee,iG c.file.bill.payee,iG c.file.bill.sum,iG c.file.bill.cur,iG c.file.bill.ten.kind,iG c.file.bill.ten.n,iG c.file.bill.ten.unit,iG c.file.bill.day,iG c.file.bill.city,iG c.file.bill.pay,iG c.file.bill.need,iG c.file.bill.rate,iG c.file.bill.flags,iG c.file.bill.parts,.d (.row default sgC c.file.signs),.d (.row default alC c.file.alters),.d (.row default acC c.file.acts),.d (.row default fcC c.file.facts)])),(3,some (.box [iG c.file.bill.drawer,iG c.file.bill.drawee,iG c.file.bill.payee,iG c.file.bill.sum,iG c.file.bill.cur,iG c.file.bill.ten.kind,iG c.file.bill.ten.n,iG c.file.bill.ten.unit,iG c.file.bill.day,iG c.file.bill.city,iG c.file.bill.pay,iG c.file.bill.need,iG c.file.bill.rate,iG c.file.bill.flags,iG c.file.bill.parts])),(4,some (.box [iG ((c.file.signs.getD c.sign.toNat default).kind),iG ((c.file.signs.getD c.sign.toNat default).part),iG ((c.file.signs.getD c.sign.toNat default).who),iG ((c.file.signs.getD c.sign.toNat default).for_),iG ((c.file.signs.getD c.sign.toNat default).to_),iG ((c.file.signs.getD c.sign.toNat default).sum),iG ((c.file.signs.getD c.sign.toNat default).day),iG ((c.file.signs.getD c.sign.toNat default).city),iG ((c.file.signs.getD c.sign.toNat default).flags)])),(5,some (.row 74 2 default ceC out 0))]) (List.replicate 20 (⟨false,0⟩:Cel)) ⟨[],rfl,rfl⟩ ?_ ?_ rfl
  ·rintro r0 done k v rest out hperm ⟨ds,hds,ho⟩
   obtain ⟨e,he,hek⟩:=List.mem_map.1 (hperm.mem_iff.1 (List.mem_append_right _ List.mem_cons_self))
   simp only[ZBw,Prod.mk.injEq]at hek
   obtain ⟨rfl,rfl⟩:=hek
   have he20:e.1<20:=by
    simp only[zXr,List.mem_cons,List.not_mem_nil,or_false]at he
    rcases he with rfl|rfl|rfl|rfl|rfl|rfl|rfl<;>simp
   have hol:out.length=20:=by rw[ho,HH];simp
   refine wg env false [] [2,3,5,6,7,8,9,10,11,12,90] ?_
   refine gR [.el default ceC (out.set e.1 (⟨true,e.2⟩:Cel))] [2,3,5,6,7,8,9,10,90] ?_ (hp:=(by simp only[zC,bb,toN,loI,hiI,Nat.zero_add];repeat' first|exact (ZN (cs:=ceC) (by first|omega|(simp;done)) rfl (by rfl)).symm|exact Nat.le_refl _|exact trivial|exact zI.refl _|exact zH.refl _|exact rfl|omega|apply And.intro|intro _|(simp;done)))
   exact vC (out.set e.1 ⟨true,e.2⟩) ⟨ds++ [e],by rw[List.map_append,hds];rfl,by rw[ho,List.foldl_append];rfl⟩
  ·rintro done out hperm ⟨ds,rfl,ho⟩
   have ho1:out=(zXr r c (c.file.signs.getD c.sign.toNat default) gap).foldl zUi (List.replicate 20 (⟨false,0⟩:Cel)):=ho.trans (Uw (·.1) (by simp[zXr]) (fun x y z h=>Ks _ _ _ _ _ h) (zAr dec1 (fun x=>rfl) hperm) _)
   have hol:out.length=20:=by rw[ho1,HH];simp
   clear ho hperm
   refine gR [.call (KD c.file.alters (by omega) c)] [2,3,5,6,7,8,9,10,13] ?_
   refine gR [.call (yx r c.file.bill.city hr),.call (yx r c.file.bill.pay hr)] [3,5,6,7,8,9,10,13,14] ?_
   refine JS env false 33 [.mp [(.int .i64 7,.bool (Zg c.file.bill.flags 1))],.mp [(.int .i64 7,.bool (Zg c.file.bill.flags 1)),(.int .i64 8,.bool (decide (c.file.bill.payee= -1)))],.mp [(.int .i64 7,.bool (Zg c.file.bill.flags 1)),(.int .i64 8,.bool (decide (c.file.bill.payee= -1))),(.int .i64 9,.bool (Zg c.file.bill.flags 4))],.mp [(.int .i64 7,.bool (Zg c.file.bill.flags 1)),(.int .i64 8,.bool (decide (c.file.bill.payee= -1))),(.int .i64 9,.bool (Zg c.file.bill.flags 4)),(.int .i64 10,.bool (Zg c.file.bill.flags 2))],.mp [(.int .i64 7,.bool (Zg c.file.bill.flags 1)),(.int .i64 8,.bool (decide (c.file.bill.payee= -1))),(.int .i64 9,.bool (Zg c.file.bill.flags 4)),(.int .i64 10,.bool (Zg c.file.bill.flags 2)),(.int .i64 11,.bool (!decide (zh r c.file.bill.city=zh r c.file.bill.pay)))],.mp [(.int .i64 7,.bool (Zg c.file.bill.flags 1)),(.int .i64 8,.bool (decide (c.file.bill.payee= -1))),(.int .i64 9,.bool (Zg c.file.bill.flags 4)),(.int .i64 10,.bool (Zg c.file.bill.flags 2)),(.int .i64 11,.bool (!decide (zh r c.file.bill.city=zh r c.file.bill.pay))),(.int .i64 12,.bool (c.file.alters.any fun a=>vL a c))],.mp [(.int .i64 7,.bool (Zg c.file.bill.flags 1)),(.int .i64 8,.bool (decide (c.file.bill.payee= -1))),(.int .i64 9,.bool (Zg c.file.bill.flags 4)),(.int .i64 10,.bool (Zg c.file.bill.flags 2)),(.int .i64 11,.bool (!decide (zh r c.file.bill.city=zh r c.file.bill.pay))),(.int .i64 12,.bool (c.file.alters.any fun a=>vL a c)),(.int .i64 13,.bool (Zg (c.file.signs.getD c.sign.toNat default).flags 1))],.mp [(.int .i64 7,.bool (Zg c.file.bill.flags 1)),(.int .i64 8,.bool (decide (c.file.bill.payee= -1))),(.int .i64 9,.bool (Zg c.file.bill.flags 4)),(.int .i64 10,.bool (Zg c.file.bill.flags 2)),(.int .i64 11,.bool (!decide (zh r c.file.bill.city=zh r c.file.bill.pay))),(.int .i64 12,.bool (c.file.alters.any fun a=>vL a c)),(.int .i64 13,.bool (Zg (c.file.signs.getD c.sign.toNat default).flags 1)),(.int .i64 14,.bool (decide (0<gap)))]] 6 139 140 141 142 6 ((zXq r c (c.file.signs.getD c.sign.toNat default) gap).map ZBv) (fun done o2=>∃ds:List (Nat×Bool),done=ds.map ZBv/\o2=ds.foldl zUh out) (fun o2=>[(3,.ep (caC c)),(5,.ptr 2 0 0 0),(7,iG (mxI c.holder 0)),(10,.sl 5 2 0 20)]) (fun o2=>[(2,some (.box [iG c.file.bill.drawer,iG c.file.bill.drawee,iG c.file.bill.payee,iG c.file.bill.sum,iG c.file.bill.cur,iG c.file.bill.ten.kind,iG c.file.bill.ten.n,iG c.file.bill.ten.unit,iG c.file.bill.day,iG c.file.bill.city,iG c.file.bill.pay,iG c.file.bill.need,iG c.file.bill.rate,iG c.file.bill.flags,iG c.file.bill.parts,.d (.row default sgC c.file.signs),.d (.row default alC c.file.alters),.d (.row default acC c.file.acts),.d (.row default fcC c.file.facts)])),(5,some (.row 74 2 default ceC o2 0))]) out ⟨[],rfl,rfl⟩ ?_ ?_ rfl
   ·rintro r0 done k v rest o2 hperm ⟨ds,hds,ho⟩
    obtain ⟨e,he,hek⟩:=List.mem_map.1 (hperm.mem_iff.1 (List.mem_append_right _ List.mem_cons_self))
    simp only[ZBv,Prod.mk.injEq]at hek
    obtain ⟨rfl,rfl⟩:=hek
    have he20:e.1<20:=by
     simp only[zXq,List.mem_cons,List.not_mem_nil,or_false]at he
     rcases he with rfl|rfl|rfl|rfl|rfl|rfl|rfl|rfl<;>simp
    have hol2:o2.length=20:=by rw[ho,HG];exact hol
    refine wg env false [] [3,5,7,10,15,16,139] ?_
    refine gR [.call (Kk e.2),.el default ceC (o2.set e.1 (jz e.2))] [3,5,7,10,139] ?_ (hp:=(by simp only[zC,bb,toN,loI,hiI,Nat.zero_add];repeat' first|exact (ZN (cs:=ceC) (by first|omega|(simp;done)) rfl (by rfl)).symm|exact Nat.le_refl _|exact trivial|exact zI.refl _|exact zH.refl _|exact rfl|omega|apply And.intro|intro _|(simp;done)))
    exact vC (o2.set e.1 (jz e.2)) ⟨ds++ [e],by rw[List.map_append,hds];rfl,by rw[ho,List.foldl_append];rfl⟩
   ·rintro done o2 hperm ⟨ds,rfl,ho⟩
    have ho2:o2=(zXq r c (c.file.signs.getD c.sign.toNat default) gap).foldl zUh out:=ho.trans (Uw (·.1) (by simp[zXq]) (fun x y z h=>Ks _ _ _ _ _ h) (zAr dec2 (fun x=>rfl) hperm) _)
    have hol2:o2.length=20:=by rw[ho2,HG];exact hol
    clear ho hperm
    refine gR [.call (WR c.file 0 c.sign (by omega)),.el default ceC (o2.set 15 (ZW c.file 0 c.sign))] [5,7,10,3] ?_ (hp:=(by simp only[zC,bb,toN,loI,hiI,Nat.zero_add];repeat' first|exact (ZN (cs:=ceC) (by first|omega|(simp;done)) rfl (by rfl)).symm|exact Nat.le_refl _|exact trivial|exact zI.refl _|exact zH.refl _|exact rfl|omega|apply And.intro|intro _|(simp;done)))
    refine gR [.call (WR c.file 1 c.sign (by omega)),.el default ceC ((o2.set 15 (ZW c.file 0 c.sign)).set 16 (ZW c.file 1 c.sign))] [5,7,10,3] ?_ (hp:=(by simp only[zC,bb,toN,loI,hiI,Nat.zero_add];repeat' first|exact (ZN (cs:=ceC) (by first|omega|(simp only[List.length_set];omega)) rfl (by rfl)).symm|exact Nat.le_refl _|exact trivial|exact zI.refl _|exact zH.refl _|exact rfl|omega|apply And.intro|intro _|(simp only[List.length_set];omega)))
    refine gR [.call (WR c.file 2 c.sign (by omega)),.el default ceC (((o2.set 15 (ZW c.file 0 c.sign)).set 16 (ZW c.file 1 c.sign)).set 17 (ZW c.file 2 c.sign))] [5,7,10,3] ?_ (hp:=(by simp only[zC,bb,toN,loI,hiI,Nat.zero_add];repeat' first|exact (ZN (cs:=ceC) (by first|omega|(simp only[List.length_set];omega)) rfl (by rfl)).symm|exact Nat.le_refl _|exact trivial|exact zI.refl _|exact zH.refl _|exact rfl|omega|apply And.intro|intro _|(simp only[List.length_set];omega)))
    refine gR [.call (WR c.file 3 (mxI c.holder 0) (by omega)),.el default ceC ((((o2.set 15 (ZW c.file 0 c.sign)).set 16 (ZW c.file 1 c.sign)).set 17 (ZW c.file 2 c.sign)).set 18 (ZW c.file 3 (mxI c.holder 0)))] [5,7,10,3] ?_ (hp:=(by simp only[zC,bb,toN,loI,hiI,Nat.zero_add];repeat' first|exact (ZN (cs:=ceC) (by first|omega|(simp only[List.length_set];omega)) rfl (by rfl)).symm|exact Nat.le_refl _|exact trivial|exact zI.refl _|exact zH.refl _|exact rfl|omega|apply And.intro|intro _|(simp only[List.length_set];omega)))
    refine gR [.call (WR c.file 4 (mxI c.holder 0) (by omega)),.el default ceC (((((o2.set 15 (ZW c.file 0 c.sign)).set 16 (ZW c.file 1 c.sign)).set 17 (ZW c.file 2 c.sign)).set 18 (ZW c.file 3 (mxI c.holder 0))).set 19 (ZW c.file 4 (mxI c.holder 0)))] [5,7,10,3] ?_ (hp:=(by simp only[zC,bb,toN,loI,hiI,Nat.zero_add];repeat' first|exact (ZN (cs:=ceC) (by first|omega|(simp only[List.length_set];omega)) rfl (by rfl)).symm|exact Nat.le_refl _|exact trivial|exact zI.refl _|exact zH.refl _|exact rfl|omega|apply And.intro|intro _|(simp only[List.length_set];omega)))
    refine gE [4] ?_
    refine gT ?_ (hp:=by simp only[zC,List.length_set,hol2];repeat' first|exact trivial|exact rfl|apply And.intro)
    have hfin:ql r c=(((((o2.set 15 (ZW c.file 0 c.sign)).set 16 (ZW c.file 1 c.sign)).set 17 (ZW c.file 2 c.sign)).set 18 (ZW c.file 3 (mxI c.holder 0))).set 19 (ZW c.file 4 (mxI c.holder 0))):=by
     rw[ql,if_neg (by rw[show qU c=false from hb];decide),if_neg (by rw[c2];decide),ho2,ho1,eg]
     rfl
    rw[hfin];rfl
theorem zIb (r:Rlm) (c:Cas):(ql r c).length=0∨(ql r c).length=20:=by
 unfold ql
 split
 ·simp
 ·split<;>simp
theorem VG {r:Rlm} {c:Cas} (h:¬(ql r c).length=0):0<=c.sign/\c.sign<c.file.signs.length:=by
 unfold ql at h
 split at h
 ·simp at h
 ·rename_i hb
  unfold qU va at hb
  rw[Bool.not_eq_true]at hb
  simp only[bb]at hb
  omega
theorem zVu (r:Rlm) (forum ask:Int) (places:List Int) (hR:RightR r) (hp:places.length<=9223372036854775807):GC Tryz.prog 177 [rlG r,iG forum,iG ask,qX places] (.tup [qX (Qi r forum ask places).1,iG (Qi r forum ask places).2]):=ZAv r hR forum ask places hp
def ofV (r:Rlm) (c:Cas):Cas×(List Cel):=(⟨(atV c.file c.day),c.sign,c.holder,c.defence,c.due,c.day⟩,(ql r (⟨(atV c.file c.day),c.sign,c.holder,c.defence,c.due,c.day⟩:Cas)))
theorem of_ok (r:Rlm) (c:Cas) (hR:RR r) (hF:FitFi c.file):GC Tryz.prog 174 [rlG r,caG c] (.tup [caG ((ofV r c).1),.d (.row default ceC ((ofV r c).2))]):=by
 have hr:=hR.right.fit
 have h1:=hr.orders
 have h2:=hr.cities
 have h3:=hr.firms
 refine zA Tryz.func174 ?_
 refine gE [2,3,4,5] ?_
 refine gR [.call (Jc c.file c.day (by first|assumption|exact FitFi.at_ (by assumption) _))] [2,3,4,5] ?_
 refine gR [.call (zTf r (⟨(atV c.file c.day),c.sign,c.holder,c.defence,c.due,c.day⟩:Cas) hr (by first|assumption|exact FitFi.at_ (by assumption) _))] [4,5] ?_
 refine gT ?_
 rw[ofV];rfl
def ZZ (r:Rlm) (forum:Int) (c:Cas):List Int:=if (bif (bif (bif decide (((c.file.signs.getD c.sign.toNat default).who)<0)then true else decide ((r.firms.length:Int)<=((c.file.signs.getD c.sign.toNat default).who)))then true else decide (forum<0))then true else decide ((r.orders.length:Int)<=forum))=true then []else if (Qz ((((((List.replicate 5 0).set 0 forum).set 1 (zh r ((c.file.signs.getD c.sign.toNat default).city))).set 2 (zh r c.file.bill.pay)).set 3 (zh r c.file.bill.city)).set 4 (zh r ((r.firms.getD (((c.file.signs.getD c.sign.toNat default).who).toNat) default).city))) (-1))=true then []else (((((List.replicate 5 0).set 0 forum).set 1 (zh r ((c.file.signs.getD c.sign.toNat default).city))).set 2 (zh r c.file.bill.pay)).set 3 (zh r c.file.bill.city)).set 4 (zh r ((r.firms.getD (((c.file.signs.getD c.sign.toNat default).who).toNat) default).city))
theorem Ue (r:Rlm) (forum:Int) (c:Cas) (hR:RR r) (hF:FitFi c.file) (hs:0<=c.sign/\c.sign<c.file.signs.length):GC Tryz.prog 176 [rlG r,iG forum,caG c] (nilG default inC (ZZ r forum c)):=by
 have hr:=hR.right.fit
 have h1:=hr.orders
 have h2:=hr.cities
 have h3:=hr.firms
 have h4:=hF.signs
 refine zA Tryz.func176 ?_ (hg:=zUx _ _ _)
 refine gE [1,3,5,6] ?_
 refine gE [1,3,6,7,8] ?_
 refine gE [1,3,6,7,8,41] ?_
 refine zE ?_ ?_<;>intro c1<;>try simp only[bb,toN]at c1
 ·refine gE [1,3,6,7,8] ?_
  refine gT ?_
  rw[ZZ,if_pos (by (try simp only[bb,toN]);exact c1)];rfl
 ·refine gR [.el default inC (List.replicate 5 0)] [1,3,6,7,8,9] ?_ (hp:=(by simp only[zC,bb,toN,loI,hiI];repeat' first|exact trivial|exact zI.refl _|exact zH.refl _|exact rfl|(rw[zP,List.map_replicate])|omega|apply And.intro|intro _))
  refine gR [.el default inC ((List.replicate 5 0).set 0 forum)] [3,6,7,8,9] ?_ (hp:=(by simp only[zC,bb,toN,loI,hiI,Nat.zero_add];repeat' first|exact (ZN (cs:=inC) (by first|omega|(simp;done)) rfl (by rfl)).symm|exact Nat.le_refl _|exact trivial|exact zI.refl _|exact zH.refl _|exact rfl|omega|apply And.intro|intro _|(simp;done)))
  refine gR [.call (yx r ((c.file.signs.getD c.sign.toNat default).city) hr),.el default inC (((List.replicate 5 0).set 0 forum).set 1 (zh r ((c.file.signs.getD c.sign.toNat default).city)))] [3,6,7,8,9] ?_ (hp:=(by simp only[zC,bb,toN,loI,hiI,Nat.zero_add];repeat' first|exact (ZN (cs:=inC) (by first|omega|(simp;done)) rfl (by rfl)).symm|exact Nat.le_refl _|exact trivial|exact zI.refl _|exact zH.refl _|exact rfl|omega|apply And.intro|intro _|(simp;done)))
  refine gR [.call (yx r c.file.bill.pay hr),.el default inC ((((List.replicate 5 0).set 0 forum).set 1 (zh r ((c.file.signs.getD c.sign.toNat default).city))).set 2 (zh r c.file.bill.pay))] [3,6,7,8,9] ?_ (hp:=(by simp only[zC,bb,toN,loI,hiI,Nat.zero_add];repeat' first|exact (ZN (cs:=inC) (by first|omega|(simp;done)) rfl (by rfl)).symm|exact Nat.le_refl _|exact trivial|exact zI.refl _|exact zH.refl _|exact rfl|omega|apply And.intro|intro _|(simp;done)))
  refine gR [.call (yx r c.file.bill.city hr),.el default inC (((((List.replicate 5 0).set 0 forum).set 1 (zh r ((c.file.signs.getD c.sign.toNat default).city))).set 2 (zh r c.file.bill.pay)).set 3 (zh r c.file.bill.city))] [3,6,7,9] ?_ (hp:=(by simp only[zC,bb,toN,loI,hiI,Nat.zero_add];repeat' first|exact (ZN (cs:=inC) (by first|omega|(simp;done)) rfl (by rfl)).symm|exact Nat.le_refl _|exact trivial|exact zI.refl _|exact zH.refl _|exact rfl|omega|apply And.intro|intro _|(simp;done)))
  refine gR [.call (yx r ((r.firms.getD (((c.file.signs.getD c.sign.toNat default).who).toNat) default).city) hr),.el default inC ((((((List.replicate 5 0).set 0 forum).set 1 (zh r ((c.file.signs.getD c.sign.toNat default).city))).set 2 (zh r c.file.bill.pay)).set 3 (zh r c.file.bill.city)).set 4 (zh r ((r.firms.getD (((c.file.signs.getD c.sign.toNat default).who).toNat) default).city)))] [6,9] ?_ (hp:=(by simp only[zC,bb,toN,loI,hiI,Nat.zero_add];repeat' first|exact (ZN (cs:=inC) (by first|omega|(simp;done)) rfl (by rfl)).symm|exact Nat.le_refl _|exact trivial|exact zI.refl _|exact zH.refl _|exact rfl|omega|apply And.intro|intro _|(simp;done)))
  refine gR [.call ((fun l x h=>zl l h x) ((((((List.replicate 5 0).set 0 forum).set 1 (zh r ((c.file.signs.getD c.sign.toNat default).city))).set 2 (zh r c.file.bill.pay)).set 3 (zh r c.file.bill.city)).set 4 (zh r ((r.firms.getD (((c.file.signs.getD c.sign.toNat default).who).toNat) default).city))) (-1) (by first|omega|(simp;done)|decide))] [6,9,76] ?_
  refine zE ?_ ?_<;>intro c2<;>try simp only[bb,toN]at c2
  ·refine gE [6,9] ?_
   refine gT ?_
   rw[ZZ,iN (by (try simp only[bb,toN]);exact c1),if_pos (by (try simp only[bb,toN]);exact c2)];rfl
  ·refine gE [6] ?_
   refine gT ?_
   rw[ZZ,iN (by (try simp only[bb,toN]);exact c1),iN (by (try simp only[bb,toN]);exact c2)];rfl
def zZj:Sad:=⟨⟨false,0⟩,-1,[],1⟩
def Zm (r:Rlm) (forum q:Int) (c:Cas):Sad×List Cel:=if (ofV r c).2.length=0 then (zZj,[])else if (jy q).2=false then (zZj,[])else if (ZZ r forum (ofV r c).1)= []then (zZj,[])else
 if (Qi r forum q (ZZ r forum (ofV r c).1)).2=0 then (⟨⟨false,0⟩,(Qi r forum q (ZZ r forum (ofV r c).1)).1.getD ((Qi r forum q (ZZ r forum (ofV r c).1)).1.length-1) default,(Qi r forum q (ZZ r forum (ofV r c).1)).1,0⟩,(ofV r c).2)else (⟨⟨false,0⟩,-1,(Qi r forum q (ZZ r forum (ofV r c).1)).1,(Qi r forum q (ZZ r forum (ofV r c).1)).2⟩,(ofV r c).2)
theorem zOm (r:Rlm) (c:Cas):(ofV r c).1.file=atV c.file c.day/\(ofV r c).1.sign=c.sign/\(ofV r c).2=ql r (ofV r c).1:=⟨rfl,rfl,rfl⟩
theorem HJ (r:Rlm) (forum:Int) (c:Cas):(ZZ r forum c).length<=5:=by
 unfold ZZ
 repeat' split
 all_goals simp
theorem ZAw {r:Rlm} (hR:RightR r) {q:Int} {l:List Int} (hf:∀x,x∈l->0<=x/\x<r.orders.length) (h5:l.length=5) (hq:0<=q/\q<22):∀(n:Nat) (p:List Int),LwI r p->1<=(vj r q l n p).1.length/\(vj r q l n p).1.length<=r.orders.length+1/\∀x,x∈(vj r q l n p).1->0<=x/\x<r.orders.length:=by
 intro n
 induction n with
 |zero=>intro p h;exact ⟨h.pos,by have:=h.len;show p.length<=_;omega,h.rng⟩
 |succ n ih=>
  intro p h
  have hl:=h.len
  have hp:=h.pos
  have hnx:=Un (ask:=q) hf (h.rng _ (zK (l:=p) (i:=p.length-1) (by omega))) h5 hR hq
  have hap:∀x,x∈p++ [(Zi r (p.getD (p.length-1) default) q l).1]->0<=x/\x<r.orders.length:=fun x hx=>by
   rcases List.mem_append.1 hx with hx|hx
   ·exact h.rng x hx
   ·simp only[List.mem_singleton]at hx;subst hx;exact hnx
  unfold vj
  split
  ·exact ⟨hp,by dsimp only;omega,h.rng⟩
  ·split
   ·exact ⟨by simp,by simp;omega,hap⟩
   ·split
    ·exact ⟨by simp,by simp;omega,hap⟩
    ·rename_i h3
     exact ih _ (h.next hnx (by simpa using h3))
theorem zPw {r:Rlm} {forum q:Int} {l:List Int} (hR:RightR r) (h:(Qi r forum q l).2=0):1<=(Qi r forum q l).1.length/\(Qi r forum q l).1.length<=1001/\∀x,x∈(Qi r forum q l).1->0<=x/\x<r.orders.length:=by
 unfold Qi at h⊢
 split at h
 ·cases h
 ·rename_i hc
  rw[if_neg hc]
  rw[Bool.not_eq_true]at hc
  simp only[bb]at hc
  have hf:=KO hc.1
  have:=ZAw (q:=q) hR hf.2.2.2.2.2 hf.2.2.2.2.1 ⟨hf.2.2.1,hf.2.2.2.1⟩ (r.orders.length+1) [forum] (zGu ⟨hf.1,hf.2.1⟩)
  have ho:=hR.fit.orders
  exact ⟨this.1,by omega,this.2.2⟩
theorem zWt (r:Rlm) (forum qu:Int) (c:Cas) (hR:RR r) (hF:FitFi c.file):GC Tryz.prog 138 [rlG r,iG forum,iG qu,caG c] (.tup [sdG (Zm r forum qu c).1,.d (.row default ceC (Zm r forum qu c).2)]):=by
 have hr:=hR.right.fit
 have h1:=hr.orders
 have h2:=hr.cities
 have h3:=hr.firms
 refine zA Tryz.func138 ?_
 refine gE [1,2,4,7,8,9] ?_
 refine gE [1,2,4,7,8,9,10] ?_
 refine gR [.call (of_ok r c hR hF)] [1,2,4,7,8,9,10,11] ?_
 refine gE [1,2,4,7,8,9,10,11,24] ?_
 refine zB ?_ ?_<;>intro c1<;>try simp only[toN]at c1
 ·refine gE [1,2,4,7,8,9,10,11] ?_
  refine Zf env ?_
  rw[Zm,if_pos (by omega)];exact Ent.tup ⟨Ent.agg ⟨Ent.refl _,Ent.refl _,Ent.refl _,Ent.nil,Ent.refl _,trivial⟩,Ent.nil,trivial⟩
 ·refine gR [.call (XS qu)] [1,2,4,7,8,9,10,11,13] ?_
  refine gE [1,2,4,7,8,9,10,11,32] ?_
  refine zE ?_ ?_<;>intro c2<;>try simp only[bb,toN]at c2
  ·refine gE [1,2,4,7,8,9,10,11] ?_
   refine Zf env ?_
   rw[Zm,if_neg (by omega),if_pos c2];exact Ent.tup ⟨Ent.agg ⟨Ent.refl _,Ent.refl _,Ent.refl _,Ent.nil,Ent.refl _,trivial⟩,Ent.nil,trivial⟩
  ·rcases hP:(ZZ r forum (ofV r c).1)with _|⟨x,xs⟩
   ·have hsg:=VG (r:=r) (c:=(ofV r c).1) (by rw[<-(zOm r c).2.2];omega)
    refine gR [.call (hP▸Ue r forum (ofV r c).1 hR (hF.at_ _) hsg)] [1,2,4,8,9,10,11,14] ?_
    refine zLb env ?_
    refine zE ?_ ?_<;>intro c3<;>try simp only[bb,toN]at c3
    ·refine gE [1,2,4,8,9,10,11,14] ?_
     refine Zf env ?_
     rw[Zm,if_neg (by omega),if_neg (by rw[c2];simp),if_pos hP];exact Ent.tup ⟨Ent.agg ⟨Ent.refl _,Ent.refl _,Ent.refl _,Ent.nil,Ent.refl _,trivial⟩,Ent.nil,trivial⟩
    ·cases c3
   ·have hsg:=VG (r:=r) (c:=(ofV r c).1) (by rw[<-(zOm r c).2.2];omega)
    refine gR [.call (hP▸Ue r forum (ofV r c).1 hR (hF.at_ _) hsg)] [1,2,4,8,9,10,11,14] ?_
    refine zAf env (fun q hq=> ?_)
    refine zE ?_ ?_<;>intro c3<;>try simp only[bb,toN]at c3
    ·exact absurd (hq c3) (by simp)
    ·have hP5:=HJ r forum (ofV r c).1
     rw[hP]at hP5
     refine gR [.call (zVu r forum qu (x::xs) hR.right (by omega))] [8,9,10,11] ?_
     refine gE [8,9,10,11,53] ?_
     refine zB ?_ ?_<;>intro c4<;>try simp only[toN]at c4
     ·obtain ⟨hw1,hw2,hw3⟩:=zPw hR.right c4
      refine gE [8,9,10,11] ?_
      refine gE [8,9] ?_
      refine gT ?_
      rw[Zm,if_neg (by omega),if_neg (by rw[c2];simp),if_neg (by rw[hP];simp),hP,if_pos c4]
      simp only[show (((Qi r forum qu (x::xs)).1.length:Int)-1).toNat=(Qi r forum qu (x::xs)).1.length-1 by omega,toN]
      rw[c4];rfl
     ·refine gE [8,9] ?_
      refine gT ?_
      rw[Zm,if_neg (by omega),if_neg (by rw[c2];simp),if_neg (by rw[hP];simp),hP,if_neg c4];rfl
def zFg (o:Od) (ask:Int) (cells:List Cel):Cel×Int:=if ((Yl o ask).2)=0 then if (bif decide (((jy ask).1)=0)then (WS Dep.d ((Yl o ask).1) cells).known else false)=true then (⟨(WS Dep.d ((Yl o ask).1) cells).known,mnI (mxI ((WS Dep.d ((Yl o ask).1) cells).n) 0) 20000⟩,0)else ((WS Dep.d ((Yl o ask).1) cells),0)else (⟨false,0⟩,(Yl o ask).2)
theorem zLx (o:Od) (ask:Int) (cells:List Cel) (ho:FitO o) (hc:cells.length<=1000):GC Tryz.prog 139 [odG o,iG ask,.d (.row default ceC cells)] (.tup [ceG ((zFg o ask cells).1),iG ((zFg o ask cells).2)]):=by
 refine zA Tryz.func139 ?_
 refine gE [1,2,3,6,7] ?_
 refine gR [.call (zOl o ask (by assumption))] [1,2,6,7,8,9] ?_
 refine gE [1,2,6,7,8,9,20] ?_
 refine zT ?_ ?_<;>intro c1<;>try simp only[toN]at c1
 ·refine gE [1,2,6,7,8] ?_
  refine gT ?_
  rw[zFg,if_neg c1];rfl
 ·have ht:=zLi ho c1
  refine gR [.call (zWw Dep.d ((Yl o ask).1) cells (by assumption) (by omega))] [1,6,7,10] ?_
  refine gR [.call (XS ask)] [6,7,10,11] ?_
  refine gE [6,7,10,36] ?_
  refine zE ?_ ?_<;>intro c2<;>try simp only[bb,toN]at c2
  ·refine gE [6,7,10] ?_
   refine gE [6,7] ?_
   refine gT ?_
   rw[zFg,if_pos c1,if_pos (show (bif decide (((jy ask).1)=0)then (WS Dep.d ((Yl o ask).1) cells).known else false)=true by (try simp only[bb,toN]);exact c2)];rfl
  ·refine gE [6,7] ?_
   refine gT ?_
   rw[zFg,if_pos c1,if_neg (show ¬((bif decide (((jy ask).1)=0)then (WS Dep.d ((Yl o ask).1) cells).known else false)=true)by rw[Bool.not_eq_true];(try simp only[bb,toN]);exact c2)];rfl
theorem FitFi.nof {b:Bil} {s:List Sgn} {al:List Alt} {ac:List Act} {fc:List Fct} (h:FitFi ⟨b,s,al,ac,fc⟩):FitFi ⟨b,s,al,ac,[]⟩:=⟨h.1,h.2,h.3,by simp⟩
theorem zAl {r:Rlm} {forum qu:Int} {c:Cas} (hR:RR r) (h:¬(Zm r forum qu c).1.order= -1):0<=(Zm r forum qu c).1.order/\(Zm r forum qu c).1.order<r.orders.length:=by
 unfold Zm at h⊢
 split at h
 ·exact absurd rfl h
 ·rename_i h1
  rw[if_neg h1]
  split at h
  ·exact absurd rfl h
  ·rename_i h2
   rw[if_neg h2]
   split at h
   ·exact absurd rfl h
   ·rename_i h3
    rw[if_neg h3]
    split at h
    ·rename_i h4
     rw[if_pos h4]
     obtain ⟨a,b,c⟩:=zPw hR.right h4
     exact c _ (zK (by omega))
    ·exact absurd rfl h
theorem zAm (r:Rlm) (forum qu:Int) (c:Cas):(Zm r forum qu c).2.length<=20:=by
 have h0:=zIb r (ofV r c).1
 rw[<-(zOm r c).2.2]at h0
 unfold Zm
 repeat' split
 all_goals simp<;>omega
def Yf (r:Rlm) (forum:Int) (qu:Int) (c:Cas):Sad:=if (((Zm r forum qu c).1).order)=(-1)then (Zm r forum qu c).1 else ⟨(zFg (r.orders.getD ((((Zm r forum qu c).1).order).toNat) default) qu ((Zm r forum qu c).2)).1,((Zm r forum qu c).1).order,((Zm r forum qu c).1).path,(zFg (r.orders.getD ((((Zm r forum qu c).1).order).toNat) default) qu ((Zm r forum qu c).2)).2⟩
theorem wn (r:Rlm) (forum:Int) (qu:Int) (c:Cas) (hR:RR r) (hF:FitFi c.file):GC Tryz.prog 94 [rlG r,iG forum,iG qu,caG c] (sdG (Yf r forum qu c)):=by
 have hr:=hR.right.fit
 have h1:=hr.orders
 have h2:=hr.cities
 have h3:=hr.firms
 have hcl:=zAm r forum qu c
 refine zA Tryz.func94 ?_
 refine gE [1,2,4,7,8] ?_
 refine gR [.call (zWt r forum qu c hR (by first|assumption|exact FitFi.at_ (by assumption) _|exact FitFi.nof (by assumption)|exact FitFi.nof (FitFi.at_ (by assumption) _)))] [2,4,8,9,10] ?_
 refine gE [2,4,8,9,10,21] ?_
 refine zT ?_ ?_<;>intro c1<;>try simp only[toN]at c1
 ·have hor:=zAl hR c1
  have hoo:=hR.fo _ (zK (l:=r.orders) (i:=(Zm r forum qu c).1.order.toNat) (by omega))
  refine gR [.call (zLx (r.orders.getD ((((Zm r forum qu c).1).order).toNat) default) qu ((Zm r forum qu c).2) (by assumption) (by omega))] [8,9] ?_
  refine gE [8] ?_
  refine gT ?_
  rw[Yf,if_neg c1];rfl
 ·refine gE [8] ?_
  refine gT ?_
  rw[Yf,if_pos c1];rfl
def Qb (r:Rlm) (forum:Int) (qu:Int) (f:Fil) (day:Int):Sad:=(Yf r forum qu (⟨⟨f.bill,f.signs,f.alters,f.acts,[]⟩,0,(-1),(-1),(-1),day⟩:Cas))
theorem KY (r:Rlm) (forum:Int) (qu:Int) (f:Fil) (day:Int) (hR:RR r) (hF:FitFi f):GC Tryz.prog 135 [rlG r,iG forum,iG qu,fiG f,iG day] (sdG (Qb r forum qu f day)):=by
 have hr:=hR.right.fit
 have h1:=hr.orders
 have h2:=hr.cities
 have h3:=hr.firms
 refine zA Tryz.func135 ?_
 refine gE [1,2,4,5,8,10] ?_
 refine gE [1,2,4,5,8,10] ?_
 refine gR [.call (wn r forum qu (⟨⟨f.bill,f.signs,f.alters,f.acts,[]⟩,0,(-1),(-1),(-1),day⟩:Cas) hR (by first|assumption|exact FitFi.at_ (by assumption) _|exact FitFi.nof (by assumption)|exact FitFi.nof (FitFi.at_ (by assumption) _)))] [10] ?_ (hp:=(by simp only[zC,bb,toN,loI,hiI];repeat' first|exact Ent.agg ⟨Ent.refl _,Ent.refl _,Ent.refl _,Ent.refl _,Ent.refl _,Ent.refl _,Ent.refl _,Ent.refl _,Ent.refl _,Ent.refl _,Ent.refl _,Ent.refl _,Ent.refl _,Ent.refl _,Ent.refl _,Ent.refl _,Ent.refl _,Ent.refl _,Ent.nil,Ent.refl _,Ent.refl _,Ent.refl _,Ent.refl _,Ent.refl _,trivial⟩|exact trivial|exact zI.refl _|exact zH.refl _|exact rfl|omega|apply And.intro|intro _))
 refine gT ?_
 rw[Qb];rfl
open Go.IntKind (i64)
def Vh (c:Cty) (day:Int):Bool:=(bif (bif (!(Qz c.rest ((i64.wrap (day+5)).tmod 7)))then (!(Qz c.feasts (i64.wrap ((i64.wrap (100*((zY day).2.1)))+((zY day).2.2)))))else false)then (!(Qz c.shut day))else false)
theorem zAy (c:Cty) (day:Int) (hc:FitC c):GC Tryz.prog 267 [ctG c,iG day] (bG (Vh c day)):=by
 obtain ⟨_,h2,h3,h4⟩:=hc
 refine zA Tryz.func267 ?_
 refine gE [1,2,4] ?_
 refine gR [.call (uT day)] [1,2,4,6,7] ?_
 refine zF env true [.call ((fun l x h=>zl l h x) c.rest ((i64.wrap (day+5)).tmod 7) (by first|omega|(simp;done)|decide)),.call ((fun l x h=>zl l h x) c.feasts (i64.wrap ((i64.wrap (100*((zY day).2.1)))+((zY day).2.2))) (by first|omega|(simp;done)|decide)),.call ((fun l x h=>zl l h x) c.shut day (by first|omega|(simp;done)|decide))] [4] ?_
 refine gT ?_
 rw[Vh];rfl
def Wp (c:Cty) (hi:Int):Nat->Int->Int×Int
 |0,_=>(0,3)
 |n+1,d=>if hi<d then (0,3)else if Vh c d=true then (d,0)else Wp c hi n (d+1)
def qE (c:Cty) (day:Int):Int×Int:=if qm day=false then (0,3)else Wp c (mnI (day+400) 100000) 402 day
def QT (c:Cty) (hi:Int):Nat->Int->List Int
 |0,_=>[]
 |n+1,d=>if hi<d then []else if Vh c d=true then d::QT c hi n (d+1)else QT c hi n (d+1)
theorem zOe {c:Cty} {hi d:Int} (h:d<=hi):QT c hi (hi+1-d).toNat d=if Vh c d=true then d::QT c hi (hi+1-(d+1)).toNat (d+1)else QT c hi (hi+1-(d+1)).toNat (d+1):=by
 have e:(hi+1-d).toNat=(hi+1-(d+1)).toNat+1:=by omega
 rw[e,QT,if_neg (by omega)]
theorem zXf (c:Cty) (lo hi:Int) (hc:FitC c) (h0:0<=lo) (h1:hi<=100000):XN Tryz.prog 266 [.ep [.sc (.int .i64 lo)],.ep [.sc (.int .i64 hi)],.ep (ctC c)] (fun d:Int=>[iG d]) (QT c hi (hi+1-lo).toNat lo):=by
 refine JR Tryz.func266 fun C hg hN=> ?_
 refine (yF (c':=_) (K':=_) (n:=1000) (K:=[]) rfl ?_:GYK C _ (zMc _) _ [] _ _).gy
 refine zc env false [] [0,2,3,5] ?_
 refine XO (β:=List Int×Int) (fun x=>lo<=x.2/\x.1++QT c hi (hi+1-x.2).toNat x.2=QT c hi (hi+1-lo).toNat lo) (fun x=>[(5,iG x.2)]) (fun _=>[]) (fun x=>(true,x.1)) (fun x=>(hi+1-x.2).toNat) ([],lo) ⟨by omega,rfl⟩ ?_
 rintro ⟨pre,d⟩ ⟨ha,he⟩
 dsimp only at*
 refine zc env false [] [0,2,3,5,9] ?_
 refine VC (fun c1=> ?_) (fun c1=> ?_)
 ·rw[zOe c1]at he
  cases ho:Vh c d with
  |true=>
   rw[if_pos ho]at he
   refine wR ?_
   refine YQ env false 4 [.call (zAy c d hc)] ?_
   refine vq 15 ho ?_
   refine YQ env false 2 [] ?_
   refine jx d _ (he.trans hN.symm) (by rw[hg]) fun b=> ?_
   refine YQ env false 2 [] ?_
   refine wQ [0,2,3,5,20] ?_
   refine UL (fun c2=> ?_) (fun c2=> ?_)
   ·cases b with
    |true=>cases c2
    |false=>exact zBt (.inr rfl)
   ·refine zc env false [] [0,2,3,5] ?_
    cases b with
    |false=>cases c2
    |true=>exact Qn (pre++ [d],d+1) ⟨by dsimp only;omega,by simpa using he⟩
  |false=>
   rw[if_neg (by rw[ho];decide)]at he
   refine wR ?_
   refine YQ env false 4 [.call (zAy c d hc)] ?_
   refine vq 15 ho ?_
   refine YQ env false 5 [.no,.nu] ?_
   refine wQ [0,2,3,5,20] ?_
   refine UL (fun c2=> ?_) (fun c2=> ?_)
   ·cases c2
   ·refine zc env false [] [0,2,3,5] ?_
    exact Qn (pre,d+1) ⟨by dsimp only;omega,he⟩
 ·refine Wd (.inl ?_)
  have e:(hi+1-d).toNat=0:=by omega
  rw[e,QT,List.append_nil]at he
  rw[he]
theorem zXe (c:Cty) (lo hi:Int):GC Tryz.prog 237 [ctG c,iG lo,iG hi] (.fn (.func 266) [] [.ep [.sc (.int .i64 lo)],.ep [.sc (.int .i64 hi)],.ep (ctC c)]):=by
 refine zA Tryz.func237 ?_
 refine gE [3,4,5] ?_
 refine zv 0 ?_
 refine zv 1 ?_
 refine zv 2 ?_
 refine gE [6] ?_
 refine gT ?_
 rfl
def hd0:List Int->Int×Int
 | []=>(0,3)
 |x::_=>(x,0)
theorem zJh (c:Cty) (hi:Int):∀(n:Nat) (d:Int),hd0 (QT c hi n d)=Wp c hi n d:=by
 intro n
 induction n with
 |zero=>intro d;rfl
 |succ n ih=>
  intro d
  unfold QT Wp
  by_cases h:hi<d
  ·rw[if_pos h,if_pos h];rfl
  ·rw[if_neg h,if_neg h]
   by_cases h2:Vh c d=true
   ·rw[if_pos h2,if_pos h2];rfl
   ·rw[if_neg h2,if_neg h2];exact ih _
theorem zJo (c:Cty) (hi:Int):∀(n m:Nat) (d:Int),(hi+1-d).toNat<=n->n<=m->Wp c hi n d=Wp c hi m d:=by
 intro n
 induction n with
 |zero=>intro m d h _;cases m with
  |zero=>rfl
  |succ m=>rw[Wp,Wp,if_pos (by omega)]
 |succ n ih=>
  intro m d h hm
  obtain ⟨m,rfl⟩:∃k,m=k+1:=⟨m-1,by omega⟩
  unfold Wp
  split
  ·rfl
  ·split
   ·rfl
   ·exact ih m _ (by omega) (by omega)
theorem zGn (c:Cty) (day:Int) (hc:FitC c):GC Tryz.prog 210 [ctG c,iG day] (.tup [iG (qE c day).1,iG (qE c day).2]):=by
 have hm:mnI (day+400) 100000<=100000:=by unfold mnI;split<;>omega
 refine zA Tryz.func210 ?_
 refine gE [1,2,4,5] ?_
 refine gR [.call (jG day)] [1,2,4,5,9] ?_
 refine zE (fun c1=> ?_) (fun c1=> ?_)
 ·refine gE [4,5] ?_
  refine gT ?_
  rw[qE,if_pos (by simpa using c1)];rfl
 ·have hv:0<=day/\day<=100000:=by
   rw[Bool.not_eq_false']at c1
   unfold qm at c1
   simpa only[bb]using c1
  refine gR [.call (zXe c day (mnI (day+400) 100000))] [4,5,15] ?_
  have hn:qE c day=hd0 (QT c (mnI (day+400) 100000) (mnI (day+400) 100000+1-day).toNat day):=by
   rw[zJh,qE,if_neg (by simpa using c1)]
   exact (zJo _ _ _ 402 _ (Nat.le_refl _) (by have:mnI (day+400) 100000<=day+400:=by {unfold mnI;split<;>omega};omega)).symm
  refine vA 3 3 (fun d:Int=>[iG d]) (QT c (mnI (day+400) 100000) (mnI (day+400) 100000+1-day).toNat day) (fun _=>[(1,some (.box [iG 0])),(2,some (.box [iG 0]))]) (fun pre=>pre= []) (zXf c day _ hc hv.1 hm) rfl ?_ ?_
  ·rintro pre d rest he rfl
   refine gE [4,5,6] ?_
   refine zEb ?_
   refine gE [4,5,6] ?_
   refine zLa ?_
   rw[<-he]at hn
   refine gT ?_
   rw[hn];rfl
  ·intro he
   refine gE [4,5] ?_
   refine gT ?_
   rw[hn,he];rfl
theorem ZAb (c:Cty) (hi:Int):∀(n:Nat) (d:Int),(Wp c hi n d).2=0->d<=(Wp c hi n d).1/\(Wp c hi n d).1<=hi:=by
 intro n
 induction n with
 |zero=>intro d h;cases h
 |succ n ih=>
  intro d h
  unfold Wp at h⊢
  split at h
  ·cases h
  ·rename_i h1
   rw[if_neg h1]
   split at h
   ·rename_i h2;rw[if_pos h2];exact ⟨Int.le_refl _,by dsimp only;omega⟩
   ·rename_i h2;rw[if_neg h2];have:=ih _ h;omega
theorem Xh {c:Cty} {day:Int} (h:(qE c day).2=0):0<=day/\day<=(qE c day).1/\(qE c day).1<=100000:=by
 unfold qE at h⊢
 split at h
 ·cases h
 ·rename_i h1
  rw[if_neg h1]
  have hv:0<=day/\day<=100000:=by
   rw[Bool.not_eq_false]at h1
   unfold qm at h1
   simp only[bb]at h1
   exact h1
  have h2:=ZAb c _ _ _ h
  have h3:mnI (day+400) 100000<=100000:=by unfold mnI;split<;>omega
  omega
def wX (c:Cty) (day:Int) (n:Int) (a1_1:Int) (k1:Nat):Int×Int:=if (k1:Int)<n then if ((qE c (i64.wrap (a1_1+1))).2)=0 then wX c day n ((qE c (i64.wrap (a1_1+1))).1) (k1+1)else (0,(qE c (i64.wrap (a1_1+1))).2)else (a1_1,0)
termination_by n.toNat-k1
decreasing_by all_goals first|omega|(simp only[bb]at*;omega)
def VZ (c:Cty) (day:Int) (n:Int):Int×Int:=if (bif (bif (!(qm day))then true else decide (n<0))then true else decide (20000<n))=true then (0,3)else wX c day n day 0
theorem zUm (c:Cty) (day:Int) (n:Int) (hc:FitC c):GC Tryz.prog 259 [ctG c,iG day,iG n] (.tup [iG ((VZ c day n).1),iG ((VZ c day n).2)]):=by
 refine zA Tryz.func259 ?_
 refine gE [1,2,3,6,7] ?_
 refine gR [.call (jG day)] [1,2,3,6,7,20] ?_
 refine zE ?_ ?_<;>intro c1<;>try simp only[bb,toN]at c1
 ·refine gE [1,2,3,6,7] ?_
  refine gT ?_
  rw[VZ,if_pos (by (try simp only[bb,toN]);exact c1)];rfl
 ·refine gE [1,3,6,7,21,22] ?_
  refine zG (α:=Int×Nat) (fun x=>x.2<=n.toNat/\wX c day n day 0=wX c day n x.1 x.2) (fun x=>[(1,iG x.1),(22,iG x.2)]) (fun x=>[]) (fun x=>n.toNat-x.2) (day,0) ⟨by (try simp only[]);omega,rfl⟩ ?_ (hp:=by simp[zC]<;>rfl)
  rintro ⟨a1_1,k1⟩ ⟨hi1,he⟩
  dsimp only at*
  refine gE [1,3,6,7,21,22,23] ?_
  refine zB ?_ ?_<;>intro c2<;>try simp only[toN]at c2
  ·refine zF env true [.call (zGn c (i64.wrap (a1_1+1)) (by assumption))] [1,3,6,7,8,9,21,22] ?_
   refine gE [1,3,6,7,8,9,21,22,32] ?_
   refine zT ?_ ?_<;>intro c3<;>try simp only[toN]at c3
   ·refine gE [1,3,6,7,8,21,22] ?_
    refine gT ?_
    rw[VZ,iN (by (try simp only[bb,toN]);exact c1),he,wX,if_pos c2,if_neg c3];rfl
   ·refine gE [1,3,6,7,21,22] ?_
    refine gE [1,3,6,7,21,22] ?_
    refine zD (((qE c (i64.wrap (a1_1+1))).1,k1+1)) ?_ (hp:=by simp[zC]<;>rfl) (hm:=by dsimp only;omega)
    refine ⟨by (try simp only[]);omega,he.trans ?_⟩
    rw[wX,if_pos c2,if_pos c3]
    try rfl
  ·refine gE [6,7] ?_
   refine gT ?_
   rw[VZ,iN (by (try simp only[bb,toN]);exact c1),he,wX,if_neg c2];rfl
def UW (order:Int) (h:Ht) (d:Int):Bool:=bif bif decide (h.ord=order)then decide (h.fr<=d)else false then decide (d<=h.dst)else false
def UV (order:Int) (x:Int×Bool) (h:Ht):Int×Bool:=if UW order h x.1=true then (h.dst+1,true)else x
def skL (order:Int) (l:List Ht) (x:Int×Bool):Int×Bool:=l.foldl (UV order) x
def jm (r:Rlm) (order:Int):Nat->Int->Int
 |0,d=>d
 |n+1,d=>if (skL order r.halts (d,false)).2=true then jm r order n (skL order r.halts (d,false)).1 else (skL order r.halts (d,false)).1
def qn (r:Rlm) (order d:Int):Int:=jm r order (100002-d).toNat d
theorem VQ (order:Int) {l:List Ht} {k:Nat} (h:k<l.length) (x:Int×Bool):skL order (l.take (k+1)) x=UV order (skL order (l.take k) x) (l.getD k default):=by
 rw[skL,skL,Jh h,List.foldl_append];rfl
structure SkI (d:Int) (x:Int×Bool):Prop where
 le:d<=x.1
 lt:x.2=true->d<x.1
 eq:x.2=false->x.1=d
 hi:x.1<=100001
theorem SkI.one {d order:Int} {x:Int×Bool} (h:SkI d x) {t:Ht} (ht:t.dst<=100000):SkI d (UV order x t):=by
 unfold UV
 split
 ·rename_i hc
  have hx:x.1<=t.dst:=by unfold UW at hc;simp only[bb]at hc;exact hc.2
  have:=h.le
  exact ⟨by dsimp only;omega,(fun _=>by dsimp only;omega),(fun e=>by cases e),by dsimp only;omega⟩
 ·exact h
theorem SkI.all {r:Rlm} (hR:RightR r) {d order:Int} (hd:d<=100001):∀k,k<=r.halts.length->SkI d (skL order (r.halts.take k) (d,false)):=by
 intro k
 induction k with
 |zero=>intro _;exact ⟨Int.le_refl _,(fun e=>by cases e),(fun _=>rfl),hd⟩
 |succ k ih=>
  intro hk
  rw[VQ order (by omega)]
  exact (ih (by omega)).one (hR.halt _ (zK (by omega))).2.2
theorem zTn {r:Rlm} (hR:RightR r) {order:Int} :∀(n:Nat) (d:Int),d<=100001->d<=jm r order n d/\jm r order n d<=100001:=by
 intro n
 induction n with
 |zero=>intro d hd;exact ⟨Int.le_refl _,hd⟩
 |succ n ih=>
  intro d hd
  have h:=SkI.all hR (order:=order) hd r.halts.length (Nat.le_refl _)
  rw[List.take_length]at h
  unfold jm
  split
  ·have:=ih _ h.hi;have:=h.le;omega
  ·exact ⟨h.le,h.hi⟩
theorem zFy {r:Rlm} (hR:RightR r) {order d:Int} (hd:d<=100001):d<=qn r order d/\qn r order d<=100001:=zTn hR _ _ hd
theorem zCi (r:Rlm) (order d:Int) (hd:d<=100001):qn r order d=if (skL order r.halts (d,false)).2=true then jm r order (100001-d).toNat (skL order r.halts (d,false)).1 else (skL order r.halts (d,false)).1:=by
 rw[qn,show (100002-d).toNat=(100001-d).toNat+1 by omega,jm]
theorem zCk {r:Rlm} (hR:RightR r) {order:Int} :∀(n m:Nat) (d:Int),d<=100001->(100002-d).toNat<=n->(100002-d).toNat<=m->jm r order n d=jm r order m d:=by
 intro n
 induction n with
 |zero=>intro m d hd h _;omega
 |succ n ih=>
  intro m d hd h1 h2
  cases m with
  |zero=>omega
  |succ m=>
   have hS:=SkI.all hR (order:=order) hd r.halts.length (Nat.le_refl _)
   rw[List.take_length]at hS
   rw[jm,jm]
   split
   ·rename_i h3
    have:=hS.lt h3
    exact ih m _ hS.hi (by omega) (by omega)
   ·rfl
theorem zCj {r:Rlm} (hR:RightR r) {order:Int} :∀(n:Nat) (d:Int),d<=100001->(100002-d).toNat<=n->jm r order n d=qn r order d:=fun n d hd h=>zCk hR n _ d hd h (Nat.le_refl _)
theorem zTm (r:Rlm) (hR:RightR r) (order day:Int) (hd:day<=100001) (h0:0<=day):GC Tryz.prog 209 [rlG r,iG order,iG day] (iG (qn r order day)):=by
 have hr:=hR.fit
 have h1:=hr.halts
 refine zA Tryz.func209 ?_
 refine gE [1,2,3,6] ?_
 refine gE [1,2,3,6,7] ?_
 refine zG (α:=Int×Bool) (fun x=>qn r order day=(if x.2=true then qn r order x.1 else x.1)/\x.1<=100001/\0<=x.1) (fun x=>[(2,iG x.1),(7,bG x.2)]) (fun _=>[]) (fun x=>2*(100002-x.1).toNat+(if x.2=true then 1 else 0)) (day,true) ⟨rfl,hd,h0⟩ ?_
 rintro ⟨d,ch⟩ ⟨he,hd1,hd0⟩
 dsimp only at*
 refine gE [1,2,3,6,7,10] ?_
 refine zE ?_ ?_<;>intro c1<;>try simp only[bb,toN]at c1
 ·refine gE [1,2,3,6,7] ?_
  refine gE [1,2,3,6,7,12,13,14] ?_
  refine zG (α:=Nat) (fun k=>k<=r.halts.length) (fun k=>[(14,iG k),(2,iG (skL order (r.halts.take k) (d,false)).1),(7,bG (skL order (r.halts.take k) (d,false)).2)]) (fun _=>[]) (fun k=>r.halts.length-k) 0 (by omega) ?_ (hp:=by simp[zC,skL])
  rintro k hk
  refine gE [1,2,3,6,7,12,13,14,15] ?_
  refine zB ?_ ?_<;>intro c2<;>try simp only[toN]at c2
  ·refine gE [1,2,3,6,7,9,12,13,14] ?_
   refine gE [1,2,3,6,7,9,12,13,14,33] ?_
   refine zE ?_ ?_<;>intro c3<;>try simp only[bb,toN]at c3
   ·have hh:=hR.halt _ (zK (l:=r.halts) (i:=k) (by omega))
    refine gE [1,2,3,6,7,12,13,14] ?_
    refine gE [1,2,3,6,7,12,13,14] ?_
    refine zD (k+1) ?_ (hp:=by have hq:UW order (r.halts.getD k default) (skL order (r.halts.take k) (d,false)).1=true:=(by unfold UW;simp only[bb];exact c3);simp only[zC,VQ order (show k<r.halts.length by omega),UV,if_pos hq];simp)
    omega
   ·refine gE [1,2,3,6,7,12,13,14] ?_
    refine zD (k+1) ?_ (hp:=by have hq:¬UW order (r.halts.getD k default) (skL order (r.halts.take k) (d,false)).1=true:=(by unfold UW;rw[Bool.not_eq_true];simp only[bb];exact c3);simp only[zC,VQ order (show k<r.halts.length by omega),UV,if_neg hq];simp)
    omega
  ·refine zD (((skL order r.halts (d,false)).1,(skL order r.halts (d,false)).2)) ?_ (hp:=by simp[zC,List.take_of_length_le (show r.halts.length<=k by omega)]) (hm:=by have hS:=SkI.all hR (order:=order) hd1 r.halts.length (Nat.le_refl _);rw[List.take_length]at hS;dsimp only;rw[c1];cases hz:(skL order r.halts (d,false)).2 with|true=>(have:=hS.lt hz;have:=hS.hi;simp;omega)|false=>(have:=hS.eq hz;simp[this]))
   have hS:=SkI.all hR (order:=order) hd1 r.halts.length (Nat.le_refl _)
   rw[List.take_length]at hS
   have hle:=hS.le
   refine ⟨?_,hS.hi,by dsimp only;omega⟩
   rw[he,if_pos c1,zCi r order d hd1]
   split
   ·exact zCj hR _ _ hS.hi (by have:=hS.lt (by assumption);omega)
   ·rfl
 ·refine gE [6] ?_
  refine gT ?_
  rw[he,if_neg (by rw[c1];simp)];rfl
def uq (r:Rlm) (city:Int):Nat->Int->Int×Int
 |0,_=>(0,3)
 |n+1,d=>if (qE (r.cities.getD city.toNat default) (qn r (zh r city) d)).2=0 then
   if (qE (r.cities.getD city.toNat default) (qn r (zh r city) d)).1=qn r (zh r city) d then (qn r (zh r city) d,0)else uq r city n (qE (r.cities.getD city.toNat default) (qn r (zh r city) d)).1
   else (0,3)
def jP (r:Rlm) (city day:Int):Int×Int:=uq r city (100002-day).toNat day
theorem zIl {r:Rlm} (hR:RightR r) {city:Int} :∀(n m:Nat) (d:Int),d<=100001->(100002-d).toNat<=n->(100002-d).toNat<=m->uq r city n d=uq r city m d:=by
 intro n
 induction n with
 |zero=>intro m d hd h _;omega
 |succ n ih=>
  intro m d hd h1 h2
  cases m with
  |zero=>omega
  |succ m=>
   rw[uq,uq]
   split
   ·rename_i h3
    have hs:=zFy hR (order:=zh r city) hd
    have hn:=Xh h3
    split
    ·rfl
    ·exact ih m _ (by omega) (by omega) (by omega)
   ·rfl
theorem zIk (r:Rlm) (hR:RightR r) (city day:Int) (hc:0<=city/\city<r.cities.length) (hd:0<=day/\day<=100001):GC Tryz.prog 172 [rlG r,iG city,iG day] (.tup [iG (jP r city day).1,iG (jP r city day).2]):=by
 have hr:=hR.fit
 have h2:=hr.cities
 have hci:=hr.city _ (zK (l:=r.cities) (i:=city.toNat) (by omega))
 refine zA Tryz.func172 ?_
 refine gE [1,2,3,6,7] ?_
 refine gR [.call (yx r city hr)] [1,2,3,6,7,8] ?_
 refine zG (α:=Int) (fun d=>jP r city day=uq r city (100002-d).toNat d/\d<=100001/\0<=d) (fun d=>[(2,iG d)]) (fun _=>[]) (fun d=>(100002-d).toNat) day ⟨rfl,hd.2,hd.1⟩ ?_
 rintro d ⟨he,hd1,hd0⟩
 dsimp only at*
 have hs:=zFy hR (order:=zh r city) hd1
 have hf:(100002-d).toNat=(100001-d).toNat+1:=by omega
 refine gR [.call (zTm r hR (zh r city) d hd1 hd0)] [1,2,3,6,7,8] ?_
 refine gR [.call (zGn (r.cities.getD city.toNat default) (qn r (zh r city) d) hci)] [1,2,3,6,7,8,9,10] ?_
 refine gE [1,2,3,6,7,8,9,29] ?_
 refine zT ?_ ?_<;>intro c1<;>try simp only[toN]at c1
 ·refine gE [1,2,3,6,7,8,9] ?_
  refine gT ?_
  rw[he,hf,uq,if_neg c1];rfl
 ·refine gE [1,2,3,6,7,8,9,32] ?_
  refine zB ?_ ?_<;>intro c2<;>try simp only[toN]at c2
  ·refine gE [1,2,3,6,7,8,9] ?_
   refine gT ?_
   rw[he,hf,uq,if_pos c1,if_pos c2];rfl
  ·refine gE [1,2,3,6,7,8] ?_
   refine zD ((qE (r.cities.getD city.toNat default) (qn r (zh r city) d)).1) ?_ (hm:=by have hn:=Xh c1;omega)
   have hn:=Xh c1
   refine ⟨?_,by omega,by omega⟩
   rw[he,hf,uq,if_pos c1,if_neg c2]
   exact zIl hR _ _ _ (by omega) (by omega) (by omega)
theorem zCp (r:Rlm) (city day:Int) (hR:RightR r) (hc:0<=city/\city<r.cities.length) (hd:0<=day/\day<=100001):GC Tryz.prog 172 [rlG r,iG city,iG day] (.tup [iG (jP r city day).1,iG (jP r city day).2]):=zIk r hR city day hc hd
theorem zPz {r:Rlm} {c:Int} (h:Jo r c=true):0<=c/\c<r.cities.length:=by unfold Jo at h;simp only[bb]at h;omega
theorem zVw {d:Int} (h:wd d=true):0<=d/\d<=100000:=by unfold wd at h;simp only[bb]at h;omega
def uP (r:Rlm) (b:Bil) (seen:Int) (grace:Int):Int×Int:=if (bif (bif (bif (!decide ((yw r)=0))then true else (!(Jo r b.city)))then true else (!(Jo r b.pay)))then true else (!(wd b.day)))=true then (0,1)else if (bif (bif (bif decide (b.ten.kind<0)then true else decide (5<=b.ten.kind))then true else decide (b.ten.unit<0))then true else decide (2<=b.ten.unit))=true then (0,1)else if (bif (bif (bif (!decide (seen=(-1)))then (!(wd seen))else false)then true else decide (grace<0))then true else decide (20000<grace))=true then (0,1)else if (bif (XY b.ten)then decide (seen=(-1))else false)=true then (0,4)else if ((Ye r b seen).2)=0 then if (bif (!(wd ((Ye r b seen).1)))then true else decide (100000<(i64.wrap (((Ye r b seen).1)+grace))))=true then (0,3)else ((jP r b.pay (i64.wrap (((Ye r b seen).1)+grace))).1,(jP r b.pay (i64.wrap (((Ye r b seen).1)+grace))).2)else (0,(Ye r b seen).2)
theorem ZBx (r:Rlm) (b:Bil) (seen:Int) (grace:Int) (hR:RR r):GC Tryz.prog 136 [rlG r,zBj b,iG seen,iG grace] (.tup [iG ((uP r b seen grace).1),iG ((uP r b seen grace).2)]):=by
 have hr:=hR.right.fit
 have h1:=hr.orders
 have h2:=hr.cities
 have h3:=hr.firms
 refine zA Tryz.func136 ?_
 refine gE [2,3,4,5,8,9] ?_
 refine gE [2,3,4,5,8,9,10] ?_
 refine gR [.call (wz r hr),.call (Up r b.city hr),.call (Up r b.pay hr),.call (Vx b.day)] [2,3,4,5,8,9,10,15] ?_
 refine zE ?_ ?_<;>intro c1<;>try simp only[bb,toN]at c1
 ·refine gE [2,3,4,5,8,9] ?_
  refine gT ?_
  rw[uP,if_pos (by (try simp only[bb,toN]);exact c1)];rfl
 ·refine gE [2,3,4,5,8,9,10,39] ?_
  refine zE ?_ ?_<;>intro c2<;>try simp only[bb,toN]at c2
  ·refine gE [2,3,4,5,8,9] ?_
   refine gT ?_
   rw[uP,iN (by (try simp only[bb,toN]);exact c1),if_pos (by (try simp only[bb,toN]);exact c2)];rfl
  ·refine gR [.call (Vx seen)] [2,3,4,5,8,9,10,58] ?_
   refine zE ?_ ?_<;>intro c3<;>try simp only[bb,toN]at c3
   ·refine gE [2,3,4,5,8,9] ?_
    refine gT ?_
    rw[uP,iN (by (try simp only[bb,toN]);exact c1),iN (by (try simp only[bb,toN]);exact c2),if_pos (by (try simp only[bb,toN]);exact c3)];rfl
   ·refine gR [.call (zIi b.ten)] [2,3,4,5,8,9,74] ?_
    refine zE ?_ ?_<;>intro c4<;>try simp only[bb,toN]at c4
    ·refine gE [2,3,4,5,8,9] ?_
     refine gT ?_
     rw[uP,iN (by (try simp only[bb,toN]);exact c1),iN (by (try simp only[bb,toN]);exact c2),iN (by (try simp only[bb,toN]);exact c3),if_pos (by (try simp only[bb,toN]);exact c4)];rfl
    ·refine gR [.call (zMt r b seen hr)] [3,4,5,8,9,11,12] ?_
     refine gE [3,4,5,8,9,11,12,89] ?_
     refine zT ?_ ?_<;>intro c5<;>try simp only[toN]at c5
     ·refine gE [3,4,5,8,9,11] ?_
      refine gT ?_
      rw[uP,iN (by (try simp only[bb,toN]);exact c1),iN (by (try simp only[bb,toN]);exact c2),iN (by (try simp only[bb,toN]);exact c3),iN (by (try simp only[bb,toN]);exact c4),if_neg c5];rfl
     ·refine zF env true [.call (Vx ((Ye r b seen).1))] [3,4,5,8,9,11,99] ?_
      refine zE ?_ ?_<;>intro c6<;>try simp only[bb,toN]at c6
      ·refine gE [3,4,5,8,9,11] ?_
       refine gT ?_
       rw[uP,iN (by (try simp only[bb,toN]);exact c1),iN (by (try simp only[bb,toN]);exact c2),iN (by (try simp only[bb,toN]);exact c3),iN (by (try simp only[bb,toN]);exact c4),if_pos c5,if_pos (by (try simp only[bb,toN]);exact c6)];rfl
      ·have hpc:=zPz c1.1.2
       have hbd:=zVw c6.1
       have ew:i64.wrap ((Ye r b seen).1+grace)=(Ye r b seen).1+grace:=IntWalk.i64_in _ ⟨by omega,by omega⟩
       have hdd:0<=i64.wrap ((Ye r b seen).1+grace)/\i64.wrap ((Ye r b seen).1+grace)<=100001:=by rw[ew]at c6⊢;omega
       refine zF env true [.call (zCp r b.pay (i64.wrap (((Ye r b seen).1)+grace)) hR.right (by assumption) (by assumption))] [8,9] ?_
       refine gT ?_
       rw[uP,iN (by (try simp only[bb,toN]);exact c1),iN (by (try simp only[bb,toN]);exact c2),iN (by (try simp only[bb,toN]);exact c3),iN (by (try simp only[bb,toN]);exact c4),if_pos c5,iN (by (try simp only[bb,toN]);exact c6)];rfl
def Uk (l:List Int) (a3_1:Int) (k1:Nat):Int:=if k1<l.length then Uk l (mnI a3_1 (l.getD k1 default)) (k1+1)else a3_1
termination_by l.length-k1
def zUz (l:List Int):Int:=if (l.length:Int)<1 then default else Uk l (l.getD 0 default) 1
theorem ZAg (l:List Int) (hl:l.length<=9223372036854775807) (h1:1<=l.length):GC Tryz.prog 173 [.d (.row default inC l)] (iG (zUz l)):=by
 refine zA Tryz.func173 ?_
 refine gE [0,2] ?_
 refine gE [0,2,7] ?_
 refine zB ?_ ?_<;>intro c1<;>try simp only[toN]at c1
 ·exact absurd c1 (by omega)
 ·refine gE [0,2,3] ?_
  refine gE [0,2,3,4] ?_
  refine zG (α:=Int×Nat) (fun x=>x.2<=l.length/\Uk l (l.getD 0 default) 1=Uk l x.1 x.2) (fun x=>[(3,iG x.1),(4,iG x.2)]) (fun x=>[]) (fun x=>l.length-x.2) ((l.getD 0 default),1) ⟨by (try simp only[]);omega,rfl⟩ ?_ (hp:=by simp[zC]<;>rfl)
  rintro ⟨a3_1,k1⟩ ⟨hi1,he⟩
  dsimp only at*
  refine gE [0,2,3,4,15] ?_
  refine zB ?_ ?_<;>intro c2<;>try simp only[toN]at c2
  ·refine gE [0,2,3,4] ?_
   refine gE [0,2,3,4] ?_
   refine zD ((mnI a3_1 (l.getD k1 default),k1+1)) ?_ (hp:=by simp[zC]<;>rfl) (hm:=by dsimp only;omega)
   refine ⟨by (try simp only[]);omega,he.trans ?_⟩
   rw[Uk,if_pos (show k1<l.length by omega)]
   try rfl
  ·refine gE [2] ?_
   refine gT ?_
   rw[zUz,if_neg c1,he,Uk,if_neg (show ¬(k1<l.length)by omega)];rfl
theorem zUy (l:List Int) (h:l.length<=9223372036854775807/\1<=l.length):GC Tryz.prog 173 [qX l] (iG (zUz l)):=ZAg l h.1 h.2
def Zs (f:Fil) (a3_1:List Int) (k1:Nat) (a3_2:List Int) (k2:Nat):Int:=if k2<f.acts.length then if (bif decide (f.bill.ten.kind=0)then decide (((f.acts.getD k2 default).kind)=2)else false)=true then (f.acts.getD k2 default).day else if (bif decide (f.bill.ten.kind=1)then decide (((f.acts.getD k2 default).kind)=1)else false)=true then Zs f a3_1 k1 (a3_2++ [(f.acts.getD k2 default).day]) (k2+1)else Zs f a3_1 k1 a3_2 (k2+1)else if (a3_2.length:Int)=0 then (-1)else (zUz a3_2)
termination_by f.acts.length-k2
def YU (f:Fil) (a3_1:List Int) (k1:Nat):Int:=if k1<f.signs.length then if (bif decide (f.bill.ten.kind=1)then decide (((f.signs.getD k1 default).kind)=1)else false)=true then YU f (a3_1++ [(f.signs.getD k1 default).day]) (k1+1)else YU f a3_1 (k1+1)else Zs f a3_1 k1 a3_1 0
termination_by f.signs.length-k1
def qB (f:Fil):Int:=YU f [] 0
theorem zGa (f:Fil) (hF:FitFi f):GC Tryz.prog 137 [fiG f] (iG (qB f)):=by
 obtain ⟨h1,h2,h3,h4⟩:=hF
 refine zA Tryz.func137 ?_
 refine gE [1,2] ?_
 refine gE [1,2,3] ?_
 refine gE [1,2,3,4] ?_
 refine gE [1,2,3,4,14,15,16] ?_
 refine yc 3 3 1 (default:Int) inC (by rfl) (by rfl) ?_
 refine zG (α:=List Int×Nat) (fun x=>x.2<=f.signs.length/\YU f [] 0=YU f x.1 x.2/\x.1.length<=x.2) (fun x=>[(3,.sl 1 1 0 x.1.length),(16,iG x.2)]) (fun x=>[(1,some (.row 3 1 default inC x.1 0))]) (fun x=>f.signs.length-x.2) ([],0) ⟨by (try simp only[]);omega,rfl,by first|omega|(simp;done)|(simp only[List.length_append,List.length_cons,List.length_nil,List.length_set,List.length_replicate];omega)⟩ ?_ (hp:=by simp[zC]<;>rfl)
 rintro ⟨a3_1,k1⟩ ⟨hi1,he,hl_a3_1⟩
 dsimp only at*
 refine gE [1,2,3,4,14,15,16,17] ?_
 refine zB ?_ ?_<;>intro c1<;>try simp only[toN]at c1
 ·refine gE [1,2,3,4,6,14,15,16] ?_
  refine gE [1,2,3,4,6,14,15,16,26] ?_
  refine zE ?_ ?_<;>intro c2<;>try simp only[bb,toN]at c2
  ·refine gU [.el default inC [(f.signs.getD k1 default).day],.el default inC (a3_1++ [(f.signs.getD k1 default).day])] [1,2,3,4,14,15,16] ?_
   refine gE [1,2,3,4,14,15,16] ?_
   refine zD ((a3_1++ [(f.signs.getD k1 default).day],k1+1)) ?_ (hp:=by simp[zC]<;>rfl) (hm:=by dsimp only;omega)
   refine ⟨by (try simp only[]);omega,he.trans ?_,by first|omega|(simp;done)|(simp only[List.length_append,List.length_cons,List.length_nil,List.length_set,List.length_replicate];omega)⟩
   rw[YU,if_pos (by omega),if_pos (by (try simp only[bb,toN]);exact c2)]
   try rfl
  ·refine gE [1,2,3,4,14,15,16] ?_
   refine zD ((a3_1,k1+1)) ?_ (hp:=by simp[zC]<;>rfl) (hm:=by dsimp only;omega)
   refine ⟨by (try simp only[]);omega,he.trans ?_,by first|omega|(simp;done)|(simp only[List.length_append,List.length_cons,List.length_nil,List.length_set,List.length_replicate];omega)⟩
   rw[YU,if_pos (by omega),iN (by (try simp only[bb,toN]);exact c2)]
   try rfl
 ·refine gE [2,3,4,34,35,36] ?_
  refine zG (α:=List Int×Nat) (fun x=>x.2<=f.acts.length/\Zs f a3_1 k1 a3_1 0=Zs f a3_1 k1 x.1 x.2/\x.1.length<=x.2+a3_1.length) (fun x=>[(3,.sl 1 1 0 x.1.length),(36,iG x.2)]) (fun x=>[(1,some (.row 3 1 default inC x.1 0))]) (fun x=>f.acts.length-x.2) (a3_1,0) ⟨by (try simp only[]);omega,rfl,by first|omega|(simp;done)|(simp only[List.length_append,List.length_cons,List.length_nil,List.length_set,List.length_replicate];omega)⟩ ?_ (hp:=by simp[zC]<;>rfl)
  rintro ⟨a3_2,k2⟩ ⟨hi2,he2,hl_a3_2⟩
  dsimp only at*
  refine gE [2,3,4,34,35,36,37] ?_
  refine zB ?_ ?_<;>intro c3<;>try simp only[toN]at c3
  ·refine gE [2,3,4,8,34,35,36] ?_
   refine gE [2,3,4,8,34,35,36,46] ?_
   refine zE ?_ ?_<;>intro c4<;>try simp only[bb,toN]at c4
   ·refine gE [2,3,4,8,34,35,36] ?_
    refine gT ?_
    rw[qB,he,YU,if_neg (by omega),he2,Zs,if_pos (by omega),if_pos (by (try simp only[bb,toN]);exact c4)];rfl
   ·refine gE [2,3,4,8,34,35,36,55] ?_
    refine zE ?_ ?_<;>intro c5<;>try simp only[bb,toN]at c5
    ·refine gU [.el default inC [(f.acts.getD k2 default).day],.el default inC (a3_2++ [(f.acts.getD k2 default).day])] [2,3,4,34,35,36] ?_
     refine gE [2,3,4,34,35,36] ?_
     refine zD ((a3_2++ [(f.acts.getD k2 default).day],k2+1)) ?_ (hp:=by simp[zC]<;>rfl) (hm:=by dsimp only;omega)
     refine ⟨by (try simp only[]);omega,he2.trans ?_,by first|omega|(simp;done)|(simp only[List.length_append,List.length_cons,List.length_nil,List.length_set,List.length_replicate];omega)⟩
     rw[Zs,if_pos (by omega),iN (by (try simp only[bb,toN]);exact c4),if_pos (by (try simp only[bb,toN]);exact c5)]
     try rfl
    ·refine gE [2,3,4,34,35,36] ?_
     refine zD ((a3_2,k2+1)) ?_ (hp:=by simp[zC]<;>rfl) (hm:=by dsimp only;omega)
     refine ⟨by (try simp only[]);omega,he2.trans ?_,by first|omega|(simp;done)|(simp only[List.length_append,List.length_cons,List.length_nil,List.length_set,List.length_replicate];omega)⟩
     rw[Zs,if_pos (by omega),iN (by (try simp only[bb,toN]);exact c4),iN (by (try simp only[bb,toN]);exact c5)]
     try rfl
  ·refine gE [2,3,64] ?_
   refine zB ?_ ?_<;>intro c6<;>try simp only[toN]at c6
   ·refine gE [2,3] ?_
    refine gT ?_
    rw[qB,he,YU,if_neg (by omega),he2,Zs,if_neg (by omega),if_pos c6];rfl
   ·refine gR [.call (zUy a3_2 (by first|omega|assumption))] [2] ?_
    refine gT ?_
    rw[qB,he,YU,if_neg (by omega),he2,Zs,if_neg (by omega),if_neg c6];rfl
def ZI (r:Rlm) (forum:Int) (f:Fil) (day:Int):Int:=if (((atV f day).signs).length:Int)=0 then (-1)else if ((uP r ((atV f day).bill) (qB (atV f day)) (mxI (HV (Qb r forum 6 (atV f day) day)) 0)).2)=0 then (uP r ((atV f day).bill) (qB (atV f day)) (mxI (HV (Qb r forum 6 (atV f day) day)) 0)).1 else (-1)
theorem Wt (r:Rlm) (forum:Int) (f:Fil) (day:Int) (hR:RR r) (hF:FitFi f):GC Tryz.prog 93 [rlG r,iG forum,fiG f,iG day] (iG (ZI r forum f day)):=by
 have hr:=hR.right.fit
 have h1:=hr.orders
 have h2:=hr.cities
 have h3:=hr.firms
 refine zA Tryz.func93 ?_
 refine gE [1,3,4,6,8] ?_
 refine gR [.call (Jc f day (by first|assumption|exact FitFi.at_ (by assumption) _))] [1,3,4,6,8] ?_
 refine gE [1,3,4,6,8,18] ?_
 refine zB ?_ ?_<;>intro c1<;>try simp only[toN]at c1
 ·refine gE [1,3,4,6,8] ?_
  refine gT ?_
  rw[ZI,if_pos c1];rfl
 ·refine gR [.call (KY r forum 6 (atV f day) day hR (by first|assumption|exact FitFi.at_ (by assumption) _|exact FitFi.nof (by assumption)|exact FitFi.nof (FitFi.at_ (by assumption) _))),.call (zOn (Qb r forum 6 (atV f day) day))] [4,6,8,9] ?_
  refine gR [.call (zGa (atV f day) (by first|assumption|exact FitFi.at_ (by assumption) _|exact FitFi.nof (by assumption)|exact FitFi.nof (FitFi.at_ (by assumption) _))),.call (ZBx r ((atV f day).bill) (qB (atV f day)) (mxI (HV (Qb r forum 6 (atV f day) day)) 0) hR)] [8,10,11] ?_
  refine gE [8,10,37] ?_
  refine zT ?_ ?_<;>intro c2<;>try simp only[toN]at c2
  ·refine gE [8,10] ?_
   refine gT ?_
   rw[ZI,if_neg c1,if_neg c2];rfl
  ·refine gE [8] ?_
   refine gT ?_
   rw[ZI,if_neg c1,if_pos c2];rfl
structure Dvw where
 r:Rlm
 forum:Int
 f:Fil
 sign:Int
 day:Int
 due:Int
instance :Inhabited Dvw:=⟨⟨default,0,default,0,0,0⟩⟩
abbrev dvG (x:Dvw):G:= .agg [.d (.row default ze x.r.currencies),.d (.row default ctC x.r.cities),.d (.row default inC x.r.groups),.d (.row default fmC x.r.firms),.d (.row default odC x.r.orders),.d (.row default usC x.r.usances),.d (.row default rtC x.r.rates),.d (.row default htC x.r.halts),iG x.forum,iG x.f.bill.drawer,iG x.f.bill.drawee,iG x.f.bill.payee,iG x.f.bill.sum,iG x.f.bill.cur,iG x.f.bill.ten.kind,iG x.f.bill.ten.n,iG x.f.bill.ten.unit,iG x.f.bill.day,iG x.f.bill.city,iG x.f.bill.pay,iG x.f.bill.need,iG x.f.bill.rate,iG x.f.bill.flags,iG x.f.bill.parts,.d (.row default sgC x.f.signs),.d (.row default alC x.f.alters),.d (.row default acC x.f.acts),.d (.row default fcC x.f.facts),iG x.sign,iG x.day,iG x.due]
structure Dtm where
 known:Bool
 last:Int
deriving DecidableEq
instance :Inhabited Dtm:=⟨⟨false,0⟩⟩
abbrev dtG (x:Dtm):G:= .agg [bG x.known,iG x.last]
def zk (r:Rlm) (forum:Int) (f:Fil) (sign:Int) (day:Int):Dvw:=⟨r,forum,(atV f day),sign,day,(ZI r forum f day)⟩
theorem zGq (r:Rlm) (forum:Int) (f:Fil) (sign:Int) (day:Int) (hR:RR r) (hF:FitFi f):GC Tryz.prog 166 [rlG r,iG forum,fiG f,iG sign,iG day] (dvG (zk r forum f sign day)):=by
 have hr:=hR.right.fit
 have h1:=hr.orders
 have h2:=hr.cities
 have h3:=hr.firms
 refine zA Tryz.func166 ?_
 refine gE [1,3,4,5,7,10] ?_
 refine gR [.call (Jc f day (by first|assumption|exact FitFi.at_ (by assumption) _)),.call (Wt r forum f day hR (by first|assumption|exact FitFi.at_ (by assumption) _|exact FitFi.nof (by assumption)|exact FitFi.nof (FitFi.at_ (by assumption) _)))] [10] ?_
 refine gT ?_
 rw[zk];rfl
def zN (v:Dvw) (q:Int):Sad:=(Yf v.r v.forum q (⟨v.f,v.sign,v.sign,(-1),v.due,v.day⟩:Cas))
theorem QI (v:Dvw) (q:Int) (hR:RR v.r) (hF:FitFi v.f):GC Tryz.prog 192 [dvG v,iG q] (sdG (zN v q)):=by
 have hr:=hR.right.fit
 refine zA Tryz.func192 ?_
 refine gE [1,2,4] ?_
 refine gR [.call (wn v.r v.forum q (⟨v.f,v.sign,v.sign,(-1),v.due,v.day⟩:Cas) hR (by first|assumption|exact FitFi.at_ (by assumption) _|exact FitFi.nof (by assumption)|exact FitFi.nof (FitFi.at_ (by assumption) _)))] [4] ?_
 refine gT ?_
 rw[zN];rfl
def UJ (l:List Int):Int:=if (Qz l 0)=true then 0 else if (Qz l 2)=true then 2 else 1
theorem Jv (l:List Int) (hl:l.length<=9223372036854775807):GC Tryz.prog 195 [.d (.row default inC l)] (iG (UJ l)):=by
 refine zA Tryz.func195 ?_
 refine gE [0,2] ?_
 refine gR [.call ((fun l x h=>zl l h x) l 0 (by first|omega|(simp;done)|decide))] [0,2,3] ?_
 refine zE ?_ ?_<;>intro c1<;>try simp only[bb,toN]at c1
 ·refine gE [2] ?_
  refine gT ?_
  rw[UJ,if_pos (by (try simp only[bb,toN]);exact c1)];rfl
 ·refine gR [.call ((fun l x h=>zl l h x) l 2 (by first|omega|(simp;done)|decide))] [2,6] ?_
  refine zE ?_ ?_<;>intro c2<;>try simp only[bb,toN]at c2
  ·refine gE [2] ?_
   refine gT ?_
   rw[UJ,iN (by (try simp only[bb,toN]);exact c1),if_pos (by (try simp only[bb,toN]);exact c2)];rfl
  ·refine gE [2] ?_
   refine gT ?_
   rw[UJ,iN (by (try simp only[bb,toN]);exact c1),iN (by (try simp only[bb,toN]);exact c2)];rfl
def ym (said:Sad) (answer:Int):Int:=if (bif decide ((Jz said)=0)then true else decide (answer=1))=true then 1 else if (Jz said)=2 then 2 else answer
theorem UR (said:Sad) (answer:Int):GC Tryz.prog 191 [sdG said,iG answer] (iG (ym said answer)):=by
 refine zA Tryz.func191 ?_
 refine gE [1,2,4] ?_
 refine gR [.call (Wh said)] [1,4,5] ?_
 refine gE [1,4,5,13] ?_
 refine zE ?_ ?_<;>intro c1<;>try simp only[bb,toN]at c1
 ·refine gE [1,4,5] ?_
  refine gT ?_
  rw[ym,if_pos (by (try simp only[bb,toN]);exact c1)];rfl
 ·refine gE [1,4,15] ?_
  refine zB ?_ ?_<;>intro c2<;>try simp only[toN]at c2
  ·refine gE [1,4] ?_
   refine gT ?_
   rw[ym,iN (by (try simp only[bb,toN]);exact c1),if_pos c2];rfl
  ·refine gE [4] ?_
   refine gT ?_
   rw[ym,iN (by (try simp only[bb,toN]);exact c1),if_neg c2];rfl
def ZH (v:Dvw) (said:Sad) (fr:Int):Dtm:=if said.err=0 then if (!said.cell.known)=true then ⟨false,0⟩else if ((VZ (v.r.cities.getD v.f.bill.pay.toNat default) fr said.cell.n).2)=0 then ⟨true,(VZ (v.r.cities.getD v.f.bill.pay.toNat default) fr said.cell.n).1⟩else ⟨true,9223372036854775807⟩else ⟨true,9223372036854775807⟩
theorem jF (v:Dvw) (said:Sad) (fr:Int) (hR:RR v.r) (hF:FitFi v.f) (hp:0<=v.f.bill.pay/\v.f.bill.pay<v.r.cities.length):GC Tryz.prog 226 [dvG v,sdG said,iG fr] (dtG (ZH v said fr)):=by
 have hr:=hR.right.fit
 have h2:=hr.cities
 have hci:=hr.city _ (zK (l:=v.r.cities) (i:=v.f.bill.pay.toNat) (by omega))
 refine zA Tryz.func226 ?_
 refine gE [2,3,4,6] ?_
 refine gE [2,3,4,6,11] ?_
 refine zT ?_ ?_<;>intro c1<;>try simp only[toN]at c1
 ·refine gE [2,3,4,6] ?_
  refine gT ?_
  rw[ZH,if_neg c1];rfl
 ·refine gE [2,3,4,6,16] ?_
  refine zE ?_ ?_<;>intro c2<;>try simp only[bb,toN]at c2
  ·refine gE [2,3,4,6] ?_
   refine gT ?_
   rw[ZH,if_pos c1,if_pos (by (try simp only[bb,toN]);exact c2)];rfl
  ·refine gR [.call (zUm (v.r.cities.getD v.f.bill.pay.toNat default) fr said.cell.n (by assumption))] [6,7,8] ?_
   refine gE [6,7,36] ?_
   refine zT ?_ ?_<;>intro c3<;>try simp only[toN]at c3
   ·refine gE [6,7] ?_
    refine gE [6] ?_
    refine gT ?_
    rw[ZH,if_pos c1,iN (by (try simp only[bb,toN]);exact c2),if_neg c3];rfl
   ·refine gE [6] ?_
    refine gT ?_
    rw[ZH,if_pos c1,iN (by (try simp only[bb,toN]);exact c2),if_pos c3];rfl
def Yj (v:Dvw):Dtm:=if ((Qb v.r v.forum 7 v.f v.day).err)=0 then if (!((Qb v.r v.forum 7 v.f v.day).cell).known)=true then ⟨false,0⟩else if 100000<(IntKind.i64.wrap (v.f.bill.day+(((Qb v.r v.forum 7 v.f v.day).cell).n)))then ⟨true,9223372036854775807⟩else ⟨true,IntKind.i64.wrap (v.f.bill.day+(((Qb v.r v.forum 7 v.f v.day).cell).n))⟩else ⟨true,9223372036854775807⟩
theorem zAv (v:Dvw) (hR:RR v.r) (hF:FitFi v.f):GC Tryz.prog 225 [dvG v] (dtG (Yj v)):=by
 have hr:=hR.right.fit
 refine zA Tryz.func225 ?_
 refine gE [1,2] ?_
 refine gR [.call (KY v.r v.forum 7 v.f v.day hR (by first|assumption|exact FitFi.at_ (by assumption) _|exact FitFi.nof (by assumption)|exact FitFi.nof (FitFi.at_ (by assumption) _)))] [1,2,3] ?_
 refine gE [1,2,3,13] ?_
 refine zT ?_ ?_<;>intro c1<;>try simp only[toN]at c1
 ·refine gE [1,2,3] ?_
  refine gT ?_
  rw[Yj,if_neg c1];rfl
 ·refine gE [1,2,3,18] ?_
  refine zE ?_ ?_<;>intro c2<;>try simp only[bb,toN]at c2
  ·refine gE [1,2,3] ?_
   refine gT ?_
   rw[Yj,if_pos c1,if_pos (by (try simp only[bb,toN]);exact c2)];rfl
  ·refine zF env true [] [1,2,3,24] ?_
   refine zB ?_ ?_<;>intro c3<;>try simp only[toN]at c3
   ·refine gE [1,2,3] ?_
    refine gT ?_
    rw[Yj,if_pos c1,iN (by (try simp only[bb,toN]);exact c2),if_pos c3];rfl
   ·refine zF env true [] [2] ?_
    refine gT ?_
    rw[Yj,if_pos c1,iN (by (try simp only[bb,toN]);exact c2),if_neg c3];rfl
def ZD (v:Dvw) (on:Int) (t:Dtm):Int:=if (!t.known)=true then 2 else if (bif (!decide (on=(-1)))then decide (on<=t.last)else false)=true then 1 else if (bif (!decide (on=(-1)))then true else decide (t.last<v.day))=true then 0 else 2
theorem Jg (v:Dvw) (on:Int) (t:Dtm):GC Tryz.prog 223 [dvG v,iG on,dtG t] (iG (ZD v on t)):=by
 refine zA Tryz.func223 ?_
 refine gE [1,3,5,6] ?_
 refine gE [1,3,5,6,7] ?_
 refine zE ?_ ?_<;>intro c1<;>try simp only[bb,toN]at c1
 ·refine gE [6] ?_
  refine gT ?_
  rw[ZD,if_pos (by (try simp only[bb,toN]);exact c1)];rfl
 ·refine gE [1,3,5,6,11] ?_
  refine zE ?_ ?_<;>intro c2<;>try simp only[bb,toN]at c2
  ·refine gE [6] ?_
   refine gT ?_
   rw[ZD,iN (by (try simp only[bb,toN]);exact c1),if_pos (by (try simp only[bb,toN]);exact c2)];rfl
  ·refine gE [6,20] ?_
   refine zE ?_ ?_<;>intro c3<;>try simp only[bb,toN]at c3
   ·refine gE [6] ?_
    refine gT ?_
    rw[ZD,iN (by (try simp only[bb,toN]);exact c1),iN (by (try simp only[bb,toN]);exact c2),if_pos (by (try simp only[bb,toN]);exact c3)];rfl
   ·refine gE [6] ?_
    refine gT ?_
    rw[ZD,iN (by (try simp only[bb,toN]);exact c1),iN (by (try simp only[bb,toN]);exact c2),iN (by (try simp only[bb,toN]);exact c3)];rfl
def yr (v:Dvw) (kind:Int) (fr:Int) (k1:Nat):Int:=if k1<v.f.acts.length then if (bif (bif decide (((v.f.acts.getD k1 default).kind)=kind)then decide (((v.f.acts.getD k1 default).to_)=v.f.bill.drawee)else false)then decide (fr<=((v.f.acts.getD k1 default).day))else false)=true then (v.f.acts.getD k1 default).day else yr v kind fr (k1+1)else (-1)
termination_by v.f.acts.length-k1
def yM (v:Dvw) (kind:Int) (fr:Int):Int:=yr v kind fr 0
theorem Ju (v:Dvw) (kind:Int) (fr:Int) (hF:FitFi v.f):GC Tryz.prog 224 [dvG v,iG kind,iG fr] (iG (yM v kind fr)):=by
 have g3:=hF.acts
 refine zA Tryz.func224 ?_
 refine gE [1,2,3,6] ?_
 refine gE [1,2,3,6,11,12,13] ?_
 refine zG (α:=Nat) (fun x=>x<=v.f.acts.length/\yr v kind fr 0=yr v kind fr x) (fun x=>[(13,iG x)]) (fun x=>[]) (fun x=>v.f.acts.length-x) 0 ⟨by (try simp only[]);omega,rfl⟩ ?_ (hp:=by simp[zC]<;>rfl)
 rintro k1 ⟨hi1,he⟩
 refine gE [1,2,3,6,11,12,13,14] ?_
 refine zB ?_ ?_<;>intro c1<;>try simp only[toN]at c1
 ·refine gE [1,2,3,6,8,11,12,13] ?_
  refine gE [1,2,3,6,8,11,12,13,35] ?_
  refine zE ?_ ?_<;>intro c2<;>try simp only[bb,toN]at c2
  ·refine gE [1,2,3,6,11,12,13] ?_
   refine gT ?_
   rw[yM,he,yr,if_pos (by omega),if_pos (by (try simp only[bb,toN]);exact c2)];rfl
  ·refine gE [1,2,3,6,11,12,13] ?_
   refine zD (k1+1) ?_ (hp:=by simp[zC]<;>rfl)
   refine ⟨by (try simp only[]);omega,he.trans ?_⟩
   rw[yr,if_pos (by omega),iN (by (try simp only[bb,toN]);exact c2)]
   try rfl
 ·refine gE [6] ?_
  refine gT ?_
  rw[yM,he,yr,if_neg (by omega)];rfl
def yf (v:Dvw):Int:=if v.due<(yM v 1 0)then (-1)else (yM v 1 0)
theorem wW (v:Dvw) (hF:FitFi v.f):GC Tryz.prog 206 [dvG v] (iG (yf v)):=by
 refine zA Tryz.func206 ?_
 refine gE [1,2] ?_
 refine gR [.call (Ju v 1 0 hF)] [1,2,3] ?_
 refine gE [2,3,9] ?_
 refine zB ?_ ?_<;>intro c1<;>try simp only[toN]at c1
 ·refine gE [2,3] ?_
  refine gT ?_
  rw[yf,if_pos c1];rfl
 ·refine gE [2] ?_
  refine gT ?_
  rw[yf,if_neg c1];rfl
def ZA (v:Dvw):Int:=if (yf v)=(-1)then v.due else (yf v)
theorem uQ (v:Dvw) (hF:FitFi v.f):GC Tryz.prog 167 [dvG v] (iG (ZA v)):=by
 refine zA Tryz.func167 ?_
 refine gE [1,2] ?_
 refine gR [.call (wW v hF)] [1,2,3] ?_
 refine gE [1,2,3,7] ?_
 refine zT ?_ ?_<;>intro c1<;>try simp only[toN]at c1
 ·refine gE [1,2] ?_
  refine gT ?_
  rw[ZA,if_neg c1];rfl
 ·refine gE [2] ?_
  refine gT ?_
  rw[ZA,if_pos c1];rfl
def YV (v:Dvw):Int:=if v.f.bill.ten.kind=0 then (ZD v (yM v 2 0) (Yj v))else if v.f.bill.ten.kind=1 then if (yf v)=(-1)then if v.due=(-1)then (UJ [(ZD v (qB v.f) (Yj v)),2])else (UJ [(ZD v (qB v.f) (Yj v)),(ZD v (yM v 2 v.due) (ZH v (zN v 10) v.due))])else (ZD v (qB v.f) (Yj v))else if (yf v)=(-1)then if v.due=(-1)then (UJ [1,2])else (UJ [1,(ZD v (yM v 2 v.due) (ZH v (zN v 10) v.due))])else 1
theorem zUl (v:Dvw) (hR:RR v.r) (hF:FitFi v.f) (hp:0<=v.f.bill.pay/\v.f.bill.pay<v.r.cities.length):GC Tryz.prog 190 [dvG v] (iG (YV v)):=by
 have hr:=hR.right.fit
 refine zA Tryz.func190 ?_
 refine gE [1,2] ?_
 refine gE [1,2,3] ?_
 refine gE [1,2,3,11] ?_
 refine zB ?_ ?_<;>intro c1<;>try simp only[toN]at c1
 ·refine gR [.call (Ju v 2 0 hF),.call (zAv v hR hF),.call (Jg v (yM v 2 0) (Yj v))] [1,2,3] ?_
  refine gT ?_
  rw[YV,if_pos c1];rfl
 ·refine gE [1,2,3,4] ?_
  refine gE [1,2,4,19] ?_
  refine zB ?_ ?_<;>intro c2<;>try simp only[toN]at c2
  ·refine gR [.call (zGa v.f (by first|assumption|exact FitFi.at_ (by assumption) _|exact FitFi.nof (by assumption)|exact FitFi.nof (FitFi.at_ (by assumption) _))),.call (zAv v hR hF),.call (Jg v (qB v.f) (Yj v))] [1,2,4] ?_
   refine gR [.call (wW v hF)] [1,2,4,27] ?_
   refine zT ?_ ?_<;>intro c3<;>try simp only[toN]at c3
   ·refine gE [1,2,4] ?_
    refine gT ?_
    rw[YV,if_neg c1,if_pos c2,if_neg c3];rfl
   ·refine gE [1,2,4,32] ?_
    refine zB ?_ ?_<;>intro c4<;>try simp only[toN]at c4
    ·refine gR [.el default inC [(ZD v (qB v.f) (Yj v)),2],.call (Jv [(ZD v (qB v.f) (Yj v)),2] (by first|omega|(simp;done)|decide))] [1,2,4] ?_
     refine gT ?_
     rw[YV,if_neg c1,if_pos c2,if_pos c3,if_pos c4];rfl
    ·refine gR [.call (Ju v 2 v.due hF),.call (QI v 10 hR hF),.call (jF v (zN v 10) v.due hR hF hp),.call (Jg v (yM v 2 v.due) (ZH v (zN v 10) v.due)),.el default inC [(ZD v (qB v.f) (Yj v)),(ZD v (yM v 2 v.due) (ZH v (zN v 10) v.due))],.call (Jv [(ZD v (qB v.f) (Yj v)),(ZD v (yM v 2 v.due) (ZH v (zN v 10) v.due))] (by first|omega|(simp;done)|decide))] [2] ?_
     refine gT ?_
     rw[YV,if_neg c1,if_pos c2,if_pos c3,if_neg c4];rfl
  ·refine gR [.call (wW v hF)] [1,2,4,27] ?_
   refine zT ?_ ?_<;>intro c5<;>try simp only[toN]at c5
   ·refine gE [1,2,4] ?_
    refine gT ?_
    rw[YV,if_neg c1,if_neg c2,if_neg c5];rfl
   ·refine gE [1,2,4,32] ?_
    refine zB ?_ ?_<;>intro c6<;>try simp only[toN]at c6
    ·refine gR [.el default inC [1,2],.call (Jv [1,2] (by first|omega|(simp;done)|decide))] [1,2,4] ?_
     refine gT ?_
     rw[YV,if_neg c1,if_neg c2,if_pos c5,if_pos c6];rfl
    ·refine gR [.call (Ju v 2 v.due hF),.call (QI v 10 hR hF),.call (jF v (zN v 10) v.due hR hF hp),.call (Jg v (yM v 2 v.due) (ZH v (zN v 10) v.due)),.el default inC [1,(ZD v (yM v 2 v.due) (ZH v (zN v 10) v.due))],.call (Jv [1,(ZD v (yM v 2 v.due) (ZH v (zN v 10) v.due))] (by first|omega|(simp;done)|decide))] [2] ?_
     refine gT ?_
     rw[YV,if_neg c1,if_neg c2,if_pos c5,if_neg c6];rfl
def yK (v:Dvw) (j5_1:Int) (a5_1:Int) (k1:Nat):Int:=if k1<v.f.acts.length then if (bif (bif (bif (!decide (((v.f.acts.getD k1 default).kind)=4))then true else (!decide (((v.f.acts.getD k1 default).to_)=v.f.bill.drawee)))then true else decide (((v.f.acts.getD k1 default).day)<(ZA v)))then true else decide (((ZH v (zN v 10) (ZA v)).last)<((v.f.acts.getD k1 default).day)))=true then yK v j5_1 a5_1 (k1+1)else if ((v.f.acts.getD k1 default).form)=1 then if (Jz (zN v 9))=1 then 1 else if (Jz (zN v 9))=2 then yK v j5_1 2 (k1+1)else yK v j5_1 a5_1 (k1+1)else 1 else a5_1
termination_by v.f.acts.length-k1
def qr (v:Dvw) (j5_1:Int):Int:=yK v j5_1 j5_1 0
def Qu (v:Dvw):Int:=if (!(ZH v (zN v 10) (ZA v)).known)=true then 2 else if v.day<=((ZH v (zN v 10) (ZA v)).last)then qr v 2 else qr v 0
theorem zUj (v:Dvw) (hR:RR v.r) (hF:FitFi v.f) (hp:0<=v.f.bill.pay/\v.f.bill.pay<v.r.cities.length):GC Tryz.prog 193 [dvG v] (iG (Qu v)):=by
 have hr:=hR.right.fit
 have g3:=hF.acts
 refine zA Tryz.func193 ?_
 refine gE [1,2] ?_
 refine gR [.call (uQ v (by first|exact hF|exact FitFi.at_ hF _))] [1,2,3] ?_
 refine gR [.call (QI v 10 hR hF),.call (jF v (zN v 10) (ZA v) hR hF hp)] [1,2,3,4] ?_
 refine gE [1,2,3,4,18] ?_
 refine zE ?_ ?_<;>intro c1<;>try simp only[bb,toN]at c1
 ·refine gE [1,2,3,4] ?_
  refine gT ?_
  rw[Qu,if_pos (by (try simp only[bb,toN]);exact c1)];rfl
 ·refine gE [1,2,3,4,5] ?_
  refine gE [1,2,3,4,5,23] ?_
  refine yV (α:=Int) (fun x=>Qu v=qr v x) (fun x=>⟨[(1,.ptr 0 0 0 0),(2,iG 0),(3,iG (ZA v)),(4,.ptr 1 0 0 0),(5,iG x)],[(0,some (.box [.d (.row default ze v.r.currencies),.d (.row default ctC v.r.cities),.d (.row default inC v.r.groups),.d (.row default fmC v.r.firms),.d (.row default odC v.r.orders),.d (.row default usC v.r.usances),.d (.row default rtC v.r.rates),.d (.row default htC v.r.halts),iG v.forum,iG v.f.bill.drawer,iG v.f.bill.drawee,iG v.f.bill.payee,iG v.f.bill.sum,iG v.f.bill.cur,iG v.f.bill.ten.kind,iG v.f.bill.ten.n,iG v.f.bill.ten.unit,iG v.f.bill.day,iG v.f.bill.city,iG v.f.bill.pay,iG v.f.bill.need,iG v.f.bill.rate,iG v.f.bill.flags,iG v.f.bill.parts,.d (.row default sgC v.f.signs),.d (.row default alC v.f.alters),.d (.row default acC v.f.acts),.d (.row default fcC v.f.facts),iG v.sign,iG v.day,iG v.due])),(1,some (.box [bG ((ZH v (zN v 10) (ZA v)).known),iG ((ZH v (zN v 10) (ZA v)).last)]))],2⟩) ?_ ?_
  ·rintro j5_1 hjc1
   refine gE [1,2,3,4,5,26,27,28] ?_
   refine zG (α:=Int×Nat) (fun x=>x.2<=v.f.acts.length/\yK v j5_1 j5_1 0=yK v j5_1 x.1 x.2) (fun x=>[(5,iG x.1),(28,iG x.2)]) (fun x=>[]) (fun x=>v.f.acts.length-x.2) (j5_1,0) ⟨by (try simp only[]);omega,rfl⟩ ?_ (hp:=by simp[zC]<;>rfl)
   rintro ⟨a5_1,k1⟩ ⟨hi1,he⟩
   dsimp only at*
   refine gE [1,2,3,4,5,26,27,28,29] ?_
   refine zB ?_ ?_<;>intro c2<;>try simp only[toN]at c2
   ·refine gE [1,2,3,4,5,7,26,27,28] ?_
    refine gE [1,2,3,4,5,7,26,27,28,56] ?_
    refine zE ?_ ?_<;>intro c3<;>try simp only[bb,toN]at c3
    ·refine gE [1,2,3,4,5,26,27,28] ?_
     refine zD ((a5_1,k1+1)) ?_ (hp:=by simp[zC]<;>rfl) (hm:=by dsimp only;omega)
     refine ⟨by (try simp only[]);omega,he.trans ?_⟩
     rw[yK,if_pos (by omega),if_pos (by (try simp only[bb,toN]);exact c3)]
     try rfl
    ·refine gE [1,2,3,4,5,7,8,26,27,28] ?_
     refine gE [1,2,3,4,5,8,26,27,28,59] ?_
     refine zB ?_ ?_<;>intro c4<;>try simp only[toN]at c4
     ·refine gR [.call (QI v 9 hR hF),.call (Wh (zN v 9))] [1,2,3,4,5,8,26,27,28] ?_
      refine gE [1,2,3,4,5,8,26,27,28,63] ?_
      refine zB ?_ ?_<;>intro c5<;>try simp only[toN]at c5
      ·refine gE [1,2,3,4,5,26,27,28] ?_
       refine gT ?_
       rw[hjc1,qr,he,yK,if_pos (by omega),iN (by (try simp only[bb,toN]);exact c3),if_pos c4,if_pos c5];rfl
      ·refine gE [1,2,3,4,5,26,27,28,66] ?_
       refine zB ?_ ?_<;>intro c6<;>try simp only[toN]at c6
       ·refine gE [1,2,3,4,5,26,27,28] ?_
        refine gE [1,2,3,4,5,26,27,28] ?_
        refine zD ((2,k1+1)) ?_ (hp:=by simp[zC]<;>rfl) (hm:=by dsimp only;omega)
        refine ⟨by (try simp only[]);omega,he.trans ?_⟩
        rw[yK,if_pos (by omega),iN (by (try simp only[bb,toN]);exact c3),if_pos c4,if_neg c5,if_pos c6]
        try rfl
       ·refine gE [1,2,3,4,5,26,27,28] ?_
        refine zD ((a5_1,k1+1)) ?_ (hp:=by simp[zC]<;>rfl) (hm:=by dsimp only;omega)
        refine ⟨by (try simp only[]);omega,he.trans ?_⟩
        rw[yK,if_pos (by omega),iN (by (try simp only[bb,toN]);exact c3),if_pos c4,if_neg c5,if_neg c6]
        try rfl
     ·refine gE [1,2,3,4,5,8,26,27,28,63] ?_
      refine zB ?_ ?_<;>intro c7<;>try simp only[toN]at c7
      ·refine gE [1,2,3,4,5,26,27,28] ?_
       refine gT ?_
       rw[hjc1,qr,he,yK,if_pos (by omega),iN (by (try simp only[bb,toN]);exact c3),if_neg c4];rfl
      ·first|omega|(exact absurd trivial c7)|(simp at c7)
   ·refine gE [2] ?_
    refine gT ?_
    rw[hjc1,qr,he,yK,if_neg (by omega)];rfl
  refine zB ?_ ?_<;>intro c8<;>try simp only[toN]at c8
  ·refine gE [1,2,3,4,5] ?_
   refine za (2) ?_ (hp:=by simp[zC]<;>rfl)
   exact by rw[Qu,iN (by (try simp only[bb,toN]);exact c1),if_pos c8]
  ·refine za (0) ?_ (hp:=by simp[zC]<;>rfl)
   exact by rw[Qu,iN (by (try simp only[bb,toN]);exact c1),if_neg c8]
structure Bvw where
 r:Rlm
 forum:Int
 day:Int
 f:Fil
 form:Int
 due:Int
instance :Inhabited Bvw:=⟨⟨default,0,0,default,0,0⟩⟩
abbrev bvG (x:Bvw):G:= .agg [.d (.row default ze x.r.currencies),.d (.row default ctC x.r.cities),.d (.row default inC x.r.groups),.d (.row default fmC x.r.firms),.d (.row default odC x.r.orders),.d (.row default usC x.r.usances),.d (.row default rtC x.r.rates),.d (.row default htC x.r.halts),iG x.forum,iG x.day,iG x.f.bill.drawer,iG x.f.bill.drawee,iG x.f.bill.payee,iG x.f.bill.sum,iG x.f.bill.cur,iG x.f.bill.ten.kind,iG x.f.bill.ten.n,iG x.f.bill.ten.unit,iG x.f.bill.day,iG x.f.bill.city,iG x.f.bill.pay,iG x.f.bill.need,iG x.f.bill.rate,iG x.f.bill.flags,iG x.f.bill.parts,.d (.row default sgC x.f.signs),.d (.row default alC x.f.alters),.d (.row default acC x.f.acts),.d (.row default fcC x.f.facts),iG x.form,iG x.due]
def yp (v:Dvw) (a6_1:Int) (a7_1:List Act) (k1:Nat) (a10_2:Bool) (k2:Nat):Sum Int (Int×(List Act)):=if k2<a7_1.length then yp v a6_1 a7_1 k1 (bif a10_2 then true else (bif decide (((a7_1.getD k2 default).to_)=((v.f.acts.getD k1 default).who))then decide (((v.f.acts.getD k1 default).day)<=((ZH v (zN v 12) ((a7_1.getD k2 default).day)).last))else false)) (k2+1)else if (!a10_2)=true then .inr (a6_1,a7_1)else if ((v.f.acts.getD k1 default).to_)=((v.f.signs.getD v.sign.toNat default).who)then .inl 1 else .inr (mxI a6_1 ((ZH v (zN v 12) ((v.f.acts.getD k1 default).day)).last),a7_1++ [(v.f.acts.getD k1 default)])
termination_by a7_1.length-k2
def yb (v:Dvw) (a6_1:Int) (a7_1:List Act) (k1:Nat):Int:=if k1<v.f.acts.length then if ((v.f.acts.getD k1 default).kind)=5 then (match yp v a6_1 a7_1 k1 (bif decide ((ZA v)<=((v.f.acts.getD k1 default).day))then decide (((v.f.acts.getD k1 default).day)<=((ZH v (zN v 12) (ZA v)).last))else false) 0 with| .inl r=>r| .inr (a6_1,a7_1)=>yb v a6_1 a7_1 (k1+1))else yb v a6_1 a7_1 (k1+1)else if a6_1<v.day then 0 else 2
termination_by v.f.acts.length-k1
def Qx (v:Dvw):Int:=if (!(ZH v (zN v 12) (ZA v)).known)=true then 2 else yb v ((ZH v (zN v 12) (ZA v)).last) [] 0
theorem zUw (v:Dvw) (hR:RR v.r) (hF:FitFi v.f) (hp:0<=v.f.bill.pay/\v.f.bill.pay<v.r.cities.length) (hs:0<=v.sign/\v.sign<v.f.signs.length):GC Tryz.prog 194 [dvG v] (iG (Qx v)):=by
 have hr:=hR.right.fit
 have g3:=hF.acts
 refine zA Tryz.func194 ?_
 refine gE [1,2] ?_
 refine gR [.call (uQ v (by first|exact hF|exact FitFi.at_ hF _))] [1,2,3] ?_
 refine gR [.call (QI v 12 hR hF)] [1,2,3,4] ?_
 refine gR [.call (jF v (zN v 12) (ZA v) hR hF hp)] [1,2,3,4,5] ?_
 refine gE [1,2,3,4,5,23] ?_
 refine zE ?_ ?_<;>intro c1<;>try simp only[bb,toN]at c1
 ·refine gE [1,2,3,4,5] ?_
  refine gT ?_
  rw[Qx,if_pos (show (!(ZH v (zN v 12) (ZA v)).known)=true by (try simp only[bb,toN]);exact c1)];rfl
 ·refine gE [1,2,3,4,5,6] ?_
  refine gE [1,2,3,4,5,6,7] ?_
  refine gE [1,2,3,4,5,6,7,28,29,30] ?_
  refine yc 7 66 9 (default:Act) acC (by rfl) (by rfl) ?_
  refine zG (α:=Int×List Act×Nat) (fun x=>x.2.2<=v.f.acts.length/\yb v ((ZH v (zN v 12) (ZA v)).last) [] 0=yb v x.1 x.2.1 x.2.2/\x.2.1.length<=x.2.2) (fun x=>[(6,iG x.1),(7,.sl 3 9 0 x.2.1.length),(30,iG x.2.2)]) (fun x=>[(3,some (.row 66 9 default acC x.2.1 0))]) (fun x=>v.f.acts.length-x.2.2) ((ZH v (zN v 12) (ZA v)).last,[],0) ⟨by (try simp only[]);omega,rfl,by first|omega|(simp;done)|(simp only[List.length_append,List.length_cons,List.length_nil,List.length_set,List.length_replicate];omega)⟩ ?_ (hp:=by simp[zC]<;>rfl)
  rintro ⟨a6_1,a7_1,k1⟩ ⟨hi1,he,hl_a7_1⟩
  dsimp only at*
  refine gE [1,2,3,4,5,6,7,28,29,30,31] ?_
  refine zB ?_ ?_<;>intro c2<;>try simp only[toN]at c2
  ·refine gE [1,2,3,4,5,6,7,9,28,29,30] ?_
   refine gE [1,2,3,4,5,6,7,9,28,29,30,36] ?_
   refine zT ?_ ?_<;>intro c3<;>try simp only[toN]at c3
   ·refine gE [1,2,3,4,5,6,7,28,29,30] ?_
    refine zD ((a6_1,a7_1,k1+1)) ?_ (hp:=by simp[zC]<;>rfl) (hm:=by dsimp only;omega)
    refine ⟨by (try simp only[]);omega,he.trans ?_,by first|omega|(simp;done)|(simp only[List.length_append,List.length_cons,List.length_nil,List.length_set,List.length_replicate];omega)⟩
    rw[yb,if_pos (show k1<v.f.acts.length by omega),if_neg c3]
    try rfl
   ·refine gE [1,2,3,4,5,6,7,9,10,28,29,30] ?_
    refine gE [1,2,3,4,5,6,7,9,10,28,29,30,48,49,50] ?_
    refine zG (α:=Bool×Nat) (fun x=>x.2<=a7_1.length/\yp v a6_1 a7_1 k1 (bif decide ((ZA v)<=((v.f.acts.getD k1 default).day))then decide (((v.f.acts.getD k1 default).day)<=((ZH v (zN v 12) (ZA v)).last))else false) 0=yp v a6_1 a7_1 k1 x.1 x.2) (fun x=>[(10,bG x.1),(50,iG x.2)]) (fun x=>[]) (fun x=>a7_1.length-x.2) ((bif decide ((ZA v)<=((v.f.acts.getD k1 default).day))then decide (((v.f.acts.getD k1 default).day)<=((ZH v (zN v 12) (ZA v)).last))else false),0) ⟨by (try simp only[]);omega,rfl⟩ ?_ (hp:=by simp[zC]<;>rfl)
    rintro ⟨a10_2,k2⟩ ⟨hi2,he2⟩
    dsimp only at*
    refine gE [1,2,3,4,5,6,7,9,10,28,29,30,48,49,50,51] ?_
    refine zB ?_ ?_<;>intro c4<;>try simp only[toN]at c4
    ·refine gE [1,2,3,4,5,6,7,9,10,12,28,29,30,48,49,50] ?_ (hp:=(by simp only[zC,bb,toN,loI,hiI];repeat' first|exact trivial|exact zI.refl _|exact zH.refl _|exact rfl|omega|apply And.intro|intro _|(simp;done)))
     refine gR [.call (jF v (zN v 12) ((a7_1.getD k2 default).day) hR hF hp)] [1,2,3,4,5,6,7,9,10,28,29,30,48,49,50] ?_
     refine gE [1,2,3,4,5,6,7,9,10,28,29,30,48,49,50] ?_
     refine zD (((bif a10_2 then true else (bif decide (((a7_1.getD k2 default).to_)=((v.f.acts.getD k1 default).who))then decide (((v.f.acts.getD k1 default).day)<=((ZH v (zN v 12) ((a7_1.getD k2 default).day)).last))else false)),k2+1)) ?_ (hp:=by simp[zC]<;>rfl) (hm:=by dsimp only;omega)
     refine ⟨by (try simp only[]);omega,he2.trans ?_⟩
     rw[yp,if_pos (show k2<a7_1.length by omega)]
     try rfl
    ·refine gE [1,2,3,4,5,6,7,9,28,29,30,75] ?_
     refine zE ?_ ?_<;>intro c5<;>try simp only[bb,toN]at c5
     ·refine gE [1,2,3,4,5,6,7,28,29,30] ?_
      refine zD ((a6_1,a7_1,k1+1)) ?_ (hp:=by simp[zC]<;>rfl) (hm:=by dsimp only;omega)
      refine ⟨by (try simp only[]);omega,he.trans ?_,by first|omega|(simp;done)|(simp only[List.length_append,List.length_cons,List.length_nil,List.length_set,List.length_replicate];omega)⟩
      rw[yb,if_pos (show k1<v.f.acts.length by omega),if_pos c3,he2,yp,if_neg (show ¬(k2<a7_1.length)by omega),if_pos (show (!a10_2)=true by (try simp only[bb,toN]);exact c5)]
      try rfl
     ·refine gE [1,2,3,4,5,6,7,9,28,29,30,86] ?_
      refine zB ?_ ?_<;>intro c6<;>try simp only[toN]at c6
      ·refine gE [1,2,3,4,5,6,7,9,28,29,30] ?_
       refine gT ?_
       rw[Qx,if_neg (show ¬((!(ZH v (zN v 12) (ZA v)).known)=true)by rw[Bool.not_eq_true];(try simp only[bb,toN]);exact c1),he,yb,if_pos (show k1<v.f.acts.length by omega),if_pos c3,he2,yp,if_neg (show ¬(k2<a7_1.length)by omega),if_neg (show ¬((!a10_2)=true)by rw[Bool.not_eq_true];(try simp only[bb,toN]);exact c5),if_pos c6];rfl
      ·refine gU [.el default acC ([(v.f.acts.getD k1 default)]:List Act),.el default acC (a7_1++ [(v.f.acts.getD k1 default)])] [1,2,3,4,5,6,7,9,28,29,30] ?_
       refine gR [.call (jF v (zN v 12) ((v.f.acts.getD k1 default).day) hR hF hp)] [1,2,3,4,5,6,7,28,29,30] ?_
       refine gE [1,2,3,4,5,6,7,28,29,30] ?_
       refine zD ((mxI a6_1 ((ZH v (zN v 12) ((v.f.acts.getD k1 default).day)).last),a7_1++ [(v.f.acts.getD k1 default)],k1+1)) ?_ (hp:=by simp[zC]<;>rfl) (hm:=by dsimp only;omega)
       refine ⟨by (try simp only[]);omega,he.trans ?_,by first|omega|(simp;done)|(simp only[List.length_append,List.length_cons,List.length_nil,List.length_set,List.length_replicate];omega)⟩
       rw[yb,if_pos (show k1<v.f.acts.length by omega),if_pos c3,he2,yp,if_neg (show ¬(k2<a7_1.length)by omega),if_neg (show ¬((!a10_2)=true)by rw[Bool.not_eq_true];(try simp only[bb,toN]);exact c5),if_neg c6]
       try rfl
  ·refine gE [2,103] ?_
   refine zB ?_ ?_<;>intro c7<;>try simp only[toN]at c7
   ·refine gE [2] ?_
    refine gT ?_
    rw[Qx,if_neg (show ¬((!(ZH v (zN v 12) (ZA v)).known)=true)by rw[Bool.not_eq_true];(try simp only[bb,toN]);exact c1),he,yb,if_neg (show ¬(k1<v.f.acts.length)by omega),if_pos c7];rfl
   ·refine gE [2] ?_
    refine gT ?_
    rw[Qx,if_neg (show ¬((!(ZH v (zN v 12) (ZA v)).known)=true)by rw[Bool.not_eq_true];(try simp only[bb,toN]);exact c1),he,yb,if_neg (show ¬(k1<v.f.acts.length)by omega),if_neg c7];rfl
def zBr (r:Rlm) (forum:Int) (f:Fil) (day:Int):Int:=(ZA (zk r forum f 0 day))
theorem zYf (r:Rlm) (forum:Int) (f:Fil) (day:Int) (hR:RR r) (hF:FitFi f):GC Tryz.prog 133 [rlG r,iG forum,fiG f,iG day] (iG (zBr r forum f day)):=by
 have hr:=hR.right.fit
 have h1:=hr.orders
 have h2:=hr.cities
 have h3:=hr.firms
 refine zA Tryz.func133 ?_
 refine gE [1,3,4,6,8] ?_
 refine gR [.call (zGq r forum f 0 day hR (by first|assumption|exact FitFi.at_ (by assumption) _|exact FitFi.nof (by assumption)|exact FitFi.nof (FitFi.at_ (by assumption) _))),.call (uQ (zk r forum f 0 day) (by first|exact hF|exact FitFi.at_ hF _))] [8] ?_
 refine gT ?_
 rw[zBr];rfl
def qe (l:List Int) (a3_1:Int) (k1:Nat):Int:=if k1<l.length then if (l.getD k1 default)=0 then 0 else if (l.getD k1 default)=2 then qe l 2 (k1+1)else qe l a3_1 (k1+1)else a3_1
termination_by l.length-k1
def vG (l:List Int):Int:=qe l 1 0
theorem zBi (l:List Int) (hl:l.length<=9223372036854775807):GC Tryz.prog 183 [.d (.row default inC l)] (iG (vG l)):=by
 refine zA Tryz.func183 ?_
 refine gE [0,2] ?_
 refine gE [0,2,3] ?_
 refine gE [2,3,6,7,8] ?_
 refine zG (α:=Int×Nat) (fun x=>x.2<=l.length/\qe l 1 0=qe l x.1 x.2) (fun x=>[(3,iG x.1),(8,iG x.2)]) (fun x=>[]) (fun x=>l.length-x.2) (1,0) ⟨by (try simp only[]);omega,rfl⟩ ?_ (hp:=by simp[zC]<;>rfl)
 rintro ⟨a3_1,k1⟩ ⟨hi1,he⟩
 dsimp only at*
 refine gE [2,3,6,7,8,9] ?_
 refine zB ?_ ?_<;>intro c1<;>try simp only[toN]at c1
 ·refine gE [2,3,5,6,7,8] ?_
  refine gE [2,3,5,6,7,8,12] ?_
  refine zB ?_ ?_<;>intro c2<;>try simp only[toN]at c2
  ·refine gE [2,3,6,7,8] ?_
   refine gT ?_
   rw[vG,he,qe,if_pos (by omega),if_pos c2];rfl
  ·refine gE [2,3,6,7,8,15] ?_
   refine zB ?_ ?_<;>intro c3<;>try simp only[toN]at c3
   ·refine gE [2,3,6,7,8] ?_
    refine gE [2,3,6,7,8] ?_
    refine zD ((2,k1+1)) ?_ (hp:=by simp[zC]<;>rfl) (hm:=by dsimp only;omega)
    refine ⟨by (try simp only[]);omega,he.trans ?_⟩
    rw[qe,if_pos (by omega),if_neg c2,if_pos c3]
    try rfl
   ·refine gE [2,3,6,7,8] ?_
    refine zD ((a3_1,k1+1)) ?_ (hp:=by simp[zC]<;>rfl) (hm:=by dsimp only;omega)
    refine ⟨by (try simp only[]);omega,he.trans ?_⟩
    rw[qe,if_pos (by omega),if_neg c2,if_neg c3]
    try rfl
 ·refine gE [2] ?_
  refine gT ?_
  rw[vG,he,qe,if_neg (by omega)];rfl
def vZ (a:Int) (b:Int):Int:=(vG [a,b])
theorem zHp (a:Int) (b:Int):GC Tryz.prog 157 [iG a,iG b] (iG (vZ a b)):=by
 refine zA Tryz.func157 ?_
 refine gE [0,1,4] ?_
 refine gR [.el default inC [a,b],.call (zBi [a,b] (by first|omega|(simp;done)|decide))] [4] ?_
 refine gT ?_
 rw[vZ];rfl
def ZL (r:Rlm) (forum:Int) (f:Fil) (day:Int):Bvw:=⟨r,forum,day,(atV f day),(Jz (Qb r forum 0 (atV f day) day)),(ZI r forum (atV f day) day)⟩
theorem zBf (r:Rlm) (forum:Int) (f:Fil) (day:Int) (hR:RR r) (hF:FitFi f):GC Tryz.prog 141 [rlG r,iG forum,fiG f,iG day] (bvG (ZL r forum f day)):=by
 have hr:=hR.right.fit
 have h1:=hr.orders
 have h2:=hr.cities
 have h3:=hr.firms
 refine zA Tryz.func141 ?_
 refine gE [1,3,4,6,8] ?_
 refine gR [.call (Jc f day (by first|assumption|exact FitFi.at_ (by assumption) _))] [1,3,4,8,9] ?_
 refine gR [.call (KY r forum 0 (atV f day) day hR (by first|assumption|exact FitFi.at_ (by assumption) _|exact FitFi.nof (by assumption)|exact FitFi.nof (FitFi.at_ (by assumption) _))),.call (Wh (Qb r forum 0 (atV f day) day)),.call (Wt r forum (atV f day) day hR (by first|assumption|exact FitFi.at_ (by assumption) _|exact FitFi.nof (by assumption)|exact FitFi.nof (FitFi.at_ (by assumption) _)))] [8] ?_
 refine gT ?_
 rw[ZL];rfl
def yD (v:Bvw) (q:Int) (sign:Int):Int:=(Jz (Yf v.r v.forum q (⟨v.f,sign,sign,(-1),v.due,v.day⟩:Cas)))
theorem uZ (v:Bvw) (q:Int) (sign:Int) (hR:RR v.r) (hF:FitFi v.f):GC Tryz.prog 184 [bvG v,iG q,iG sign] (iG (yD v q sign)):=by
 have hr:=hR.right.fit
 refine zA Tryz.func184 ?_
 refine gE [1,2,3,6] ?_
 refine gE [1,3,6,7] ?_
 refine gR [.call (wn v.r v.forum q (⟨v.f,sign,sign,(-1),v.due,v.day⟩:Cas) hR (by first|assumption|exact FitFi.at_ (by assumption) _|exact FitFi.nof (by assumption)|exact FitFi.nof (FitFi.at_ (by assumption) _))),.call (Wh (Yf v.r v.forum q (⟨v.f,sign,sign,(-1),v.due,v.day⟩:Cas)))] [6] ?_
 refine gT ?_
 rw[yD];rfl
def yX (v:Bvw) (sign:Int) (a7_1:Bool) (k1:Nat):Int×Int:=if k1<v.f.alters.length then yX v sign (bif a7_1 then true else decide (sign<((v.f.alters.getD k1 default).at_))) (k1+1)else if (!a7_1)=true then (0,(JB v.f sign))else if (yD v 4 sign)=1 then ((yD v 4 sign),(v.f.alters.getD (((v.f.alters.length:Int)-1).toNat) default).sum)else if (yD v 4 sign)=2 then ((yD v 4 sign),mnI (JB v.f sign) ((v.f.alters.getD (((v.f.alters.length:Int)-1).toNat) default).sum))else ((yD v 4 sign),(JB v.f sign))
termination_by v.f.alters.length-k1
def qO (v:Bvw) (sign:Int):Int×Int:=yX v sign false 0
theorem zSf (v:Bvw) (sign:Int) (hR:RR v.r) (hF:FitFi v.f):GC Tryz.prog 185 [bvG v,iG sign] (.tup [iG ((qO v sign).1),iG ((qO v sign).2)]):=by
 have hr:=hR.right.fit
 have g2:=hF.alters
 refine zA Tryz.func185 ?_
 refine gE [1,2,4,5] ?_
 refine gR [.call (zMv v.f sign (by omega))] [1,2,4,5] ?_
 refine gE [1,2,4,5,6] ?_
 refine gE [1,2,4,5,6,7] ?_
 refine gE [1,2,4,5,6,7,21,22,23] ?_
 refine zG (α:=Bool×Nat) (fun x=>x.2<=v.f.alters.length/\yX v sign false 0=yX v sign x.1 x.2/\(fun (a:Bool) (k:Nat)=>a=true->1<=k) x.1 x.2) (fun x=>[(7,bG x.1),(23,iG x.2)]) (fun x=>[]) (fun x=>v.f.alters.length-x.2) (false,0) ⟨by (try simp only[]);omega,rfl,(by simp)⟩ ?_ (hp:=by simp[zC]<;>rfl)
 rintro ⟨a7_1,k1⟩ ⟨hi1,he,hv1⟩
 dsimp only at*
 refine gE [1,2,4,5,6,7,21,22,23,24] ?_
 refine zB ?_ ?_<;>intro c1<;>try simp only[toN]at c1
 ·refine gE [1,2,4,5,6,7,9,21,22,23] ?_
  refine gE [1,2,4,5,6,7,21,22,23] ?_
  refine gE [1,2,4,5,6,7,21,22,23] ?_
  refine zD (((bif a7_1 then true else decide (sign<((v.f.alters.getD k1 default).at_))),k1+1)) ?_ (hp:=by simp[zC]<;>rfl) (hm:=by dsimp only;omega)
  refine ⟨by (try simp only[]);omega,he.trans ?_,(fun _=>by dsimp only;omega)⟩
  rw[yX,if_pos (show k1<v.f.alters.length by omega)]
  try rfl
 ·refine gE [1,2,4,5,6,36] ?_
  refine zE ?_ ?_<;>intro c2<;>try simp only[bb,toN]at c2
  ·refine gE [1,2,4,5,6] ?_
   refine gT ?_
   rw[qO,he,yX,if_neg (show ¬(k1<v.f.alters.length)by omega),if_pos (show (!a7_1)=true by (try simp only[bb,toN]);exact c2)];rfl
  ·have hk1:=hv1 c2
   refine gE [1,2,4,5,10] ?_
   refine gR [.call (uZ v 4 sign hR hF)] [4,5,10] ?_
   refine gE [4,5,10,49] ?_
   refine gE [4,5,10,49,50] ?_
   refine zB ?_ ?_<;>intro c3<;>try simp only[toN]at c3
   ·refine gE [4,5] ?_
    refine gT ?_
    rw[qO,he,yX,if_neg (show ¬(k1<v.f.alters.length)by omega),if_neg (show ¬((!a7_1)=true)by rw[Bool.not_eq_true];(try simp only[bb,toN]);exact c2),if_pos c3];rfl
   ·refine gE [4,5,10,54] ?_
    refine zB ?_ ?_<;>intro c4<;>try simp only[toN]at c4
    ·refine gE [4,5] ?_
     refine gT ?_
     rw[qO,he,yX,if_neg (show ¬(k1<v.f.alters.length)by omega),if_neg (show ¬((!a7_1)=true)by rw[Bool.not_eq_true];(try simp only[bb,toN]);exact c2),if_neg c3,if_pos c4];rfl
    ·refine gE [4,5] ?_
     refine gT ?_
     rw[qO,he,yX,if_neg (show ¬(k1<v.f.alters.length)by omega),if_neg (show ¬((!a7_1)=true)by rw[Bool.not_eq_true];(try simp only[bb,toN]);exact c2),if_neg c3,if_neg c4];rfl
def wiV (n lo hi:Int):Bool:=decide (lo<=n)&&decide (n<=hi)
theorem Zy {n lo hi:Int} :wiV n lo hi=true↔lo<=n/\n<=hi:=by simp[wiV]
theorem gS {nt p:Nat} {R:Exit->St->Prop} {c':Code} {K K':List Kont} (hs:List (Hint Tryz.prog)) (kp:List Nat) {id:Nat} {ops:Array Oper} {draw:Bool} {tm tm' tm1:List (Nat×G)} {h0 h1 h2:List (Nat×Option Blk)} {n n1:Nat} {feet:List Foot} {pr pr':List Prop} {hs':List (Hint Tryz.prog)}
 (hq:GK Tryz.prog nt p R c' K' ⟨tm',h2,n1⟩) (h:jR Tryz.prog false tab nt ops ops.toList tm h0 n [] hs=some (pr,⟨tm1,h1,n1⟩,feet,hs'):=by rfl) (hok:wy ops nt draw feet=true:=by kernel_rfl) (hk:qy tm1 kp=some tm':=by rfl) (hh:nfH [] h1=some h2:=by rfl) (hn:nrm 1000 .skip K=some (c',K'):=by rfl) (hf:nfP pr=some pr':=by rfl)
 (hp:zC pr':=by simp only[zC,bb,toN,Zy,loI,hiI];repeat' first|exact trivial|exact zI.refl _|exact zH.refl _|exact rfl|omega|apply And.intro|intro _):GK Tryz.prog nt p R (.region id ops draw) K ⟨tm,h0,n⟩:=
 zF env false hs kp hq h hok hk hh hn hf hp
theorem zFp {n lo hi:Int} :wiV n lo hi=false↔n<lo∨hi<n:=by simp[wiV];omega
def ub (l:List ByteArray) (n:Int) (s:ByteArray) (i:Nat):Bool:=if (i:Int)<n/\i<l.length then if l.getD i default=s then true else ub l n s (i+1)else false
termination_by l.length-i
theorem zSm {l:List ByteArray} {n:Nat} {s:ByteArray} (hn:n<=l.length):∀(k i:Nat),n-i=k->ub l n s i=((l.take n).drop i).any fun x=>decide (x=s):=by
 intro k
 induction k with
 |zero=>
  intro i hk
  rw[ub,if_neg (by omega),List.drop_eq_nil_of_le (by rw[List.length_take];omega)];rfl
 |succ k ih=>
  intro i hk
  have hd:(l.take n).drop i=l.getD i default::(l.take n).drop (i+1):=by
   rw[List.drop_eq_getElem_cons (by rw[List.length_take];omega)]
   congr 1
   rw[List.getElem_take,List.getD_eq_getElem?_getD,List.getElem?_eq_getElem (by omega)];rfl
  rw[ub,if_pos ⟨by omega,by omega⟩,hd,List.any_cons,<-ih (i+1) (by omega)]
  by_cases h:l.getD i default=s
  ·rw[if_pos h,decide_eq_true h];rfl
  ·rw[if_neg h,decide_eq_false h];rfl
theorem zHo {l:List ByteArray} {n:Nat} {s:ByteArray} (hn:n<=l.length):ub l n s 0=(l.take n).any fun x=>decide (x=s):=by
 rw[zSm hn _ 0 rfl];rfl
theorem zFc {s:ByteArray} :s=⟨#[]⟩↔s.size=0:=⟨fun h=>by subst h;rfl,fun h=>by
 obtain ⟨d⟩:=s
 have:d.size=0:=h
 congr 1
 exact Array.eq_empty_of_size_eq_zero this⟩
theorem zu (n lo hi:Int):GC Tryz.prog 59 [iG n,iG lo,iG hi] (bG (wiV n lo hi)):=by
 refine zA Tryz.func59 ?_
 refine gE [0,1,2,6] ?_
 refine gE [6] ?_
 refine gT ?_
 simp[Zz,wiV,Bool.cond_eq_ite]
theorem zVr (c:Int):GC Tryz.prog 165 [.d (.sc (.int .u8 c))] (bG (Vq c)):=by
 refine zA Tryz.func165 ?_
 refine gE [0,2] ?_
 refine gE [2] ?_
 refine gT ?_
 simp only[Zz,Vq]
 cases decide (97<=c)<;>cases decide (c<=122)<;>cases decide (65<=c)<;>cases decide (c<=90)<;>rfl
theorem zOs (s:ByteArray) (hs:s.size<=9223372036854775807):GC Tryz.prog 128 [sG s] (bG (jT s)):=by
 refine zA Tryz.func128 ?_
 refine gE [0,2] ?_
 refine gE [0,2,12] ?_
 refine zE ?_ ?_<;>intro c1<;>try simp only[bb,toN]at c1
 ·refine gE [0,2] ?_
  refine gT ?_
  rw[jT,if_pos (by rw[zFc];omega)];rfl
 ·refine gE [0,2,3] ?_
  refine zG (α:=Nat) (fun i=>i<=s.size/\rnF s 0=rnF s i) (fun i=>[(3,iG i)]) (fun _=>[]) (fun i=>s.size-i) 0 ⟨by omega,rfl⟩ ?_ (hp:=by simp only[zC];repeat' first|exact trivial|exact zI.refl _|exact zH.refl _|exact rfl|omega|apply And.intro|intro _)
  rintro i ⟨hi,he⟩
  refine gE [0,2,3,16] ?_
  refine zB ?_ ?_<;>intro c2<;>try simp only[toN]at c2
  ·refine gE [0,2,3,4] ?_
   refine gR [.call (zVr (wm s i))] [0,2,3,47] ?_
   refine zE ?_ ?_<;>intro c3<;>try simp only[bb,toN]at c3
   ·refine gE [0,2,3] ?_
    refine gT ?_
    rw[jT,if_neg (by rw[zFc];omega),he,rnF,if_pos (by omega),if_pos (by simp only[Kw,wN];grind)];rfl
   ·refine gE [0,2,3] ?_
    refine zD (i+1) ?_ (hp:=by simp only[zC];repeat' first|exact trivial|exact zI.refl _|exact zH.refl _|exact rfl|omega|apply And.intro|intro _)
    refine ⟨by omega,he.trans ?_⟩
    rw[rnF,if_pos (by omega),if_neg (by simp only[Kw,wN];grind)]
  ·refine gE [2] ?_
   refine gT ?_
   rw[jT,if_neg (by rw[zFc];omega),he,rnF,if_neg (by omega)];rfl
theorem zFa (l:List ByteArray) (hl:l.length<=9223372036854775807) (n:Int) (s:ByteArray):GC Tryz.prog 129 [Wj l,iG n,sG s] (bG (ub l n s 0)):=by
 refine zA Tryz.func129 ?_
 refine gE [0,1,2,6] ?_
 refine gE [0,1,2,6,7] ?_
 refine zG (α:=Nat) (fun i=>i<=l.length/\ub l n s 0=ub l n s i) (fun i=>[(7,iG i)]) (fun _=>[]) (fun i=>l.length-i) 0 ⟨by omega,rfl⟩ ?_ (hp:=by simp only[zC];repeat' first|exact trivial|exact zI.refl _|exact zH.refl _|exact rfl|omega|apply And.intro|intro _)
 rintro i ⟨hi,he⟩
 refine gE [0,1,2,6,7,16] ?_
 refine zE ?_ ?_<;>intro c1<;>try simp only[bb,toN]at c1
 ·refine gE [0,1,2,6,7,24] ?_
  refine zB ?_ ?_<;>intro c2<;>try simp only[toN]at c2
  ·refine gE [0,1,2,6,7] ?_
   refine gT ?_
   rw[he,ub,if_pos ⟨by omega,by omega⟩,if_pos (by assumption)];rfl
  ·refine gE [0,1,2,6,7] ?_
   refine zD (i+1) ?_ (hp:=by simp only[zC];repeat' first|exact trivial|exact zI.refl _|exact zH.refl _|exact rfl|omega|apply And.intro|intro _)
   refine ⟨by omega,he.trans ?_⟩
   rw[ub,if_pos ⟨by omega,by omega⟩,if_neg (by assumption)]
 ·refine gE [6] ?_
  refine gT ?_
  rw[he,ub,if_neg (by omega)];rfl
theorem wV (l:List Int) (hl:l.length<=9223372036854775807) (lo hi:Int):GC Tryz.prog 130 [qX l,iG lo,iG hi] (bG (zg l lo hi 0)):=by
 refine zA Tryz.func130 ?_
 refine gE [0,1,2,6] ?_
 refine gE [0,1,2,6,7] ?_
 refine zG (α:=Nat) (fun i=>i<=l.length/\zg l lo hi 0=zg l lo hi i) (fun i=>[(7,iG i)]) (fun _=>[]) (fun i=>l.length-i) 0 ⟨by omega,rfl⟩ ?_ (hp:=by simp only[zC];repeat' first|exact trivial|exact zI.refl _|exact zH.refl _|exact rfl|omega|apply And.intro|intro _)
 rintro i ⟨hj,he⟩
 refine gE [0,1,2,6,7,11] ?_
 refine zB ?_ ?_<;>intro c1<;>try simp only[toN]at c1
 ·refine gR [.call (zu (l.getD i default) lo hi)] [0,1,2,6,7,21] ?_
  refine zE ?_ ?_<;>intro c2<;>try simp only[bb,toN]at c2
  ·refine gE [0,1,2,6,7] ?_
   refine gT ?_
   rw[zFp]at c2
   rw[he,zg,if_pos (by omega),if_pos (by simp only[yS,Bool.or_eq_true,Bool.and_eq_true,decide_eq_true_eq];omega)];rfl
  ·refine gE [0,1,2,6,7,35] ?_
   refine zE ?_ ?_<;>intro c3<;>try simp only[bb,toN]at c3
   ·refine gE [0,1,2,6,7] ?_
    refine gT ?_
    rw[he,zg,if_pos (by omega),if_pos (by simp only[yS,Bool.or_eq_true,Bool.and_eq_true,decide_eq_true_eq];omega)];rfl
   ·refine gE [0,1,2,6,7] ?_
    refine zD (i+1) ?_ (hp:=by simp only[zC];repeat' first|exact trivial|exact zI.refl _|exact zH.refl _|exact rfl|omega|apply And.intro|intro _)
    refine ⟨by omega,he.trans ?_⟩
    rw[Zy]at c2
    rw[zg,if_pos (by omega),if_neg (by simp only[yS,Bool.or_eq_true,Bool.and_eq_true,decide_eq_true_eq];omega)]
 ·refine gE [6] ?_
  refine gT ?_
  rw[he,zg,if_neg (by omega)];rfl
theorem Jm (l:List ByteArray) (hl:l.length<=9223372036854775807) (hs:∀s,s∈l->s.size<=9223372036854775807) (i:Nat) (hi:i<l.length):GC Tryz.prog 82 [Wj l,iG i] (iG (ZQ l i)):=by
 refine zA Tryz.func82 ?_
 refine gE [0,1,4] ?_
 refine gR [.call (zOs (l.getD i default) (hs _ (zK hi)))] [0,1,4,10] ?_
 refine zE ?_ ?_<;>intro c1<;>try simp only[bb,toN]at c1
 ·refine gE [0,1,4] ?_
  refine gT ?_
  rw[ZQ,if_pos (by simpa using c1)];rfl
 ·refine gR [.call (zFa l hl i (l.getD i default))] [4,17] ?_
  refine zE ?_ ?_<;>intro c2<;>try simp only[bb,toN]at c2
  ·refine gE [4] ?_
   refine gT ?_
   rw[zHo (by omega)]at c2
   rw[ZQ,if_neg (by simpa using c1),if_pos c2];rfl
  ·refine gE [4] ?_
   refine gT ?_
   rw[zHo (by omega)]at c2
   rw[ZQ,if_neg (by simpa using c1),if_neg (by rw[c2];simp)];rfl
theorem VE {i:Int} {n:Nat} :wiV i 0 ((n:Int)-1)=inV i n:=by
 simp only[wiV,inV]
 congr 1
 exact decide_eq_decide.2 (by omega)
theorem zMh {i:Int} {m n:Int} (h:m=n-1):wiV i 0 m=inV i n:=by
 subst h
 simp only[wiV,inV]
 congr 1
 exact decide_eq_decide.2 (by omega)
def zEd (n:Int):Bool:= !wiV (IntKind.i64.wrap (n.tdiv 100)) 1 12|| !wiV (n.tmod 100) 1 31
def WM (l:List Int) (i:Nat):Bool:=if i<l.length then if zEd (l.getD i default)=true then false else WM l (i+1)else true
termination_by l.length-i
def Ym (r:Rlm) (c:Cty):Bool:=bif ((!wiV c.ord 0 ((r.orders.length:Int)-1)|| !wiV c.cur 0 ((r.currencies.length:Int)-1))||decide ((60:Int)<c.feasts.length))||decide ((200:Int)<c.shut.length)then false else bif WM c.feasts 0 then (zg c.rest 0 6 0&&zg c.feasts 0 2000 0)&&zg c.shut 0 100000 0 else false
def odB (l:List Cho) (i:Nat):Bool:=((!wiV (l.getD i default).ask 0 21)|| !wiV (l.getD i default).by_ 0 4)||(decide ((0:Int)<i)&&decide ((l.getD i default).ask<=(l.getD ((i:Int)-1).toNat default).ask))
def odF (l:List Cho) (i:Nat):Bool:=if i<l.length then if odB l i=true then false else odF l (i+1)else true
termination_by l.length-i
def ruB (l:List Rul) (i:Nat):Bool:=(!wiV (l.getD i default).ask 0 21)||(decide ((0:Int)<i)&&decide ((l.getD i default).ask<=(l.getD ((i:Int)-1).toNat default).ask))
def ruF (l:List Rul) (i:Nat):Bool:=if i<l.length then if ruB l i=true then false else ruF l (i+1)else true
termination_by l.length-i
def ya (o:Od):Bool:=bif odF o.choices 0 then ruF o.rules 0 else false
theorem zRw (r:Rlm) (hr:FitR r) (c:Cty) (hc:FitC c):GC Tryz.prog 83 [rlG r,ctG c] (bG (Ym r c)):=by
 obtain ⟨_,h2,h3,h4⟩:=hc
 have hr1:=hr.orders
 have hr2:=hr.cur
 refine zA Tryz.func83 ?_
 refine gE [2,3,4] ?_
 refine zv 0 ?_
 refine zv 1 ?_
 refine gR [.call (zu c.ord 0 ((r.orders.length:Int)-1)),.call (zu c.cur 0 ((r.currencies.length:Int)-1))] [3,4,35] ?_
 refine zE ?_ ?_<;>intro c1<;>try simp only[bb,toN]at c1
 ·refine gE [3,4] ?_
  refine gT ?_
  rcases c1 with ((h|h)|h)|h
  ·simp[Zz,Ym,h]
  ·simp[Zz,Ym,h]
  ·simp[Zz,Ym,h]
  ·simp[Zz,Ym,h]
 ·refine gE [3,4,5] ?_
  refine zG (α:=Nat) (fun i=>i<=c.feasts.length/\WM c.feasts 0=WM c.feasts i) (fun i=>[(5,iG i)]) (fun _=>[]) (fun i=>c.feasts.length-i) 0 ⟨by omega,rfl⟩ ?_ (hp:=by simp only[zC];repeat' first|exact trivial|exact zI.refl _|exact zH.refl _|exact rfl|omega|apply And.intro|intro _)
  rintro i ⟨hi,he⟩
  refine gE [3,4,5,40] ?_
  refine zB ?_ ?_<;>intro c2<;>try simp only[toN]at c2
  ·refine zF env true [.call (zu (IntKind.i64.wrap ((c.feasts.getD i default).tdiv 100)) 1 12),.call (zu ((c.feasts.getD i default).tmod 100) 1 31)] [3,4,5,60] ?_
   refine zE ?_ ?_<;>intro c3<;>try simp only[bb,toN]at c3
   ·refine gE [3,4,5] ?_
    refine gT ?_
    have hq:WM c.feasts 0=false:=by
     rw[he,WM,if_pos (by omega),if_pos (by rcases c3 with h|h<;>simp only[zEd,h,Bool.not_false,Bool.true_or,Bool.or_true])]
    rw[Ym,hq]
    simp[Zz]
   ·refine gE [3,4,5] ?_
    refine zD (i+1) ?_ (hp:=by simp only[zC];repeat' first|exact trivial|exact zI.refl _|exact zH.refl _|exact rfl|omega|apply And.intro|intro _)
    refine ⟨by omega,he.trans ?_⟩
    rw[WM,if_pos (by omega),if_neg (by simp only[zEd,c3.1,c3.2,Bool.not_true,Bool.or_false];exact Bool.false_ne_true)]
  ·refine gR [.call (wV c.rest h2 0 6),.call (wV c.feasts h3 0 2000),.call (wV c.shut h4 0 100000)] [4] ?_
   refine gT ?_
   have hq:WM c.feasts 0=true:=by rw[he,WM,if_neg (by omega)]
   rw[Ym,hq,c1.1.1.1,c1.1.1.2,decide_eq_false (show ¬(60:Int)<c.feasts.length by omega),decide_eq_false (show ¬(200:Int)<c.shut.length by omega)]
   cases zg c.rest 0 6 0<;>cases zg c.feasts 0 2000 0<;>rfl
theorem zJf (o:Od) (h1:o.choices.length<=1000) (h2:o.rules.length<=1000):GC Tryz.prog 84 [odG o] (bG (ya o)):=by
 refine zA Tryz.func84 ?_
 refine gE [1,2] ?_
 refine zv 0 ?_
 refine gE [1,2,3] ?_
 refine zG (α:=Nat) (fun i=>i<=o.choices.length/\odF o.choices 0=odF o.choices i) (fun i=>[(3,iG i)]) (fun _=>[]) (fun i=>o.choices.length-i) 0 ⟨by omega,rfl⟩ ?_ (hp:=by simp only[zC];repeat' first|exact trivial|exact zI.refl _|exact zH.refl _|exact rfl|omega|apply And.intro|intro _)
 rintro i ⟨hi,he⟩
 refine gE [1,2,3,9] ?_
 refine zB ?_ ?_<;>intro c1<;>try simp only[toN]at c1
 ·refine gR [.call (zu (o.choices.getD i default).ask 0 21),.call (zu (o.choices.getD i default).by_ 0 4)] [1,2,3,29] ?_
  refine zE ?_ ?_<;>intro c2<;>try simp only[bb,toN]at c2
  ·refine gE [1,2,3] ?_
   refine gT ?_
   unfold ya
   have hq:odF o.choices 0=false:=by rw[he,odF,if_pos (by omega),if_pos (by rcases c2 with h|h<;>simp[odB,h,-List.getD_eq_getElem?_getD])]
   rw[hq];rfl
  ·refine gE [1,2,3,47] ?_
   refine zE ?_ ?_<;>intro c3<;>try simp only[bb,toN]at c3
   ·refine gE [1,2,3] ?_
    refine gT ?_
    unfold ya
    have hq:odF o.choices 0=false:=by rw[he,odF,if_pos (by omega),if_pos (by simp only[odB,Bool.or_eq_true,Bool.and_eq_true,decide_eq_true_eq];omega)]
    rw[hq];rfl
   ·refine gE [1,2,3] ?_
    refine zD (i+1) ?_ (hp:=by simp only[zC];repeat' first|exact trivial|exact zI.refl _|exact zH.refl _|exact rfl|omega|apply And.intro|intro _)
    refine ⟨by omega,he.trans ?_⟩
    rw[odF,if_pos (by omega),if_neg (by simp only[odB,c2.1,c2.2,Bool.or_eq_true,Bool.and_eq_true,decide_eq_true_eq,Bool.not_true,Bool.false_eq_true,false_or,or_false];omega)]
 ·refine gE [1,2,4] ?_
  refine zG (α:=Nat) (fun k=>k<=o.rules.length/\ruF o.rules 0=ruF o.rules k) (fun i=>[(4,iG i)]) (fun _=>[]) (fun i=>o.rules.length-i) 0 ⟨by omega,rfl⟩ ?_ (hp:=by simp only[zC];repeat' first|exact trivial|exact zI.refl _|exact zH.refl _|exact rfl|omega|apply And.intro|intro _)
  rintro k ⟨hk,hf⟩
  refine gE [1,2,4,52] ?_
  refine zB ?_ ?_<;>intro c4<;>try simp only[toN]at c4
  ·refine gR [.call (zu (o.rules.getD k default).ask 0 21)] [1,2,4,62] ?_
   refine zE ?_ ?_<;>intro c5<;>try simp only[bb,toN]at c5
   ·refine gE [1,2,4] ?_
    refine gT ?_
    unfold ya
    have ht:odF o.choices 0=true:=by rw[he,odF,if_neg (by omega)]
    have hq:ruF o.rules 0=false:=by rw[hf,ruF,if_pos (by omega),if_pos (by simp[ruB,c5,-List.getD_eq_getElem?_getD])]
    rw[ht,hq];rfl
   ·refine gE [1,2,4,80] ?_
    refine zE ?_ ?_<;>intro c6<;>try simp only[bb,toN]at c6
    ·refine gE [1,2,4] ?_
     refine gT ?_
     unfold ya
     have ht:odF o.choices 0=true:=by rw[he,odF,if_neg (by omega)]
     have hq:ruF o.rules 0=false:=by rw[hf,ruF,if_pos (by omega),if_pos (by simp only[ruB,Bool.or_eq_true,Bool.and_eq_true,decide_eq_true_eq];omega)]
     rw[ht,hq];rfl
    ·refine gE [1,2,4] ?_
     refine zD (k+1) ?_ (hp:=by simp only[zC];repeat' first|exact trivial|exact zI.refl _|exact zH.refl _|exact rfl|omega|apply And.intro|intro _)
     refine ⟨by omega,hf.trans ?_⟩
     rw[ruF,if_pos (by omega),if_neg (by simp only[ruB,c5,Bool.or_eq_true,Bool.and_eq_true,decide_eq_true_eq,Bool.not_true,Bool.false_eq_true,false_or,or_false];omega)]
  ·refine gE [2] ?_
   refine gT ?_
   unfold ya
   have ht:odF o.choices 0=true:=by rw[he,odF,if_neg (by omega)]
   have hq:ruF o.rules 0=true:=by rw[hf,ruF,if_neg (by omega)]
   rw[ht,hq];rfl
end Go.Gh
