/- Walks by the logic of calls, and plain laws (several texts in one). -/
import Derived.Test.YtlnnombljiecmaaGreatDoorM2
import Derived.Test.YtlnnombljiecmaaGreatDoorGh4
import Derived.Test.YtlnnombljiecmaaGreatDoorM1
namespace Go.Gh
open Go Go.Proofs
set_option maxRecDepth 1000000
set_option maxHeartbeats 2000000
set_option linter.unusedSimpArgs false
set_option linter.unusedVariables false
set_option linter.unnecessarySimpa false
set_option linter.unusedSectionVars false
variable [Dep]
open Go.RowKit
structure FitFi (f:Fil):Prop where
 bF:f.bF.length<=1000
 bH:f.bH.length<=1000
 acts:f.acts.length<=1000
 facts:f.facts.length<=1000
theorem jC (f:Fil) (day:Int) (h:FitFi f):GC Tryz.prog 13 [fiG f,iG day] (fiG (atV f day)):=at_ok f day (Nat.le_trans h.1 t23) (Nat.le_trans h.2 t23) (Nat.le_trans h.3 t23) (Nat.le_trans h.4 t23)
theorem vN {α:Type} (p:α->Bool) (l:List α):(l.takeWhile p).length<=l.length:=by
 induction l with
 |nil=>simp
 |cons a l ih=>rw[List.takeWhile_cons];split<;>simp<;>omega
theorem FitFi.at_ {f:Fil} (h:FitFi f) (day:Int):FitFi (atV f day):=by
 rw[ZQ]
 exact ⟨Nat.le_trans (vN _ _) h.1,Nat.le_trans (List.length_filter_le _ _) h.2,Nat.le_trans (vN _ _) h.3,Nat.le_trans (List.length_filter_le _ _) h.4⟩
def qn (c:Cas):Bool:=bif bif bif !WR c.sign c.file.bF.length then true else decide (c.bM< -1)then true else decide ((c.file.bF.length:Int)<=mxI c.bM 0)then true else bif !decide (c.due= -1)then !WR c.due 100001 else false
def Zr (n k:Int):Bool:= !decide (yz .i64 n k=0)
def QD (r:Rlm) (c:Cas):List Cel:=
 if qn c=true then []else
 if (!WR (c.file.bF.getD c.sign.toNat dF).day 100001)=true then []else
 let s:=c.file.bF.getD c.sign.toNat dF
 let b:=c.file.bill
 let gap:=if c.due= -1 then 0 else IntKind.i64.wrap (s.day-c.due)
 let h:=mxI c.bM 0
 [⟨true,b.sum⟩,⟨true,b.parts⟩,⟨true,b.ten.kind⟩,⟨true,b.rate⟩,⟨true,s.kind⟩,⟨true,c.defence⟩,⟨true,gap⟩,
  JS (Zr b.flags 1),JS (decide (b.bQ= -1)),JS (Zr b.flags 4),JS (Zr b.flags 2),JS (!decide (zl r b.city=zl r b.pay)),JS (c.file.bH.any fun a=>vo a c),JS (Zr s.flags 1),JS (decide (0<gap)),
  Zf c.file 0 c.sign,Zf c.file 1 c.sign,Zf c.file 2 c.sign,Zf c.file 3 h,Zf c.file 4 h]
def zZl (r:Rlm) (c:Cas) (s:Sgn) (gap:Int):List (Nat×Int):=[(0,c.file.bill.sum),(1,c.file.bill.parts),(2,c.file.bill.ten.kind),(3,c.file.bill.rate),(4,s.kind),(5,c.defence),(6,gap)]
def zZk (r:Rlm) (c:Cas) (s:Sgn) (gap:Int):List (Nat×Bool):=[(7,Zr c.file.bill.flags 1),(8,decide (c.file.bill.bQ= -1)),(9,Zr c.file.bill.flags 4),(10,Zr c.file.bill.flags 2),(11,!decide (zl r c.file.bill.city=zl r c.file.bill.pay)),(12,c.file.bH.any fun a=>vo a c),(13,Zr s.flags 1),(14,decide (0<gap))]
def ZEa (e:Nat×Int):Value×Value:=(.int .i64 (e.1:Int),.int .i64 e.2)
def ZDz (e:Nat×Bool):Value×Value:=(.int .i64 (e.1:Int),.bool e.2)
def zWb (o:List Cel) (e:Nat×Int):List Cel:=o.set e.1 ⟨true,e.2⟩
def zWa (o:List Cel) (e:Nat×Bool):List Cel:=o.set e.1 (JS e.2)
theorem HQ {α:Type} (l:List α) (i j:Nat) (a b:α) (h:i≠j):(l.set i a).set j b=(l.set j b).set i a:=List.set_comm a b h
theorem XT {α β:Type} {f:β->α->β} {l l':List α} (key:α->Nat) (hk:(l'.map key).Nodup) (hc:∀x y z,key x≠key y->f (f z x) y=f (f z y) x) (h:l.Perm l') (z:β):l.foldl f z=l'.foldl f z:=by
 have hn:(l.map key).Nodup:=(h.map key).nodup_iff.2 hk
 refine h.foldl_eq' (fun x hx y hy z=> ?_) z
 by_cases e:key x=key y
 ·have:x=y:=by
   obtain ⟨i,hi,rfl⟩:=List.mem_iff_getElem.1 hx
   obtain ⟨j,hj,rfl⟩:=List.mem_iff_getElem.1 hy
   have hij:i=j:=by
    refine (List.getElem_inj (h₀:=by simpa using hi) (h₁:=by simpa using hj) hn).1 ?_
    simpa using e
   subst hij;rfl
  rw[this]
 exact hc x y z e
theorem zBn {α:Type} {enc:α->Value×Value} (dec:Value×Value->α) (hd:∀x,dec (enc x)=x) {l l':List α} (h:(l.map enc).Perm (l'.map enc)):l.Perm l':=by
 have:=h.map dec
 rwa[List.map_map,List.map_map,show dec∘enc=id from funext hd,List.map_id,List.map_id]at this
theorem Hf:∀(ds:List (Nat×Int)) (o:List Cel),(ds.foldl zWb o).length=o.length:=by
 intro ds
 induction ds with
 |nil=>intro o;rfl
 |cons a l ih=>intro o;rw[List.foldl_cons,ih];simp[zWb]
theorem He:∀(ds:List (Nat×Bool)) (o:List Cel),(ds.foldl zWa o).length=o.length:=by
 intro ds
 induction ds with
 |nil=>intro o;rfl
 |cons a l ih=>intro o;rw[List.foldl_cons,ih];simp[zWa]
def dec1 (p:Value×Value):Nat×Int:=match p with|(.int _ a,.int _ b)=>(a.toNat,b)|_=>(0,0)
def dec2 (p:Value×Value):Nat×Bool:=match p with|(.int _ a,.bool b)=>(a.toNat,b)|_=>(0,false)
theorem zUu (r:Rlm) (c:Cas) (hr:FitR r) (hF:FitFi c.file):GC Tryz.prog 211 [rlG r,caG c] (.d (.row dF ceC (QD r c))):=by
 have h1:=hF.bF
 have h2:=hF.bH
 have h3:=hF.facts
 refine zA Tryz.func211 ?_
 refine gE [2,3,4] ?_
 refine ZA 1 ?_
 refine gE [2,3,4,5,6] ?_
 refine gE [2,3,4,5,6,7] ?_
 refine gR [.call (Jz c.sign (c.file.bF.length:Int)),.call (Jz c.due 100001)] [2,3,4,5,6,7,54] ?_
 refine zF (fun c1=> ?_) (fun c1=> ?_)
 ·refine gE [4] ?_
  refine Zq env ?_
  rw[QD,iP (by exact c1)];exact Ent.nil
 have hb:=c1
 have hv:qn c=false:=c1
 unfold qn WR at hv
 simp only[bb]at hv
 have hs:0<=c.sign/\c.sign<c.file.bF.length:=by omega
 obtain ⟨s,es⟩:∃s,s=c.file.bF.getD c.sign.toNat dF:=⟨_,rfl⟩
 obtain ⟨h,eh⟩:∃h,h=mxI c.bM 0:=⟨_,rfl⟩
 refine gP [] [2,3,5,6,7,8] ?_
 refine gR [.call (Jz (c.file.bF.getD c.sign.toNat dF).day 100001)] [2,3,5,6,7,8,64] ?_
 refine zF (fun c2=> ?_) (fun c2=> ?_)
 ·refine gE [4] ?_
  refine Zq env ?_
  rw[QD,iQ (by rw[show qn c=false from hb];decide),iP (by exact c2)];exact Ent.nil
 refine gE [2,3,5,6,7,8,9] ?_
 refine gE [2,3,5,6,7,8,9,67] ?_
 refine yO (α:=Int) (fun z=>z=(if c.due= -1 then 0 else IntKind.i64.wrap ((c.file.bF.getD c.sign.toNat dF).day-c.due))) (fun z=>⟨[(2,.ptr 0 0 0 0),(3,.ep (caC c)),(5,.ptr 2 0 0 0),(6,.ptr 3 0 0 0),(7,iG (mxI c.bM 0)),(8,.ptr 4 0 0 0),(9,iG z)],[(0,some (.box [.d (.row dF zg r.bA),.d (.row dF ctC r.bB),.d (.row dF inC r.groups),.d (.row dF fmC r.bC),.d (.row dF odC r.bD),.d (.row dF usC r.bE),.d (.row dF rtC r.rates),.d (.row dF htC r.halts)])),(2,some (.box [iG c.file.bill.bP,iG c.file.bill.bO,iG c.file.bill.bQ,iG c.file.bill.sum,iG c.file.bill.cur,iG c.file.bill.ten.kind,iG c.file.bill.ten.n,iG c.file.bill.ten.unit,iG c.file.bill.day,iG c.file.bill.city,iG c.file.bill.pay,iG c.file.bill.need,iG c.file.bill.rate,iG c.file.bill.flags,iG c.file.bill.parts,.d (.row dF sgC c.file.bF),.d (.row dF alC c.file.bH),.d (.row dF acC c.file.acts),.d (.row dF fcC c.file.facts)])),(3,some (.box [iG c.file.bill.bP,iG c.file.bill.bO,iG c.file.bill.bQ,iG c.file.bill.sum,iG c.file.bill.cur,iG c.file.bill.ten.kind,iG c.file.bill.ten.n,iG c.file.bill.ten.unit,iG c.file.bill.day,iG c.file.bill.city,iG c.file.bill.pay,iG c.file.bill.need,iG c.file.bill.rate,iG c.file.bill.flags,iG c.file.bill.parts])),(4,some (.box [iG ((c.file.bF.getD c.sign.toNat dF).kind),iG ((c.file.bF.getD c.sign.toNat dF).part),iG ((c.file.bF.getD c.sign.toNat dF).who),iG ((c.file.bF.getD c.sign.toNat dF).for_),iG ((c.file.bF.getD c.sign.toNat dF).to_),iG ((c.file.bF.getD c.sign.toNat dF).sum),iG ((c.file.bF.getD c.sign.toNat dF).day),iG ((c.file.bF.getD c.sign.toNat dF).city),iG ((c.file.bF.getD c.sign.toNat dF).flags)]))],5⟩) ?_ ?_
 rotate_left
 ·refine zQ (fun c3=> ?_) (fun c3=> ?_)
  ·refine zG env true [] [2,3,5,6,7,8,9] ?_
   exact zV _ (by rw[iQ c3]) (hp:=t45)
  exact zV 0 (by rw[iP c3]) (hp:=t45)
 rintro gap eg
 refine gR [.el dF ceC (List.replicate 20 (⟨false,0⟩:Cel))] [2,3,5,6,7,8,9,10] ?_ (hp:=(by simp only[zC,bb,toN,loI,hiI];repeat' first|exact trivial|exact zH.refl _|exact zE.refl _|exact rfl|(rw[zS,List.map_replicate];rfl)|omega|apply And.intro|intro _))
 refine Jl env false 23 [.mp [(.int .i64 0,.int .i64 c.file.bill.sum)],.mp [(.int .i64 0,.int .i64 c.file.bill.sum),(.int .i64 1,.int .i64 c.file.bill.parts)],.mp [(.int .i64 0,.int .i64 c.file.bill.sum),(.int .i64 1,.int .i64 c.file.bill.parts),(.int .i64 2,.int .i64 c.file.bill.ten.kind)],.mp [(.int .i64 0,.int .i64 c.file.bill.sum),(.int .i64 1,.int .i64 c.file.bill.parts),(.int .i64 2,.int .i64 c.file.bill.ten.kind),(.int .i64 3,.int .i64 c.file.bill.rate)],.mp [(.int .i64 0,.int .i64 c.file.bill.sum),(.int .i64 1,.int .i64 c.file.bill.parts),(.int .i64 2,.int .i64 c.file.bill.ten.kind),(.int .i64 3,.int .i64 c.file.bill.rate),(.int .i64 4,.int .i64 ((c.file.bF.getD c.sign.toNat dF).kind))],.mp [(.int .i64 0,.int .i64 c.file.bill.sum),(.int .i64 1,.int .i64 c.file.bill.parts),(.int .i64 2,.int .i64 c.file.bill.ten.kind),(.int .i64 3,.int .i64 c.file.bill.rate),(.int .i64 4,.int .i64 ((c.file.bF.getD c.sign.toNat dF).kind)),(.int .i64 5,.int .i64 c.defence)],.mp [(.int .i64 0,.int .i64 c.file.bill.sum),(.int .i64 1,.int .i64 c.file.bill.parts),(.int .i64 2,.int .i64 c.file.bill.ten.kind),(.int .i64 3,.int .i64 c.file.bill.rate),(.int .i64 4,.int .i64 ((c.file.bF.getD c.sign.toNat dF).kind)),(.int .i64 5,.int .i64 c.defence),(.int .i64 6,.int .i64 gap)]] 6 90 91 92 93 6 ((zZl r c (c.file.bF.getD c.sign.toNat dF) gap).map ZEa) (fun done out=>∃ds:List (Nat×Int),done=ds.map ZEa/\out=ds.foldl zWb (List.replicate 20 (⟨false,0⟩:Cel))) (fun out=>[(2,.ptr 0 0 0 0),(3,.ep (caC c)),(5,.ptr 2 0 0 0),(6,.ptr 3 0 0 0),(7,iG (mxI c.bM 0)),(8,.ptr 4 0 0 0),(9,iG gap),(10,.sl 5 2 0 20)]) (fun out=>[(0,some (.box [.d (.row dF zg r.bA),.d (.row dF ctC r.bB),.d (.row dF inC r.groups),.d (.row dF fmC r.bC),.d (.row dF odC r.bD),.d (.row dF usC r.bE),.d (.row dF rtC r.rates),.d (.row dF htC r.halts)])),(2,some (.box [iG c.file.bill.bP,iG c.file.bill.bO,iG c.file.bill.bQ,iG c.file.bill.sum,iG c.file.bill.cur,iG c.file.bill.ten.kind,iG c.file.bill.ten.n,iG c.file.bill.ten.unit,iG c.file.bill.day,iG c.file.bill.city,iG c.file.bill.pay,iG c.file.bill.need,iG c.file.bill.rate,iG c.file.bill.flags,iG c.file.bill.parts,.d (.row dF sgC c.file.bF),.d (.row dF alC c.file.bH),.d (.row dF acC c.file.acts),.d (.row dF fcC c.file.facts)])),(3,some (.box [iG c.file.bill.bP,iG c.file.bill.bO,iG c.file.bill.bQ,iG c.file.bill.sum,iG c.file.bill.cur,iG c.file.bill.ten.kind,iG c.file.bill.ten.n,iG c.file.bill.ten.unit,iG c.file.bill.day,iG c.file.bill.city,iG c.file.bill.pay,iG c.file.bill.need,iG c.file.bill.rate,iG c.file.bill.flags,iG c.file.bill.parts])),(4,some (.box [iG ((c.file.bF.getD c.sign.toNat dF).kind),iG ((c.file.bF.getD c.sign.toNat dF).part),iG ((c.file.bF.getD c.sign.toNat dF).who),iG ((c.file.bF.getD c.sign.toNat dF).for_),iG ((c.file.bF.getD c.sign.toNat dF).to_),iG ((c.file.bF.getD c.sign.toNat dF).sum),iG ((c.file.bF.getD c.sign.toNat dF).day),iG ((c.file.bF.getD c.sign.toNat dF).city),iG ((c.file.bF.getD c.sign.toNat dF).flags)])),(5,some (.row 74 2 dF ceC out 0))]) (List.replicate 20 (⟨false,0⟩:Cel)) ⟨[],rfl,rfl⟩ ?_ ?_ rfl
 ·rintro r0 done k v rest out hperm ⟨ds,hds,ho⟩
  obtain ⟨e,he,hek⟩:=List.mem_map.1 (hperm.mem_iff.1 (List.mem_append_right _ List.mem_cons_self))
  simp only[ZEa,Prod.mk.injEq]at hek
  obtain ⟨rfl,rfl⟩:=hek
  have he20:e.1<20:=by
   simp only[zZl,List.mem_cons,List.not_mem_nil,or_false]at he
   rcases he with rfl|rfl|rfl|rfl|rfl|rfl|rfl<;>simp
  have hol:out.length=20:=by rw[ho,Hf];simp
  refine WI env false [] [2,3,5,6,7,8,9,10,11,12,90] ?_
  refine gR [.el dF ceC (out.set e.1 (⟨true,e.2⟩:Cel))] [2,3,5,6,7,8,9,10,90] ?_ (hp:=(by simp only[zC,bb,toN,loI,hiI,Nat.zero_add];repeat' first|exact (ZV (cs:=ceC) t26 rfl t25).symm|exact Nat.le_refl _|exact trivial|exact zH.refl _|exact zE.refl _|exact rfl|omega|apply And.intro|intro _|(simp;done)))
  exact vg (out.set e.1 ⟨true,e.2⟩) ⟨ds++ [e],by rw[List.map_append,hds];rfl,by rw[ho,List.foldl_append];rfl⟩
 rintro done out hperm ⟨ds,rfl,ho⟩
 have ho1:out=(zZl r c (c.file.bF.getD c.sign.toNat dF) gap).foldl zWb (List.replicate 20 (⟨false,0⟩:Cel)):=ho.trans (XT (·.1) (by simp[zZl]) (fun x y z h=>HQ _ _ _ _ _ h) (zBn dec1 (fun x=>rfl) hperm) _)
 have hol:out.length=20:=by rw[ho1,Hf];simp
 clear ho hperm
 refine gR [.call (Kd c.file.bH t11 c)] [2,3,5,6,7,8,9,10,13] ?_
 refine gR [.call (YM r c.file.bill.city hr),.call (YM r c.file.bill.pay hr)] [3,5,6,7,8,9,10,13,14] ?_
 refine Jl env false 33 [.mp [(.int .i64 7,.bool (Zr c.file.bill.flags 1))],.mp [(.int .i64 7,.bool (Zr c.file.bill.flags 1)),(.int .i64 8,.bool (decide (c.file.bill.bQ= -1)))],.mp [(.int .i64 7,.bool (Zr c.file.bill.flags 1)),(.int .i64 8,.bool (decide (c.file.bill.bQ= -1))),(.int .i64 9,.bool (Zr c.file.bill.flags 4))],.mp [(.int .i64 7,.bool (Zr c.file.bill.flags 1)),(.int .i64 8,.bool (decide (c.file.bill.bQ= -1))),(.int .i64 9,.bool (Zr c.file.bill.flags 4)),(.int .i64 10,.bool (Zr c.file.bill.flags 2))],.mp [(.int .i64 7,.bool (Zr c.file.bill.flags 1)),(.int .i64 8,.bool (decide (c.file.bill.bQ= -1))),(.int .i64 9,.bool (Zr c.file.bill.flags 4)),(.int .i64 10,.bool (Zr c.file.bill.flags 2)),(.int .i64 11,.bool (!decide (zl r c.file.bill.city=zl r c.file.bill.pay)))],.mp [(.int .i64 7,.bool (Zr c.file.bill.flags 1)),(.int .i64 8,.bool (decide (c.file.bill.bQ= -1))),(.int .i64 9,.bool (Zr c.file.bill.flags 4)),(.int .i64 10,.bool (Zr c.file.bill.flags 2)),(.int .i64 11,.bool (!decide (zl r c.file.bill.city=zl r c.file.bill.pay))),(.int .i64 12,.bool (c.file.bH.any fun a=>vo a c))],.mp [(.int .i64 7,.bool (Zr c.file.bill.flags 1)),(.int .i64 8,.bool (decide (c.file.bill.bQ= -1))),(.int .i64 9,.bool (Zr c.file.bill.flags 4)),(.int .i64 10,.bool (Zr c.file.bill.flags 2)),(.int .i64 11,.bool (!decide (zl r c.file.bill.city=zl r c.file.bill.pay))),(.int .i64 12,.bool (c.file.bH.any fun a=>vo a c)),(.int .i64 13,.bool (Zr (c.file.bF.getD c.sign.toNat dF).flags 1))],.mp [(.int .i64 7,.bool (Zr c.file.bill.flags 1)),(.int .i64 8,.bool (decide (c.file.bill.bQ= -1))),(.int .i64 9,.bool (Zr c.file.bill.flags 4)),(.int .i64 10,.bool (Zr c.file.bill.flags 2)),(.int .i64 11,.bool (!decide (zl r c.file.bill.city=zl r c.file.bill.pay))),(.int .i64 12,.bool (c.file.bH.any fun a=>vo a c)),(.int .i64 13,.bool (Zr (c.file.bF.getD c.sign.toNat dF).flags 1)),(.int .i64 14,.bool (decide (0<gap)))]] 6 139 140 141 142 6 ((zZk r c (c.file.bF.getD c.sign.toNat dF) gap).map ZDz) (fun done o2=>∃ds:List (Nat×Bool),done=ds.map ZDz/\o2=ds.foldl zWa out) (fun o2=>[(3,.ep (caC c)),(5,.ptr 2 0 0 0),(7,iG (mxI c.bM 0)),(10,.sl 5 2 0 20)]) (fun o2=>[(2,some (.box [iG c.file.bill.bP,iG c.file.bill.bO,iG c.file.bill.bQ,iG c.file.bill.sum,iG c.file.bill.cur,iG c.file.bill.ten.kind,iG c.file.bill.ten.n,iG c.file.bill.ten.unit,iG c.file.bill.day,iG c.file.bill.city,iG c.file.bill.pay,iG c.file.bill.need,iG c.file.bill.rate,iG c.file.bill.flags,iG c.file.bill.parts,.d (.row dF sgC c.file.bF),.d (.row dF alC c.file.bH),.d (.row dF acC c.file.acts),.d (.row dF fcC c.file.facts)])),(5,some (.row 74 2 dF ceC o2 0))]) out ⟨[],rfl,rfl⟩ ?_ ?_ rfl
 ·rintro r0 done k v rest o2 hperm ⟨ds,hds,ho⟩
  obtain ⟨e,he,hek⟩:=List.mem_map.1 (hperm.mem_iff.1 (List.mem_append_right _ List.mem_cons_self))
  simp only[ZDz,Prod.mk.injEq]at hek
  obtain ⟨rfl,rfl⟩:=hek
  have he20:e.1<20:=by
   simp only[zZk,List.mem_cons,List.not_mem_nil,or_false]at he
   rcases he with rfl|rfl|rfl|rfl|rfl|rfl|rfl|rfl<;>simp
  have hol2:o2.length=20:=by rw[ho,He];exact hol
  refine WI env false [] [3,5,7,10,15,16,139] ?_
  refine gR [.call (HJ e.2),.el dF ceC (o2.set e.1 (JS e.2))] [3,5,7,10,139] ?_ (hp:=(by simp only[zC,bb,toN,loI,hiI,Nat.zero_add];repeat' first|exact (ZV (cs:=ceC) t26 rfl t25).symm|exact Nat.le_refl _|exact trivial|exact zH.refl _|exact zE.refl _|exact rfl|omega|apply And.intro|intro _|(simp;done)))
  exact vg (o2.set e.1 (JS e.2)) ⟨ds++ [e],by rw[List.map_append,hds];rfl,by rw[ho,List.foldl_append];rfl⟩
 rintro done o2 hperm ⟨ds,rfl,ho⟩
 have ho2:o2=(zZk r c (c.file.bF.getD c.sign.toNat dF) gap).foldl zWa out:=ho.trans (XT (·.1) (by simp[zZk]) (fun x y z h=>HQ _ _ _ _ _ h) (zBn dec2 (fun x=>rfl) hperm) _)
 have hol2:o2.length=20:=by rw[ho2,He];exact hol
 clear ho hperm
 refine gR [.call (Wx c.file 0 c.sign t11),.el dF ceC (o2.set 15 (Zf c.file 0 c.sign))] [5,7,10,3] ?_ (hp:=(by simp only[zC,bb,toN,loI,hiI,Nat.zero_add];repeat' first|exact (ZV (cs:=ceC) t26 rfl t25).symm|exact Nat.le_refl _|exact trivial|exact zH.refl _|exact zE.refl _|exact rfl|omega|apply And.intro|intro _|(simp;done)))
 refine gR [.call (Wx c.file 1 c.sign t11),.el dF ceC ((o2.set 15 (Zf c.file 0 c.sign)).set 16 (Zf c.file 1 c.sign))] [5,7,10,3] ?_ (hp:=(by simp only[zC,bb,toN,loI,hiI,Nat.zero_add];repeat' first|exact (ZV (cs:=ceC) t21 rfl t25).symm|exact Nat.le_refl _|exact trivial|exact zH.refl _|exact zE.refl _|exact rfl|omega|apply And.intro|intro _|(simp only[List.length_set];omega)))
 refine gR [.call (Wx c.file 2 c.sign t11),.el dF ceC (((o2.set 15 (Zf c.file 0 c.sign)).set 16 (Zf c.file 1 c.sign)).set 17 (Zf c.file 2 c.sign))] [5,7,10,3] ?_ (hp:=(by simp only[zC,bb,toN,loI,hiI,Nat.zero_add];repeat' first|exact (ZV (cs:=ceC) t21 rfl t25).symm|exact Nat.le_refl _|exact trivial|exact zH.refl _|exact zE.refl _|exact rfl|omega|apply And.intro|intro _|(simp only[List.length_set];omega)))
 refine gR [.call (Wx c.file 3 (mxI c.bM 0) t11),.el dF ceC ((((o2.set 15 (Zf c.file 0 c.sign)).set 16 (Zf c.file 1 c.sign)).set 17 (Zf c.file 2 c.sign)).set 18 (Zf c.file 3 (mxI c.bM 0)))] [5,7,10,3] ?_ (hp:=(by simp only[zC,bb,toN,loI,hiI,Nat.zero_add];repeat' first|exact (ZV (cs:=ceC) t21 rfl t25).symm|exact Nat.le_refl _|exact trivial|exact zH.refl _|exact zE.refl _|exact rfl|omega|apply And.intro|intro _|(simp only[List.length_set];omega)))
 refine gR [.call (Wx c.file 4 (mxI c.bM 0) t11),.el dF ceC (((((o2.set 15 (Zf c.file 0 c.sign)).set 16 (Zf c.file 1 c.sign)).set 17 (Zf c.file 2 c.sign)).set 18 (Zf c.file 3 (mxI c.bM 0))).set 19 (Zf c.file 4 (mxI c.bM 0)))] [5,7,10,3] ?_ (hp:=(by simp only[zC,bb,toN,loI,hiI,Nat.zero_add];repeat' first|exact (ZV (cs:=ceC) t21 rfl t25).symm|exact Nat.le_refl _|exact trivial|exact zH.refl _|exact zE.refl _|exact rfl|omega|apply And.intro|intro _|(simp only[List.length_set];omega)))
 refine gE [4] ?_
 refine gT ?_ (hp:=by simp only[zC,List.length_set,hol2];repeat' first|exact trivial|exact rfl|apply And.intro)
 have hfin:QD r c=(((((o2.set 15 (Zf c.file 0 c.sign)).set 16 (Zf c.file 1 c.sign)).set 17 (Zf c.file 2 c.sign)).set 18 (Zf c.file 3 (mxI c.bM 0))).set 19 (Zf c.file 4 (mxI c.bM 0))):=by
  rw[QD,iQ (by rw[show qn c=false from hb];decide),iQ (by rw[c2];decide),ho2,ho1,eg]
  rfl
 rw[hfin];rfl
theorem zJk (r:Rlm) (c:Cas):(QD r c).length=0∨(QD r c).length=20:=by
 unfold QD
 split
 ·simp
 split<;>simp
theorem Vg {r:Rlm} {c:Cas} (h:¬(QD r c).length=0):0<=c.sign/\c.sign<c.file.bF.length:=by
 unfold QD at h
 split at h
 ·simp at h
 rename_i hb
 unfold qn WR at hb
 rw[Bool.not_eq_true]at hb
 simp only[bb]at hb
 omega
theorem zXo (r:Rlm) (bK ask:Int) (places:List Int) (hR:RightR r) (hp:places.length<=9223372036854775807):GC Tryz.prog 177 [rlG r,iG bK,iG ask,qq places] (.tup [qq (Qx r bK ask places).1,iG (Qx r bK ask places).2]):=ZCy r hR bK ask places hp
def ofV (r:Rlm) (c:Cas):Cas×(List Cel):=(⟨(atV c.file c.day),c.sign,c.bM,c.defence,c.due,c.day⟩,(QD r (⟨(atV c.file c.day),c.sign,c.bM,c.defence,c.due,c.day⟩:Cas)))
theorem of_ok (r:Rlm) (c:Cas) (hR:RR r) (hF:FitFi c.file):GC Tryz.prog 174 [rlG r,caG c] (.tup [caG ((ofV r c).1),.d (.row dF ceC ((ofV r c).2))]):=by
 have hr:=hR.right.fit
 have h1:=hr.bD
 have h2:=hr.bB
 have h3:=hr.bC
 refine zA Tryz.func174 ?_
 refine gE [2,3,4,5] ?_
 refine gR [.call (jC c.file c.day (by first|assumption|exact FitFi.at_ t12 _))] [2,3,4,5] ?_
 refine gR [.call (zUu r (⟨(atV c.file c.day),c.sign,c.bM,c.defence,c.due,c.day⟩:Cas) hr (by first|assumption|exact FitFi.at_ t12 _))] [4,5] ?_
 refine gT ?_
 rw[ofV];rfl
def Zj (r:Rlm) (bK:Int) (c:Cas):List Int:=if (bif (bif (bif decide (((c.file.bF.getD c.sign.toNat dF).who)<0)then true else decide ((r.bC.length:Int)<=((c.file.bF.getD c.sign.toNat dF).who)))then true else decide (bK<0))then true else decide ((r.bD.length:Int)<=bK))=true then []else if (qv ((((((List.replicate 5 0).set 0 bK).set 1 (zl r ((c.file.bF.getD c.sign.toNat dF).city))).set 2 (zl r c.file.bill.pay)).set 3 (zl r c.file.bill.city)).set 4 (zl r ((r.bC.getD (((c.file.bF.getD c.sign.toNat dF).who).toNat) dF).city))) (-1))=true then []else (((((List.replicate 5 0).set 0 bK).set 1 (zl r ((c.file.bF.getD c.sign.toNat dF).city))).set 2 (zl r c.file.bill.pay)).set 3 (zl r c.file.bill.city)).set 4 (zl r ((r.bC.getD (((c.file.bF.getD c.sign.toNat dF).who).toNat) dF).city))
theorem XC (r:Rlm) (bK:Int) (c:Cas) (hR:RR r) (hF:FitFi c.file) (hs:0<=c.sign/\c.sign<c.file.bF.length):GC Tryz.prog 176 [rlG r,iG bK,caG c] (nilG dF inC (Zj r bK c)):=by
 have hr:=hR.right.fit
 have h1:=hr.bD
 have h2:=hr.bB
 have h3:=hr.bC
 have h4:=hF.bF
 refine zA Tryz.func176 ?_ (hg:=zWr _ _ _)
 refine gE [1,3,5,6] ?_
 refine gE [1,3,6,7,8] ?_
 refine gE [1,3,6,7,8,41] ?_
 refine zF ?_ ?_<;>intro c1<;>try simp only[bb,toN]at c1
 ·refine gE [1,3,6,7,8] ?_
  refine gT ?_
  rw[Zj,iP (by (try simp only[bb,toN]);exact c1)];rfl
 refine gR [.el dF inC (List.replicate 5 0)] [1,3,6,7,8,9] ?_ (hp:=t33)
 refine gR [.el dF inC ((List.replicate 5 0).set 0 bK)] [3,6,7,8,9] ?_ (hp:=(by simp only[zC,bb,toN,loI,hiI,Nat.zero_add];repeat' first|exact (ZV (cs:=inC) t26 rfl t25).symm|exact Nat.le_refl _|exact trivial|exact zH.refl _|exact zE.refl _|exact rfl|omega|apply And.intro|intro _|(simp;done)))
 refine gR [.call (YM r ((c.file.bF.getD c.sign.toNat dF).city) hr),.el dF inC (((List.replicate 5 0).set 0 bK).set 1 (zl r ((c.file.bF.getD c.sign.toNat dF).city)))] [3,6,7,8,9] ?_ (hp:=(by simp only[zC,bb,toN,loI,hiI,Nat.zero_add];repeat' first|exact (ZV (cs:=inC) t26 rfl t25).symm|exact Nat.le_refl _|exact trivial|exact zH.refl _|exact zE.refl _|exact rfl|omega|apply And.intro|intro _|(simp;done)))
 refine gR [.call (YM r c.file.bill.pay hr),.el dF inC ((((List.replicate 5 0).set 0 bK).set 1 (zl r ((c.file.bF.getD c.sign.toNat dF).city))).set 2 (zl r c.file.bill.pay))] [3,6,7,8,9] ?_ (hp:=(by simp only[zC,bb,toN,loI,hiI,Nat.zero_add];repeat' first|exact (ZV (cs:=inC) t26 rfl t25).symm|exact Nat.le_refl _|exact trivial|exact zH.refl _|exact zE.refl _|exact rfl|omega|apply And.intro|intro _|(simp;done)))
 refine gR [.call (YM r c.file.bill.city hr),.el dF inC (((((List.replicate 5 0).set 0 bK).set 1 (zl r ((c.file.bF.getD c.sign.toNat dF).city))).set 2 (zl r c.file.bill.pay)).set 3 (zl r c.file.bill.city))] [3,6,7,9] ?_ (hp:=(by simp only[zC,bb,toN,loI,hiI,Nat.zero_add];repeat' first|exact (ZV (cs:=inC) t26 rfl t25).symm|exact Nat.le_refl _|exact trivial|exact zH.refl _|exact zE.refl _|exact rfl|omega|apply And.intro|intro _|(simp;done)))
 refine gR [.call (YM r ((r.bC.getD (((c.file.bF.getD c.sign.toNat dF).who).toNat) dF).city) hr),.el dF inC ((((((List.replicate 5 0).set 0 bK).set 1 (zl r ((c.file.bF.getD c.sign.toNat dF).city))).set 2 (zl r c.file.bill.pay)).set 3 (zl r c.file.bill.city)).set 4 (zl r ((r.bC.getD (((c.file.bF.getD c.sign.toNat dF).who).toNat) dF).city)))] [6,9] ?_ (hp:=(by simp only[zC,bb,toN,loI,hiI,Nat.zero_add];repeat' first|exact (ZV (cs:=inC) t26 rfl t25).symm|exact Nat.le_refl _|exact trivial|exact zH.refl _|exact zE.refl _|exact rfl|omega|apply And.intro|intro _|(simp;done)))
 refine gR [.call ((fun l x h=>zi l h x) ((((((List.replicate 5 0).set 0 bK).set 1 (zl r ((c.file.bF.getD c.sign.toNat dF).city))).set 2 (zl r c.file.bill.pay)).set 3 (zl r c.file.bill.city)).set 4 (zl r ((r.bC.getD (((c.file.bF.getD c.sign.toNat dF).who).toNat) dF).city))) (-1) t17)] [6,9,76] ?_
 refine zF ?_ ?_<;>intro c2<;>try simp only[bb,toN]at c2
 ·refine gE [6,9] ?_
  refine gT ?_
  rw[Zj,iN (by (try simp only[bb,toN]);exact c1),iP (by (try simp only[bb,toN]);exact c2)];rfl
 refine gE [6] ?_
 refine gT ?_
 rw[Zj,iN (by (try simp only[bb,toN]);exact c1),iN (by (try simp only[bb,toN]);exact c2)];rfl
def ZBf:Sad:=⟨⟨false,0⟩,-1,[],1⟩
def yB (r:Rlm) (bK q:Int) (c:Cas):Sad×List Cel:=if (ofV r c).2.length=0 then (ZBf,[])else if (JR q).2=false then (ZBf,[])else if (Zj r bK (ofV r c).1)= []then (ZBf,[])else
 if (Qx r bK q (Zj r bK (ofV r c).1)).2=0 then (⟨⟨false,0⟩,(Qx r bK q (Zj r bK (ofV r c).1)).1.getD ((Qx r bK q (Zj r bK (ofV r c).1)).1.length-1) dF,(Qx r bK q (Zj r bK (ofV r c).1)).1,0⟩,(ofV r c).2)else (⟨⟨false,0⟩,-1,(Qx r bK q (Zj r bK (ofV r c).1)).1,(Qx r bK q (Zj r bK (ofV r c).1)).2⟩,(ofV r c).2)
theorem zQa (r:Rlm) (c:Cas):(ofV r c).1.file=atV c.file c.day/\(ofV r c).1.sign=c.sign/\(ofV r c).2=QD r (ofV r c).1:=⟨rfl,rfl,rfl⟩
theorem Hh (r:Rlm) (bK:Int) (c:Cas):(Zj r bK c).length<=5:=by
 unfold Zj
 repeat' split
 all_goals simp
theorem ZCz {r:Rlm} (hR:RightR r) {q:Int} {l:List Int} (hf:∀x,x∈l->0<=x/\x<r.bD.length) (h5:l.length=5) (hq:0<=q/\q<22):∀(n:Nat) (p:List Int),LwI r p->1<=(VK r q l n p).1.length/\(VK r q l n p).1.length<=r.bD.length+1/\∀x,x∈(VK r q l n p).1->0<=x/\x<r.bD.length:=by
 intro n
 induction n with
 |zero=>intro p h;exact ⟨h.pos,by have:=h.len;show p.length<=_;omega,h.rng⟩
 |succ n ih=>
  intro p h
  have hl:=h.len
  have hp:=h.pos
  have hnx:=XM (ask:=q) hf (h.rng _ (zK (l:=p) (i:=p.length-1) t11)) h5 hR hq
  have hap:∀x,x∈p++ [(Zu r (p.getD (p.length-1) dF) q l).1]->0<=x/\x<r.bD.length:=fun x hx=>by
   rcases List.mem_append.1 hx with hx|hx
   ·exact h.rng x hx
   simp only[List.mem_singleton]at hx;subst hx;exact hnx
  unfold VK
  split
  ·exact ⟨hp,by dsimp only;omega,h.rng⟩
  split
  ·exact ⟨by simp,by simp;omega,hap⟩
  split
  ·exact ⟨by simp,by simp;omega,hap⟩
  rename_i h3
  exact ih _ (h.next hnx (by simpa using h3))
theorem zRh {r:Rlm} {bK q:Int} {l:List Int} (hR:RightR r) (h:(Qx r bK q l).2=0):1<=(Qx r bK q l).1.length/\(Qx r bK q l).1.length<=1001/\∀x,x∈(Qx r bK q l).1->0<=x/\x<r.bD.length:=by
 unfold Qx at h⊢
 split at h
 ·cases h
 rename_i hc
 rw[iQ hc]
 rw[Bool.not_eq_true]at hc
 simp only[bb]at hc
 have hf:=Ko hc.1
 have:=ZCz (q:=q) hR hf.2.2.2.2.2 hf.2.2.2.2.1 ⟨hf.2.2.1,hf.2.2.2.1⟩ (r.bD.length+1) [bK] (zId ⟨hf.1,hf.2.1⟩)
 have ho:=hR.fit.bD
 exact ⟨this.1,by omega,this.2.2⟩
theorem zYl (r:Rlm) (bK qu:Int) (c:Cas) (hR:RR r) (hF:FitFi c.file):GC Tryz.prog 138 [rlG r,iG bK,iG qu,caG c] (.tup [sdG (yB r bK qu c).1,.d (.row dF ceC (yB r bK qu c).2)]):=by
 have hr:=hR.right.fit
 have h1:=hr.bD
 have h2:=hr.bB
 have h3:=hr.bC
 refine zA Tryz.func138 ?_
 refine gE [1,2,4,7,8,9] ?_
 refine gE [1,2,4,7,8,9,10] ?_
 refine gR [.call (of_ok r c hR hF)] [1,2,4,7,8,9,10,11] ?_
 refine gE [1,2,4,7,8,9,10,11,24] ?_
 refine zB ?_ ?_<;>intro c1<;>try simp only[toN]at c1
 ·refine gE [1,2,4,7,8,9,10,11] ?_
  refine Zq env ?_
  rw[yB,iP t11];exact Ent.tup ⟨Ent.agg ⟨Ent.refl _,Ent.refl _,Ent.refl _,Ent.nil,Ent.refl _,trivial⟩,Ent.nil,trivial⟩
 refine gR [.call (Xq qu)] [1,2,4,7,8,9,10,11,13] ?_
 refine gE [1,2,4,7,8,9,10,11,32] ?_
 refine zF ?_ ?_<;>intro c2<;>try simp only[bb,toN]at c2
 ·refine gE [1,2,4,7,8,9,10,11] ?_
  refine Zq env ?_
  rw[yB,iQ t11,iP c2];exact Ent.tup ⟨Ent.agg ⟨Ent.refl _,Ent.refl _,Ent.refl _,Ent.nil,Ent.refl _,trivial⟩,Ent.nil,trivial⟩
 rcases hP:(Zj r bK (ofV r c).1)with _|⟨x,xs⟩
 ·have hsg:=Vg (r:=r) (c:=(ofV r c).1) (by rw[<-(zQa r c).2.2];omega)
  refine gR [.call (hP▸XC r bK (ofV r c).1 hR (hF.at_ _) hsg)] [1,2,4,8,9,10,11,14] ?_
  refine zMn env ?_
  refine zF ?_ ?_<;>intro c3<;>try simp only[bb,toN]at c3
  ·refine gE [1,2,4,8,9,10,11,14] ?_
   refine Zq env ?_
   rw[yB,iQ t11,iQ (by rw[c2];simp),iP hP];exact Ent.tup ⟨Ent.agg ⟨Ent.refl _,Ent.refl _,Ent.refl _,Ent.nil,Ent.refl _,trivial⟩,Ent.nil,trivial⟩
  cases c3
 have hsg:=Vg (r:=r) (c:=(ofV r c).1) (by rw[<-(zQa r c).2.2];omega)
 refine gR [.call (hP▸XC r bK (ofV r c).1 hR (hF.at_ _) hsg)] [1,2,4,8,9,10,11,14] ?_
 refine zBc env (fun q hq=> ?_)
 refine zF ?_ ?_<;>intro c3<;>try simp only[bb,toN]at c3
 ·exact absurd (hq c3) t27
 have hP5:=Hh r bK (ofV r c).1
 rw[hP]at hP5
 refine gR [.call (zXo r bK qu (x::xs) hR.right t11)] [8,9,10,11] ?_
 refine gE [8,9,10,11,53] ?_
 refine zB ?_ ?_<;>intro c4<;>try simp only[toN]at c4
 ·obtain ⟨hw1,hw2,hw3⟩:=zRh hR.right c4
  refine gE [8,9,10,11] ?_
  refine gE [8,9] ?_
  refine gT ?_
  rw[yB,iQ t11,iQ (by rw[c2];simp),iQ (by rw[hP];simp),hP,iP c4]
  simp only[show (((Qx r bK qu (x::xs)).1.length:Int)-1).toNat=(Qx r bK qu (x::xs)).1.length-1 by omega,toN]
  rw[c4];rfl
 refine gE [8,9] ?_
 refine gT ?_
 rw[yB,iQ t11,iQ (by rw[c2];simp),iQ (by rw[hP];simp),hP,iQ c4];rfl
def zGm (o:Od) (ask:Int) (cells:List Cel):Cel×Int:=if ((Yy o ask).2)=0 then if (bif decide (((JR ask).1)=0)then (Wy Dep.d ((Yy o ask).1) cells).known else false)=true then (⟨(Wy Dep.d ((Yy o ask).1) cells).known,mnI (mxI ((Wy Dep.d ((Yy o ask).1) cells).n) 0) 20000⟩,0)else ((Wy Dep.d ((Yy o ask).1) cells),0)else (⟨false,0⟩,(Yy o ask).2)
theorem zNl (o:Od) (ask:Int) (cells:List Cel) (ho:FitO o) (hc:cells.length<=1000):GC Tryz.prog 139 [odG o,iG ask,.d (.row dF ceC cells)] (.tup [ceG ((zGm o ask cells).1),iG ((zGm o ask cells).2)]):=by
 refine zA Tryz.func139 ?_
 refine gE [1,2,3,6,7] ?_
 refine gR [.call (zPz o ask t12)] [1,2,6,7,8,9] ?_
 refine gE [1,2,6,7,8,9,20] ?_
 refine zQ ?_ ?_<;>intro c1<;>try simp only[toN]at c1
 ·refine gE [1,2,6,7,8] ?_
  refine gT ?_
  rw[zGm,iQ c1];rfl
 have ht:=zMu ho c1
 refine gR [.call (zYp Dep.d ((Yy o ask).1) cells t12 t11)] [1,6,7,10] ?_
 refine gR [.call (Xq ask)] [6,7,10,11] ?_
 refine gE [6,7,10,36] ?_
 refine zF ?_ ?_<;>intro c2<;>try simp only[bb,toN]at c2
 ·refine gE [6,7,10] ?_
  refine gE [6,7] ?_
  refine gT ?_
  rw[zGm,iP c1,iP (show (bif decide (((JR ask).1)=0)then (Wy Dep.d ((Yy o ask).1) cells).known else false)=true by (try simp only[bb,toN]);exact c2)];rfl
 refine gE [6,7] ?_
 refine gT ?_
 rw[zGm,iP c1,iQ (show ¬((bif decide (((JR ask).1)=0)then (Wy Dep.d ((Yy o ask).1) cells).known else false)=true)by rw[Bool.not_eq_true];(try simp only[bb,toN]);exact c2)];rfl
theorem FitFi.nof {b:Bil} {s:List Sgn} {al:List Alt} {ac:List Act} {fc:List Fct} (h:FitFi ⟨b,s,al,ac,fc⟩):FitFi ⟨b,s,al,ac,[]⟩:=⟨h.1,h.2,h.3,by simp⟩
theorem zBi {r:Rlm} {bK qu:Int} {c:Cas} (hR:RR r) (h:¬(yB r bK qu c).1.order= -1):0<=(yB r bK qu c).1.order/\(yB r bK qu c).1.order<r.bD.length:=by
 unfold yB at h⊢
 split at h
 ·exact absurd rfl h
 rename_i h1
 rw[iQ h1]
 split at h
 ·exact absurd rfl h
 rename_i h2
 rw[iQ h2]
 split at h
 ·exact absurd rfl h
 rename_i h3
 rw[iQ h3]
 split at h
 ·rename_i h4
  rw[iP h4]
  obtain ⟨a,b,c⟩:=zRh hR.right h4
  exact c _ (zK t11)
 exact absurd rfl h
theorem zBj (r:Rlm) (bK qu:Int) (c:Cas):(yB r bK qu c).2.length<=20:=by
 have h0:=zJk r (ofV r c).1
 rw[<-(zQa r c).2.2]at h0
 unfold yB
 repeat' split
 all_goals simp<;>omega
def qN (r:Rlm) (bK:Int) (qu:Int) (c:Cas):Sad:=if (((yB r bK qu c).1).order)=(-1)then (yB r bK qu c).1 else ⟨(zGm (r.bD.getD ((((yB r bK qu c).1).order).toNat) dF) qu ((yB r bK qu c).2)).1,((yB r bK qu c).1).order,((yB r bK qu c).1).path,(zGm (r.bD.getD ((((yB r bK qu c).1).order).toNat) dF) qu ((yB r bK qu c).2)).2⟩
theorem WP (r:Rlm) (bK:Int) (qu:Int) (c:Cas) (hR:RR r) (hF:FitFi c.file):GC Tryz.prog 94 [rlG r,iG bK,iG qu,caG c] (sdG (qN r bK qu c)):=by
 have hr:=hR.right.fit
 have h1:=hr.bD
 have h2:=hr.bB
 have h3:=hr.bC
 have hcl:=zBj r bK qu c
 refine zA Tryz.func94 ?_
 refine gE [1,2,4,7,8] ?_
 refine gR [.call (zYl r bK qu c hR (by first|assumption|exact FitFi.at_ t12 _|exact FitFi.nof t12|exact FitFi.nof (FitFi.at_ t12 _)))] [2,4,8,9,10] ?_
 refine gE [2,4,8,9,10,21] ?_
 refine zQ ?_ ?_<;>intro c1<;>try simp only[toN]at c1
 ·have hor:=zBi hR c1
  have hoo:=hR.fo _ (zK (l:=r.bD) (i:=(yB r bK qu c).1.order.toNat) t11)
  refine gR [.call (zNl (r.bD.getD ((((yB r bK qu c).1).order).toNat) dF) qu ((yB r bK qu c).2) t12 t11)] [8,9] ?_
  refine gE [8] ?_
  refine gT ?_
  rw[qN,iQ c1];rfl
 refine gE [8] ?_
 refine gT ?_
 rw[qN,iP c1];rfl
def Qq (r:Rlm) (bK:Int) (qu:Int) (f:Fil) (day:Int):Sad:=(qN r bK qu (⟨⟨f.bill,f.bF,f.bH,f.acts,[]⟩,0,(-1),(-1),(-1),day⟩:Cas))
theorem Kx (r:Rlm) (bK:Int) (qu:Int) (f:Fil) (day:Int) (hR:RR r) (hF:FitFi f):GC Tryz.prog 135 [rlG r,iG bK,iG qu,fiG f,iG day] (sdG (Qq r bK qu f day)):=by
 have hr:=hR.right.fit
 have h1:=hr.bD
 have h2:=hr.bB
 have h3:=hr.bC
 refine zA Tryz.func135 ?_
 refine gE [1,2,4,5,8,10] ?_
 refine gE [1,2,4,5,8,10] ?_
 refine gR [.call (WP r bK qu (⟨⟨f.bill,f.bF,f.bH,f.acts,[]⟩,0,(-1),(-1),(-1),day⟩:Cas) hR (by first|assumption|exact FitFi.at_ t12 _|exact FitFi.nof t12|exact FitFi.nof (FitFi.at_ t12 _)))] [10] ?_ (hp:=(by simp only[zC,bb,toN,loI,hiI];repeat' first|exact Ent.agg ⟨Ent.refl _,Ent.refl _,Ent.refl _,Ent.refl _,Ent.refl _,Ent.refl _,Ent.refl _,Ent.refl _,Ent.refl _,Ent.refl _,Ent.refl _,Ent.refl _,Ent.refl _,Ent.refl _,Ent.refl _,Ent.refl _,Ent.refl _,Ent.refl _,Ent.nil,Ent.refl _,Ent.refl _,Ent.refl _,Ent.refl _,Ent.refl _,trivial⟩|exact trivial|exact zH.refl _|exact zE.refl _|exact rfl|omega|apply And.intro|intro _))
 refine gT ?_
 rw[Qq];rfl
open Go.IntKind (i64)
def uF (c:Cty) (day:Int):Bool:=(bif (bif (!(qv c.rest ((i64.wrap (day+5)).tmod 7)))then (!(qv c.feasts (i64.wrap ((i64.wrap (100*((zc day).2.1)))+((zc day).2.2)))))else false)then (!(qv c.shut day))else false)
theorem zBu (c:Cty) (day:Int) (hc:FitC c):GC Tryz.prog 267 [ctG c,iG day] (bG (uF c day)):=by
 obtain ⟨_,h2,h3,h4⟩:=hc
 refine zA Tryz.func267 ?_
 refine gE [1,2,4] ?_
 refine gR [.call (uv day)] [1,2,4,6,7] ?_
 refine zG env true [.call ((fun l x h=>zi l h x) c.rest ((i64.wrap (day+5)).tmod 7) t17),.call ((fun l x h=>zi l h x) c.feasts (i64.wrap ((i64.wrap (100*((zc day).2.1)))+((zc day).2.2))) t17),.call ((fun l x h=>zi l h x) c.shut day t17)] [4] ?_
 refine gT ?_
 rw[uF];rfl
def vX (c:Cty) (hi:Int):Nat->Int->Int×Int
 |0,_=>(0,3)
 |n+1,d=>if hi<d then (0,3)else if uF c d=true then (d,0)else vX c hi n (d+1)
def qV (c:Cty) (day:Int):Int×Int:=if QE day=false then (0,3)else vX c (mnI (day+400) 100000) 402 day
def Qh (c:Cty) (hi:Int):Nat->Int->List Int
 |0,_=>[]
 |n+1,d=>if hi<d then []else if uF c d=true then d::Qh c hi n (d+1)else Qh c hi n (d+1)
theorem zPt {c:Cty} {hi d:Int} (h:d<=hi):Qh c hi (hi+1-d).toNat d=if uF c d=true then d::Qh c hi (hi+1-(d+1)).toNat (d+1)else Qh c hi (hi+1-(d+1)).toNat (d+1):=by
 have e:(hi+1-d).toNat=(hi+1-(d+1)).toNat+1:=by omega
 rw[e,Qh,iQ t11]
theorem zYy (c:Cty) (lo hi:Int) (hc:FitC c) (h0:0<=lo) (h1:hi<=100000):Xl Tryz.prog 266 [.ep [.sc (.int .i64 lo)],.ep [.sc (.int .i64 hi)],.ep (ctC c)] (fun d:Int=>[iG d]) (Qh c hi (hi+1-lo).toNat lo):=by
 refine Jj Tryz.func266 fun C hg hN=> ?_
 refine (yY (c':=_) (K':=_) (n:=1000) (K:=[]) rfl ?_:GYK C _ (zNs _) _ [] _ _).gy
 refine zf env false [] [0,2,3,5] ?_
 refine Xm (β:=List Int×Int) (fun x=>lo<=x.2/\x.1++Qh c hi (hi+1-x.2).toNat x.2=Qh c hi (hi+1-lo).toNat lo) (fun x=>[(5,iG x.2)]) (fun _=>[]) (fun x=>(true,x.1)) (fun x=>(hi+1-x.2).toNat) ([],lo) ⟨by omega,rfl⟩ ?_
 rintro ⟨pre,d⟩ ⟨ha,he⟩
 dsimp only at*
 refine zf env false [] [0,2,3,5,9] ?_
 refine Vc (fun c1=> ?_) (fun c1=> ?_)
 ·rw[zPt c1]at he
  cases ho:uF c d with
  |true=>
   rw[iP ho]at he
   refine wt ?_
   refine Ye env false 4 [.call (zBu c d hc)] ?_
   refine VT 15 ho ?_
   refine Ye env false 2 [] ?_
   refine JQ d _ (he.trans hN.symm) (by rw[hg]) fun b=> ?_
   refine Ye env false 2 [] ?_
   refine wq [0,2,3,5,20] ?_
   refine Ug (fun c2=> ?_) (fun c2=> ?_)
   ·cases b with
    |true=>cases c2
    |false=>exact zCp (.inr rfl)
   refine zf env false [] [0,2,3,5] ?_
   cases b with
   |false=>cases c2
   |true=>exact jE (pre++ [d],d+1) ⟨by dsimp only;omega,by simpa using he⟩
  |false=>
   rw[iQ (by rw[ho];decide)]at he
   refine wt ?_
   refine Ye env false 4 [.call (zBu c d hc)] ?_
   refine VT 15 ho ?_
   refine Ye env false 5 [.no,.nu] ?_
   refine wq [0,2,3,5,20] ?_
   refine Ug (fun c2=> ?_) (fun c2=> ?_)
   ·cases c2
   refine zf env false [] [0,2,3,5] ?_
   exact jE (pre,d+1) ⟨by dsimp only;omega,he⟩
 refine vK (.inl ?_)
 have e:(hi+1-d).toNat=0:=by omega
 rw[e,Qh,List.append_nil]at he
 rw[he]
theorem zYx (c:Cty) (lo hi:Int):GC Tryz.prog 237 [ctG c,iG lo,iG hi] (.fn (.func 266) [] [.ep [.sc (.int .i64 lo)],.ep [.sc (.int .i64 hi)],.ep (ctC c)]):=by
 refine zA Tryz.func237 ?_
 refine gE [3,4,5] ?_
 refine ZA 0 ?_
 refine ZA 1 ?_
 refine ZA 2 ?_
 refine gE [6] ?_
 refine gT ?_
 rfl
def hd0:List Int->Int×Int
 | []=>(0,3)
 |x::_=>(x,0)
theorem zKr (c:Cty) (hi:Int):∀(n:Nat) (d:Int),hd0 (Qh c hi n d)=vX c hi n d:=by
 intro n
 induction n with
 |zero=>intro d;rfl
 |succ n ih=>
  intro d
  unfold Qh vX
  by_cases h:hi<d
  ·rw[iP h,iP h];rfl
  rw[iQ h,iQ h]
  by_cases h2:uF c d=true
  ·rw[iP h2,iP h2];rfl
  rw[iQ h2,iQ h2];exact ih _
theorem zKy (c:Cty) (hi:Int):∀(n m:Nat) (d:Int),(hi+1-d).toNat<=n->n<=m->vX c hi n d=vX c hi m d:=by
 intro n
 induction n with
 |zero=>intro m d h _;cases m with
  |zero=>rfl
  |succ m=>rw[vX,vX,iP t11]
 |succ n ih=>
  intro m d h hm
  obtain ⟨m,rfl⟩:∃k,m=k+1:=⟨m-1,by omega⟩
  unfold vX
  split
  ·rfl
  split
  ·rfl
  exact ih m _ t11 t11
theorem zHv (c:Cty) (day:Int) (hc:FitC c):GC Tryz.prog 210 [ctG c,iG day] (.tup [iG (qV c day).1,iG (qV c day).2]):=by
 have hm:mnI (day+400) 100000<=100000:=by unfold mnI;split<;>omega
 refine zA Tryz.func210 ?_
 refine gE [1,2,4,5] ?_
 refine gR [.call (jX day)] [1,2,4,5,9] ?_
 refine zF (fun c1=> ?_) (fun c1=> ?_)
 ·refine gE [4,5] ?_
  refine gT ?_
  rw[qV,iP (by simpa using c1)];rfl
 have hv:0<=day/\day<=100000:=by
  rw[Bool.not_eq_false']at c1
  unfold QE at c1
  simpa only[bb]using c1
 refine gR [.call (zYx c day (mnI (day+400) 100000))] [4,5,15] ?_
 have hn:qV c day=hd0 (Qh c (mnI (day+400) 100000) (mnI (day+400) 100000+1-day).toNat day):=by
  rw[zKr,qV,iQ (by simpa using c1)]
  exact (zKy _ _ _ 402 _ (Nat.le_refl _) (by have:mnI (day+400) 100000<=day+400:=by {unfold mnI;split<;>omega};omega)).symm
 refine vf 3 3 (fun d:Int=>[iG d]) (Qh c (mnI (day+400) 100000) (mnI (day+400) 100000+1-day).toNat day) (fun _=>[(1,some (.box [iG 0])),(2,some (.box [iG 0]))]) (fun pre=>pre= []) (zYy c day _ hc hv.1 hm) rfl ?_ ?_
 ·rintro pre d rest he rfl
  refine gE [4,5,6] ?_
  refine zFf ?_
  refine gE [4,5,6] ?_
  refine zMm ?_
  rw[<-he]at hn
  refine gT ?_
  rw[hn];rfl
 intro he
 refine gE [4,5] ?_
 refine gT ?_
 rw[hn,he];rfl
theorem ZCd (c:Cty) (hi:Int):∀(n:Nat) (d:Int),(vX c hi n d).2=0->d<=(vX c hi n d).1/\(vX c hi n d).1<=hi:=by
 intro n
 induction n with
 |zero=>intro d h;cases h
 |succ n ih=>
  intro d h
  unfold vX at h⊢
  split at h
  ·cases h
  rename_i h1
  rw[iQ h1]
  split at h
  ·rename_i h2;rw[iP h2];exact ⟨Int.le_refl _,by dsimp only;omega⟩
  rename_i h2;rw[iQ h2];have:=ih _ h;omega
theorem KH {c:Cty} {day:Int} (h:(qV c day).2=0):0<=day/\day<=(qV c day).1/\(qV c day).1<=100000:=by
 unfold qV at h⊢
 split at h
 ·cases h
 rename_i h1
 rw[iQ h1]
 have hv:0<=day/\day<=100000:=by
  rw[Bool.not_eq_false]at h1
  unfold QE at h1
  simp only[bb]at h1
  exact h1
 have h2:=ZCd c _ _ _ h
 have h3:mnI (day+400) 100000<=100000:=by unfold mnI;split<;>omega
 omega
def wy (c:Cty) (day:Int) (n:Int) (a1_1:Int) (k1:Nat):Int×Int:=if (k1:Int)<n then if ((qV c (i64.wrap (a1_1+1))).2)=0 then wy c day n ((qV c (i64.wrap (a1_1+1))).1) (k1+1)else (0,(qV c (i64.wrap (a1_1+1))).2)else (a1_1,0)
termination_by n.toNat-k1
decreasing_by all_goals first|omega|(simp only[bb]at*;omega)
def Vx (c:Cty) (day:Int) (n:Int):Int×Int:=if (bif (bif (!(QE day))then true else decide (n<0))then true else decide (20000<n))=true then (0,3)else wy c day n day 0
theorem zWf (c:Cty) (day:Int) (n:Int) (hc:FitC c):GC Tryz.prog 259 [ctG c,iG day,iG n] (.tup [iG ((Vx c day n).1),iG ((Vx c day n).2)]):=by
 refine zA Tryz.func259 ?_
 refine gE [1,2,3,6,7] ?_
 refine gR [.call (jX day)] [1,2,3,6,7,20] ?_
 refine zF ?_ ?_<;>intro c1<;>try simp only[bb,toN]at c1
 ·refine gE [1,2,3,6,7] ?_
  refine gT ?_
  rw[Vx,iP (by (try simp only[bb,toN]);exact c1)];rfl
 refine gE [1,3,6,7,21,22] ?_
 refine zI (α:=Int×Nat) (fun x=>x.2<=n.toNat/\wy c day n day 0=wy c day n x.1 x.2) (fun x=>[(1,iG x.1),(22,iG x.2)]) (fun x=>[]) (fun x=>n.toNat-x.2) (day,0) ⟨by (try simp only[]);omega,rfl⟩ ?_ (hp:=t40)
 rintro ⟨a1_1,k1⟩ ⟨hi1,he⟩
 dsimp only at*
 refine gE [1,3,6,7,21,22,23] ?_
 refine zB ?_ ?_<;>intro c2<;>try simp only[toN]at c2
 ·refine zG env true [.call (zHv c (i64.wrap (a1_1+1)) t12)] [1,3,6,7,8,9,21,22] ?_
  refine gE [1,3,6,7,8,9,21,22,32] ?_
  refine zQ ?_ ?_<;>intro c3<;>try simp only[toN]at c3
  ·refine gE [1,3,6,7,8,21,22] ?_
   refine gT ?_
   rw[Vx,iN (by (try simp only[bb,toN]);exact c1),he,wy,iP c2,iQ c3];rfl
  refine gE [1,3,6,7,21,22] ?_
  refine gE [1,3,6,7,21,22] ?_
  refine zD (((qV c (i64.wrap (a1_1+1))).1,k1+1)) ?_ (hp:=t40) (hm:=by dsimp only;omega)
  refine ⟨by (try simp only[]);omega,he.trans ?_⟩
  rw[wy,iP c2,iP c3]
  try rfl
 refine gE [6,7] ?_
 refine gT ?_
 rw[Vx,iN (by (try simp only[bb,toN]);exact c1),he,wy,iQ c2];rfl
def Ur (order:Int) (h:Ht) (d:Int):Bool:=bif bif decide (h.ord=order)then decide (h.fr<=d)else false then decide (d<=h.dst)else false
def Uq (order:Int) (x:Int×Bool) (h:Ht):Int×Bool:=if Ur order h x.1=true then (h.dst+1,true)else x
def skL (order:Int) (l:List Ht) (x:Int×Bool):Int×Bool:=l.foldl (Uq order) x
def JE (r:Rlm) (order:Int):Nat->Int->Int
 |0,d=>d
 |n+1,d=>if (skL order r.halts (d,false)).2=true then JE r order n (skL order r.halts (d,false)).1 else (skL order r.halts (d,false)).1
def QF (r:Rlm) (order d:Int):Int:=JE r order (100002-d).toNat d
theorem Vo (order:Int) {l:List Ht} {k:Nat} (h:k<l.length) (x:Int×Bool):skL order (l.take (k+1)) x=Uq order (skL order (l.take k) x) (l.getD k dF):=by
 rw[skL,skL,vP h,List.foldl_append];rfl
structure SkI (d:Int) (x:Int×Bool):Prop where
 le:d<=x.1
 lt:x.2=true->d<x.1
 eq:x.2=false->x.1=d
 hi:x.1<=100001
theorem SkI.one {d order:Int} {x:Int×Bool} (h:SkI d x) {t:Ht} (ht:t.dst<=100000):SkI d (Uq order x t):=by
 unfold Uq
 split
 ·rename_i hc
  have hx:x.1<=t.dst:=by unfold Ur at hc;simp only[bb]at hc;exact hc.2
  have:=h.le
  exact ⟨by dsimp only;omega,(fun _=>by dsimp only;omega),(fun e=>by cases e),by dsimp only;omega⟩
 exact h
theorem SkI.all {r:Rlm} (hR:RightR r) {d order:Int} (hd:d<=100001):∀k,k<=r.halts.length->SkI d (skL order (r.halts.take k) (d,false)):=by
 intro k
 induction k with
 |zero=>intro _;exact ⟨Int.le_refl _,(fun e=>by cases e),(fun _=>rfl),hd⟩
 |succ k ih=>
  intro hk
  rw[Vo order t11]
  exact (ih t11).one (hR.halt _ (zK t11)).2.2
theorem zVe {r:Rlm} (hR:RightR r) {order:Int} :∀(n:Nat) (d:Int),d<=100001->d<=JE r order n d/\JE r order n d<=100001:=by
 intro n
 induction n with
 |zero=>intro d hd;exact ⟨Int.le_refl _,hd⟩
 |succ n ih=>
  intro d hd
  have h:=SkI.all hR (order:=order) hd r.halts.length (Nat.le_refl _)
  rw[List.take_length]at h
  unfold JE
  split
  ·have:=ih _ h.hi;have:=h.le;omega
  exact ⟨h.le,h.hi⟩
theorem zHf {r:Rlm} (hR:RightR r) {order d:Int} (hd:d<=100001):d<=QF r order d/\QF r order d<=100001:=zVe hR _ _ hd
theorem zDh (r:Rlm) (order d:Int) (hd:d<=100001):QF r order d=if (skL order r.halts (d,false)).2=true then JE r order (100001-d).toNat (skL order r.halts (d,false)).1 else (skL order r.halts (d,false)).1:=by
 rw[QF,show (100002-d).toNat=(100001-d).toNat+1 by omega,JE]
theorem zDj {r:Rlm} (hR:RightR r) {order:Int} :∀(n m:Nat) (d:Int),d<=100001->(100002-d).toNat<=n->(100002-d).toNat<=m->JE r order n d=JE r order m d:=by
 intro n
 induction n with
 |zero=>intro m d hd h _;omega
 |succ n ih=>
  intro m d hd h1 h2
  cases m with
  |zero=>omega
  |succ m=>
   have hS:=SkI.all hR (order:=order) hd r.halts.length (Nat.le_refl _)
   rw[List.take_length]at hS
   rw[JE,JE]
   split
   ·rename_i h3
    have:=hS.lt h3
    exact ih m _ hS.hi t11 t11
   rfl
theorem zDi {r:Rlm} (hR:RightR r) {order:Int} :∀(n:Nat) (d:Int),d<=100001->(100002-d).toNat<=n->JE r order n d=QF r order d:=fun n d hd h=>zDj hR n _ d hd h (Nat.le_refl _)
theorem zVd (r:Rlm) (hR:RightR r) (order day:Int) (hd:day<=100001) (h0:0<=day):GC Tryz.prog 209 [rlG r,iG order,iG day] (iG (QF r order day)):=by
 have hr:=hR.fit
 have h1:=hr.halts
 refine zA Tryz.func209 ?_
 refine gE [1,2,3,6] ?_
 refine gE [1,2,3,6,7] ?_
 refine zI (α:=Int×Bool) (fun x=>QF r order day=(if x.2=true then QF r order x.1 else x.1)/\x.1<=100001/\0<=x.1) (fun x=>[(2,iG x.1),(7,bG x.2)]) (fun _=>[]) (fun x=>2*(100002-x.1).toNat+(if x.2=true then 1 else 0)) (day,true) ⟨rfl,hd,h0⟩ ?_
 rintro ⟨d,ch⟩ ⟨he,hd1,hd0⟩
 dsimp only at*
 refine gE [1,2,3,6,7,10] ?_
 refine zF ?_ ?_<;>intro c1<;>try simp only[bb,toN]at c1
 ·refine gE [1,2,3,6,7] ?_
  refine gE [1,2,3,6,7,12,13,14] ?_
  refine zI (α:=Nat) (fun k=>k<=r.halts.length) (fun k=>[(14,iG k),(2,iG (skL order (r.halts.take k) (d,false)).1),(7,bG (skL order (r.halts.take k) (d,false)).2)]) (fun _=>[]) (fun k=>r.halts.length-k) 0 t11 ?_ (hp:=by simp[zC,skL])
  rintro k hk
  refine gE [1,2,3,6,7,12,13,14,15] ?_
  refine zB ?_ ?_<;>intro c2<;>try simp only[toN]at c2
  ·refine gE [1,2,3,6,7,9,12,13,14] ?_
   refine gE [1,2,3,6,7,9,12,13,14,33] ?_
   refine zF ?_ ?_<;>intro c3<;>try simp only[bb,toN]at c3
   ·have hh:=hR.halt _ (zK (l:=r.halts) (i:=k) t11)
    refine gE [1,2,3,6,7,12,13,14] ?_
    refine gE [1,2,3,6,7,12,13,14] ?_
    refine zD (k+1) ?_ (hp:=by have hq:Ur order (r.halts.getD k dF) (skL order (r.halts.take k) (d,false)).1=true:=(by unfold Ur;simp only[bb];exact c3);simp only[zC,Vo order (show k<r.halts.length by omega),Uq,iP hq];simp)
    omega
   refine gE [1,2,3,6,7,12,13,14] ?_
   refine zD (k+1) ?_ (hp:=by have hq:¬Ur order (r.halts.getD k dF) (skL order (r.halts.take k) (d,false)).1=true:=(by unfold Ur;rw[Bool.not_eq_true];simp only[bb];exact c3);simp only[zC,Vo order (show k<r.halts.length by omega),Uq,iQ hq];simp)
   omega
  refine zD (((skL order r.halts (d,false)).1,(skL order r.halts (d,false)).2)) ?_ (hp:=by simp[zC,List.take_of_length_le (show r.halts.length<=k by omega)]) (hm:=by have hS:=SkI.all hR (order:=order) hd1 r.halts.length (Nat.le_refl _);rw[List.take_length]at hS;dsimp only;rw[c1];cases hz:(skL order r.halts (d,false)).2 with|true=>(have:=hS.lt hz;have:=hS.hi;simp;omega)|false=>(have:=hS.eq hz;simp[this]))
  have hS:=SkI.all hR (order:=order) hd1 r.halts.length (Nat.le_refl _)
  rw[List.take_length]at hS
  have hle:=hS.le
  refine ⟨?_,hS.hi,by dsimp only;omega⟩
  rw[he,iP c1,zDh r order d hd1]
  split
  ·exact zDi hR _ _ hS.hi (by have:=hS.lt t12;omega)
  rfl
 refine gE [6] ?_
 refine gT ?_
 rw[he,iQ (by rw[c1];simp)];rfl
def UQ (r:Rlm) (city:Int):Nat->Int->Int×Int
 |0,_=>(0,3)
 |n+1,d=>if (qV (r.bB.getD city.toNat dF) (QF r (zl r city) d)).2=0 then
   if (qV (r.bB.getD city.toNat dF) (QF r (zl r city) d)).1=QF r (zl r city) d then (QF r (zl r city) d,0)else UQ r city n (qV (r.bB.getD city.toNat dF) (QF r (zl r city) d)).1
   else (0,3)
def ji (r:Rlm) (city day:Int):Int×Int:=UQ r city (100002-day).toNat day
theorem zJt {r:Rlm} (hR:RightR r) {city:Int} :∀(n m:Nat) (d:Int),d<=100001->(100002-d).toNat<=n->(100002-d).toNat<=m->UQ r city n d=UQ r city m d:=by
 intro n
 induction n with
 |zero=>intro m d hd h _;omega
 |succ n ih=>
  intro m d hd h1 h2
  cases m with
  |zero=>omega
  |succ m=>
   rw[UQ,UQ]
   split
   ·rename_i h3
    have hs:=zHf hR (order:=zl r city) hd
    have hn:=KH h3
    split
    ·rfl
    exact ih m _ t11 t11 t11
   rfl
theorem zJs (r:Rlm) (hR:RightR r) (city day:Int) (hc:0<=city/\city<r.bB.length) (hd:0<=day/\day<=100001):GC Tryz.prog 172 [rlG r,iG city,iG day] (.tup [iG (ji r city day).1,iG (ji r city day).2]):=by
 have hr:=hR.fit
 have h2:=hr.bB
 have hci:=hr.city _ (zK (l:=r.bB) (i:=city.toNat) t11)
 refine zA Tryz.func172 ?_
 refine gE [1,2,3,6,7] ?_
 refine gR [.call (YM r city hr)] [1,2,3,6,7,8] ?_
 refine zI (α:=Int) (fun d=>ji r city day=UQ r city (100002-d).toNat d/\d<=100001/\0<=d) (fun d=>[(2,iG d)]) (fun _=>[]) (fun d=>(100002-d).toNat) day ⟨rfl,hd.2,hd.1⟩ ?_
 rintro d ⟨he,hd1,hd0⟩
 dsimp only at*
 have hs:=zHf hR (order:=zl r city) hd1
 have hf:(100002-d).toNat=(100001-d).toNat+1:=by omega
 refine gR [.call (zVd r hR (zl r city) d hd1 hd0)] [1,2,3,6,7,8] ?_
 refine gR [.call (zHv (r.bB.getD city.toNat dF) (QF r (zl r city) d) hci)] [1,2,3,6,7,8,9,10] ?_
 refine gE [1,2,3,6,7,8,9,29] ?_
 refine zQ ?_ ?_<;>intro c1<;>try simp only[toN]at c1
 ·refine gE [1,2,3,6,7,8,9] ?_
  refine gT ?_
  rw[he,hf,UQ,iQ c1];rfl
 refine gE [1,2,3,6,7,8,9,32] ?_
 refine zB ?_ ?_<;>intro c2<;>try simp only[toN]at c2
 ·refine gE [1,2,3,6,7,8,9] ?_
  refine gT ?_
  rw[he,hf,UQ,iP c1,iP c2];rfl
 refine gE [1,2,3,6,7,8] ?_
 refine zD ((qV (r.bB.getD city.toNat dF) (QF r (zl r city) d)).1) ?_ (hm:=by have hn:=KH c1;omega)
 have hn:=KH c1
 refine ⟨?_,by omega,by omega⟩
 rw[he,hf,UQ,iP c1,iQ c2]
 exact zJt hR _ _ _ t11 t11 t11
theorem zDo (r:Rlm) (city day:Int) (hR:RightR r) (hc:0<=city/\city<r.bB.length) (hd:0<=day/\day<=100001):GC Tryz.prog 172 [rlG r,iG city,iG day] (.tup [iG (ji r city day).1,iG (ji r city day).2]):=zJs r hR city day hc hd
theorem zRl {r:Rlm} {c:Int} (h:wI r c=true):0<=c/\c<r.bB.length:=by unfold wI at h;simp only[bb]at h;omega
theorem zXq {d:Int} (h:WG d=true):0<=d/\d<=100000:=by unfold WG at h;simp only[bb]at h;omega
def uq (r:Rlm) (b:Bil) (seen:Int) (grace:Int):Int×Int:=if (bif (bif (bif (!decide ((YL r)=0))then true else (!(wI r b.city)))then true else (!(wI r b.pay)))then true else (!(WG b.day)))=true then (0,1)else if (bif (bif (bif decide (b.ten.kind<0)then true else decide (5<=b.ten.kind))then true else decide (b.ten.unit<0))then true else decide (2<=b.ten.unit))=true then (0,1)else if (bif (bif (bif (!decide (seen=(-1)))then (!(WG seen))else false)then true else decide (grace<0))then true else decide (20000<grace))=true then (0,1)else if (bif (Xw b.ten)then decide (seen=(-1))else false)=true then (0,4)else if ((Yr r b seen).2)=0 then if (bif (!(WG ((Yr r b seen).1)))then true else decide (100000<(i64.wrap (((Yr r b seen).1)+grace))))=true then (0,3)else ((ji r b.pay (i64.wrap (((Yr r b seen).1)+grace))).1,(ji r b.pay (i64.wrap (((Yr r b seen).1)+grace))).2)else (0,(Yr r b seen).2)
theorem ZEb (r:Rlm) (b:Bil) (seen:Int) (grace:Int) (hR:RR r):GC Tryz.prog 136 [rlG r,zCf b,iG seen,iG grace] (.tup [iG ((uq r b seen grace).1),iG ((uq r b seen grace).2)]):=by
 have hr:=hR.right.fit
 have h1:=hr.bD
 have h2:=hr.bB
 have h3:=hr.bC
 refine zA Tryz.func136 ?_
 refine gE [2,3,4,5,8,9] ?_
 refine gE [2,3,4,5,8,9,10] ?_
 refine gR [.call (Wc r hr),.call (XN r b.city hr),.call (XN r b.pay hr),.call (uV b.day)] [2,3,4,5,8,9,10,15] ?_
 refine zF ?_ ?_<;>intro c1<;>try simp only[bb,toN]at c1
 ·refine gE [2,3,4,5,8,9] ?_
  refine gT ?_
  rw[uq,iP (by (try simp only[bb,toN]);exact c1)];rfl
 refine gE [2,3,4,5,8,9,10,39] ?_
 refine zF ?_ ?_<;>intro c2<;>try simp only[bb,toN]at c2
 ·refine gE [2,3,4,5,8,9] ?_
  refine gT ?_
  rw[uq,iN (by (try simp only[bb,toN]);exact c1),iP (by (try simp only[bb,toN]);exact c2)];rfl
 refine gR [.call (uV seen)] [2,3,4,5,8,9,10,58] ?_
 refine zF ?_ ?_<;>intro c3<;>try simp only[bb,toN]at c3
 ·refine gE [2,3,4,5,8,9] ?_
  refine gT ?_
  rw[uq,iN (by (try simp only[bb,toN]);exact c1),iN (by (try simp only[bb,toN]);exact c2),iP (by (try simp only[bb,toN]);exact c3)];rfl
 refine gR [.call (zJq b.ten)] [2,3,4,5,8,9,74] ?_
 refine zF ?_ ?_<;>intro c4<;>try simp only[bb,toN]at c4
 ·refine gE [2,3,4,5,8,9] ?_
  refine gT ?_
  rw[uq,iN (by (try simp only[bb,toN]);exact c1),iN (by (try simp only[bb,toN]);exact c2),iN (by (try simp only[bb,toN]);exact c3),iP (by (try simp only[bb,toN]);exact c4)];rfl
 refine gR [.call (zOh r b seen hr)] [3,4,5,8,9,11,12] ?_
 refine gE [3,4,5,8,9,11,12,89] ?_
 refine zQ ?_ ?_<;>intro c5<;>try simp only[toN]at c5
 ·refine gE [3,4,5,8,9,11] ?_
  refine gT ?_
  rw[uq,iN (by (try simp only[bb,toN]);exact c1),iN (by (try simp only[bb,toN]);exact c2),iN (by (try simp only[bb,toN]);exact c3),iN (by (try simp only[bb,toN]);exact c4),iQ c5];rfl
 refine zG env true [.call (uV ((Yr r b seen).1))] [3,4,5,8,9,11,99] ?_
 refine zF ?_ ?_<;>intro c6<;>try simp only[bb,toN]at c6
 ·refine gE [3,4,5,8,9,11] ?_
  refine gT ?_
  rw[uq,iN (by (try simp only[bb,toN]);exact c1),iN (by (try simp only[bb,toN]);exact c2),iN (by (try simp only[bb,toN]);exact c3),iN (by (try simp only[bb,toN]);exact c4),iP c5,iP (by (try simp only[bb,toN]);exact c6)];rfl
 have hpc:=zRl c1.1.2
 have hbd:=zXq c6.1
 have ew:i64.wrap ((Yr r b seen).1+grace)=(Yr r b seen).1+grace:=IntWalk.i64_in _ ⟨by omega,by omega⟩
 have hdd:0<=i64.wrap ((Yr r b seen).1+grace)/\i64.wrap ((Yr r b seen).1+grace)<=100001:=by rw[ew]at c6⊢;omega
 refine zG env true [.call (zDo r b.pay (i64.wrap (((Yr r b seen).1)+grace)) hR.right t12 t12)] [8,9] ?_
 refine gT ?_
 rw[uq,iN (by (try simp only[bb,toN]);exact c1),iN (by (try simp only[bb,toN]);exact c2),iN (by (try simp only[bb,toN]);exact c3),iN (by (try simp only[bb,toN]);exact c4),iP c5,iN (by (try simp only[bb,toN]);exact c6)];rfl
def XJ (l:List Int) (a3_1:Int) (k1:Nat):Int:=if k1<l.length then XJ l (mnI a3_1 (l.getD k1 dF)) (k1+1)else a3_1
termination_by l.length-k1
def zWt (l:List Int):Int:=if (l.length:Int)<1 then dF else XJ l (l.getD 0 dF) 1
theorem ZCi (l:List Int) (hl:l.length<=9223372036854775807) (h1:1<=l.length):GC Tryz.prog 173 [.d (.row dF inC l)] (iG (zWt l)):=by
 refine zA Tryz.func173 ?_
 refine gE [0,2] ?_
 refine gE [0,2,7] ?_
 refine zB ?_ ?_<;>intro c1<;>try simp only[toN]at c1
 ·exact absurd c1 t11
 refine gE [0,2,3] ?_
 refine gE [0,2,3,4] ?_
 refine zI (α:=Int×Nat) (fun x=>x.2<=l.length/\XJ l (l.getD 0 dF) 1=XJ l x.1 x.2) (fun x=>[(3,iG x.1),(4,iG x.2)]) (fun x=>[]) (fun x=>l.length-x.2) ((l.getD 0 dF),1) ⟨by (try simp only[]);omega,rfl⟩ ?_ (hp:=t40)
 rintro ⟨a3_1,k1⟩ ⟨hi1,he⟩
 dsimp only at*
 refine gE [0,2,3,4,15] ?_
 refine zB ?_ ?_<;>intro c2<;>try simp only[toN]at c2
 ·refine gE [0,2,3,4] ?_
  refine gE [0,2,3,4] ?_
  refine zD ((mnI a3_1 (l.getD k1 dF),k1+1)) ?_ (hp:=t40) (hm:=by dsimp only;omega)
  refine ⟨by (try simp only[]);omega,he.trans ?_⟩
  rw[XJ,iP (show k1<l.length by omega)]
  try rfl
 refine gE [2] ?_
 refine gT ?_
 rw[zWt,iQ c1,he,XJ,iQ (show ¬(k1<l.length)by omega)];rfl
theorem zWs (l:List Int) (h:l.length<=9223372036854775807/\1<=l.length):GC Tryz.prog 173 [qq l] (iG (zWt l)):=ZCi l h.1 h.2
def yK (f:Fil) (a3_1:List Int) (k1:Nat) (a3_2:List Int) (k2:Nat):Int:=if k2<f.acts.length then if (bif decide (f.bill.ten.kind=0)then decide (((f.acts.getD k2 dF).kind)=2)else false)=true then (f.acts.getD k2 dF).day else if (bif decide (f.bill.ten.kind=1)then decide (((f.acts.getD k2 dF).kind)=1)else false)=true then yK f a3_1 k1 (a3_2++ [(f.acts.getD k2 dF).day]) (k2+1)else yK f a3_1 k1 a3_2 (k2+1)else if (a3_2.length:Int)=0 then (-1)else (zWt a3_2)
termination_by f.acts.length-k2
def Yg (f:Fil) (a3_1:List Int) (k1:Nat):Int:=if k1<f.bF.length then if (bif decide (f.bill.ten.kind=1)then decide (((f.bF.getD k1 dF).kind)=1)else false)=true then Yg f (a3_1++ [(f.bF.getD k1 dF).day]) (k1+1)else Yg f a3_1 (k1+1)else yK f a3_1 k1 a3_1 0
termination_by f.bF.length-k1
def qR (f:Fil):Int:=Yg f [] 0
theorem zHh (f:Fil) (hF:FitFi f):GC Tryz.prog 137 [fiG f] (iG (qR f)):=by
 obtain ⟨h1,h2,h3,h4⟩:=hF
 refine zA Tryz.func137 ?_
 refine gE [1,2] ?_
 refine gE [1,2,3] ?_
 refine gE [1,2,3,4] ?_
 refine gE [1,2,3,4,14,15,16] ?_
 refine YS 3 3 1 (dF:Int) inC t25 t25 ?_
 refine zI (α:=List Int×Nat) (fun x=>x.2<=f.bF.length/\Yg f [] 0=Yg f x.1 x.2/\x.1.length<=x.2) (fun x=>[(3,.sl 1 1 0 x.1.length),(16,iG x.2)]) (fun x=>[(1,some (.row 3 1 dF inC x.1 0))]) (fun x=>f.bF.length-x.2) ([],0) ⟨by (try simp only[]);omega,rfl,by first|omega|(simp;done)|(simp only[List.length_append,List.length_cons,List.length_nil,List.length_set,List.length_replicate];omega)⟩ ?_ (hp:=t40)
 rintro ⟨a3_1,k1⟩ ⟨hi1,he,hl_a3_1⟩
 dsimp only at*
 refine gE [1,2,3,4,14,15,16,17] ?_
 refine zB ?_ ?_<;>intro c1<;>try simp only[toN]at c1
 ·refine gE [1,2,3,4,6,14,15,16] ?_
  refine gE [1,2,3,4,6,14,15,16,26] ?_
  refine zF ?_ ?_<;>intro c2<;>try simp only[bb,toN]at c2
  ·refine gU [.el dF inC [(f.bF.getD k1 dF).day],.el dF inC (a3_1++ [(f.bF.getD k1 dF).day])] [1,2,3,4,14,15,16] ?_
   refine gE [1,2,3,4,14,15,16] ?_
   refine zD ((a3_1++ [(f.bF.getD k1 dF).day],k1+1)) ?_ (hp:=t40) (hm:=by dsimp only;omega)
   refine ⟨by (try simp only[]);omega,he.trans ?_,by first|omega|(simp;done)|(simp only[List.length_append,List.length_cons,List.length_nil,List.length_set,List.length_replicate];omega)⟩
   rw[Yg,iP t11,iP (by (try simp only[bb,toN]);exact c2)]
   try rfl
  refine gE [1,2,3,4,14,15,16] ?_
  refine zD ((a3_1,k1+1)) ?_ (hp:=t40) (hm:=by dsimp only;omega)
  refine ⟨by (try simp only[]);omega,he.trans ?_,by first|omega|(simp;done)|(simp only[List.length_append,List.length_cons,List.length_nil,List.length_set,List.length_replicate];omega)⟩
  rw[Yg,iP t11,iN (by (try simp only[bb,toN]);exact c2)]
  try rfl
 refine gE [2,3,4,34,35,36] ?_
 refine zI (α:=List Int×Nat) (fun x=>x.2<=f.acts.length/\yK f a3_1 k1 a3_1 0=yK f a3_1 k1 x.1 x.2/\x.1.length<=x.2+a3_1.length) (fun x=>[(3,.sl 1 1 0 x.1.length),(36,iG x.2)]) (fun x=>[(1,some (.row 3 1 dF inC x.1 0))]) (fun x=>f.acts.length-x.2) (a3_1,0) ⟨by (try simp only[]);omega,rfl,by first|omega|(simp;done)|(simp only[List.length_append,List.length_cons,List.length_nil,List.length_set,List.length_replicate];omega)⟩ ?_ (hp:=t40)
 rintro ⟨a3_2,k2⟩ ⟨hi2,he2,hl_a3_2⟩
 dsimp only at*
 refine gE [2,3,4,34,35,36,37] ?_
 refine zB ?_ ?_<;>intro c3<;>try simp only[toN]at c3
 ·refine gE [2,3,4,8,34,35,36] ?_
  refine gE [2,3,4,8,34,35,36,46] ?_
  refine zF ?_ ?_<;>intro c4<;>try simp only[bb,toN]at c4
  ·refine gE [2,3,4,8,34,35,36] ?_
   refine gT ?_
   rw[qR,he,Yg,iQ t11,he2,yK,iP t11,iP (by (try simp only[bb,toN]);exact c4)];rfl
  refine gE [2,3,4,8,34,35,36,55] ?_
  refine zF ?_ ?_<;>intro c5<;>try simp only[bb,toN]at c5
  ·refine gU [.el dF inC [(f.acts.getD k2 dF).day],.el dF inC (a3_2++ [(f.acts.getD k2 dF).day])] [2,3,4,34,35,36] ?_
   refine gE [2,3,4,34,35,36] ?_
   refine zD ((a3_2++ [(f.acts.getD k2 dF).day],k2+1)) ?_ (hp:=t40) (hm:=by dsimp only;omega)
   refine ⟨by (try simp only[]);omega,he2.trans ?_,by first|omega|(simp;done)|(simp only[List.length_append,List.length_cons,List.length_nil,List.length_set,List.length_replicate];omega)⟩
   rw[yK,iP t11,iN (by (try simp only[bb,toN]);exact c4),iP (by (try simp only[bb,toN]);exact c5)]
   try rfl
  refine gE [2,3,4,34,35,36] ?_
  refine zD ((a3_2,k2+1)) ?_ (hp:=t40) (hm:=by dsimp only;omega)
  refine ⟨by (try simp only[]);omega,he2.trans ?_,by first|omega|(simp;done)|(simp only[List.length_append,List.length_cons,List.length_nil,List.length_set,List.length_replicate];omega)⟩
  rw[yK,iP t11,iN (by (try simp only[bb,toN]);exact c4),iN (by (try simp only[bb,toN]);exact c5)]
  try rfl
 refine gE [2,3,64] ?_
 refine zB ?_ ?_<;>intro c6<;>try simp only[toN]at c6
 ·refine gE [2,3] ?_
  refine gT ?_
  rw[qR,he,Yg,iQ t11,he2,yK,iQ t11,iP c6];rfl
 refine gR [.call (zWs a3_2 (by first|omega|assumption))] [2] ?_
 refine gT ?_
 rw[qR,he,Yg,iQ t11,he2,yK,iQ t11,iQ c6];rfl
def ZS (r:Rlm) (bK:Int) (f:Fil) (day:Int):Int:=if (((atV f day).bF).length:Int)=0 then (-1)else if ((uq r ((atV f day).bill) (qR (atV f day)) (mxI (Hv (Qq r bK 6 (atV f day) day)) 0)).2)=0 then (uq r ((atV f day).bill) (qR (atV f day)) (mxI (Hv (Qq r bK 6 (atV f day) day)) 0)).1 else (-1)
theorem va (r:Rlm) (bK:Int) (f:Fil) (day:Int) (hR:RR r) (hF:FitFi f):GC Tryz.prog 93 [rlG r,iG bK,fiG f,iG day] (iG (ZS r bK f day)):=by
 have hr:=hR.right.fit
 have h1:=hr.bD
 have h2:=hr.bB
 have h3:=hr.bC
 refine zA Tryz.func93 ?_
 refine gE [1,3,4,6,8] ?_
 refine gR [.call (jC f day (by first|assumption|exact FitFi.at_ t12 _))] [1,3,4,6,8] ?_
 refine gE [1,3,4,6,8,18] ?_
 refine zB ?_ ?_<;>intro c1<;>try simp only[toN]at c1
 ·refine gE [1,3,4,6,8] ?_
  refine gT ?_
  rw[ZS,iP c1];rfl
 refine gR [.call (Kx r bK 6 (atV f day) day hR (by first|assumption|exact FitFi.at_ t12 _|exact FitFi.nof t12|exact FitFi.nof (FitFi.at_ t12 _))),.call (zQb (Qq r bK 6 (atV f day) day))] [4,6,8,9] ?_
 refine gR [.call (zHh (atV f day) (by first|assumption|exact FitFi.at_ t12 _|exact FitFi.nof t12|exact FitFi.nof (FitFi.at_ t12 _))),.call (ZEb r ((atV f day).bill) (qR (atV f day)) (mxI (Hv (Qq r bK 6 (atV f day) day)) 0) hR)] [8,10,11] ?_
 refine gE [8,10,37] ?_
 refine zQ ?_ ?_<;>intro c2<;>try simp only[toN]at c2
 ·refine gE [8,10] ?_
  refine gT ?_
  rw[ZS,iQ c1,iQ c2];rfl
 refine gE [8] ?_
 refine gT ?_
 rw[ZS,iQ c1,iP c2];rfl
structure Dvw where
 r:Rlm
 bK:Int
 f:Fil
 sign:Int
 day:Int
 due:Int
instance :Inhabited Dvw:=⟨⟨dF,0,dF,0,0,0⟩⟩
abbrev dvG (x:Dvw):G:= .agg [.d (.row dF zg x.r.bA),.d (.row dF ctC x.r.bB),.d (.row dF inC x.r.groups),.d (.row dF fmC x.r.bC),.d (.row dF odC x.r.bD),.d (.row dF usC x.r.bE),.d (.row dF rtC x.r.rates),.d (.row dF htC x.r.halts),iG x.bK,iG x.f.bill.bP,iG x.f.bill.bO,iG x.f.bill.bQ,iG x.f.bill.sum,iG x.f.bill.cur,iG x.f.bill.ten.kind,iG x.f.bill.ten.n,iG x.f.bill.ten.unit,iG x.f.bill.day,iG x.f.bill.city,iG x.f.bill.pay,iG x.f.bill.need,iG x.f.bill.rate,iG x.f.bill.flags,iG x.f.bill.parts,.d (.row dF sgC x.f.bF),.d (.row dF alC x.f.bH),.d (.row dF acC x.f.acts),.d (.row dF fcC x.f.facts),iG x.sign,iG x.day,iG x.due]
structure Dtm where
 known:Bool
 last:Int
deriving DecidableEq
instance :Inhabited Dtm:=⟨⟨false,0⟩⟩
abbrev dtG (x:Dtm):G:= .agg [bG x.known,iG x.last]
def zo (r:Rlm) (bK:Int) (f:Fil) (sign:Int) (day:Int):Dvw:=⟨r,bK,(atV f day),sign,day,(ZS r bK f day)⟩
theorem zHz (r:Rlm) (bK:Int) (f:Fil) (sign:Int) (day:Int) (hR:RR r) (hF:FitFi f):GC Tryz.prog 166 [rlG r,iG bK,fiG f,iG sign,iG day] (dvG (zo r bK f sign day)):=by
 have hr:=hR.right.fit
 have h1:=hr.bD
 have h2:=hr.bB
 have h3:=hr.bC
 refine zA Tryz.func166 ?_
 refine gE [1,3,4,5,7,10] ?_
 refine gR [.call (jC f day (by first|assumption|exact FitFi.at_ t12 _)),.call (va r bK f day hR (by first|assumption|exact FitFi.at_ t12 _|exact FitFi.nof t12|exact FitFi.nof (FitFi.at_ t12 _)))] [10] ?_
 refine gT ?_
 rw[zo];rfl
def zP (v:Dvw) (q:Int):Sad:=(qN v.r v.bK q (⟨v.f,v.sign,v.sign,(-1),v.due,v.day⟩:Cas))
theorem QW (v:Dvw) (q:Int) (hR:RR v.r) (hF:FitFi v.f):GC Tryz.prog 192 [dvG v,iG q] (sdG (zP v q)):=by
 have hr:=hR.right.fit
 refine zA Tryz.func192 ?_
 refine gE [1,2,4] ?_
 refine gR [.call (WP v.r v.bK q (⟨v.f,v.sign,v.sign,(-1),v.due,v.day⟩:Cas) hR (by first|assumption|exact FitFi.at_ t12 _|exact FitFi.nof t12|exact FitFi.nof (FitFi.at_ t12 _)))] [4] ?_
 refine gT ?_
 rw[zP];rfl
def Uf (l:List Int):Int:=if (qv l 0)=true then 0 else if (qv l 2)=true then 2 else 1
theorem wO (l:List Int) (hl:l.length<=9223372036854775807):GC Tryz.prog 195 [.d (.row dF inC l)] (iG (Uf l)):=by
 refine zA Tryz.func195 ?_
 refine gE [0,2] ?_
 refine gR [.call ((fun l x h=>zi l h x) l 0 t17)] [0,2,3] ?_
 refine zF ?_ ?_<;>intro c1<;>try simp only[bb,toN]at c1
 ·refine gE [2] ?_
  refine gT ?_
  rw[Uf,iP (by (try simp only[bb,toN]);exact c1)];rfl
 refine gR [.call ((fun l x h=>zi l h x) l 2 t17)] [2,6] ?_
 refine zF ?_ ?_<;>intro c2<;>try simp only[bb,toN]at c2
 ·refine gE [2] ?_
  refine gT ?_
  rw[Uf,iN (by (try simp only[bb,toN]);exact c1),iP (by (try simp only[bb,toN]);exact c2)];rfl
 refine gE [2] ?_
 refine gT ?_
 rw[Uf,iN (by (try simp only[bb,toN]);exact c1),iN (by (try simp only[bb,toN]);exact c2)];rfl
def YD (said:Sad) (answer:Int):Int:=if (bif decide ((wS said)=0)then true else decide (answer=1))=true then 1 else if (wS said)=2 then 2 else answer
theorem Um (said:Sad) (answer:Int):GC Tryz.prog 191 [sdG said,iG answer] (iG (YD said answer)):=by
 refine zA Tryz.func191 ?_
 refine gE [1,2,4] ?_
 refine gR [.call (vO said)] [1,4,5] ?_
 refine gE [1,4,5,13] ?_
 refine zF ?_ ?_<;>intro c1<;>try simp only[bb,toN]at c1
 ·refine gE [1,4,5] ?_
  refine gT ?_
  rw[YD,iP (by (try simp only[bb,toN]);exact c1)];rfl
 refine gE [1,4,15] ?_
 refine zB ?_ ?_<;>intro c2<;>try simp only[toN]at c2
 ·refine gE [1,4] ?_
  refine gT ?_
  rw[YD,iN (by (try simp only[bb,toN]);exact c1),iP c2];rfl
 refine gE [4] ?_
 refine gT ?_
 rw[YD,iN (by (try simp only[bb,toN]);exact c1),iQ c2];rfl
def ZN (v:Dvw) (said:Sad) (fr:Int):Dtm:=if said.err=0 then if (!said.cell.known)=true then ⟨false,0⟩else if ((Vx (v.r.bB.getD v.f.bill.pay.toNat dF) fr said.cell.n).2)=0 then ⟨true,(Vx (v.r.bB.getD v.f.bill.pay.toNat dF) fr said.cell.n).1⟩else ⟨true,9223372036854775807⟩else ⟨true,9223372036854775807⟩
theorem jW (v:Dvw) (said:Sad) (fr:Int) (hR:RR v.r) (hF:FitFi v.f) (hp:0<=v.f.bill.pay/\v.f.bill.pay<v.r.bB.length):GC Tryz.prog 226 [dvG v,sdG said,iG fr] (dtG (ZN v said fr)):=by
 have hr:=hR.right.fit
 have h2:=hr.bB
 have hci:=hr.city _ (zK (l:=v.r.bB) (i:=v.f.bill.pay.toNat) t11)
 refine zA Tryz.func226 ?_
 refine gE [2,3,4,6] ?_
 refine gE [2,3,4,6,11] ?_
 refine zQ ?_ ?_<;>intro c1<;>try simp only[toN]at c1
 ·refine gE [2,3,4,6] ?_
  refine gT ?_
  rw[ZN,iQ c1];rfl
 refine gE [2,3,4,6,16] ?_
 refine zF ?_ ?_<;>intro c2<;>try simp only[bb,toN]at c2
 ·refine gE [2,3,4,6] ?_
  refine gT ?_
  rw[ZN,iP c1,iP (by (try simp only[bb,toN]);exact c2)];rfl
 refine gR [.call (zWf (v.r.bB.getD v.f.bill.pay.toNat dF) fr said.cell.n t12)] [6,7,8] ?_
 refine gE [6,7,36] ?_
 refine zQ ?_ ?_<;>intro c3<;>try simp only[toN]at c3
 ·refine gE [6,7] ?_
  refine gE [6] ?_
  refine gT ?_
  rw[ZN,iP c1,iN (by (try simp only[bb,toN]);exact c2),iQ c3];rfl
 refine gE [6] ?_
 refine gT ?_
 rw[ZN,iP c1,iN (by (try simp only[bb,toN]);exact c2),iP c3];rfl
def Yv (v:Dvw):Dtm:=if ((Qq v.r v.bK 7 v.f v.day).err)=0 then if (!((Qq v.r v.bK 7 v.f v.day).cell).known)=true then ⟨false,0⟩else if 100000<(IntKind.i64.wrap (v.f.bill.day+(((Qq v.r v.bK 7 v.f v.day).cell).n)))then ⟨true,9223372036854775807⟩else ⟨true,IntKind.i64.wrap (v.f.bill.day+(((Qq v.r v.bK 7 v.f v.day).cell).n))⟩else ⟨true,9223372036854775807⟩
theorem zBr (v:Dvw) (hR:RR v.r) (hF:FitFi v.f):GC Tryz.prog 225 [dvG v] (dtG (Yv v)):=by
 have hr:=hR.right.fit
 refine zA Tryz.func225 ?_
 refine gE [1,2] ?_
 refine gR [.call (Kx v.r v.bK 7 v.f v.day hR (by first|assumption|exact FitFi.at_ t12 _|exact FitFi.nof t12|exact FitFi.nof (FitFi.at_ t12 _)))] [1,2,3] ?_
 refine gE [1,2,3,13] ?_
 refine zQ ?_ ?_<;>intro c1<;>try simp only[toN]at c1
 ·refine gE [1,2,3] ?_
  refine gT ?_
  rw[Yv,iQ c1];rfl
 refine gE [1,2,3,18] ?_
 refine zF ?_ ?_<;>intro c2<;>try simp only[bb,toN]at c2
 ·refine gE [1,2,3] ?_
  refine gT ?_
  rw[Yv,iP c1,iP (by (try simp only[bb,toN]);exact c2)];rfl
 refine zG env true [] [1,2,3,24] ?_
 refine zB ?_ ?_<;>intro c3<;>try simp only[toN]at c3
 ·refine gE [1,2,3] ?_
  refine gT ?_
  rw[Yv,iP c1,iN (by (try simp only[bb,toN]);exact c2),iP c3];rfl
 refine zG env true [] [2] ?_
 refine gT ?_
 rw[Yv,iP c1,iN (by (try simp only[bb,toN]);exact c2),iQ c3];rfl
def ZI (v:Dvw) (on:Int) (t:Dtm):Int:=if (!t.known)=true then 2 else if (bif (!decide (on=(-1)))then decide (on<=t.last)else false)=true then 1 else if (bif (!decide (on=(-1)))then true else decide (t.last<v.day))=true then 0 else 2
theorem wA (v:Dvw) (on:Int) (t:Dtm):GC Tryz.prog 223 [dvG v,iG on,dtG t] (iG (ZI v on t)):=by
 refine zA Tryz.func223 ?_
 refine gE [1,3,5,6] ?_
 refine gE [1,3,5,6,7] ?_
 refine zF ?_ ?_<;>intro c1<;>try simp only[bb,toN]at c1
 ·refine gE [6] ?_
  refine gT ?_
  rw[ZI,iP (by (try simp only[bb,toN]);exact c1)];rfl
 refine gE [1,3,5,6,11] ?_
 refine zF ?_ ?_<;>intro c2<;>try simp only[bb,toN]at c2
 ·refine gE [6] ?_
  refine gT ?_
  rw[ZI,iN (by (try simp only[bb,toN]);exact c1),iP (by (try simp only[bb,toN]);exact c2)];rfl
 refine gE [6,20] ?_
 refine zF ?_ ?_<;>intro c3<;>try simp only[bb,toN]at c3
 ·refine gE [6] ?_
  refine gT ?_
  rw[ZI,iN (by (try simp only[bb,toN]);exact c1),iN (by (try simp only[bb,toN]);exact c2),iP (by (try simp only[bb,toN]);exact c3)];rfl
 refine gE [6] ?_
 refine gT ?_
 rw[ZI,iN (by (try simp only[bb,toN]);exact c1),iN (by (try simp only[bb,toN]);exact c2),iN (by (try simp only[bb,toN]);exact c3)];rfl
def YG (v:Dvw) (kind:Int) (fr:Int) (k1:Nat):Int:=if k1<v.f.acts.length then if (bif (bif decide (((v.f.acts.getD k1 dF).kind)=kind)then decide (((v.f.acts.getD k1 dF).to_)=v.f.bill.bO)else false)then decide (fr<=((v.f.acts.getD k1 dF).day))else false)=true then (v.f.acts.getD k1 dF).day else YG v kind fr (k1+1)else (-1)
termination_by v.f.acts.length-k1
def ye (v:Dvw) (kind:Int) (fr:Int):Int:=YG v kind fr 0
theorem wN (v:Dvw) (kind:Int) (fr:Int) (hF:FitFi v.f):GC Tryz.prog 224 [dvG v,iG kind,iG fr] (iG (ye v kind fr)):=by
 have g3:=hF.acts
 refine zA Tryz.func224 ?_
 refine gE [1,2,3,6] ?_
 refine gE [1,2,3,6,11,12,13] ?_
 refine zI (α:=Nat) (fun x=>x<=v.f.acts.length/\YG v kind fr 0=YG v kind fr x) (fun x=>[(13,iG x)]) (fun x=>[]) (fun x=>v.f.acts.length-x) 0 ⟨by (try simp only[]);omega,rfl⟩ ?_ (hp:=t40)
 rintro k1 ⟨hi1,he⟩
 refine gE [1,2,3,6,11,12,13,14] ?_
 refine zB ?_ ?_<;>intro c1<;>try simp only[toN]at c1
 ·refine gE [1,2,3,6,8,11,12,13] ?_
  refine gE [1,2,3,6,8,11,12,13,35] ?_
  refine zF ?_ ?_<;>intro c2<;>try simp only[bb,toN]at c2
  ·refine gE [1,2,3,6,11,12,13] ?_
   refine gT ?_
   rw[ye,he,YG,iP t11,iP (by (try simp only[bb,toN]);exact c2)];rfl
  refine gE [1,2,3,6,11,12,13] ?_
  refine zD (k1+1) ?_ (hp:=t40)
  refine ⟨by (try simp only[]);omega,he.trans ?_⟩
  rw[YG,iP t11,iN (by (try simp only[bb,toN]);exact c2)]
  try rfl
 refine gE [6] ?_
 refine gT ?_
 rw[ye,he,YG,iQ t11];rfl
def yw (v:Dvw):Int:=if v.due<(ye v 1 0)then (-1)else (ye v 1 0)
theorem wx (v:Dvw) (hF:FitFi v.f):GC Tryz.prog 206 [dvG v] (iG (yw v)):=by
 refine zA Tryz.func206 ?_
 refine gE [1,2] ?_
 refine gR [.call (wN v 1 0 hF)] [1,2,3] ?_
 refine gE [2,3,9] ?_
 refine zB ?_ ?_<;>intro c1<;>try simp only[toN]at c1
 ·refine gE [2,3] ?_
  refine gT ?_
  rw[yw,iP c1];rfl
 refine gE [2] ?_
 refine gT ?_
 rw[yw,iQ c1];rfl
def ZF (v:Dvw):Int:=if (yw v)=(-1)then v.due else (yw v)
theorem ur (v:Dvw) (hF:FitFi v.f):GC Tryz.prog 167 [dvG v] (iG (ZF v)):=by
 refine zA Tryz.func167 ?_
 refine gE [1,2] ?_
 refine gR [.call (wx v hF)] [1,2,3] ?_
 refine gE [1,2,3,7] ?_
 refine zQ ?_ ?_<;>intro c1<;>try simp only[toN]at c1
 ·refine gE [1,2] ?_
  refine gT ?_
  rw[ZF,iQ c1];rfl
 refine gE [2] ?_
 refine gT ?_
 rw[ZF,iP c1];rfl
def Yh (v:Dvw):Int:=if v.f.bill.ten.kind=0 then (ZI v (ye v 2 0) (Yv v))else if v.f.bill.ten.kind=1 then if (yw v)=(-1)then if v.due=(-1)then (Uf [(ZI v (qR v.f) (Yv v)),2])else (Uf [(ZI v (qR v.f) (Yv v)),(ZI v (ye v 2 v.due) (ZN v (zP v 10) v.due))])else (ZI v (qR v.f) (Yv v))else if (yw v)=(-1)then if v.due=(-1)then (Uf [1,2])else (Uf [1,(ZI v (ye v 2 v.due) (ZN v (zP v 10) v.due))])else 1
theorem zWe (v:Dvw) (hR:RR v.r) (hF:FitFi v.f) (hp:0<=v.f.bill.pay/\v.f.bill.pay<v.r.bB.length):GC Tryz.prog 190 [dvG v] (iG (Yh v)):=by
 have hr:=hR.right.fit
 refine zA Tryz.func190 ?_
 refine gE [1,2] ?_
 refine gE [1,2,3] ?_
 refine gE [1,2,3,11] ?_
 refine zB ?_ ?_<;>intro c1<;>try simp only[toN]at c1
 ·refine gR [.call (wN v 2 0 hF),.call (zBr v hR hF),.call (wA v (ye v 2 0) (Yv v))] [1,2,3] ?_
  refine gT ?_
  rw[Yh,iP c1];rfl
 refine gE [1,2,3,4] ?_
 refine gE [1,2,4,19] ?_
 refine zB ?_ ?_<;>intro c2<;>try simp only[toN]at c2
 ·refine gR [.call (zHh v.f (by first|assumption|exact FitFi.at_ t12 _|exact FitFi.nof t12|exact FitFi.nof (FitFi.at_ t12 _))),.call (zBr v hR hF),.call (wA v (qR v.f) (Yv v))] [1,2,4] ?_
  refine gR [.call (wx v hF)] [1,2,4,27] ?_
  refine zQ ?_ ?_<;>intro c3<;>try simp only[toN]at c3
  ·refine gE [1,2,4] ?_
   refine gT ?_
   rw[Yh,iQ c1,iP c2,iQ c3];rfl
  refine gE [1,2,4,32] ?_
  refine zB ?_ ?_<;>intro c4<;>try simp only[toN]at c4
  ·refine gR [.el dF inC [(ZI v (qR v.f) (Yv v)),2],.call (wO [(ZI v (qR v.f) (Yv v)),2] t17)] [1,2,4] ?_
   refine gT ?_
   rw[Yh,iQ c1,iP c2,iP c3,iP c4];rfl
  refine gR [.call (wN v 2 v.due hF),.call (QW v 10 hR hF),.call (jW v (zP v 10) v.due hR hF hp),.call (wA v (ye v 2 v.due) (ZN v (zP v 10) v.due)),.el dF inC [(ZI v (qR v.f) (Yv v)),(ZI v (ye v 2 v.due) (ZN v (zP v 10) v.due))],.call (wO [(ZI v (qR v.f) (Yv v)),(ZI v (ye v 2 v.due) (ZN v (zP v 10) v.due))] t17)] [2] ?_
  refine gT ?_
  rw[Yh,iQ c1,iP c2,iP c3,iQ c4];rfl
 refine gR [.call (wx v hF)] [1,2,4,27] ?_
 refine zQ ?_ ?_<;>intro c5<;>try simp only[toN]at c5
 ·refine gE [1,2,4] ?_
  refine gT ?_
  rw[Yh,iQ c1,iQ c2,iQ c5];rfl
 refine gE [1,2,4,32] ?_
 refine zB ?_ ?_<;>intro c6<;>try simp only[toN]at c6
 ·refine gR [.el dF inC [1,2],.call (wO [1,2] t17)] [1,2,4] ?_
  refine gT ?_
  rw[Yh,iQ c1,iQ c2,iP c5,iP c6];rfl
 refine gR [.call (wN v 2 v.due hF),.call (QW v 10 hR hF),.call (jW v (zP v 10) v.due hR hF hp),.call (wA v (ye v 2 v.due) (ZN v (zP v 10) v.due)),.el dF inC [1,(ZI v (ye v 2 v.due) (ZN v (zP v 10) v.due))],.call (wO [1,(ZI v (ye v 2 v.due) (ZN v (zP v 10) v.due))] t17)] [2] ?_
 refine gT ?_
 rw[Yh,iQ c1,iQ c2,iP c5,iQ c6];rfl
def yc (v:Dvw) (j5_1:Int) (a5_1:Int) (k1:Nat):Int:=if k1<v.f.acts.length then if (bif (bif (bif (!decide (((v.f.acts.getD k1 dF).kind)=4))then true else (!decide (((v.f.acts.getD k1 dF).to_)=v.f.bill.bO)))then true else decide (((v.f.acts.getD k1 dF).day)<(ZF v)))then true else decide (((ZN v (zP v 10) (ZF v)).last)<((v.f.acts.getD k1 dF).day)))=true then yc v j5_1 a5_1 (k1+1)else if ((v.f.acts.getD k1 dF).form)=1 then if (wS (zP v 9))=1 then 1 else if (wS (zP v 9))=2 then yc v j5_1 2 (k1+1)else yc v j5_1 a5_1 (k1+1)else 1 else a5_1
termination_by v.f.acts.length-k1
def QJ (v:Dvw) (j5_1:Int):Int:=yc v j5_1 j5_1 0
def jM (v:Dvw):Int:=if (!(ZN v (zP v 10) (ZF v)).known)=true then 2 else if v.day<=((ZN v (zP v 10) (ZF v)).last)then QJ v 2 else QJ v 0
theorem zWc (v:Dvw) (hR:RR v.r) (hF:FitFi v.f) (hp:0<=v.f.bill.pay/\v.f.bill.pay<v.r.bB.length):GC Tryz.prog 193 [dvG v] (iG (jM v)):=by
 have hr:=hR.right.fit
 have g3:=hF.acts
 refine zA Tryz.func193 ?_
 refine gE [1,2] ?_
 refine gR [.call (ur v (by first|exact hF|exact FitFi.at_ hF _))] [1,2,3] ?_
 refine gR [.call (QW v 10 hR hF),.call (jW v (zP v 10) (ZF v) hR hF hp)] [1,2,3,4] ?_
 refine gE [1,2,3,4,18] ?_
 refine zF ?_ ?_<;>intro c1<;>try simp only[bb,toN]at c1
 ·refine gE [1,2,3,4] ?_
  refine gT ?_
  rw[jM,iP (by (try simp only[bb,toN]);exact c1)];rfl
 refine gE [1,2,3,4,5] ?_
 refine gE [1,2,3,4,5,23] ?_
 refine yO (α:=Int) (fun x=>jM v=QJ v x) (fun x=>⟨[(1,.ptr 0 0 0 0),(2,iG 0),(3,iG (ZF v)),(4,.ptr 1 0 0 0),(5,iG x)],[(0,some (.box [.d (.row dF zg v.r.bA),.d (.row dF ctC v.r.bB),.d (.row dF inC v.r.groups),.d (.row dF fmC v.r.bC),.d (.row dF odC v.r.bD),.d (.row dF usC v.r.bE),.d (.row dF rtC v.r.rates),.d (.row dF htC v.r.halts),iG v.bK,iG v.f.bill.bP,iG v.f.bill.bO,iG v.f.bill.bQ,iG v.f.bill.sum,iG v.f.bill.cur,iG v.f.bill.ten.kind,iG v.f.bill.ten.n,iG v.f.bill.ten.unit,iG v.f.bill.day,iG v.f.bill.city,iG v.f.bill.pay,iG v.f.bill.need,iG v.f.bill.rate,iG v.f.bill.flags,iG v.f.bill.parts,.d (.row dF sgC v.f.bF),.d (.row dF alC v.f.bH),.d (.row dF acC v.f.acts),.d (.row dF fcC v.f.facts),iG v.sign,iG v.day,iG v.due])),(1,some (.box [bG ((ZN v (zP v 10) (ZF v)).known),iG ((ZN v (zP v 10) (ZF v)).last)]))],2⟩) ?_ ?_
 ·rintro j5_1 hjc1
  refine gE [1,2,3,4,5,26,27,28] ?_
  refine zI (α:=Int×Nat) (fun x=>x.2<=v.f.acts.length/\yc v j5_1 j5_1 0=yc v j5_1 x.1 x.2) (fun x=>[(5,iG x.1),(28,iG x.2)]) (fun x=>[]) (fun x=>v.f.acts.length-x.2) (j5_1,0) ⟨by (try simp only[]);omega,rfl⟩ ?_ (hp:=t40)
  rintro ⟨a5_1,k1⟩ ⟨hi1,he⟩
  dsimp only at*
  refine gE [1,2,3,4,5,26,27,28,29] ?_
  refine zB ?_ ?_<;>intro c2<;>try simp only[toN]at c2
  ·refine gE [1,2,3,4,5,7,26,27,28] ?_
   refine gE [1,2,3,4,5,7,26,27,28,56] ?_
   refine zF ?_ ?_<;>intro c3<;>try simp only[bb,toN]at c3
   ·refine gE [1,2,3,4,5,26,27,28] ?_
    refine zD ((a5_1,k1+1)) ?_ (hp:=t40) (hm:=by dsimp only;omega)
    refine ⟨by (try simp only[]);omega,he.trans ?_⟩
    rw[yc,iP t11,iP (by (try simp only[bb,toN]);exact c3)]
    try rfl
   refine gE [1,2,3,4,5,7,8,26,27,28] ?_
   refine gE [1,2,3,4,5,8,26,27,28,59] ?_
   refine zB ?_ ?_<;>intro c4<;>try simp only[toN]at c4
   ·refine gR [.call (QW v 9 hR hF),.call (vO (zP v 9))] [1,2,3,4,5,8,26,27,28] ?_
    refine gE [1,2,3,4,5,8,26,27,28,63] ?_
    refine zB ?_ ?_<;>intro c5<;>try simp only[toN]at c5
    ·refine gE [1,2,3,4,5,26,27,28] ?_
     refine gT ?_
     rw[hjc1,QJ,he,yc,iP t11,iN (by (try simp only[bb,toN]);exact c3),iP c4,iP c5];rfl
    refine gE [1,2,3,4,5,26,27,28,66] ?_
    refine zB ?_ ?_<;>intro c6<;>try simp only[toN]at c6
    ·refine gE [1,2,3,4,5,26,27,28] ?_
     refine gE [1,2,3,4,5,26,27,28] ?_
     refine zD ((2,k1+1)) ?_ (hp:=t40) (hm:=by dsimp only;omega)
     refine ⟨by (try simp only[]);omega,he.trans ?_⟩
     rw[yc,iP t11,iN (by (try simp only[bb,toN]);exact c3),iP c4,iQ c5,iP c6]
     try rfl
    refine gE [1,2,3,4,5,26,27,28] ?_
    refine zD ((a5_1,k1+1)) ?_ (hp:=t40) (hm:=by dsimp only;omega)
    refine ⟨by (try simp only[]);omega,he.trans ?_⟩
    rw[yc,iP t11,iN (by (try simp only[bb,toN]);exact c3),iP c4,iQ c5,iQ c6]
    try rfl
   refine gE [1,2,3,4,5,8,26,27,28,63] ?_
   refine zB ?_ ?_<;>intro c7<;>try simp only[toN]at c7
   ·refine gE [1,2,3,4,5,26,27,28] ?_
    refine gT ?_
    rw[hjc1,QJ,he,yc,iP t11,iN (by (try simp only[bb,toN]);exact c3),iQ c4];rfl
   first|omega|(exact absurd trivial c7)|(simp at c7)
  refine gE [2] ?_
  refine gT ?_
  rw[hjc1,QJ,he,yc,iQ t11];rfl
 refine zB ?_ ?_<;>intro c8<;>try simp only[toN]at c8
 ·refine gE [1,2,3,4,5] ?_
  refine zV (2) ?_ (hp:=t40)
  exact by rw[jM,iN (by (try simp only[bb,toN]);exact c1),iP c8]
 refine zV (0) ?_ (hp:=t40)
 exact by rw[jM,iN (by (try simp only[bb,toN]);exact c1),iQ c8]
structure Bvw where
 r:Rlm
 bK:Int
 day:Int
 f:Fil
 form:Int
 due:Int
instance :Inhabited Bvw:=⟨⟨dF,0,0,dF,0,0⟩⟩
abbrev bvG (x:Bvw):G:= .agg [.d (.row dF zg x.r.bA),.d (.row dF ctC x.r.bB),.d (.row dF inC x.r.groups),.d (.row dF fmC x.r.bC),.d (.row dF odC x.r.bD),.d (.row dF usC x.r.bE),.d (.row dF rtC x.r.rates),.d (.row dF htC x.r.halts),iG x.bK,iG x.day,iG x.f.bill.bP,iG x.f.bill.bO,iG x.f.bill.bQ,iG x.f.bill.sum,iG x.f.bill.cur,iG x.f.bill.ten.kind,iG x.f.bill.ten.n,iG x.f.bill.ten.unit,iG x.f.bill.day,iG x.f.bill.city,iG x.f.bill.pay,iG x.f.bill.need,iG x.f.bill.rate,iG x.f.bill.flags,iG x.f.bill.parts,.d (.row dF sgC x.f.bF),.d (.row dF alC x.f.bH),.d (.row dF acC x.f.acts),.d (.row dF fcC x.f.facts),iG x.form,iG x.due]
def YE (v:Dvw) (a6_1:Int) (a7_1:List Act) (k1:Nat) (a10_2:Bool) (k2:Nat):Sum Int (Int×(List Act)):=if k2<a7_1.length then YE v a6_1 a7_1 k1 (bif a10_2 then true else (bif decide (((a7_1.getD k2 dF).to_)=((v.f.acts.getD k1 dF).who))then decide (((v.f.acts.getD k1 dF).day)<=((ZN v (zP v 12) ((a7_1.getD k2 dF).day)).last))else false)) (k2+1)else if (!a10_2)=true then .inr (a6_1,a7_1)else if ((v.f.acts.getD k1 dF).to_)=((v.f.bF.getD v.sign.toNat dF).who)then .inl 1 else .inr (mxI a6_1 ((ZN v (zP v 12) ((v.f.acts.getD k1 dF).day)).last),a7_1++ [(v.f.acts.getD k1 dF)])
termination_by a7_1.length-k2
def yr (v:Dvw) (a6_1:Int) (a7_1:List Act) (k1:Nat):Int:=if k1<v.f.acts.length then if ((v.f.acts.getD k1 dF).kind)=5 then (match YE v a6_1 a7_1 k1 (bif decide ((ZF v)<=((v.f.acts.getD k1 dF).day))then decide (((v.f.acts.getD k1 dF).day)<=((ZN v (zP v 12) (ZF v)).last))else false) 0 with| .inl r=>r| .inr (a6_1,a7_1)=>yr v a6_1 a7_1 (k1+1))else yr v a6_1 a7_1 (k1+1)else if a6_1<v.day then 0 else 2
termination_by v.f.acts.length-k1
def jQ (v:Dvw):Int:=if (!(ZN v (zP v 12) (ZF v)).known)=true then 2 else yr v ((ZN v (zP v 12) (ZF v)).last) [] 0
theorem zWq (v:Dvw) (hR:RR v.r) (hF:FitFi v.f) (hp:0<=v.f.bill.pay/\v.f.bill.pay<v.r.bB.length) (hs:0<=v.sign/\v.sign<v.f.bF.length):GC Tryz.prog 194 [dvG v] (iG (jQ v)):=by
 have hr:=hR.right.fit
 have g3:=hF.acts
 refine zA Tryz.func194 ?_
 refine gE [1,2] ?_
 refine gR [.call (ur v (by first|exact hF|exact FitFi.at_ hF _))] [1,2,3] ?_
 refine gR [.call (QW v 12 hR hF)] [1,2,3,4] ?_
 refine gR [.call (jW v (zP v 12) (ZF v) hR hF hp)] [1,2,3,4,5] ?_
 refine gE [1,2,3,4,5,23] ?_
 refine zF ?_ ?_<;>intro c1<;>try simp only[bb,toN]at c1
 ·refine gE [1,2,3,4,5] ?_
  refine gT ?_
  rw[jQ,iP (show (!(ZN v (zP v 12) (ZF v)).known)=true by (try simp only[bb,toN]);exact c1)];rfl
 refine gE [1,2,3,4,5,6] ?_
 refine gE [1,2,3,4,5,6,7] ?_
 refine gE [1,2,3,4,5,6,7,28,29,30] ?_
 refine YS 7 66 9 (dF:Act) acC t25 t25 ?_
 refine zI (α:=Int×List Act×Nat) (fun x=>x.2.2<=v.f.acts.length/\yr v ((ZN v (zP v 12) (ZF v)).last) [] 0=yr v x.1 x.2.1 x.2.2/\x.2.1.length<=x.2.2) (fun x=>[(6,iG x.1),(7,.sl 3 9 0 x.2.1.length),(30,iG x.2.2)]) (fun x=>[(3,some (.row 66 9 dF acC x.2.1 0))]) (fun x=>v.f.acts.length-x.2.2) ((ZN v (zP v 12) (ZF v)).last,[],0) ⟨by (try simp only[]);omega,rfl,by first|omega|(simp;done)|(simp only[List.length_append,List.length_cons,List.length_nil,List.length_set,List.length_replicate];omega)⟩ ?_ (hp:=t40)
 rintro ⟨a6_1,a7_1,k1⟩ ⟨hi1,he,hl_a7_1⟩
 dsimp only at*
 refine gE [1,2,3,4,5,6,7,28,29,30,31] ?_
 refine zB ?_ ?_<;>intro c2<;>try simp only[toN]at c2
 ·refine gE [1,2,3,4,5,6,7,9,28,29,30] ?_
  refine gE [1,2,3,4,5,6,7,9,28,29,30,36] ?_
  refine zQ ?_ ?_<;>intro c3<;>try simp only[toN]at c3
  ·refine gE [1,2,3,4,5,6,7,28,29,30] ?_
   refine zD ((a6_1,a7_1,k1+1)) ?_ (hp:=t40) (hm:=by dsimp only;omega)
   refine ⟨by (try simp only[]);omega,he.trans ?_,by first|omega|(simp;done)|(simp only[List.length_append,List.length_cons,List.length_nil,List.length_set,List.length_replicate];omega)⟩
   rw[yr,iP (show k1<v.f.acts.length by omega),iQ c3]
   try rfl
  refine gE [1,2,3,4,5,6,7,9,10,28,29,30] ?_
  refine gE [1,2,3,4,5,6,7,9,10,28,29,30,48,49,50] ?_
  refine zI (α:=Bool×Nat) (fun x=>x.2<=a7_1.length/\YE v a6_1 a7_1 k1 (bif decide ((ZF v)<=((v.f.acts.getD k1 dF).day))then decide (((v.f.acts.getD k1 dF).day)<=((ZN v (zP v 12) (ZF v)).last))else false) 0=YE v a6_1 a7_1 k1 x.1 x.2) (fun x=>[(10,bG x.1),(50,iG x.2)]) (fun x=>[]) (fun x=>a7_1.length-x.2) ((bif decide ((ZF v)<=((v.f.acts.getD k1 dF).day))then decide (((v.f.acts.getD k1 dF).day)<=((ZN v (zP v 12) (ZF v)).last))else false),0) ⟨by (try simp only[]);omega,rfl⟩ ?_ (hp:=t40)
  rintro ⟨a10_2,k2⟩ ⟨hi2,he2⟩
  dsimp only at*
  refine gE [1,2,3,4,5,6,7,9,10,28,29,30,48,49,50,51] ?_
  refine zB ?_ ?_<;>intro c4<;>try simp only[toN]at c4
  ·refine gE [1,2,3,4,5,6,7,9,10,12,28,29,30,48,49,50] ?_ (hp:=t15)
   refine gR [.call (jW v (zP v 12) ((a7_1.getD k2 dF).day) hR hF hp)] [1,2,3,4,5,6,7,9,10,28,29,30,48,49,50] ?_
   refine gE [1,2,3,4,5,6,7,9,10,28,29,30,48,49,50] ?_
   refine zD (((bif a10_2 then true else (bif decide (((a7_1.getD k2 dF).to_)=((v.f.acts.getD k1 dF).who))then decide (((v.f.acts.getD k1 dF).day)<=((ZN v (zP v 12) ((a7_1.getD k2 dF).day)).last))else false)),k2+1)) ?_ (hp:=t40) (hm:=by dsimp only;omega)
   refine ⟨by (try simp only[]);omega,he2.trans ?_⟩
   rw[YE,iP (show k2<a7_1.length by omega)]
   try rfl
  refine gE [1,2,3,4,5,6,7,9,28,29,30,75] ?_
  refine zF ?_ ?_<;>intro c5<;>try simp only[bb,toN]at c5
  ·refine gE [1,2,3,4,5,6,7,28,29,30] ?_
   refine zD ((a6_1,a7_1,k1+1)) ?_ (hp:=t40) (hm:=by dsimp only;omega)
   refine ⟨by (try simp only[]);omega,he.trans ?_,by first|omega|(simp;done)|(simp only[List.length_append,List.length_cons,List.length_nil,List.length_set,List.length_replicate];omega)⟩
   rw[yr,iP (show k1<v.f.acts.length by omega),iP c3,he2,YE,iQ (show ¬(k2<a7_1.length)by omega),iP (show (!a10_2)=true by (try simp only[bb,toN]);exact c5)]
   try rfl
  refine gE [1,2,3,4,5,6,7,9,28,29,30,86] ?_
  refine zB ?_ ?_<;>intro c6<;>try simp only[toN]at c6
  ·refine gE [1,2,3,4,5,6,7,9,28,29,30] ?_
   refine gT ?_
   rw[jQ,iQ (show ¬((!(ZN v (zP v 12) (ZF v)).known)=true)by rw[Bool.not_eq_true];(try simp only[bb,toN]);exact c1),he,yr,iP (show k1<v.f.acts.length by omega),iP c3,he2,YE,iQ (show ¬(k2<a7_1.length)by omega),iQ (show ¬((!a10_2)=true)by rw[Bool.not_eq_true];(try simp only[bb,toN]);exact c5),iP c6];rfl
  refine gU [.el dF acC ([(v.f.acts.getD k1 dF)]:List Act),.el dF acC (a7_1++ [(v.f.acts.getD k1 dF)])] [1,2,3,4,5,6,7,9,28,29,30] ?_
  refine gR [.call (jW v (zP v 12) ((v.f.acts.getD k1 dF).day) hR hF hp)] [1,2,3,4,5,6,7,28,29,30] ?_
  refine gE [1,2,3,4,5,6,7,28,29,30] ?_
  refine zD ((mxI a6_1 ((ZN v (zP v 12) ((v.f.acts.getD k1 dF).day)).last),a7_1++ [(v.f.acts.getD k1 dF)],k1+1)) ?_ (hp:=t40) (hm:=by dsimp only;omega)
  refine ⟨by (try simp only[]);omega,he.trans ?_,by first|omega|(simp;done)|(simp only[List.length_append,List.length_cons,List.length_nil,List.length_set,List.length_replicate];omega)⟩
  rw[yr,iP (show k1<v.f.acts.length by omega),iP c3,he2,YE,iQ (show ¬(k2<a7_1.length)by omega),iQ (show ¬((!a10_2)=true)by rw[Bool.not_eq_true];(try simp only[bb,toN]);exact c5),iQ c6]
  try rfl
 refine gE [2,103] ?_
 refine zB ?_ ?_<;>intro c7<;>try simp only[toN]at c7
 ·refine gE [2] ?_
  refine gT ?_
  rw[jQ,iQ (show ¬((!(ZN v (zP v 12) (ZF v)).known)=true)by rw[Bool.not_eq_true];(try simp only[bb,toN]);exact c1),he,yr,iQ (show ¬(k1<v.f.acts.length)by omega),iP c7];rfl
 refine gE [2] ?_
 refine gT ?_
 rw[jQ,iQ (show ¬((!(ZN v (zP v 12) (ZF v)).known)=true)by rw[Bool.not_eq_true];(try simp only[bb,toN]);exact c1),he,yr,iQ (show ¬(k1<v.f.acts.length)by omega),iQ c7];rfl
def zUr (r:Rlm) (bK:Int) (f:Fil) (day:Int):Int:=(ZF (zo r bK f 0 day))
theorem ZAd (r:Rlm) (bK:Int) (f:Fil) (day:Int) (hR:RR r) (hF:FitFi f):GC Tryz.prog 133 [rlG r,iG bK,fiG f,iG day] (iG (zUr r bK f day)):=by
 have hr:=hR.right.fit
 have h1:=hr.bD
 have h2:=hr.bB
 have h3:=hr.bC
 refine zA Tryz.func133 ?_
 refine gE [1,3,4,6,8] ?_
 refine gR [.call (zHz r bK f 0 day hR (by first|assumption|exact FitFi.at_ t12 _|exact FitFi.nof t12|exact FitFi.nof (FitFi.at_ t12 _))),.call (ur (zo r bK f 0 day) (by first|exact hF|exact FitFi.at_ hF _))] [8] ?_
 refine gT ?_
 rw[zUr];rfl
def qx (l:List Int) (a3_1:Int) (k1:Nat):Int:=if k1<l.length then if (l.getD k1 dF)=0 then 0 else if (l.getD k1 dF)=2 then qx l 2 (k1+1)else qx l a3_1 (k1+1)else a3_1
termination_by l.length-k1
def vk (l:List Int):Int:=qx l 1 0
theorem zCe (l:List Int) (hl:l.length<=9223372036854775807):GC Tryz.prog 183 [.d (.row dF inC l)] (iG (vk l)):=by
 refine zA Tryz.func183 ?_
 refine gE [0,2] ?_
 refine gE [0,2,3] ?_
 refine gE [2,3,6,7,8] ?_
 refine zI (α:=Int×Nat) (fun x=>x.2<=l.length/\qx l 1 0=qx l x.1 x.2) (fun x=>[(3,iG x.1),(8,iG x.2)]) (fun x=>[]) (fun x=>l.length-x.2) (1,0) ⟨by (try simp only[]);omega,rfl⟩ ?_ (hp:=t40)
 rintro ⟨a3_1,k1⟩ ⟨hi1,he⟩
 dsimp only at*
 refine gE [2,3,6,7,8,9] ?_
 refine zB ?_ ?_<;>intro c1<;>try simp only[toN]at c1
 ·refine gE [2,3,5,6,7,8] ?_
  refine gE [2,3,5,6,7,8,12] ?_
  refine zB ?_ ?_<;>intro c2<;>try simp only[toN]at c2
  ·refine gE [2,3,6,7,8] ?_
   refine gT ?_
   rw[vk,he,qx,iP t11,iP c2];rfl
  refine gE [2,3,6,7,8,15] ?_
  refine zB ?_ ?_<;>intro c3<;>try simp only[toN]at c3
  ·refine gE [2,3,6,7,8] ?_
   refine gE [2,3,6,7,8] ?_
   refine zD ((2,k1+1)) ?_ (hp:=t40) (hm:=by dsimp only;omega)
   refine ⟨by (try simp only[]);omega,he.trans ?_⟩
   rw[qx,iP t11,iQ c2,iP c3]
   try rfl
  refine gE [2,3,6,7,8] ?_
  refine zD ((a3_1,k1+1)) ?_ (hp:=t40) (hm:=by dsimp only;omega)
  refine ⟨by (try simp only[]);omega,he.trans ?_⟩
  rw[qx,iP t11,iQ c2,iQ c3]
  try rfl
 refine gE [2] ?_
 refine gT ?_
 rw[vk,he,qx,iQ t11];rfl
def VD (a:Int) (b:Int):Int:=(vk [a,b])
theorem zIz (a:Int) (b:Int):GC Tryz.prog 157 [iG a,iG b] (iG (VD a b)):=by
 refine zA Tryz.func157 ?_
 refine gE [0,1,4] ?_
 refine gR [.el dF inC [a,b],.call (zCe [a,b] t17)] [4] ?_
 refine gT ?_
 rw[VD];rfl
def ZT (r:Rlm) (bK:Int) (f:Fil) (day:Int):Bvw:=⟨r,bK,day,(atV f day),(wS (Qq r bK 0 (atV f day) day)),(ZS r bK (atV f day) day)⟩
theorem zCb (r:Rlm) (bK:Int) (f:Fil) (day:Int) (hR:RR r) (hF:FitFi f):GC Tryz.prog 141 [rlG r,iG bK,fiG f,iG day] (bvG (ZT r bK f day)):=by
 have hr:=hR.right.fit
 have h1:=hr.bD
 have h2:=hr.bB
 have h3:=hr.bC
 refine zA Tryz.func141 ?_
 refine gE [1,3,4,6,8] ?_
 refine gR [.call (jC f day (by first|assumption|exact FitFi.at_ t12 _))] [1,3,4,8,9] ?_
 refine gR [.call (Kx r bK 0 (atV f day) day hR (by first|assumption|exact FitFi.at_ t12 _|exact FitFi.nof t12|exact FitFi.nof (FitFi.at_ t12 _))),.call (vO (Qq r bK 0 (atV f day) day)),.call (va r bK (atV f day) day hR (by first|assumption|exact FitFi.at_ t12 _|exact FitFi.nof t12|exact FitFi.nof (FitFi.at_ t12 _)))] [8] ?_
 refine gT ?_
 rw[ZT];rfl
def yV (v:Bvw) (q:Int) (sign:Int):Int:=(wS (qN v.r v.bK q (⟨v.f,sign,sign,(-1),v.due,v.day⟩:Cas)))
theorem UA (v:Bvw) (q:Int) (sign:Int) (hR:RR v.r) (hF:FitFi v.f):GC Tryz.prog 184 [bvG v,iG q,iG sign] (iG (yV v q sign)):=by
 have hr:=hR.right.fit
 refine zA Tryz.func184 ?_
 refine gE [1,2,3,6] ?_
 refine gE [1,3,6,7] ?_
 refine gR [.call (WP v.r v.bK q (⟨v.f,sign,sign,(-1),v.due,v.day⟩:Cas) hR (by first|assumption|exact FitFi.at_ t12 _|exact FitFi.nof t12|exact FitFi.nof (FitFi.at_ t12 _))),.call (vO (qN v.r v.bK q (⟨v.f,sign,sign,(-1),v.due,v.day⟩:Cas)))] [6] ?_
 refine gT ?_
 rw[yV];rfl
def Zx (v:Bvw) (sign:Int) (a7_1:Bool) (k1:Nat):Int×Int:=if k1<v.f.bH.length then Zx v sign (bif a7_1 then true else decide (sign<((v.f.bH.getD k1 dF).at_))) (k1+1)else if (!a7_1)=true then (0,(jh v.f sign))else if (yV v 4 sign)=1 then ((yV v 4 sign),(v.f.bH.getD (((v.f.bH.length:Int)-1).toNat) dF).sum)else if (yV v 4 sign)=2 then ((yV v 4 sign),mnI (jh v.f sign) ((v.f.bH.getD (((v.f.bH.length:Int)-1).toNat) dF).sum))else ((yV v 4 sign),(jh v.f sign))
termination_by v.f.bH.length-k1
def qM (v:Bvw) (sign:Int):Int×Int:=Zx v sign false 0
theorem zTs (v:Bvw) (sign:Int) (hR:RR v.r) (hF:FitFi v.f):GC Tryz.prog 185 [bvG v,iG sign] (.tup [iG ((qM v sign).1),iG ((qM v sign).2)]):=by
 have hr:=hR.right.fit
 have g2:=hF.bH
 refine zA Tryz.func185 ?_
 refine gE [1,2,4,5] ?_
 refine gR [.call (zOj v.f sign t11)] [1,2,4,5] ?_
 refine gE [1,2,4,5,6] ?_
 refine gE [1,2,4,5,6,7] ?_
 refine gE [1,2,4,5,6,7,21,22,23] ?_
 refine zI (α:=Bool×Nat) (fun x=>x.2<=v.f.bH.length/\Zx v sign false 0=Zx v sign x.1 x.2/\(fun (a:Bool) (k:Nat)=>a=true->1<=k) x.1 x.2) (fun x=>[(7,bG x.1),(23,iG x.2)]) (fun x=>[]) (fun x=>v.f.bH.length-x.2) (false,0) ⟨by (try simp only[]);omega,rfl,t27⟩ ?_ (hp:=t40)
 rintro ⟨a7_1,k1⟩ ⟨hi1,he,hv1⟩
 dsimp only at*
 refine gE [1,2,4,5,6,7,21,22,23,24] ?_
 refine zB ?_ ?_<;>intro c1<;>try simp only[toN]at c1
 ·refine gE [1,2,4,5,6,7,9,21,22,23] ?_
  refine gE [1,2,4,5,6,7,21,22,23] ?_
  refine gE [1,2,4,5,6,7,21,22,23] ?_
  refine zD (((bif a7_1 then true else decide (sign<((v.f.bH.getD k1 dF).at_))),k1+1)) ?_ (hp:=t40) (hm:=by dsimp only;omega)
  refine ⟨by (try simp only[]);omega,he.trans ?_,(fun _=>by dsimp only;omega)⟩
  rw[Zx,iP (show k1<v.f.bH.length by omega)]
  try rfl
 refine gE [1,2,4,5,6,36] ?_
 refine zF ?_ ?_<;>intro c2<;>try simp only[bb,toN]at c2
 ·refine gE [1,2,4,5,6] ?_
  refine gT ?_
  rw[qM,he,Zx,iQ (show ¬(k1<v.f.bH.length)by omega),iP (show (!a7_1)=true by (try simp only[bb,toN]);exact c2)];rfl
 have hk1:=hv1 c2
 refine gE [1,2,4,5,10] ?_
 refine gR [.call (UA v 4 sign hR hF)] [4,5,10] ?_
 refine gE [4,5,10,49] ?_
 refine gE [4,5,10,49,50] ?_
 refine zB ?_ ?_<;>intro c3<;>try simp only[toN]at c3
 ·refine gE [4,5] ?_
  refine gT ?_
  rw[qM,he,Zx,iQ (show ¬(k1<v.f.bH.length)by omega),iQ (show ¬((!a7_1)=true)by rw[Bool.not_eq_true];(try simp only[bb,toN]);exact c2),iP c3];rfl
 refine gE [4,5,10,54] ?_
 refine zB ?_ ?_<;>intro c4<;>try simp only[toN]at c4
 ·refine gE [4,5] ?_
  refine gT ?_
  rw[qM,he,Zx,iQ (show ¬(k1<v.f.bH.length)by omega),iQ (show ¬((!a7_1)=true)by rw[Bool.not_eq_true];(try simp only[bb,toN]);exact c2),iQ c3,iP c4];rfl
 refine gE [4,5] ?_
 refine gT ?_
 rw[qM,he,Zx,iQ (show ¬(k1<v.f.bH.length)by omega),iQ (show ¬((!a7_1)=true)by rw[Bool.not_eq_true];(try simp only[bb,toN]);exact c2),iQ c3,iQ c4];rfl
def wiV (n lo hi:Int):Bool:=decide (lo<=n)&&decide (n<=hi)
theorem ZJ {n lo hi:Int} :wiV n lo hi=true↔lo<=n/\n<=hi:=by simp[wiV]
theorem t13 {p:Prop} (h:p:=by simp only[zC,bb,toN,ZJ,loI,hiI];repeat' first|exact trivial|exact zH.refl _|exact zE.refl _|exact rfl|omega|apply And.intro|intro _):p:=h
theorem gS {nt p:Nat} {R:Exit->St->Prop} {c':Code} {K K':List Kont} (hs:List (Hint Tryz.prog)) (kp:List Nat) {id:Nat} {ops:Array Oper} {draw:Bool} {tm tm' tm1:List (Nat×G)} {h0 h1 h2:List (Nat×Option Blk)} {n n1:Nat} {feet:List Foot} {pr pr':List Prop} {hs':List (Hint Tryz.prog)}
 (hq:GK Tryz.prog nt p R c' K' ⟨tm',h2,n1⟩) (h:jk Tryz.prog false tab nt ops ops.toList tm h0 n [] hs=some (pr,⟨tm1,h1,n1⟩,feet,hs'):=by rfl) (hok:Wb ops nt draw feet=true:=by kernel_rfl) (hk:QN tm1 kp=some tm':=by rfl) (hh:nfH [] h1=some h2:=by rfl) (hn:nrm 1000 .skip K=some (c',K'):=by rfl) (hf:nfP pr=some pr':=by rfl)
 (hp:zC pr':=by simp only[zC,bb,toN,ZJ,loI,hiI];repeat' first|exact trivial|exact zH.refl _|exact zE.refl _|exact rfl|omega|apply And.intro|intro _):GK Tryz.prog nt p R (.region id ops draw) K ⟨tm,h0,n⟩:=
 zG env false hs kp hq h hok hk hh hn hf hp
theorem zGv {n lo hi:Int} :wiV n lo hi=false↔n<lo∨hi<n:=by simp[wiV];omega
def UC (l:List ByteArray) (n:Int) (s:ByteArray) (i:Nat):Bool:=if (i:Int)<n/\i<l.length then if l.getD i dF=s then true else UC l n s (i+1)else false
termination_by l.length-i
theorem zUb {l:List ByteArray} {n:Nat} {s:ByteArray} (hn:n<=l.length):∀(k i:Nat),n-i=k->UC l n s i=((l.take n).drop i).any fun x=>decide (x=s):=by
 intro k
 induction k with
 |zero=>
  intro i hk
  rw[UC,iQ t11,List.drop_eq_nil_of_le t34];rfl
 |succ k ih=>
  intro i hk
  have hd:(l.take n).drop i=l.getD i dF::(l.take n).drop (i+1):=by
   rw[List.drop_eq_getElem_cons t34]
   congr 1
   rw[List.getElem_take,List.getD_eq_getElem?_getD,List.getElem?_eq_getElem t11];rfl
  rw[UC,iP ⟨by omega,by omega⟩,hd,List.any_cons,<-ih (i+1) t11]
  by_cases h:l.getD i dF=s
  ·rw[iP h,decide_eq_true h];rfl
  rw[iQ h,decide_eq_false h];rfl
theorem zIw {l:List ByteArray} {n:Nat} {s:ByteArray} (hn:n<=l.length):UC l n s 0=(l.take n).any fun x=>decide (x=s):=by
 rw[zUb hn _ 0 rfl];rfl
theorem zGh {s:ByteArray} :s=⟨#[]⟩↔s.size=0:=⟨fun h=>by subst h;rfl,fun h=>by
 obtain ⟨d⟩:=s
 have:d.size=0:=h
 congr 1
 exact Array.eq_empty_of_size_eq_zero this⟩
theorem zz (n lo hi:Int):GC Tryz.prog 59 [iG n,iG lo,iG hi] (bG (wiV n lo hi)):=by
 refine zA Tryz.func59 ?_
 refine gE [0,1,2,6] ?_
 refine gE [6] ?_
 refine gT ?_
 simp[yR,wiV,Bool.cond_eq_ite]
theorem zXl (c:Int):GC Tryz.prog 165 [.d (.sc (.int .u8 c))] (bG (uO c)):=by
 refine zA Tryz.func165 ?_
 refine gE [0,2] ?_
 refine gE [2] ?_
 refine gT ?_
 simp only[yR,uO]
 cases decide (97<=c)<;>cases decide (c<=122)<;>cases decide (65<=c)<;>cases decide (c<=90)<;>rfl
theorem zQg (s:ByteArray) (hs:s.size<=9223372036854775807):GC Tryz.prog 128 [sG s] (bG (jm s)):=by
 refine zA Tryz.func128 ?_
 refine gE [0,2] ?_
 refine gE [0,2,12] ?_
 refine zF ?_ ?_<;>intro c1<;>try simp only[bb,toN]at c1
 ·refine gE [0,2] ?_
  refine gT ?_
  rw[jm,iP (by rw[zGh];omega)];rfl
 refine gE [0,2,3] ?_
 refine zI (α:=Nat) (fun i=>i<=s.size/\rnF s 0=rnF s i) (fun i=>[(3,iG i)]) (fun _=>[]) (fun i=>s.size-i) 0 ⟨by omega,rfl⟩ ?_ (hp:=t42)
 rintro i ⟨hi,he⟩
 refine gE [0,2,3,16] ?_
 refine zB ?_ ?_<;>intro c2<;>try simp only[toN]at c2
 ·refine gE [0,2,3,4] ?_
  refine gR [.call (zXl (WO s i))] [0,2,3,47] ?_
  refine zF ?_ ?_<;>intro c3<;>try simp only[bb,toN]at c3
  ·refine gE [0,2,3] ?_
   refine gT ?_
   rw[jm,iQ (by rw[zGh];omega),he,rnF,iP t11,iP (by simp only[HW,wm];grind)];rfl
  refine gE [0,2,3] ?_
  refine zD (i+1) ?_ (hp:=t42)
  refine ⟨by omega,he.trans ?_⟩
  rw[rnF,iP t11,iQ (by simp only[HW,wm];grind)]
 refine gE [2] ?_
 refine gT ?_
 rw[jm,iQ (by rw[zGh];omega),he,rnF,iQ t11];rfl
theorem zGe (l:List ByteArray) (hl:l.length<=9223372036854775807) (n:Int) (s:ByteArray):GC Tryz.prog 129 [vR l,iG n,sG s] (bG (UC l n s 0)):=by
 refine zA Tryz.func129 ?_
 refine gE [0,1,2,6] ?_
 refine gE [0,1,2,6,7] ?_
 refine zI (α:=Nat) (fun i=>i<=l.length/\UC l n s 0=UC l n s i) (fun i=>[(7,iG i)]) (fun _=>[]) (fun i=>l.length-i) 0 ⟨by omega,rfl⟩ ?_ (hp:=t42)
 rintro i ⟨hi,he⟩
 refine gE [0,1,2,6,7,16] ?_
 refine zF ?_ ?_<;>intro c1<;>try simp only[bb,toN]at c1
 ·refine gE [0,1,2,6,7,24] ?_
  refine zB ?_ ?_<;>intro c2<;>try simp only[toN]at c2
  ·refine gE [0,1,2,6,7] ?_
   refine gT ?_
   rw[he,UC,iP ⟨by omega,by omega⟩,iP t12];rfl
  refine gE [0,1,2,6,7] ?_
  refine zD (i+1) ?_ (hp:=t42)
  refine ⟨by omega,he.trans ?_⟩
  rw[UC,iP ⟨by omega,by omega⟩,iQ t12]
 refine gE [6] ?_
 refine gT ?_
 rw[he,UC,iQ t11];rfl
theorem ww (l:List Int) (hl:l.length<=9223372036854775807) (lo hi:Int):GC Tryz.prog 130 [qq l,iG lo,iG hi] (bG (zk l lo hi 0)):=by
 refine zA Tryz.func130 ?_
 refine gE [0,1,2,6] ?_
 refine gE [0,1,2,6,7] ?_
 refine zI (α:=Nat) (fun i=>i<=l.length/\zk l lo hi 0=zk l lo hi i) (fun i=>[(7,iG i)]) (fun _=>[]) (fun i=>l.length-i) 0 ⟨by omega,rfl⟩ ?_ (hp:=t42)
 rintro i ⟨hj,he⟩
 refine gE [0,1,2,6,7,11] ?_
 refine zB ?_ ?_<;>intro c1<;>try simp only[toN]at c1
 ·refine gR [.call (zz (l.getD i dF) lo hi)] [0,1,2,6,7,21] ?_
  refine zF ?_ ?_<;>intro c2<;>try simp only[bb,toN]at c2
  ·refine gE [0,1,2,6,7] ?_
   refine gT ?_
   rw[zGv]at c2
   rw[he,zk,iP t11,iP (by simp only[yg,Bool.or_eq_true,Bool.and_eq_true,decide_eq_true_eq];omega)];rfl
  refine gE [0,1,2,6,7,35] ?_
  refine zF ?_ ?_<;>intro c3<;>try simp only[bb,toN]at c3
  ·refine gE [0,1,2,6,7] ?_
   refine gT ?_
   rw[he,zk,iP t11,iP (by simp only[yg,Bool.or_eq_true,Bool.and_eq_true,decide_eq_true_eq];omega)];rfl
  refine gE [0,1,2,6,7] ?_
  refine zD (i+1) ?_ (hp:=t42)
  refine ⟨by omega,he.trans ?_⟩
  rw[ZJ]at c2
  rw[zk,iP t11,iQ (by simp only[yg,Bool.or_eq_true,Bool.and_eq_true,decide_eq_true_eq];omega)]
 refine gE [6] ?_
 refine gT ?_
 rw[he,zk,iQ t11];rfl
theorem wF (l:List ByteArray) (hl:l.length<=9223372036854775807) (hs:∀s,s∈l->s.size<=9223372036854775807) (i:Nat) (hi:i<l.length):GC Tryz.prog 82 [vR l,iG i] (iG (ZY l i)):=by
 refine zA Tryz.func82 ?_
 refine gE [0,1,4] ?_
 refine gR [.call (zQg (l.getD i dF) (hs _ (zK hi)))] [0,1,4,10] ?_
 refine zF ?_ ?_<;>intro c1<;>try simp only[bb,toN]at c1
 ·refine gE [0,1,4] ?_
  refine gT ?_
  rw[ZY,iP (by simpa using c1)];rfl
 refine gR [.call (zGe l hl i (l.getD i dF))] [4,17] ?_
 refine zF ?_ ?_<;>intro c2<;>try simp only[bb,toN]at c2
 ·refine gE [4] ?_
  refine gT ?_
  rw[zIw t11]at c2
  rw[ZY,iQ (by simpa using c1),iP c2];rfl
 refine gE [4] ?_
 refine gT ?_
 rw[zIw t11]at c2
 rw[ZY,iQ (by simpa using c1),iQ (by rw[c2];simp)];rfl
theorem Ve {i:Int} {n:Nat} :wiV i 0 ((n:Int)-1)=inV i n:=by
 simp only[wiV,inV]
 congr 1
 exact decide_eq_decide.2 t11
theorem zNx {i:Int} {m n:Int} (h:m=n-1):wiV i 0 m=inV i n:=by
 subst h
 simp only[wiV,inV]
 congr 1
 exact decide_eq_decide.2 t11
def zFh (n:Int):Bool:= !wiV (IntKind.i64.wrap (n.tdiv 100)) 1 12|| !wiV (n.tmod 100) 1 31
def Ws (l:List Int) (i:Nat):Bool:=if i<l.length then if zFh (l.getD i dF)=true then false else Ws l (i+1)else true
termination_by l.length-i
def Yz (r:Rlm) (c:Cty):Bool:=bif ((!wiV c.ord 0 ((r.bD.length:Int)-1)|| !wiV c.cur 0 ((r.bA.length:Int)-1))||decide ((60:Int)<c.feasts.length))||decide ((200:Int)<c.shut.length)then false else bif Ws c.feasts 0 then (zk c.rest 0 6 0&&zk c.feasts 0 2000 0)&&zk c.shut 0 100000 0 else false
def odB (l:List Cho) (i:Nat):Bool:=((!wiV (l.getD i dF).ask 0 21)|| !wiV (l.getD i dF).by_ 0 4)||(decide ((0:Int)<i)&&decide ((l.getD i dF).ask<=(l.getD ((i:Int)-1).toNat dF).ask))
def odF (l:List Cho) (i:Nat):Bool:=if i<l.length then if odB l i=true then false else odF l (i+1)else true
termination_by l.length-i
def ruB (l:List Rul) (i:Nat):Bool:=(!wiV (l.getD i dF).ask 0 21)||(decide ((0:Int)<i)&&decide ((l.getD i dF).ask<=(l.getD ((i:Int)-1).toNat dF).ask))
def ruF (l:List Rul) (i:Nat):Bool:=if i<l.length then if ruB l i=true then false else ruF l (i+1)else true
termination_by l.length-i
def yq (o:Od):Bool:=bif odF o.bL 0 then ruF o.rules 0 else false
theorem zTi (r:Rlm) (hr:FitR r) (c:Cty) (hc:FitC c):GC Tryz.prog 83 [rlG r,ctG c] (bG (Yz r c)):=by
 obtain ⟨_,h2,h3,h4⟩:=hc
 have hr1:=hr.bD
 have hr2:=hr.cur
 refine zA Tryz.func83 ?_
 refine gE [2,3,4] ?_
 refine ZA 0 ?_
 refine ZA 1 ?_
 refine gR [.call (zz c.ord 0 ((r.bD.length:Int)-1)),.call (zz c.cur 0 ((r.bA.length:Int)-1))] [3,4,35] ?_
 refine zF ?_ ?_<;>intro c1<;>try simp only[bb,toN]at c1
 ·refine gE [3,4] ?_
  refine gT ?_
  rcases c1 with ((h|h)|h)|h
  ·simp[yR,Yz,h]
  ·simp[yR,Yz,h]
  ·simp[yR,Yz,h]
  simp[yR,Yz,h]
 refine gE [3,4,5] ?_
 refine zI (α:=Nat) (fun i=>i<=c.feasts.length/\Ws c.feasts 0=Ws c.feasts i) (fun i=>[(5,iG i)]) (fun _=>[]) (fun i=>c.feasts.length-i) 0 ⟨by omega,rfl⟩ ?_ (hp:=t42)
 rintro i ⟨hi,he⟩
 refine gE [3,4,5,40] ?_
 refine zB ?_ ?_<;>intro c2<;>try simp only[toN]at c2
 ·refine zG env true [.call (zz (IntKind.i64.wrap ((c.feasts.getD i dF).tdiv 100)) 1 12),.call (zz ((c.feasts.getD i dF).tmod 100) 1 31)] [3,4,5,60] ?_
  refine zF ?_ ?_<;>intro c3<;>try simp only[bb,toN]at c3
  ·refine gE [3,4,5] ?_
   refine gT ?_
   have hq:Ws c.feasts 0=false:=by
    rw[he,Ws,iP t11,iP (by rcases c3 with h|h<;>simp only[zFh,h,Bool.not_false,Bool.true_or,Bool.or_true])]
   rw[Yz,hq]
   simp[yR]
  refine gE [3,4,5] ?_
  refine zD (i+1) ?_ (hp:=t42)
  refine ⟨by omega,he.trans ?_⟩
  rw[Ws,iP t11,iQ (by simp only[zFh,c3.1,c3.2,Bool.not_true,Bool.or_false];exact Bool.false_ne_true)]
 refine gR [.call (ww c.rest h2 0 6),.call (ww c.feasts h3 0 2000),.call (ww c.shut h4 0 100000)] [4] ?_
 refine gT ?_
 have hq:Ws c.feasts 0=true:=by rw[he,Ws,iQ t11]
 rw[Yz,hq,c1.1.1.1,c1.1.1.2,decide_eq_false (show ¬(60:Int)<c.feasts.length by omega),decide_eq_false (show ¬(200:Int)<c.shut.length by omega)]
 cases zk c.rest 0 6 0<;>cases zk c.feasts 0 2000 0<;>rfl
theorem zKp (o:Od) (h1:o.bL.length<=1000) (h2:o.rules.length<=1000):GC Tryz.prog 84 [odG o] (bG (yq o)):=by
 refine zA Tryz.func84 ?_
 refine gE [1,2] ?_
 refine ZA 0 ?_
 refine gE [1,2,3] ?_
 refine zI (α:=Nat) (fun i=>i<=o.bL.length/\odF o.bL 0=odF o.bL i) (fun i=>[(3,iG i)]) (fun _=>[]) (fun i=>o.bL.length-i) 0 ⟨by omega,rfl⟩ ?_ (hp:=t42)
 rintro i ⟨hi,he⟩
 refine gE [1,2,3,9] ?_
 refine zB ?_ ?_<;>intro c1<;>try simp only[toN]at c1
 ·refine gR [.call (zz (o.bL.getD i dF).ask 0 21),.call (zz (o.bL.getD i dF).by_ 0 4)] [1,2,3,29] ?_
  refine zF ?_ ?_<;>intro c2<;>try simp only[bb,toN]at c2
  ·refine gE [1,2,3] ?_
   refine gT ?_
   unfold yq
   have hq:odF o.bL 0=false:=by rw[he,odF,iP t11,iP (by rcases c2 with h|h<;>simp[odB,h,-List.getD_eq_getElem?_getD])]
   rw[hq];rfl
  refine gE [1,2,3,47] ?_
  refine zF ?_ ?_<;>intro c3<;>try simp only[bb,toN]at c3
  ·refine gE [1,2,3] ?_
   refine gT ?_
   unfold yq
   have hq:odF o.bL 0=false:=by rw[he,odF,iP t11,iP (by simp only[odB,Bool.or_eq_true,Bool.and_eq_true,decide_eq_true_eq];omega)]
   rw[hq];rfl
  refine gE [1,2,3] ?_
  refine zD (i+1) ?_ (hp:=t42)
  refine ⟨by omega,he.trans ?_⟩
  rw[odF,iP t11,iQ (by simp only[odB,c2.1,c2.2,Bool.or_eq_true,Bool.and_eq_true,decide_eq_true_eq,Bool.not_true,Bool.false_eq_true,false_or,or_false];omega)]
 refine gE [1,2,4] ?_
 refine zI (α:=Nat) (fun k=>k<=o.rules.length/\ruF o.rules 0=ruF o.rules k) (fun i=>[(4,iG i)]) (fun _=>[]) (fun i=>o.rules.length-i) 0 ⟨by omega,rfl⟩ ?_ (hp:=t42)
 rintro k ⟨hk,hf⟩
 refine gE [1,2,4,52] ?_
 refine zB ?_ ?_<;>intro c4<;>try simp only[toN]at c4
 ·refine gR [.call (zz (o.rules.getD k dF).ask 0 21)] [1,2,4,62] ?_
  refine zF ?_ ?_<;>intro c5<;>try simp only[bb,toN]at c5
  ·refine gE [1,2,4] ?_
   refine gT ?_
   unfold yq
   have ht:odF o.bL 0=true:=by rw[he,odF,iQ t11]
   have hq:ruF o.rules 0=false:=by rw[hf,ruF,iP t11,iP (by simp[ruB,c5,-List.getD_eq_getElem?_getD])]
   rw[ht,hq];rfl
  refine gE [1,2,4,80] ?_
  refine zF ?_ ?_<;>intro c6<;>try simp only[bb,toN]at c6
  ·refine gE [1,2,4] ?_
   refine gT ?_
   unfold yq
   have ht:odF o.bL 0=true:=by rw[he,odF,iQ t11]
   have hq:ruF o.rules 0=false:=by rw[hf,ruF,iP t11,iP (by simp only[ruB,Bool.or_eq_true,Bool.and_eq_true,decide_eq_true_eq];omega)]
   rw[ht,hq];rfl
  refine gE [1,2,4] ?_
  refine zD (k+1) ?_ (hp:=t42)
  refine ⟨by omega,hf.trans ?_⟩
  rw[ruF,iP t11,iQ (by simp only[ruB,c5,Bool.or_eq_true,Bool.and_eq_true,decide_eq_true_eq,Bool.not_true,Bool.false_eq_true,false_or,or_false];omega)]
 refine gE [2] ?_
 refine gT ?_
 unfold yq
 have ht:odF o.bL 0=true:=by rw[he,odF,iQ t11]
 have hq:ruF o.rules 0=true:=by rw[hf,ruF,iQ t11]
 rw[ht,hq];rfl
theorem qH {α β:Type} [Inhabited α] [Inhabited β] {l:List α} {f:α->β} {i:Nat} (h:i<l.length):(l.map f).getD i dF=f (l.getD i dF):=by
 rw[List.getD_eq_getElem?_getD,List.getElem?_map,List.getElem?_eq_getElem h,List.getD_eq_getElem?_getD,List.getElem?_eq_getElem h];rfl
theorem Xr {α:Type} [Inhabited α] {l:List α} {i:Nat} (h:i<l.length):l.take (i+1)=l.take i++ [l.getD i dF]:=by
 rw[List.take_add_one,List.getElem?_eq_getElem h,List.getD_eq_getElem?_getD,List.getElem?_eq_getElem h];rfl
theorem yL {l:List ByteArray} {i:Nat} (h:i<l.length):ZY (l.take (i+1)) i=ZY l i:=by
 have e1:(l.take (i+1)).getD i dF=l.getD i dF:=by
  rw[List.getD_eq_getElem?_getD,List.getElem?_take_of_lt t11,<-List.getD_eq_getElem?_getD]
 have e2:(l.take (i+1)).take i=l.take i:=by rw[List.take_take];congr 1;omega
 rw[ZY,ZY,e1,e2]
theorem zFu (r:Rlm) (hr:FitR r):GC Tryz.prog 52 [rlG r] (iG (orE (zY r.bA 8 fun _=>true) (zY (cityN r) 40 fun i=>Yz r (r.bB.getD i dF)))):=by
 have hr1:=hr.cur
 have hr2:=hr.bB
 have hcl:(cityN r).length=r.bB.length:=by simp[cityN]
 have hcs:=hr.cityN.2.1
 refine zA Tryz.func52 ?_
 refine gE [1,2] ?_
 refine ZA 0 ?_
 refine gE [1,2,11] ?_
 refine zB ?_ ?_<;>intro c1<;>try simp only[toN]at c1
 ·refine gE [1,2] ?_
  refine gT ?_
  have hA:zY r.bA 8 (fun _=>true)=6:=iP c1
  rw[hA];rfl
 refine gE [1,2,3] ?_
 refine zI (α:=Nat) (fun i=>i<=r.bA.length/\ze r.bA (fun _=>true) 0=ze r.bA (fun _=>true) i) (fun i=>[(3,iG i)]) (fun _=>[]) (fun i=>r.bA.length-i) 0 ⟨by omega,rfl⟩ ?_ (hp:=t42)
 rintro i ⟨hi,he⟩
 refine gE [1,2,3,16] ?_
 refine zB ?_ ?_<;>intro c2<;>try simp only[toN]at c2
 ·refine gR [.call (wF r.bA t11 hr.curS i t11)] [1,2,3,4] ?_
  refine gE [1,2,3,4,24] ?_
  refine zQ ?_ ?_<;>intro c3<;>try simp only[toN]at c3
  ·refine gE [1,2,3] ?_
   refine gT ?_
   have hA:zY r.bA 8 (fun _=>true)=ZY r.bA i:=by rw[zY,iQ c1,he,ze,iP t11,iQ c3]
   rw[hA,orE,iQ c3];rfl
  refine gE [1,2,3] ?_
  refine zD (i+1) ?_ (hp:=t42)
  refine ⟨by omega,he.trans ?_⟩
  rw[ze,iP t11,iP t12,iP rfl]
 refine gE [1,2,29] ?_
 refine zB ?_ ?_<;>intro c4<;>try simp only[toN]at c4
 ·refine gE [1,2] ?_
  refine gT ?_
  have hA:zY r.bA 8 (fun _=>true)=0:=by rw[zY,iQ c1,he,ze,iQ t11]
  have hB:zY (cityN r) 40 (fun i=>Yz r (r.bB.getD i dF))=6:=iP (by rw[hcl];exact c4)
  rw[hA,hB];rfl
 refine gE [1,2,5] ?_
 refine YS 5 9 1 (dF:ByteArray) zg t25 t25 ?_
 refine gE [1,2,5,6] ?_
 refine zI (α:=Nat) (fun i=>i<=(cityN r).length/\ze (cityN r) (fun i=>Yz r (r.bB.getD i dF)) 0=ze (cityN r) (fun i=>Yz r (r.bB.getD i dF)) i) (fun i=>[(6,iG i),(5,.sl 1 1 0 ((cityN r).take i).length)]) (fun i=>[(1,some (.row 9 1 (dF:ByteArray) zg ((cityN r).take i) ((cityN r).take i).length))]) (fun i=>(cityN r).length-i) 0 ⟨Nat.zero_le _,rfl⟩ ?_ (hp:=t42)
 rintro k ⟨hk,hf⟩
 have hl:((cityN r).take k).length=k:=by rw[List.length_take];omega
 refine gE [1,2,5,6,34] ?_
 refine zB ?_ ?_<;>intro c5<;>try simp only[toN]at c5
 ·have hnx:(cityN r).take (k+1)=(cityN r).take k++ [(r.bB.getD k dF).name]:=by rw[Xr t11,cityN,qH t11]
  refine gU [.el dF zg [(r.bB.getD k dF).name],.el dF zg ((cityN r).take k++ [(r.bB.getD k dF).name])] [1,2,5,6] ?_
  refine gR [.call (wF ((cityN r).take k++ [(r.bB.getD k dF).name]) (by rw[<-hnx,List.length_take];omega) (fun s hs=>hcs s (List.mem_of_mem_take (hnx▸hs))) k (by rw[<-hnx,List.length_take];omega))] [1,2,5,6,7] ?_ (hp:=t24)
  refine gE [1,2,5,6,7,50] ?_
  refine zQ ?_ ?_<;>intro c6<;>try simp only[toN]at c6
  ·refine gE [1,2,5,6] ?_
   refine gT ?_
   have hA:zY r.bA 8 (fun _=>true)=0:=by rw[zY,iQ c1,he,ze,iQ t11]
   have hnm:ZY (cityN r) k=ZY ((cityN r).take k++ [(r.bB.getD k dF).name]) k:=by rw[<-hnx,yL t11]
   have hB:zY (cityN r) 40 (fun i=>Yz r (r.bB.getD i dF))=ZY (cityN r) k:=by rw[zY,iQ (by rw[hcl];exact c4),hf,ze,iP t11,iQ (by rw[hnm];exact c6)]
   rw[hA,hB,hnm];rfl
  refine gR [.call (zTi r hr (r.bB.getD k dF) (zQl hr.city t11))] [1,2,5,6,59] ?_
  refine zF ?_ ?_<;>intro c7<;>try simp only[bb,toN]at c7
  ·refine gE [1,2,5,6] ?_
   refine gT ?_
   have hA:zY r.bA 8 (fun _=>true)=0:=by rw[zY,iQ c1,he,ze,iQ t11]
   have hB:zY (cityN r) 40 (fun i=>Yz r (r.bB.getD i dF))=1:=by rw[zY,iQ (by rw[hcl];exact c4),hf,ze,iP t11,iP (by rw[<-yL t11,hnx];exact c6),iQ (by rw[c7];simp)]
   rw[hA,hB];rfl
  refine gE [1,2,5,6] ?_
  refine zD (k+1) ?_ (hp:=by simp only[zC,hnx];repeat' first|exact trivial|exact zH.refl _|exact zE.refl _|exact rfl|omega|apply And.intro|intro _|(simp;done))
  refine ⟨by omega,hf.trans ?_⟩
  rw[ze,iP t11,iP (by rw[<-yL t11,hnx];assumption),iP t12]
 refine gE [2] ?_
 refine gT ?_
 have hA:zY r.bA 8 (fun _=>true)=0:=by rw[zY,iQ c1,he,ze,iQ t11]
 have hB:zY (cityN r) 40 (fun i=>Yz r (r.bB.getD i dF))=0:=by rw[zY,iQ (by rw[hcl];exact c4),hf,ze,iQ t11]
 rw[hA,hB];rfl
def jS (r:Rlm) (f:Frm):Bool:=wiV f.city 0 ((r.bB.length:Int)-1)&&wiV f.group 0 ((r.groups.length:Int)-1)
def grF (l:List Int) (i:Nat):Bool:=if i<l.length then if wiV (l.getD i dF) 0 9=true then grF l (i+1)else false else true
termination_by l.length-i
def jv (r:Rlm):Int:=if (20:Int)<r.groups.length then 6 else if grF r.groups 0=true then zY (firmN r) 200 (fun i=>jS r (r.bC.getD i dF))else 1
def jq (r:Rlm):Int:=zY (orderN r) 20 (fun i=>yq (r.bD.getD i dF))
theorem zMt (r:Rlm) (hr:FitR r):GC Tryz.prog 53 [rlG r] (iG (jv r)):=by
 have hr1:=hr.groups
 have hr2:=hr.bC
 have hr3:=hr.bB
 have hcl:(firmN r).length=r.bC.length:=by simp[firmN]
 have hcs:=hr.firmN.2.1
 refine zA Tryz.func53 ?_
 refine gE [1,2] ?_
 refine ZA 0 ?_
 refine gE [1,2,10] ?_
 refine zB ?_ ?_<;>intro c1<;>try simp only[toN]at c1
 ·refine gE [1,2] ?_
  refine gT ?_
  rw[jv,iP c1];rfl
 refine gE [1,2,3] ?_
 refine zI (α:=Nat) (fun i=>i<=r.groups.length/\grF r.groups 0=grF r.groups i) (fun i=>[(3,iG i)]) (fun _=>[]) (fun i=>r.groups.length-i) 0 ⟨by omega,rfl⟩ ?_ (hp:=t42)
 rintro i ⟨hi,he⟩
 refine gE [1,2,3,15] ?_
 refine zB ?_ ?_<;>intro c2<;>try simp only[toN]at c2
 ·refine gR [.call (zz (r.groups.getD i dF) 0 9)] [1,2,3,25] ?_
  refine zF ?_ ?_<;>intro c3<;>try simp only[bb,toN]at c3
  ·refine gE [1,2,3] ?_
   refine gT ?_
   have hg:grF r.groups 0=false:=by rw[he,grF,iP t11,iQ (by rw[c3];simp)]
   rw[jv,iQ c1,iQ (by rw[hg];simp)];rfl
  refine gE [1,2,3] ?_
  refine zD (i+1) ?_ (hp:=t42)
  refine ⟨by omega,he.trans ?_⟩
  rw[grF,iP t11,iP t12]
 refine gE [1,2,29] ?_
 refine zB ?_ ?_<;>intro c4<;>try simp only[toN]at c4
 ·refine gE [1,2] ?_
  refine gT ?_
  have hg:grF r.groups 0=true:=by rw[he,grF,iQ t11]
  have hB:zY (firmN r) 200 (fun i=>jS r (r.bC.getD i dF))=6:=iP (by rw[hcl];exact c4)
  rw[jv,iQ c1,iP hg,hB];rfl
 refine gE [1,2,4] ?_
 refine YS 4 9 1 (dF:ByteArray) zg t25 t25 ?_
 refine gE [1,2,4,5] ?_
 refine zI (α:=Nat) (fun i=>i<=(firmN r).length/\ze (firmN r) (fun i=>jS r (r.bC.getD i dF)) 0=ze (firmN r) (fun i=>jS r (r.bC.getD i dF)) i) (fun i=>[(5,iG i),(4,.sl 1 1 0 ((firmN r).take i).length)]) (fun i=>[(1,some (.row 9 1 (dF:ByteArray) zg ((firmN r).take i) ((firmN r).take i).length))]) (fun i=>(firmN r).length-i) 0 ⟨Nat.zero_le _,rfl⟩ ?_ (hp:=t42)
 rintro k ⟨hk,hf⟩
 have hl:((firmN r).take k).length=k:=by rw[List.length_take];omega
 refine gE [1,2,4,5,34] ?_
 refine zB ?_ ?_<;>intro c5<;>try simp only[toN]at c5
 ·have hnx:(firmN r).take (k+1)=(firmN r).take k++ [(r.bC.getD k dF).name]:=by rw[Xr t11,firmN,qH t11]
  refine gU [.el dF zg [(r.bC.getD k dF).name],.el dF zg ((firmN r).take k++ [(r.bC.getD k dF).name])] [1,2,4,5] ?_
  refine gR [.call (wF ((firmN r).take k++ [(r.bC.getD k dF).name]) (by rw[<-hnx,List.length_take];omega) (fun s hs=>hcs s (List.mem_of_mem_take (hnx▸hs))) k (by rw[<-hnx,List.length_take];omega))] [1,2,4,5,6] ?_ (hp:=t24)
  refine gE [1,2,4,5,6,50] ?_
  refine zQ ?_ ?_<;>intro c6<;>try simp only[toN]at c6
  ·refine gE [1,2,4,5] ?_
   refine gT ?_
   have hg:grF r.groups 0=true:=by rw[he,grF,iQ t11]
   have hnm:ZY (firmN r) k=ZY ((firmN r).take k++ [(r.bC.getD k dF).name]) k:=by rw[<-hnx,yL t11]
   have hB:zY (firmN r) 200 (fun i=>jS r (r.bC.getD i dF))=ZY (firmN r) k:=by rw[zY,iQ (by rw[hcl];exact c4),hf,ze,iP t11,iQ (by rw[hnm];exact c6)]
   rw[jv,iQ c1,iP hg,hB,hnm];rfl
  refine gR [.call (zz (r.bC.getD k dF).city 0 ((r.bB.length:Int)-1)),.call (zz (r.bC.getD k dF).group 0 ((r.groups.length:Int)-1))] [1,2,4,5,77] ?_
  refine zF ?_ ?_<;>intro c7<;>try simp only[bb,toN]at c7
  ·refine gE [1,2,4,5] ?_
   refine gT ?_
   have hg:grF r.groups 0=true:=by rw[he,grF,iQ t11]
   have hB:zY (firmN r) 200 (fun i=>jS r (r.bC.getD i dF))=1:=by rw[zY,iQ (by rw[hcl];exact c4),hf,ze,iP t11,iP (by rw[<-yL t11,hnx];exact c6),iQ (by rw[(show jS r (r.bC.getD k dF)=false by rw[jS];rcases c7 with h|h<;>simp only[h,Bool.false_and,Bool.and_false])];simp)]
   rw[jv,iQ c1,iP hg,hB];rfl
  refine gE [1,2,4,5] ?_
  refine zD (k+1) ?_ (hp:=by simp only[zC,hnx];repeat' first|exact trivial|exact zH.refl _|exact zE.refl _|exact rfl|omega|apply And.intro|intro _|(simp;done))
  refine ⟨by omega,hf.trans ?_⟩
  rw[ze,iP t11,iP (by rw[<-yL t11,hnx];assumption),iP (by rw[jS,Bool.and_eq_true];assumption)]
 refine gE [2] ?_
 refine gT ?_
 have hg:grF r.groups 0=true:=by rw[he,grF,iQ t11]
 have hB:zY (firmN r) 200 (fun i=>jS r (r.bC.getD i dF))=0:=by rw[zY,iQ (by rw[hcl];exact c4),hf,ze,iQ t11]
 rw[jv,iQ c1,iP hg,hB];rfl
theorem uB (r:Rlm) (hr:FitR r):GC Tryz.prog 54 [rlG r] (iG (jq r)):=by
 have hr2:=hr.bD
 have hcl:(orderN r).length=r.bD.length:=by simp[orderN]
 have hcs:=hr.orderN.2.1
 refine zA Tryz.func54 ?_
 refine gE [1,2] ?_
 refine ZA 0 ?_
 refine gE [1,2,9] ?_
 refine zB ?_ ?_<;>intro c1<;>try simp only[toN]at c1
 ·refine gE [1,2] ?_
  refine gT ?_
  have hB:zY (orderN r) 20 (fun i=>yq (r.bD.getD i dF))=6:=iP (by rw[hcl];exact c1)
  rw[jq,hB];rfl
 refine gE [1,2,3] ?_
 refine YS 3 9 1 (dF:ByteArray) zg t25 t25 ?_
 refine gE [1,2,3,4] ?_
 refine zI (α:=Nat) (fun i=>i<=(orderN r).length/\ze (orderN r) (fun i=>yq (r.bD.getD i dF)) 0=ze (orderN r) (fun i=>yq (r.bD.getD i dF)) i) (fun i=>[(4,iG i),(3,.sl 1 1 0 ((orderN r).take i).length)]) (fun i=>[(1,some (.row 9 1 (dF:ByteArray) zg ((orderN r).take i) ((orderN r).take i).length))]) (fun i=>(orderN r).length-i) 0 ⟨Nat.zero_le _,rfl⟩ ?_ (hp:=t42)
 rintro k ⟨hk,hf⟩
 have hl:((orderN r).take k).length=k:=by rw[List.length_take];omega
 refine gE [1,2,3,4,14] ?_
 refine zB ?_ ?_<;>intro c2<;>try simp only[toN]at c2
 ·have hnx:(orderN r).take (k+1)=(orderN r).take k++ [(r.bD.getD k dF).name]:=by rw[Xr t11,orderN,qH t11]
  have hok:=zQl hr.order (i:=k) t11
  refine gU [.el dF zg [(r.bD.getD k dF).name],.el dF zg ((orderN r).take k++ [(r.bD.getD k dF).name])] [1,2,3,4] ?_
  refine gR [.call (wF ((orderN r).take k++ [(r.bD.getD k dF).name]) (by rw[<-hnx,List.length_take];omega) (fun s hs=>hcs s (List.mem_of_mem_take (hnx▸hs))) k (by rw[<-hnx,List.length_take];omega))] [1,2,3,4,5] ?_ (hp:=t24)
  refine gE [1,2,3,4,5,30] ?_
  refine zQ ?_ ?_<;>intro c3<;>try simp only[toN]at c3
  ·refine gE [1,2,3,4] ?_
   refine gT ?_
   have hnm:ZY (orderN r) k=ZY ((orderN r).take k++ [(r.bD.getD k dF).name]) k:=by rw[<-hnx,yL t11]
   have hB:zY (orderN r) 20 (fun i=>yq (r.bD.getD i dF))=ZY (orderN r) k:=by rw[zY,iQ (by rw[hcl];exact c1),hf,ze,iP t11,iQ (by rw[hnm];exact c3)]
   rw[jq,hB,hnm];rfl
  refine gR [.call (zKp (r.bD.getD k dF) hok.2.1 hok.2.2)] [1,2,3,4,38] ?_
  refine zF ?_ ?_<;>intro c4<;>try simp only[bb,toN]at c4
  ·refine gE [1,2,3,4] ?_
   refine gT ?_
   have hB:zY (orderN r) 20 (fun i=>yq (r.bD.getD i dF))=1:=by rw[zY,iQ (by rw[hcl];exact c1),hf,ze,iP t11,iP (by rw[<-yL t11,hnx];exact c3),iQ (by rw[c4];simp)]
   rw[jq,hB];rfl
  refine gE [1,2,3,4] ?_
  refine zD (k+1) ?_ (hp:=by simp only[zC,hnx];repeat' first|exact trivial|exact zH.refl _|exact zE.refl _|exact rfl|omega|apply And.intro|intro _|(simp;done))
  refine ⟨by omega,hf.trans ?_⟩
  rw[ze,iP t11,iP (by rw[<-yL t11,hnx];assumption),iP t12]
 refine gE [2] ?_
 refine gT ?_
 have hB:zY (orderN r) 20 (fun i=>yq (r.bD.getD i dF))=0:=by rw[zY,iQ (by rw[hcl];exact c1),hf,ze,iQ t11]
 rw[jq,hB];rfl
end Go.Gh
