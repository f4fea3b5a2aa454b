/- Walks by the logic of calls, and plain laws (several texts in one). -/
import Derived.Test.YtlnnombljiecmaaGreatDoorM2
import Derived.Test.YtlnnombljiecmaaGreatDoorGh4
import Derived.Test.YtlnnombljiecmaaGreatDoorM1
namespace Go.Gh
open Go Go.Proofs
set_option maxRecDepth 1000000
set_option maxHeartbeats 2000000
set_option linter.unusedSimpArgs false
set_option linter.unusedVariables false
set_option linter.unnecessarySimpa false
set_option linter.unusedSectionVars false
variable [Dep]
open Go.RowKit
structure FitFi (f:Fil):Prop where
 bF:f.bF.length<=1000
 bH:f.bH.length<=1000
 acts:f.acts.length<=1000
 facts:f.facts.length<=1000
theorem JB (f:Fil) (day:Int) (h:FitFi f):GC Tryz.prog 13 [fiG f,iG day] (fiG (atV f day)):=ZBa f day (Nat.le_trans h.1 t23) (Nat.le_trans h.2 t23) (Nat.le_trans h.3 t23) (Nat.le_trans h.4 t23)
theorem vQ {α:Type} (p:α->Bool) (l:List α):(l.takeWhile p).length<=l.length:=by
 induction l with
 |nil=>simp
 |cons a l ih=>rw[List.takeWhile_cons];split<;>simp<;>omega
theorem FitFi.at_ {f:Fil} (h:FitFi f) (day:Int):FitFi (atV f day):=by
 rw[Zb]
 exact ⟨Nat.le_trans (vQ _ _) h.1,Nat.le_trans (List.length_filter_le _ _) h.2,Nat.le_trans (vQ _ _) h.3,Nat.le_trans (List.length_filter_le _ _) h.4⟩
def qm (c:Cas):Bool:=bif bif bif !WR c.sign c.file.bF.length then true else decide (c.bM< -1)then true else decide ((c.file.bF.length:Int)<=mxI c.bM 0)then true else bif !decide (c.due= -1)then !WR c.due 100001 else false
def Zr (n k:Int):Bool:= !decide (YA .i64 n k=0)
def QF (r:Rlm) (c:Cas):List Cel:=
 if qm c=true then []else
 if (!WR (c.file.bF.getD c.sign.toNat dF).day 100001)=true then []else
 let s:=c.file.bF.getD c.sign.toNat dF
 let b:=c.file.bill
 let gap:=if c.due= -1 then 0 else IntKind.i64.wrap (s.day-c.due)
 let h:=mxI c.bM 0
 [⟨true,b.sum⟩,⟨true,b.parts⟩,⟨true,b.ten.kind⟩,⟨true,b.rate⟩,⟨true,s.kind⟩,⟨true,c.defence⟩,⟨true,gap⟩,
  JU (Zr b.flags 1),JU (decide (b.bQ= -1)),JU (Zr b.flags 4),JU (Zr b.flags 2),JU (!decide (zk r b.city=zk r b.pay)),JU (c.file.bH.any fun a=>VB a c),JU (Zr s.flags 1),JU (decide (0<gap)),
  Zg c.file 0 c.sign,Zg c.file 1 c.sign,Zg c.file 2 c.sign,Zg c.file 3 h,Zg c.file 4 h]
def zZx (r:Rlm) (c:Cas) (s:Sgn) (gap:Int):List (Nat×Int):=[(0,c.file.bill.sum),(1,c.file.bill.parts),(2,c.file.bill.ten.kind),(3,c.file.bill.rate),(4,s.kind),(5,c.defence),(6,gap)]
def zZw (r:Rlm) (c:Cas) (s:Sgn) (gap:Int):List (Nat×Bool):=[(7,Zr c.file.bill.flags 1),(8,decide (c.file.bill.bQ= -1)),(9,Zr c.file.bill.flags 4),(10,Zr c.file.bill.flags 2),(11,!decide (zk r c.file.bill.city=zk r c.file.bill.pay)),(12,c.file.bH.any fun a=>VB a c),(13,Zr s.flags 1),(14,decide (0<gap))]
def ZEi (e:Nat×Int):Value×Value:=(.int .i64 (e.1:Int),.int .i64 e.2)
def ZEh (e:Nat×Bool):Value×Value:=(.int .i64 (e.1:Int),.bool e.2)
def zWp (o:List Cel) (e:Nat×Int):List Cel:=o.set e.1 ⟨true,e.2⟩
def zWo (o:List Cel) (e:Nat×Bool):List Cel:=o.set e.1 (JU e.2)
theorem Hd {α:Type} (l:List α) (i j:Nat) (a b:α) (h:i≠j):(l.set i a).set j b=(l.set j b).set i a:=List.set_comm a b h
theorem Xf {α β:Type} {f:β->α->β} {l l':List α} (key:α->Nat) (hk:(l'.map key).Nodup) (hc:∀x y z,key x≠key y->f (f z x) y=f (f z y) x) (h:l.Perm l') (z:β):l.foldl f z=l'.foldl f z:=by
 have hn:(l.map key).Nodup:=(h.map key).nodup_iff.2 hk
 refine h.foldl_eq' (fun x hx y hy z=> ?_) z
 by_cases e:key x=key y
 ·have:x=y:=by
   obtain ⟨i,hi,rfl⟩:=List.mem_iff_getElem.1 hx
   obtain ⟨j,hj,rfl⟩:=List.mem_iff_getElem.1 hy
   have hij:i=j:=by
    refine (List.getElem_inj (h₀:=by simpa using hi) (h₁:=by simpa using hj) hn).1 ?_
    simpa using e
   subst hij;rfl
  rw[this]
 exact hc x y z e
theorem zBy {α:Type} {enc:α->Value×Value} (dec:Value×Value->α) (hd:∀x,dec (enc x)=x) {l l':List α} (h:(l.map enc).Perm (l'.map enc)):l.Perm l':=by
 have:=h.map dec
 rwa[List.map_map,List.map_map,show dec∘enc=id from funext hd,List.map_id,List.map_id]at this
theorem Hq:∀(ds:List (Nat×Int)) (o:List Cel),(ds.foldl zWp o).length=o.length:=by
 intro ds
 induction ds with
 |nil=>intro o;rfl
 |cons a l ih=>intro o;rw[List.foldl_cons,ih];simp[zWp]
theorem Ho:∀(ds:List (Nat×Bool)) (o:List Cel),(ds.foldl zWo o).length=o.length:=by
 intro ds
 induction ds with
 |nil=>intro o;rfl
 |cons a l ih=>intro o;rw[List.foldl_cons,ih];simp[zWo]
def dec1 (p:Value×Value):Nat×Int:=match p with|(.int _ a,.int _ b)=>(a.toNat,b)|_=>(0,0)
def dec2 (p:Value×Value):Nat×Bool:=match p with|(.int _ a,.bool b)=>(a.toNat,b)|_=>(0,false)
theorem zVg (r:Rlm) (c:Cas) (hr:FitR r) (hF:FitFi c.file):GC Tryz.prog 211 [rlG r,caG c] (.d (.row dF ceC (QF r c))):=by
 have h1:=hF.bF
 have h2:=hF.bH
 have h3:=hF.facts
 refine zA Tryz.func211 ?_
 refine gE [2,3,4] ?_
 refine zz 1 ?_
 refine gE [2,3,4,5,6] ?_
 refine gE [2,3,4,5,6,7] ?_
 refine gR [.call (wB c.sign (c.file.bF.length:Int)),.call (wB c.due 100001)] [2,3,4,5,6,7,54] ?_
 refine zF (fun c1=> ?_) (fun c1=> ?_)
 ·refine gE [4] ?_
  refine Zq env ?_
  rw[QF,iP (by exact c1)];exact Ent.nil
 have hb:=c1
 have hv:qm c=false:=c1
 unfold qm WR at hv
 simp only[bb]at hv
 have hs:0<=c.sign/\c.sign<c.file.bF.length:=by omega
 obtain ⟨s,es⟩:∃s,s=c.file.bF.getD c.sign.toNat dF:=⟨_,rfl⟩
 obtain ⟨h,eh⟩:∃h,h=mxI c.bM 0:=⟨_,rfl⟩
 refine gP [] [2,3,5,6,7,8] ?_
 refine gR [.call (wB (c.file.bF.getD c.sign.toNat dF).day 100001)] [2,3,5,6,7,8,64] ?_
 refine zF (fun c2=> ?_) (fun c2=> ?_)
 ·refine gE [4] ?_
  refine Zq env ?_
  rw[QF,iQ (by rw[show qm c=false from hb];decide),iP (by exact c2)];exact Ent.nil
 refine gE [2,3,5,6,7,8,9] ?_
 refine gE [2,3,5,6,7,8,9,67] ?_
 refine yO (α:=Int) (fun z=>z=(if c.due= -1 then 0 else IntKind.i64.wrap ((c.file.bF.getD c.sign.toNat dF).day-c.due))) (fun z=>⟨[(2,.ptr 0 0 0 0),(3,.ep (caC c)),(5,.ptr 2 0 0 0),(6,.ptr 3 0 0 0),(7,iG (mxI c.bM 0)),(8,.ptr 4 0 0 0),(9,iG z)],[(0,some (.box [.d (.row dF zf r.bA),.d (.row dF ctC r.bB),.d (.row dF inC r.groups),.d (.row dF fmC r.bC),.d (.row dF odC r.bD),.d (.row dF usC r.bE),.d (.row dF rtC r.rates),.d (.row dF htC r.halts)])),(2,some (.box [iG c.file.bill.bP,iG c.file.bill.bO,iG c.file.bill.bQ,iG c.file.bill.sum,iG c.file.bill.cur,iG c.file.bill.ten.kind,iG c.file.bill.ten.n,iG c.file.bill.ten.unit,iG c.file.bill.day,iG c.file.bill.city,iG c.file.bill.pay,iG c.file.bill.need,iG c.file.bill.rate,iG c.file.bill.flags,iG c.file.bill.parts,.d (.row dF sgC c.file.bF),.d (.row dF alC c.file.bH),.d (.row dF acC c.file.acts),.d (.row dF fcC c.file.facts)])),(3,some (.box [iG c.file.bill.bP,iG c.file.bill.bO,iG c.file.bill.bQ,iG c.file.bill.sum,iG c.file.bill.cur,iG c.file.bill.ten.kind,iG c.file.bill.ten.n,iG c.file.bill.ten.unit,iG c.file.bill.day,iG c.file.bill.city,iG c.file.bill.pay,iG c.file.bill.need,iG c.file.bill.rate,iG c.file.bill.flags,iG c.file.bill.parts])),(4,some (.box [iG ((c.file.bF.getD c.sign.toNat dF).kind),iG ((c.file.bF.getD c.sign.toNat dF).part),iG ((c.file.bF.getD c.sign.toNat dF).who),iG ((c.file.bF.getD c.sign.toNat dF).for_),iG ((c.file.bF.getD c.sign.toNat dF).to_),iG ((c.file.bF.getD c.sign.toNat dF).sum),iG ((c.file.bF.getD c.sign.toNat dF).day),iG ((c.file.bF.getD c.sign.toNat dF).city),iG ((c.file.bF.getD c.sign.toNat dF).flags)]))],5⟩) ?_ ?_
 rotate_left
 ·refine zP (fun c3=> ?_) (fun c3=> ?_)
  ·refine zG env true [] [2,3,5,6,7,8,9] ?_
   exact zV _ (by rw[iQ c3]) (hp:=t45)
  exact zV 0 (by rw[iP c3]) (hp:=t45)
 rintro gap eg
 refine gR [.el dF ceC (List.replicate 20 (⟨false,0⟩:Cel))] [2,3,5,6,7,8,9,10] ?_ (hp:=(by simp only[zC,bb,toN,loI,hiI];repeat' first|exact trivial|exact zH.refl _|exact zE.refl _|exact rfl|(rw[zR,List.map_replicate];rfl)|omega|apply And.intro|intro _))
 refine Jo env false 23 [.mp [(.int .i64 0,.int .i64 c.file.bill.sum)],.mp [(.int .i64 0,.int .i64 c.file.bill.sum),(.int .i64 1,.int .i64 c.file.bill.parts)],.mp [(.int .i64 0,.int .i64 c.file.bill.sum),(.int .i64 1,.int .i64 c.file.bill.parts),(.int .i64 2,.int .i64 c.file.bill.ten.kind)],.mp [(.int .i64 0,.int .i64 c.file.bill.sum),(.int .i64 1,.int .i64 c.file.bill.parts),(.int .i64 2,.int .i64 c.file.bill.ten.kind),(.int .i64 3,.int .i64 c.file.bill.rate)],.mp [(.int .i64 0,.int .i64 c.file.bill.sum),(.int .i64 1,.int .i64 c.file.bill.parts),(.int .i64 2,.int .i64 c.file.bill.ten.kind),(.int .i64 3,.int .i64 c.file.bill.rate),(.int .i64 4,.int .i64 ((c.file.bF.getD c.sign.toNat dF).kind))],.mp [(.int .i64 0,.int .i64 c.file.bill.sum),(.int .i64 1,.int .i64 c.file.bill.parts),(.int .i64 2,.int .i64 c.file.bill.ten.kind),(.int .i64 3,.int .i64 c.file.bill.rate),(.int .i64 4,.int .i64 ((c.file.bF.getD c.sign.toNat dF).kind)),(.int .i64 5,.int .i64 c.defence)],.mp [(.int .i64 0,.int .i64 c.file.bill.sum),(.int .i64 1,.int .i64 c.file.bill.parts),(.int .i64 2,.int .i64 c.file.bill.ten.kind),(.int .i64 3,.int .i64 c.file.bill.rate),(.int .i64 4,.int .i64 ((c.file.bF.getD c.sign.toNat dF).kind)),(.int .i64 5,.int .i64 c.defence),(.int .i64 6,.int .i64 gap)]] 6 90 91 92 93 6 ((zZx r c (c.file.bF.getD c.sign.toNat dF) gap).map ZEi) (fun done out=>∃ds:List (Nat×Int),done=ds.map ZEi/\out=ds.foldl zWp (List.replicate 20 (⟨false,0⟩:Cel))) (fun out=>[(2,.ptr 0 0 0 0),(3,.ep (caC c)),(5,.ptr 2 0 0 0),(6,.ptr 3 0 0 0),(7,iG (mxI c.bM 0)),(8,.ptr 4 0 0 0),(9,iG gap),(10,.sl 5 2 0 20)]) (fun out=>[(0,some (.box [.d (.row dF zf r.bA),.d (.row dF ctC r.bB),.d (.row dF inC r.groups),.d (.row dF fmC r.bC),.d (.row dF odC r.bD),.d (.row dF usC r.bE),.d (.row dF rtC r.rates),.d (.row dF htC r.halts)])),(2,some (.box [iG c.file.bill.bP,iG c.file.bill.bO,iG c.file.bill.bQ,iG c.file.bill.sum,iG c.file.bill.cur,iG c.file.bill.ten.kind,iG c.file.bill.ten.n,iG c.file.bill.ten.unit,iG c.file.bill.day,iG c.file.bill.city,iG c.file.bill.pay,iG c.file.bill.need,iG c.file.bill.rate,iG c.file.bill.flags,iG c.file.bill.parts,.d (.row dF sgC c.file.bF),.d (.row dF alC c.file.bH),.d (.row dF acC c.file.acts),.d (.row dF fcC c.file.facts)])),(3,some (.box [iG c.file.bill.bP,iG c.file.bill.bO,iG c.file.bill.bQ,iG c.file.bill.sum,iG c.file.bill.cur,iG c.file.bill.ten.kind,iG c.file.bill.ten.n,iG c.file.bill.ten.unit,iG c.file.bill.day,iG c.file.bill.city,iG c.file.bill.pay,iG c.file.bill.need,iG c.file.bill.rate,iG c.file.bill.flags,iG c.file.bill.parts])),(4,some (.box [iG ((c.file.bF.getD c.sign.toNat dF).kind),iG ((c.file.bF.getD c.sign.toNat dF).part),iG ((c.file.bF.getD c.sign.toNat dF).who),iG ((c.file.bF.getD c.sign.toNat dF).for_),iG ((c.file.bF.getD c.sign.toNat dF).to_),iG ((c.file.bF.getD c.sign.toNat dF).sum),iG ((c.file.bF.getD c.sign.toNat dF).day),iG ((c.file.bF.getD c.sign.toNat dF).city),iG ((c.file.bF.getD c.sign.toNat dF).flags)])),(5,some (.row 74 2 dF ceC out 0))]) (List.replicate 20 (⟨false,0⟩:Cel)) ⟨[],rfl,rfl⟩ ?_ ?_ rfl
 ·rintro r0 done k v rest out hperm ⟨ds,hds,ho⟩
  obtain ⟨e,he,hek⟩:=List.mem_map.1 (hperm.mem_iff.1 (List.mem_append_right _ List.mem_cons_self))
  simp only[ZEi,Prod.mk.injEq]at hek
  obtain ⟨rfl,rfl⟩:=hek
  have he20:e.1<20:=by
   simp only[zZx,List.mem_cons,List.not_mem_nil,or_false]at he
   rcases he with rfl|rfl|rfl|rfl|rfl|rfl|rfl<;>simp
  have hol:out.length=20:=by rw[ho,Hq];simp
  refine WH env false [] [2,3,5,6,7,8,9,10,11,12,90] ?_
  refine gR [.el dF ceC (out.set e.1 (⟨true,e.2⟩:Cel))] [2,3,5,6,7,8,9,10,90] ?_ (hp:=(by simp only[zC,bb,toN,loI,hiI,Nat.zero_add];repeat' first|exact (ZW (cs:=ceC) t27 rfl t26).symm|exact Nat.le_refl _|exact trivial|exact zH.refl _|exact zE.refl _|exact rfl|omega|apply And.intro|intro _|(simp;done)))
  exact vo (out.set e.1 ⟨true,e.2⟩) ⟨ds++ [e],by rw[List.map_append,hds];rfl,by rw[ho,List.foldl_append];rfl⟩
 rintro done out hperm ⟨ds,rfl,ho⟩
 have ho1:out=(zZx r c (c.file.bF.getD c.sign.toNat dF) gap).foldl zWp (List.replicate 20 (⟨false,0⟩:Cel)):=ho.trans (Xf (·.1) (by simp[zZx]) (fun x y z h=>Hd _ _ _ _ _ h) (zBy dec1 (fun x=>rfl) hperm) _)
 have hol:out.length=20:=by rw[ho1,Hq];simp
 clear ho hperm
 refine gR [.call (Km c.file.bH t11 c)] [2,3,5,6,7,8,9,10,13] ?_
 refine gR [.call (YP r c.file.bill.city hr),.call (YP r c.file.bill.pay hr)] [3,5,6,7,8,9,10,13,14] ?_
 refine Jo env false 33 [.mp [(.int .i64 7,.bool (Zr c.file.bill.flags 1))],.mp [(.int .i64 7,.bool (Zr c.file.bill.flags 1)),(.int .i64 8,.bool (decide (c.file.bill.bQ= -1)))],.mp [(.int .i64 7,.bool (Zr c.file.bill.flags 1)),(.int .i64 8,.bool (decide (c.file.bill.bQ= -1))),(.int .i64 9,.bool (Zr c.file.bill.flags 4))],.mp [(.int .i64 7,.bool (Zr c.file.bill.flags 1)),(.int .i64 8,.bool (decide (c.file.bill.bQ= -1))),(.int .i64 9,.bool (Zr c.file.bill.flags 4)),(.int .i64 10,.bool (Zr c.file.bill.flags 2))],.mp [(.int .i64 7,.bool (Zr c.file.bill.flags 1)),(.int .i64 8,.bool (decide (c.file.bill.bQ= -1))),(.int .i64 9,.bool (Zr c.file.bill.flags 4)),(.int .i64 10,.bool (Zr c.file.bill.flags 2)),(.int .i64 11,.bool (!decide (zk r c.file.bill.city=zk r c.file.bill.pay)))],.mp [(.int .i64 7,.bool (Zr c.file.bill.flags 1)),(.int .i64 8,.bool (decide (c.file.bill.bQ= -1))),(.int .i64 9,.bool (Zr c.file.bill.flags 4)),(.int .i64 10,.bool (Zr c.file.bill.flags 2)),(.int .i64 11,.bool (!decide (zk r c.file.bill.city=zk r c.file.bill.pay))),(.int .i64 12,.bool (c.file.bH.any fun a=>VB a c))],.mp [(.int .i64 7,.bool (Zr c.file.bill.flags 1)),(.int .i64 8,.bool (decide (c.file.bill.bQ= -1))),(.int .i64 9,.bool (Zr c.file.bill.flags 4)),(.int .i64 10,.bool (Zr c.file.bill.flags 2)),(.int .i64 11,.bool (!decide (zk r c.file.bill.city=zk r c.file.bill.pay))),(.int .i64 12,.bool (c.file.bH.any fun a=>VB a c)),(.int .i64 13,.bool (Zr (c.file.bF.getD c.sign.toNat dF).flags 1))],.mp [(.int .i64 7,.bool (Zr c.file.bill.flags 1)),(.int .i64 8,.bool (decide (c.file.bill.bQ= -1))),(.int .i64 9,.bool (Zr c.file.bill.flags 4)),(.int .i64 10,.bool (Zr c.file.bill.flags 2)),(.int .i64 11,.bool (!decide (zk r c.file.bill.city=zk r c.file.bill.pay))),(.int .i64 12,.bool (c.file.bH.any fun a=>VB a c)),(.int .i64 13,.bool (Zr (c.file.bF.getD c.sign.toNat dF).flags 1)),(.int .i64 14,.bool (decide (0<gap)))]] 6 139 140 141 142 6 ((zZw r c (c.file.bF.getD c.sign.toNat dF) gap).map ZEh) (fun done o2=>∃ds:List (Nat×Bool),done=ds.map ZEh/\o2=ds.foldl zWo out) (fun o2=>[(3,.ep (caC c)),(5,.ptr 2 0 0 0),(7,iG (mxI c.bM 0)),(10,.sl 5 2 0 20)]) (fun o2=>[(2,some (.box [iG c.file.bill.bP,iG c.file.bill.bO,iG c.file.bill.bQ,iG c.file.bill.sum,iG c.file.bill.cur,iG c.file.bill.ten.kind,iG c.file.bill.ten.n,iG c.file.bill.ten.unit,iG c.file.bill.day,iG c.file.bill.city,iG c.file.bill.pay,iG c.file.bill.need,iG c.file.bill.rate,iG c.file.bill.flags,iG c.file.bill.parts,.d (.row dF sgC c.file.bF),.d (.row dF alC c.file.bH),.d (.row dF acC c.file.acts),.d (.row dF fcC c.file.facts)])),(5,some (.row 74 2 dF ceC o2 0))]) out ⟨[],rfl,rfl⟩ ?_ ?_ rfl
 ·rintro r0 done k v rest o2 hperm ⟨ds,hds,ho⟩
  obtain ⟨e,he,hek⟩:=List.mem_map.1 (hperm.mem_iff.1 (List.mem_append_right _ List.mem_cons_self))
  simp only[ZEh,Prod.mk.injEq]at hek
  obtain ⟨rfl,rfl⟩:=hek
  have he20:e.1<20:=by
   simp only[zZw,List.mem_cons,List.not_mem_nil,or_false]at he
   rcases he with rfl|rfl|rfl|rfl|rfl|rfl|rfl|rfl<;>simp
  have hol2:o2.length=20:=by rw[ho,Ho];exact hol
  refine WH env false [] [3,5,7,10,15,16,139] ?_
  refine gR [.call (HS e.2),.el dF ceC (o2.set e.1 (JU e.2))] [3,5,7,10,139] ?_ (hp:=(by simp only[zC,bb,toN,loI,hiI,Nat.zero_add];repeat' first|exact (ZW (cs:=ceC) t27 rfl t26).symm|exact Nat.le_refl _|exact trivial|exact zH.refl _|exact zE.refl _|exact rfl|omega|apply And.intro|intro _|(simp;done)))
  exact vo (o2.set e.1 (JU e.2)) ⟨ds++ [e],by rw[List.map_append,hds];rfl,by rw[ho,List.foldl_append];rfl⟩
 rintro done o2 hperm ⟨ds,rfl,ho⟩
 have ho2:o2=(zZw r c (c.file.bF.getD c.sign.toNat dF) gap).foldl zWo out:=ho.trans (Xf (·.1) (by simp[zZw]) (fun x y z h=>Hd _ _ _ _ _ h) (zBy dec2 (fun x=>rfl) hperm) _)
 have hol2:o2.length=20:=by rw[ho2,Ho];exact hol
 clear ho hperm
 refine gR [.call (Wz c.file 0 c.sign t11),.el dF ceC (o2.set 15 (Zg c.file 0 c.sign))] [5,7,10,3] ?_ (hp:=(by simp only[zC,bb,toN,loI,hiI,Nat.zero_add];repeat' first|exact (ZW (cs:=ceC) t27 rfl t26).symm|exact Nat.le_refl _|exact trivial|exact zH.refl _|exact zE.refl _|exact rfl|omega|apply And.intro|intro _|(simp;done)))
 refine gR [.call (Wz c.file 1 c.sign t11),.el dF ceC ((o2.set 15 (Zg c.file 0 c.sign)).set 16 (Zg c.file 1 c.sign))] [5,7,10,3] ?_ (hp:=(by simp only[zC,bb,toN,loI,hiI,Nat.zero_add];repeat' first|exact (ZW (cs:=ceC) t21 rfl t26).symm|exact Nat.le_refl _|exact trivial|exact zH.refl _|exact zE.refl _|exact rfl|omega|apply And.intro|intro _|(simp only[List.length_set];omega)))
 refine gR [.call (Wz c.file 2 c.sign t11),.el dF ceC (((o2.set 15 (Zg c.file 0 c.sign)).set 16 (Zg c.file 1 c.sign)).set 17 (Zg c.file 2 c.sign))] [5,7,10,3] ?_ (hp:=(by simp only[zC,bb,toN,loI,hiI,Nat.zero_add];repeat' first|exact (ZW (cs:=ceC) t21 rfl t26).symm|exact Nat.le_refl _|exact trivial|exact zH.refl _|exact zE.refl _|exact rfl|omega|apply And.intro|intro _|(simp only[List.length_set];omega)))
 refine gR [.call (Wz c.file 3 (mxI c.bM 0) t11),.el dF ceC ((((o2.set 15 (Zg c.file 0 c.sign)).set 16 (Zg c.file 1 c.sign)).set 17 (Zg c.file 2 c.sign)).set 18 (Zg c.file 3 (mxI c.bM 0)))] [5,7,10,3] ?_ (hp:=(by simp only[zC,bb,toN,loI,hiI,Nat.zero_add];repeat' first|exact (ZW (cs:=ceC) t21 rfl t26).symm|exact Nat.le_refl _|exact trivial|exact zH.refl _|exact zE.refl _|exact rfl|omega|apply And.intro|intro _|(simp only[List.length_set];omega)))
 refine gR [.call (Wz c.file 4 (mxI c.bM 0) t11),.el dF ceC (((((o2.set 15 (Zg c.file 0 c.sign)).set 16 (Zg c.file 1 c.sign)).set 17 (Zg c.file 2 c.sign)).set 18 (Zg c.file 3 (mxI c.bM 0))).set 19 (Zg c.file 4 (mxI c.bM 0)))] [5,7,10,3] ?_ (hp:=(by simp only[zC,bb,toN,loI,hiI,Nat.zero_add];repeat' first|exact (ZW (cs:=ceC) t21 rfl t26).symm|exact Nat.le_refl _|exact trivial|exact zH.refl _|exact zE.refl _|exact rfl|omega|apply And.intro|intro _|(simp only[List.length_set];omega)))
 refine gE [4] ?_
 refine gT ?_ (hp:=by simp only[zC,List.length_set,hol2];repeat' first|exact trivial|exact rfl|apply And.intro)
 have hfin:QF r c=(((((o2.set 15 (Zg c.file 0 c.sign)).set 16 (Zg c.file 1 c.sign)).set 17 (Zg c.file 2 c.sign)).set 18 (Zg c.file 3 (mxI c.bM 0))).set 19 (Zg c.file 4 (mxI c.bM 0))):=by
  rw[QF,iQ (by rw[show qm c=false from hb];decide),iQ (by rw[c2];decide),ho2,ho1,eg]
  rfl
 rw[hfin];rfl
theorem zJx (r:Rlm) (c:Cas):(QF r c).length=0∨(QF r c).length=20:=by
 unfold QF
 split
 ·simp
 split<;>simp
theorem Vq {r:Rlm} {c:Cas} (h:¬(QF r c).length=0):0<=c.sign/\c.sign<c.file.bF.length:=by
 unfold QF at h
 split at h
 ·simp at h
 rename_i hb
 unfold qm WR at hb
 rw[Bool.not_eq_true]at hb
 simp only[bb]at hb
 omega
theorem zYb (r:Rlm) (bK ask:Int) (places:List Int) (hR:RightR r) (hp:places.length<=9223372036854775807):GC Tryz.prog 177 [rlG r,iG bK,iG ask,qq places] (.tup [qq (jA r bK ask places).1,iG (jA r bK ask places).2]):=ZDg r hR bK ask places hp
def ofV (r:Rlm) (c:Cas):Cas×(List Cel):=(⟨(atV c.file c.day),c.sign,c.bM,c.defence,c.due,c.day⟩,(QF r (⟨(atV c.file c.day),c.sign,c.bM,c.defence,c.due,c.day⟩:Cas)))
theorem of_ok (r:Rlm) (c:Cas) (hR:RR r) (hF:FitFi c.file):GC Tryz.prog 174 [rlG r,caG c] (.tup [caG ((ofV r c).1),.d (.row dF ceC ((ofV r c).2))]):=by
 have hr:=hR.right.fit
 have h1:=hr.bD
 have h2:=hr.bB
 have h3:=hr.bC
 refine zA Tryz.func174 ?_
 refine gE [2,3,4,5] ?_
 refine gR [.call (JB c.file c.day (by first|assumption|exact FitFi.at_ t12 _))] [2,3,4,5] ?_
 refine gR [.call (zVg r (⟨(atV c.file c.day),c.sign,c.bM,c.defence,c.due,c.day⟩:Cas) hr (by first|assumption|exact FitFi.at_ t12 _))] [4,5] ?_
 refine gT ?_
 rw[ofV];rfl
def Zk (r:Rlm) (bK:Int) (c:Cas):List Int:=if (bif (bif (bif decide (((c.file.bF.getD c.sign.toNat dF).who)<0)then true else decide ((r.bC.length:Int)<=((c.file.bF.getD c.sign.toNat dF).who)))then true else decide (bK<0))then true else decide ((r.bD.length:Int)<=bK))=true then []else if (qv ((((((List.replicate 5 0).set 0 bK).set 1 (zk r ((c.file.bF.getD c.sign.toNat dF).city))).set 2 (zk r c.file.bill.pay)).set 3 (zk r c.file.bill.city)).set 4 (zk r ((r.bC.getD (((c.file.bF.getD c.sign.toNat dF).who).toNat) dF).city))) (-1))=true then []else (((((List.replicate 5 0).set 0 bK).set 1 (zk r ((c.file.bF.getD c.sign.toNat dF).city))).set 2 (zk r c.file.bill.pay)).set 3 (zk r c.file.bill.city)).set 4 (zk r ((r.bC.getD (((c.file.bF.getD c.sign.toNat dF).who).toNat) dF).city))
theorem XM (r:Rlm) (bK:Int) (c:Cas) (hR:RR r) (hF:FitFi c.file) (hs:0<=c.sign/\c.sign<c.file.bF.length):GC Tryz.prog 176 [rlG r,iG bK,caG c] (nilG dF inC (Zk r bK c)):=by
 have hr:=hR.right.fit
 have h1:=hr.bD
 have h2:=hr.bB
 have h3:=hr.bC
 have h4:=hF.bF
 refine zA Tryz.func176 ?_ (hg:=zXe _ _ _)
 refine gE [1,3,5,6] ?_
 refine gE [1,3,6,7,8] ?_
 refine gE [1,3,6,7,8,41] ?_
 refine zF ?_ ?_<;>intro c1<;>try simp only[bb,toN]at c1
 ·refine gE [1,3,6,7,8] ?_
  refine gT ?_
  rw[Zk,iP (by (try simp only[bb,toN]);exact c1)];rfl
 refine gR [.el dF inC (List.replicate 5 0)] [1,3,6,7,8,9] ?_ (hp:=t33)
 refine gR [.el dF inC ((List.replicate 5 0).set 0 bK)] [3,6,7,8,9] ?_ (hp:=(by simp only[zC,bb,toN,loI,hiI,Nat.zero_add];repeat' first|exact (ZW (cs:=inC) t27 rfl t26).symm|exact Nat.le_refl _|exact trivial|exact zH.refl _|exact zE.refl _|exact rfl|omega|apply And.intro|intro _|(simp;done)))
 refine gR [.call (YP r ((c.file.bF.getD c.sign.toNat dF).city) hr),.el dF inC (((List.replicate 5 0).set 0 bK).set 1 (zk r ((c.file.bF.getD c.sign.toNat dF).city)))] [3,6,7,8,9] ?_ (hp:=(by simp only[zC,bb,toN,loI,hiI,Nat.zero_add];repeat' first|exact (ZW (cs:=inC) t27 rfl t26).symm|exact Nat.le_refl _|exact trivial|exact zH.refl _|exact zE.refl _|exact rfl|omega|apply And.intro|intro _|(simp;done)))
 refine gR [.call (YP r c.file.bill.pay hr),.el dF inC ((((List.replicate 5 0).set 0 bK).set 1 (zk r ((c.file.bF.getD c.sign.toNat dF).city))).set 2 (zk r c.file.bill.pay))] [3,6,7,8,9] ?_ (hp:=(by simp only[zC,bb,toN,loI,hiI,Nat.zero_add];repeat' first|exact (ZW (cs:=inC) t27 rfl t26).symm|exact Nat.le_refl _|exact trivial|exact zH.refl _|exact zE.refl _|exact rfl|omega|apply And.intro|intro _|(simp;done)))
 refine gR [.call (YP r c.file.bill.city hr),.el dF inC (((((List.replicate 5 0).set 0 bK).set 1 (zk r ((c.file.bF.getD c.sign.toNat dF).city))).set 2 (zk r c.file.bill.pay)).set 3 (zk r c.file.bill.city))] [3,6,7,9] ?_ (hp:=(by simp only[zC,bb,toN,loI,hiI,Nat.zero_add];repeat' first|exact (ZW (cs:=inC) t27 rfl t26).symm|exact Nat.le_refl _|exact trivial|exact zH.refl _|exact zE.refl _|exact rfl|omega|apply And.intro|intro _|(simp;done)))
 refine gR [.call (YP r ((r.bC.getD (((c.file.bF.getD c.sign.toNat dF).who).toNat) dF).city) hr),.el dF inC ((((((List.replicate 5 0).set 0 bK).set 1 (zk r ((c.file.bF.getD c.sign.toNat dF).city))).set 2 (zk r c.file.bill.pay)).set 3 (zk r c.file.bill.city)).set 4 (zk r ((r.bC.getD (((c.file.bF.getD c.sign.toNat dF).who).toNat) dF).city)))] [6,9] ?_ (hp:=(by simp only[zC,bb,toN,loI,hiI,Nat.zero_add];repeat' first|exact (ZW (cs:=inC) t27 rfl t26).symm|exact Nat.le_refl _|exact trivial|exact zH.refl _|exact zE.refl _|exact rfl|omega|apply And.intro|intro _|(simp;done)))
 refine gR [.call ((fun l x h=>zh l h x) ((((((List.replicate 5 0).set 0 bK).set 1 (zk r ((c.file.bF.getD c.sign.toNat dF).city))).set 2 (zk r c.file.bill.pay)).set 3 (zk r c.file.bill.city)).set 4 (zk r ((r.bC.getD (((c.file.bF.getD c.sign.toNat dF).who).toNat) dF).city))) (-1) t17)] [6,9,76] ?_
 refine zF ?_ ?_<;>intro c2<;>try simp only[bb,toN]at c2
 ·refine gE [6,9] ?_
  refine gT ?_
  rw[Zk,iN (by (try simp only[bb,toN]);exact c1),iP (by (try simp only[bb,toN]);exact c2)];rfl
 refine gE [6] ?_
 refine gT ?_
 rw[Zk,iN (by (try simp only[bb,toN]);exact c1),iN (by (try simp only[bb,toN]);exact c2)];rfl
def ZBq:Sad:=⟨⟨false,0⟩,-1,[],1⟩
def yB (r:Rlm) (bK q:Int) (c:Cas):Sad×List Cel:=if (ofV r c).2.length=0 then (ZBq,[])else if (JT q).2=false then (ZBq,[])else if (Zk r bK (ofV r c).1)= []then (ZBq,[])else
 if (jA r bK q (Zk r bK (ofV r c).1)).2=0 then (⟨⟨false,0⟩,(jA r bK q (Zk r bK (ofV r c).1)).1.getD ((jA r bK q (Zk r bK (ofV r c).1)).1.length-1) dF,(jA r bK q (Zk r bK (ofV r c).1)).1,0⟩,(ofV r c).2)else (⟨⟨false,0⟩,-1,(jA r bK q (Zk r bK (ofV r c).1)).1,(jA r bK q (Zk r bK (ofV r c).1)).2⟩,(ofV r c).2)
theorem zQn (r:Rlm) (c:Cas):(ofV r c).1.file=atV c.file c.day/\(ofV r c).1.sign=c.sign/\(ofV r c).2=QF r (ofV r c).1:=⟨rfl,rfl,rfl⟩
theorem Hs (r:Rlm) (bK:Int) (c:Cas):(Zk r bK c).length<=5:=by
 unfold Zk
 repeat' split
 all_goals simp
theorem ZDh {r:Rlm} (hR:RightR r) {q:Int} {l:List Int} (hf:∀x,x∈l->0<=x/\x<r.bD.length) (h5:l.length=5) (hq:0<=q/\q<22):∀(n:Nat) (p:List Int),LwI r p->1<=(VW r q l n p).1.length/\(VW r q l n p).1.length<=r.bD.length+1/\∀x,x∈(VW r q l n p).1->0<=x/\x<r.bD.length:=by
 intro n
 induction n with
 |zero=>intro p h;exact ⟨h.pos,by have:=h.len;show p.length<=_;omega,h.rng⟩
 |succ n ih=>
  intro p h
  have hl:=h.len
  have hp:=h.pos
  have hnx:=XY (ask:=q) hf (h.rng _ (zJ (l:=p) (i:=p.length-1) t11)) h5 hR hq
  have hap:∀x,x∈p++ [(Zu r (p.getD (p.length-1) dF) q l).1]->0<=x/\x<r.bD.length:=fun x hx=>by
   rcases List.mem_append.1 hx with hx|hx
   ·exact h.rng x hx
   simp only[List.mem_singleton]at hx;subst hx;exact hnx
  unfold VW
  split
  ·exact ⟨hp,by dsimp only;omega,h.rng⟩
  split
  ·exact ⟨by simp,by simp;omega,hap⟩
  split
  ·exact ⟨by simp,by simp;omega,hap⟩
  rename_i h3
  exact ih _ (h.next hnx (by simpa using h3))
theorem zRu {r:Rlm} {bK q:Int} {l:List Int} (hR:RightR r) (h:(jA r bK q l).2=0):1<=(jA r bK q l).1.length/\(jA r bK q l).1.length<=1001/\∀x,x∈(jA r bK q l).1->0<=x/\x<r.bD.length:=by
 unfold jA at h⊢
 split at h
 ·cases h
 rename_i hc
 rw[iQ hc]
 rw[Bool.not_eq_true]at hc
 simp only[bb]at hc
 have hf:=Kx hc.1
 have:=ZDh (q:=q) hR hf.2.2.2.2.2 hf.2.2.2.2.1 ⟨hf.2.2.1,hf.2.2.2.1⟩ (r.bD.length+1) [bK] (zIq ⟨hf.1,hf.2.1⟩)
 have ho:=hR.fit.bD
 exact ⟨this.1,by omega,this.2.2⟩
theorem zYy (r:Rlm) (bK qu:Int) (c:Cas) (hR:RR r) (hF:FitFi c.file):GC Tryz.prog 138 [rlG r,iG bK,iG qu,caG c] (.tup [sdG (yB r bK qu c).1,.d (.row dF ceC (yB r bK qu c).2)]):=by
 have hr:=hR.right.fit
 have h1:=hr.bD
 have h2:=hr.bB
 have h3:=hr.bC
 refine zA Tryz.func138 ?_
 refine gE [1,2,4,7,8,9] ?_
 refine gE [1,2,4,7,8,9,10] ?_
 refine gR [.call (of_ok r c hR hF)] [1,2,4,7,8,9,10,11] ?_
 refine gE [1,2,4,7,8,9,10,11,24] ?_
 refine zB ?_ ?_<;>intro c1<;>try simp only[toN]at c1
 ·refine gE [1,2,4,7,8,9,10,11] ?_
  refine Zq env ?_
  rw[yB,iP t11];exact Ent.tup ⟨Ent.agg ⟨Ent.refl _,Ent.refl _,Ent.refl _,Ent.nil,Ent.refl _,trivial⟩,Ent.nil,trivial⟩
 refine gR [.call (KA qu)] [1,2,4,7,8,9,10,11,13] ?_
 refine gE [1,2,4,7,8,9,10,11,32] ?_
 refine zF ?_ ?_<;>intro c2<;>try simp only[bb,toN]at c2
 ·refine gE [1,2,4,7,8,9,10,11] ?_
  refine Zq env ?_
  rw[yB,iQ t11,iP c2];exact Ent.tup ⟨Ent.agg ⟨Ent.refl _,Ent.refl _,Ent.refl _,Ent.nil,Ent.refl _,trivial⟩,Ent.nil,trivial⟩
 rcases hP:(Zk r bK (ofV r c).1)with _|⟨x,xs⟩
 ·have hsg:=Vq (r:=r) (c:=(ofV r c).1) (by rw[<-(zQn r c).2.2];omega)
  refine gR [.call (hP▸XM r bK (ofV r c).1 hR (hF.at_ _) hsg)] [1,2,4,8,9,10,11,14] ?_
  refine zMv env ?_
  refine zF ?_ ?_<;>intro c3<;>try simp only[bb,toN]at c3
  ·refine gE [1,2,4,8,9,10,11,14] ?_
   refine Zq env ?_
   rw[yB,iQ t11,iQ (by rw[c2];simp),iP hP];exact Ent.tup ⟨Ent.agg ⟨Ent.refl _,Ent.refl _,Ent.refl _,Ent.nil,Ent.refl _,trivial⟩,Ent.nil,trivial⟩
  cases c3
 have hsg:=Vq (r:=r) (c:=(ofV r c).1) (by rw[<-(zQn r c).2.2];omega)
 refine gR [.call (hP▸XM r bK (ofV r c).1 hR (hF.at_ _) hsg)] [1,2,4,8,9,10,11,14] ?_
 refine zBm env (fun q hq=> ?_)
 refine zF ?_ ?_<;>intro c3<;>try simp only[bb,toN]at c3
 ·exact absurd (hq c3) t25
 have hP5:=Hs r bK (ofV r c).1
 rw[hP]at hP5
 refine gR [.call (zYb r bK qu (x::xs) hR.right t11)] [8,9,10,11] ?_
 refine gE [8,9,10,11,53] ?_
 refine zB ?_ ?_<;>intro c4<;>try simp only[toN]at c4
 ·obtain ⟨hw1,hw2,hw3⟩:=zRu hR.right c4
  refine gE [8,9,10,11] ?_
  refine gE [8,9] ?_
  refine gT ?_
  rw[yB,iQ t11,iQ (by rw[c2];simp),iQ (by rw[hP];simp),hP,iP c4]
  simp only[show (((jA r bK qu (x::xs)).1.length:Int)-1).toNat=(jA r bK qu (x::xs)).1.length-1 by omega,toN]
  rw[c4];rfl
 refine gE [8,9] ?_
 refine gT ?_
 rw[yB,iQ t11,iQ (by rw[c2];simp),iQ (by rw[hP];simp),hP,iQ c4];rfl
def zGx (o:Od) (ask:Int) (cells:List Cel):Cel×Int:=if ((qB o ask).2)=0 then if (bif decide (((JT ask).1)=0)then (vA Dep.d ((qB o ask).1) cells).known else false)=true then (⟨(vA Dep.d ((qB o ask).1) cells).known,mnI (mxI ((vA Dep.d ((qB o ask).1) cells).n) 0) 20000⟩,0)else ((vA Dep.d ((qB o ask).1) cells),0)else (⟨false,0⟩,(qB o ask).2)
theorem zNt (o:Od) (ask:Int) (cells:List Cel) (ho:FitO o) (hc:cells.length<=1000):GC Tryz.prog 139 [odG o,iG ask,.d (.row dF ceC cells)] (.tup [ceG ((zGx o ask cells).1),iG ((zGx o ask cells).2)]):=by
 refine zA Tryz.func139 ?_
 refine gE [1,2,3,6,7] ?_
 refine gR [.call (zQm o ask t12)] [1,2,6,7,8,9] ?_
 refine gE [1,2,6,7,8,9,20] ?_
 refine zP ?_ ?_<;>intro c1<;>try simp only[toN]at c1
 ·refine gE [1,2,6,7,8] ?_
  refine gT ?_
  rw[zGx,iQ c1];rfl
 have ht:=zNc ho c1
 refine gR [.call (zZc Dep.d ((qB o ask).1) cells t12 t11)] [1,6,7,10] ?_
 refine gR [.call (KA ask)] [6,7,10,11] ?_
 refine gE [6,7,10,36] ?_
 refine zF ?_ ?_<;>intro c2<;>try simp only[bb,toN]at c2
 ·refine gE [6,7,10] ?_
  refine gE [6,7] ?_
  refine gT ?_
  rw[zGx,iP c1,iP (show (bif decide (((JT ask).1)=0)then (vA Dep.d ((qB o ask).1) cells).known else false)=true by (try simp only[bb,toN]);exact c2)];rfl
 refine gE [6,7] ?_
 refine gT ?_
 rw[zGx,iP c1,iQ (show ¬((bif decide (((JT ask).1)=0)then (vA Dep.d ((qB o ask).1) cells).known else false)=true)by rw[Bool.not_eq_true];(try simp only[bb,toN]);exact c2)];rfl
theorem FitFi.nof {b:Bil} {s:List Sgn} {al:List Alt} {ac:List Act} {fc:List Fct} (h:FitFi ⟨b,s,al,ac,fc⟩):FitFi ⟨b,s,al,ac,[]⟩:=⟨h.1,h.2,h.3,by simp⟩
theorem zBt {r:Rlm} {bK qu:Int} {c:Cas} (hR:RR r) (h:¬(yB r bK qu c).1.order= -1):0<=(yB r bK qu c).1.order/\(yB r bK qu c).1.order<r.bD.length:=by
 unfold yB at h⊢
 split at h
 ·exact absurd rfl h
 rename_i h1
 rw[iQ h1]
 split at h
 ·exact absurd rfl h
 rename_i h2
 rw[iQ h2]
 split at h
 ·exact absurd rfl h
 rename_i h3
 rw[iQ h3]
 split at h
 ·rename_i h4
  rw[iP h4]
  obtain ⟨a,b,c⟩:=zRu hR.right h4
  exact c _ (zJ t11)
 exact absurd rfl h
theorem zBu (r:Rlm) (bK qu:Int) (c:Cas):(yB r bK qu c).2.length<=20:=by
 have h0:=zJx r (ofV r c).1
 rw[<-(zQn r c).2.2]at h0
 unfold yB
 repeat' split
 all_goals simp<;>omega
def qQ (r:Rlm) (bK:Int) (qu:Int) (c:Cas):Sad:=if (((yB r bK qu c).1).order)=(-1)then (yB r bK qu c).1 else ⟨(zGx (r.bD.getD ((((yB r bK qu c).1).order).toNat) dF) qu ((yB r bK qu c).2)).1,((yB r bK qu c).1).order,((yB r bK qu c).1).path,(zGx (r.bD.getD ((((yB r bK qu c).1).order).toNat) dF) qu ((yB r bK qu c).2)).2⟩
theorem WP (r:Rlm) (bK:Int) (qu:Int) (c:Cas) (hR:RR r) (hF:FitFi c.file):GC Tryz.prog 94 [rlG r,iG bK,iG qu,caG c] (sdG (qQ r bK qu c)):=by
 have hr:=hR.right.fit
 have h1:=hr.bD
 have h2:=hr.bB
 have h3:=hr.bC
 have hcl:=zBu r bK qu c
 refine zA Tryz.func94 ?_
 refine gE [1,2,4,7,8] ?_
 refine gR [.call (zYy r bK qu c hR (by first|assumption|exact FitFi.at_ t12 _|exact FitFi.nof t12|exact FitFi.nof (FitFi.at_ t12 _)))] [2,4,8,9,10] ?_
 refine gE [2,4,8,9,10,21] ?_
 refine zP ?_ ?_<;>intro c1<;>try simp only[toN]at c1
 ·have hor:=zBt hR c1
  have hoo:=hR.fo _ (zJ (l:=r.bD) (i:=(yB r bK qu c).1.order.toNat) t11)
  refine gR [.call (zNt (r.bD.getD ((((yB r bK qu c).1).order).toNat) dF) qu ((yB r bK qu c).2) t12 t11)] [8,9] ?_
  refine gE [8] ?_
  refine gT ?_
  rw[qQ,iQ c1];rfl
 refine gE [8] ?_
 refine gT ?_
 rw[qQ,iP c1];rfl
def Qs (r:Rlm) (bK:Int) (qu:Int) (f:Fil) (day:Int):Sad:=(qQ r bK qu (⟨⟨f.bill,f.bF,f.bH,f.acts,[]⟩,0,(-1),(-1),(-1),day⟩:Cas))
theorem HI (r:Rlm) (bK:Int) (qu:Int) (f:Fil) (day:Int) (hR:RR r) (hF:FitFi f):GC Tryz.prog 135 [rlG r,iG bK,iG qu,fiG f,iG day] (sdG (Qs r bK qu f day)):=by
 have hr:=hR.right.fit
 have h1:=hr.bD
 have h2:=hr.bB
 have h3:=hr.bC
 refine zA Tryz.func135 ?_
 refine gE [1,2,4,5,8,10] ?_
 refine gE [1,2,4,5,8,10] ?_
 refine gR [.call (WP r bK qu (⟨⟨f.bill,f.bF,f.bH,f.acts,[]⟩,0,(-1),(-1),(-1),day⟩:Cas) hR (by first|assumption|exact FitFi.at_ t12 _|exact FitFi.nof t12|exact FitFi.nof (FitFi.at_ t12 _)))] [10] ?_ (hp:=(by simp only[zC,bb,toN,loI,hiI];repeat' first|exact Ent.agg ⟨Ent.refl _,Ent.refl _,Ent.refl _,Ent.refl _,Ent.refl _,Ent.refl _,Ent.refl _,Ent.refl _,Ent.refl _,Ent.refl _,Ent.refl _,Ent.refl _,Ent.refl _,Ent.refl _,Ent.refl _,Ent.refl _,Ent.refl _,Ent.refl _,Ent.nil,Ent.refl _,Ent.refl _,Ent.refl _,Ent.refl _,Ent.refl _,trivial⟩|exact trivial|exact zH.refl _|exact zE.refl _|exact rfl|omega|apply And.intro|intro _))
 refine gT ?_
 rw[Qs];rfl
open Go.IntKind (i64)
def uS (c:Cty) (day:Int):Bool:=(bif (bif (!(qv c.rest ((i64.wrap (day+5)).tmod 7)))then (!(qv c.feasts (i64.wrap ((i64.wrap (100*((zb day).2.1)))+((zb day).2.2)))))else false)then (!(qv c.shut day))else false)
theorem zCf (c:Cty) (day:Int) (hc:FitC c):GC Tryz.prog 267 [ctG c,iG day] (bG (uS c day)):=by
 obtain ⟨_,h2,h3,h4⟩:=hc
 refine zA Tryz.func267 ?_
 refine gE [1,2,4] ?_
 refine gR [.call (UG day)] [1,2,4,6,7] ?_
 refine zG env true [.call ((fun l x h=>zh l h x) c.rest ((i64.wrap (day+5)).tmod 7) t17),.call ((fun l x h=>zh l h x) c.feasts (i64.wrap ((i64.wrap (100*((zb day).2.1)))+((zb day).2.2))) t17),.call ((fun l x h=>zh l h x) c.shut day t17)] [4] ?_
 refine gT ?_
 rw[uS];rfl
def vf (c:Cty) (hi:Int):Nat->Int->Int×Int
 |0,_=>(0,3)
 |n+1,d=>if hi<d then (0,3)else if uS c d=true then (d,0)else vf c hi n (d+1)
def qW (c:Cty) (day:Int):Int×Int:=if QG day=false then (0,3)else vf c (mnI (day+400) 100000) 402 day
def Qi (c:Cty) (hi:Int):Nat->Int->List Int
 |0,_=>[]
 |n+1,d=>if hi<d then []else if uS c d=true then d::Qi c hi n (d+1)else Qi c hi n (d+1)
theorem zQg {c:Cty} {hi d:Int} (h:d<=hi):Qi c hi (hi+1-d).toNat d=if uS c d=true then d::Qi c hi (hi+1-(d+1)).toNat (d+1)else Qi c hi (hi+1-(d+1)).toNat (d+1):=by
 have e:(hi+1-d).toNat=(hi+1-(d+1)).toNat+1:=by omega
 rw[e,Qi,iQ t11]
theorem zZk (c:Cty) (lo hi:Int) (hc:FitC c) (h0:0<=lo) (h1:hi<=100000):Xv Tryz.prog 266 [.ep [.sc (.int .i64 lo)],.ep [.sc (.int .i64 hi)],.ep (ctC c)] (fun d:Int=>[iG d]) (Qi c hi (hi+1-lo).toNat lo):=by
 refine Jm Tryz.func266 fun C hg hN=> ?_
 refine (yZ (c':=_) (K':=_) (n:=1000) (K:=[]) rfl ?_:GYK C _ (zOb _) _ [] _ _).gy
 refine ze env false [] [0,2,3,5] ?_
 refine Xw (β:=List Int×Int) (fun x=>lo<=x.2/\x.1++Qi c hi (hi+1-x.2).toNat x.2=Qi c hi (hi+1-lo).toNat lo) (fun x=>[(5,iG x.2)]) (fun _=>[]) (fun x=>(true,x.1)) (fun x=>(hi+1-x.2).toNat) ([],lo) ⟨by omega,rfl⟩ ?_
 rintro ⟨pre,d⟩ ⟨ha,he⟩
 dsimp only at*
 refine ze env false [] [0,2,3,5,9] ?_
 refine Vm (fun c1=> ?_) (fun c1=> ?_)
 ·rw[zQg c1]at he
  cases ho:uS c d with
  |true=>
   rw[iP ho]at he
   refine wp ?_
   refine Yh env false 4 [.call (zCf c d hc)] ?_
   refine Ve 15 ho ?_
   refine Yh env false 2 [] ?_
   refine JS d _ (he.trans hN.symm) (by rw[hg]) fun b=> ?_
   refine Yh env false 2 [] ?_
   refine wo [0,2,3,5,20] ?_
   refine Ur (fun c2=> ?_) (fun c2=> ?_)
   ·cases b with
    |true=>cases c2
    |false=>exact zDb (.inr rfl)
   refine ze env false [] [0,2,3,5] ?_
   cases b with
   |false=>cases c2
   |true=>exact jG (pre++ [d],d+1) ⟨by dsimp only;omega,by simpa using he⟩
  |false=>
   rw[iQ (by rw[ho];decide)]at he
   refine wp ?_
   refine Yh env false 4 [.call (zCf c d hc)] ?_
   refine Ve 15 ho ?_
   refine Yh env false 5 [.no,.nu] ?_
   refine wo [0,2,3,5,20] ?_
   refine Ur (fun c2=> ?_) (fun c2=> ?_)
   ·cases c2
   refine ze env false [] [0,2,3,5] ?_
   exact jG (pre,d+1) ⟨by dsimp only;omega,he⟩
 refine vM (.inl ?_)
 have e:(hi+1-d).toNat=0:=by omega
 rw[e,Qi,List.append_nil]at he
 rw[he]
theorem zZj (c:Cty) (lo hi:Int):GC Tryz.prog 237 [ctG c,iG lo,iG hi] (.fn (.func 266) [] [.ep [.sc (.int .i64 lo)],.ep [.sc (.int .i64 hi)],.ep (ctC c)]):=by
 refine zA Tryz.func237 ?_
 refine gE [3,4,5] ?_
 refine zz 0 ?_
 refine zz 1 ?_
 refine zz 2 ?_
 refine gE [6] ?_
 refine gT ?_
 rfl
def hd0:List Int->Int×Int
 | []=>(0,3)
 |x::_=>(x,0)
theorem zLb (c:Cty) (hi:Int):∀(n:Nat) (d:Int),hd0 (Qi c hi n d)=vf c hi n d:=by
 intro n
 induction n with
 |zero=>intro d;rfl
 |succ n ih=>
  intro d
  unfold Qi vf
  by_cases h:hi<d
  ·rw[iP h,iP h];rfl
  rw[iQ h,iQ h]
  by_cases h2:uS c d=true
  ·rw[iP h2,iP h2];rfl
  rw[iQ h2,iQ h2];exact ih _
theorem zLh (c:Cty) (hi:Int):∀(n m:Nat) (d:Int),(hi+1-d).toNat<=n->n<=m->vf c hi n d=vf c hi m d:=by
 intro n
 induction n with
 |zero=>intro m d h _;cases m with
  |zero=>rfl
  |succ m=>rw[vf,vf,iP t11]
 |succ n ih=>
  intro m d h hm
  obtain ⟨m,rfl⟩:∃k,m=k+1:=⟨m-1,by omega⟩
  unfold vf
  split
  ·rfl
  split
  ·rfl
  exact ih m _ t11 t11
theorem zIj (c:Cty) (day:Int) (hc:FitC c):GC Tryz.prog 210 [ctG c,iG day] (.tup [iG (qW c day).1,iG (qW c day).2]):=by
 have hm:mnI (day+400) 100000<=100000:=by unfold mnI;split<;>omega
 refine zA Tryz.func210 ?_
 refine gE [1,2,4,5] ?_
 refine gR [.call (jZ day)] [1,2,4,5,9] ?_
 refine zF (fun c1=> ?_) (fun c1=> ?_)
 ·refine gE [4,5] ?_
  refine gT ?_
  rw[qW,iP (by simpa using c1)];rfl
 have hv:0<=day/\day<=100000:=by
  rw[Bool.not_eq_false']at c1
  unfold QG at c1
  simpa only[bb]using c1
 refine gR [.call (zZj c day (mnI (day+400) 100000))] [4,5,15] ?_
 have hn:qW c day=hd0 (Qi c (mnI (day+400) 100000) (mnI (day+400) 100000+1-day).toNat day):=by
  rw[zLb,qW,iQ (by simpa using c1)]
  exact (zLh _ _ _ 402 _ (Nat.le_refl _) (by have:mnI (day+400) 100000<=day+400:=by {unfold mnI;split<;>omega};omega)).symm
 refine vn 3 3 (fun d:Int=>[iG d]) (Qi c (mnI (day+400) 100000) (mnI (day+400) 100000+1-day).toNat day) (fun _=>[(1,some (.box [iG 0])),(2,some (.box [iG 0]))]) (fun pre=>pre= []) (zZk c day _ hc hv.1 hm) rfl ?_ ?_
 ·rintro pre d rest he rfl
  refine gE [4,5,6] ?_
  refine zFq ?_
  refine gE [4,5,6] ?_
  refine zMu ?_
  rw[<-he]at hn
  refine gT ?_
  rw[hn];rfl
 intro he
 refine gE [4,5] ?_
 refine gT ?_
 rw[hn,he];rfl
theorem ZCl (c:Cty) (hi:Int):∀(n:Nat) (d:Int),(vf c hi n d).2=0->d<=(vf c hi n d).1/\(vf c hi n d).1<=hi:=by
 intro n
 induction n with
 |zero=>intro d h;cases h
 |succ n ih=>
  intro d h
  unfold vf at h⊢
  split at h
  ·cases h
  rename_i h1
  rw[iQ h1]
  split at h
  ·rename_i h2;rw[iP h2];exact ⟨Int.le_refl _,by dsimp only;omega⟩
  rename_i h2;rw[iQ h2];have:=ih _ h;omega
theorem KQ {c:Cty} {day:Int} (h:(qW c day).2=0):0<=day/\day<=(qW c day).1/\(qW c day).1<=100000:=by
 unfold qW at h⊢
 split at h
 ·cases h
 rename_i h1
 rw[iQ h1]
 have hv:0<=day/\day<=100000:=by
  rw[Bool.not_eq_false]at h1
  unfold QG at h1
  simp only[bb]at h1
  exact h1
 have h2:=ZCl c _ _ _ h
 have h3:mnI (day+400) 100000<=100000:=by unfold mnI;split<;>omega
 omega
def ww (c:Cty) (day:Int) (n:Int) (a1_1:Int) (k1:Nat):Int×Int:=if (k1:Int)<n then if ((qW c (i64.wrap (a1_1+1))).2)=0 then ww c day n ((qW c (i64.wrap (a1_1+1))).1) (k1+1)else (0,(qW c (i64.wrap (a1_1+1))).2)else (a1_1,0)
termination_by n.toNat-k1
decreasing_by all_goals first|omega|(simp only[bb]at*;omega)
def uI (c:Cty) (day:Int) (n:Int):Int×Int:=if (bif (bif (!(QG day))then true else decide (n<0))then true else decide (20000<n))=true then (0,3)else ww c day n day 0
theorem zWt (c:Cty) (day:Int) (n:Int) (hc:FitC c):GC Tryz.prog 259 [ctG c,iG day,iG n] (.tup [iG ((uI c day n).1),iG ((uI c day n).2)]):=by
 refine zA Tryz.func259 ?_
 refine gE [1,2,3,6,7] ?_
 refine gR [.call (jZ day)] [1,2,3,6,7,20] ?_
 refine zF ?_ ?_<;>intro c1<;>try simp only[bb,toN]at c1
 ·refine gE [1,2,3,6,7] ?_
  refine gT ?_
  rw[uI,iP (by (try simp only[bb,toN]);exact c1)];rfl
 refine gE [1,3,6,7,21,22] ?_
 refine zI (α:=Int×Nat) (fun x=>x.2<=n.toNat/\ww c day n day 0=ww c day n x.1 x.2) (fun x=>[(1,iG x.1),(22,iG x.2)]) (fun x=>[]) (fun x=>n.toNat-x.2) (day,0) ⟨by (try simp only[]);omega,rfl⟩ ?_ (hp:=t40)
 rintro ⟨a1_1,k1⟩ ⟨hi1,he⟩
 dsimp only at*
 refine gE [1,3,6,7,21,22,23] ?_
 refine zB ?_ ?_<;>intro c2<;>try simp only[toN]at c2
 ·refine zG env true [.call (zIj c (i64.wrap (a1_1+1)) t12)] [1,3,6,7,8,9,21,22] ?_
  refine gE [1,3,6,7,8,9,21,22,32] ?_
  refine zP ?_ ?_<;>intro c3<;>try simp only[toN]at c3
  ·refine gE [1,3,6,7,8,21,22] ?_
   refine gT ?_
   rw[uI,iN (by (try simp only[bb,toN]);exact c1),he,ww,iP c2,iQ c3];rfl
  refine gE [1,3,6,7,21,22] ?_
  refine gE [1,3,6,7,21,22] ?_
  refine zD (((qW c (i64.wrap (a1_1+1))).1,k1+1)) ?_ (hp:=t40) (hm:=by dsimp only;omega)
  refine ⟨by (try simp only[]);omega,he.trans ?_⟩
  rw[ww,iP c2,iP c3]
  try rfl
 refine gE [6,7] ?_
 refine gT ?_
 rw[uI,iN (by (try simp only[bb,toN]);exact c1),he,ww,iQ c2];rfl
def XD (order:Int) (h:Ht) (d:Int):Bool:=bif bif decide (h.ord=order)then decide (h.fr<=d)else false then decide (d<=h.dst)else false
def XC (order:Int) (x:Int×Bool) (h:Ht):Int×Bool:=if XD order h x.1=true then (h.dst+1,true)else x
def skL (order:Int) (l:List Ht) (x:Int×Bool):Int×Bool:=l.foldl (XC order) x
def JG (r:Rlm) (order:Int):Nat->Int->Int
 |0,d=>d
 |n+1,d=>if (skL order r.halts (d,false)).2=true then JG r order n (skL order r.halts (d,false)).1 else (skL order r.halts (d,false)).1
def QH (r:Rlm) (order d:Int):Int:=JG r order (100002-d).toNat d
theorem Vy (order:Int) {l:List Ht} {k:Nat} (h:k<l.length) (x:Int×Bool):skL order (l.take (k+1)) x=XC order (skL order (l.take k) x) (l.getD k dF):=by
 rw[skL,skL,vS h,List.foldl_append];rfl
structure SkI (d:Int) (x:Int×Bool):Prop where
 le:d<=x.1
 lt:x.2=true->d<x.1
 eq:x.2=false->x.1=d
 hi:x.1<=100001
theorem SkI.one {d order:Int} {x:Int×Bool} (h:SkI d x) {t:Ht} (ht:t.dst<=100000):SkI d (XC order x t):=by
 unfold XC
 split
 ·rename_i hc
  have hx:x.1<=t.dst:=by unfold XD at hc;simp only[bb]at hc;exact hc.2
  have:=h.le
  exact ⟨by dsimp only;omega,(fun _=>by dsimp only;omega),(fun e=>by cases e),by dsimp only;omega⟩
 exact h
theorem SkI.all {r:Rlm} (hR:RightR r) {d order:Int} (hd:d<=100001):∀k,k<=r.halts.length->SkI d (skL order (r.halts.take k) (d,false)):=by
 intro k
 induction k with
 |zero=>intro _;exact ⟨Int.le_refl _,(fun e=>by cases e),(fun _=>rfl),hd⟩
 |succ k ih=>
  intro hk
  rw[Vy order t11]
  exact (ih t11).one (hR.halt _ (zJ t11)).2.2
theorem zVr {r:Rlm} (hR:RightR r) {order:Int} :∀(n:Nat) (d:Int),d<=100001->d<=JG r order n d/\JG r order n d<=100001:=by
 intro n
 induction n with
 |zero=>intro d hd;exact ⟨Int.le_refl _,hd⟩
 |succ n ih=>
  intro d hd
  have h:=SkI.all hR (order:=order) hd r.halts.length (Nat.le_refl _)
  rw[List.take_length]at h
  unfold JG
  split
  ·have:=ih _ h.hi;have:=h.le;omega
  exact ⟨h.le,h.hi⟩
theorem zHs {r:Rlm} (hR:RightR r) {order d:Int} (hd:d<=100001):d<=QH r order d/\QH r order d<=100001:=zVr hR _ _ hd
theorem zDt (r:Rlm) (order d:Int) (hd:d<=100001):QH r order d=if (skL order r.halts (d,false)).2=true then JG r order (100001-d).toNat (skL order r.halts (d,false)).1 else (skL order r.halts (d,false)).1:=by
 rw[QH,show (100002-d).toNat=(100001-d).toNat+1 by omega,JG]
theorem zDv {r:Rlm} (hR:RightR r) {order:Int} :∀(n m:Nat) (d:Int),d<=100001->(100002-d).toNat<=n->(100002-d).toNat<=m->JG r order n d=JG r order m d:=by
 intro n
 induction n with
 |zero=>intro m d hd h _;omega
 |succ n ih=>
  intro m d hd h1 h2
  cases m with
  |zero=>omega
  |succ m=>
   have hS:=SkI.all hR (order:=order) hd r.halts.length (Nat.le_refl _)
   rw[List.take_length]at hS
   rw[JG,JG]
   split
   ·rename_i h3
    have:=hS.lt h3
    exact ih m _ hS.hi t11 t11
   rfl
theorem zDu {r:Rlm} (hR:RightR r) {order:Int} :∀(n:Nat) (d:Int),d<=100001->(100002-d).toNat<=n->JG r order n d=QH r order d:=fun n d hd h=>zDv hR n _ d hd h (Nat.le_refl _)
theorem zVq (r:Rlm) (hR:RightR r) (order day:Int) (hd:day<=100001) (h0:0<=day):GC Tryz.prog 209 [rlG r,iG order,iG day] (iG (QH r order day)):=by
 have hr:=hR.fit
 have h1:=hr.halts
 refine zA Tryz.func209 ?_
 refine gE [1,2,3,6] ?_
 refine gE [1,2,3,6,7] ?_
 refine zI (α:=Int×Bool) (fun x=>QH r order day=(if x.2=true then QH r order x.1 else x.1)/\x.1<=100001/\0<=x.1) (fun x=>[(2,iG x.1),(7,bG x.2)]) (fun _=>[]) (fun x=>2*(100002-x.1).toNat+(if x.2=true then 1 else 0)) (day,true) ⟨rfl,hd,h0⟩ ?_
 rintro ⟨d,ch⟩ ⟨he,hd1,hd0⟩
 dsimp only at*
 refine gE [1,2,3,6,7,10] ?_
 refine zF ?_ ?_<;>intro c1<;>try simp only[bb,toN]at c1
 ·refine gE [1,2,3,6,7] ?_
  refine gE [1,2,3,6,7,12,13,14] ?_
  refine zI (α:=Nat) (fun k=>k<=r.halts.length) (fun k=>[(14,iG k),(2,iG (skL order (r.halts.take k) (d,false)).1),(7,bG (skL order (r.halts.take k) (d,false)).2)]) (fun _=>[]) (fun k=>r.halts.length-k) 0 t11 ?_ (hp:=by simp[zC,skL])
  rintro k hk
  refine gE [1,2,3,6,7,12,13,14,15] ?_
  refine zB ?_ ?_<;>intro c2<;>try simp only[toN]at c2
  ·refine gE [1,2,3,6,7,9,12,13,14] ?_
   refine gE [1,2,3,6,7,9,12,13,14,33] ?_
   refine zF ?_ ?_<;>intro c3<;>try simp only[bb,toN]at c3
   ·have hh:=hR.halt _ (zJ (l:=r.halts) (i:=k) t11)
    refine gE [1,2,3,6,7,12,13,14] ?_
    refine gE [1,2,3,6,7,12,13,14] ?_
    refine zD (k+1) ?_ (hp:=by have hq:XD order (r.halts.getD k dF) (skL order (r.halts.take k) (d,false)).1=true:=(by unfold XD;simp only[bb];exact c3);simp only[zC,Vy order (show k<r.halts.length by omega),XC,iP hq];simp)
    omega
   refine gE [1,2,3,6,7,12,13,14] ?_
   refine zD (k+1) ?_ (hp:=by have hq:¬XD order (r.halts.getD k dF) (skL order (r.halts.take k) (d,false)).1=true:=(by unfold XD;rw[Bool.not_eq_true];simp only[bb];exact c3);simp only[zC,Vy order (show k<r.halts.length by omega),XC,iQ hq];simp)
   omega
  refine zD (((skL order r.halts (d,false)).1,(skL order r.halts (d,false)).2)) ?_ (hp:=by simp[zC,List.take_of_length_le (show r.halts.length<=k by omega)]) (hm:=by have hS:=SkI.all hR (order:=order) hd1 r.halts.length (Nat.le_refl _);rw[List.take_length]at hS;dsimp only;rw[c1];cases hz:(skL order r.halts (d,false)).2 with|true=>(have:=hS.lt hz;have:=hS.hi;simp;omega)|false=>(have:=hS.eq hz;simp[this]))
  have hS:=SkI.all hR (order:=order) hd1 r.halts.length (Nat.le_refl _)
  rw[List.take_length]at hS
  have hle:=hS.le
  refine ⟨?_,hS.hi,by dsimp only;omega⟩
  rw[he,iP c1,zDt r order d hd1]
  split
  ·exact zDu hR _ _ hS.hi (by have:=hS.lt t12;omega)
  rfl
 refine gE [6] ?_
 refine gT ?_
 rw[he,iQ (by rw[c1];simp)];rfl
def Ub (r:Rlm) (city:Int):Nat->Int->Int×Int
 |0,_=>(0,3)
 |n+1,d=>if (qW (r.bB.getD city.toNat dF) (QH r (zk r city) d)).2=0 then
   if (qW (r.bB.getD city.toNat dF) (QH r (zk r city) d)).1=QH r (zk r city) d then (QH r (zk r city) d,0)else Ub r city n (qW (r.bB.getD city.toNat dF) (QH r (zk r city) d)).1
   else (0,3)
def ji (r:Rlm) (city day:Int):Int×Int:=Ub r city (100002-day).toNat day
theorem zKi {r:Rlm} (hR:RightR r) {city:Int} :∀(n m:Nat) (d:Int),d<=100001->(100002-d).toNat<=n->(100002-d).toNat<=m->Ub r city n d=Ub r city m d:=by
 intro n
 induction n with
 |zero=>intro m d hd h _;omega
 |succ n ih=>
  intro m d hd h1 h2
  cases m with
  |zero=>omega
  |succ m=>
   rw[Ub,Ub]
   split
   ·rename_i h3
    have hs:=zHs hR (order:=zk r city) hd
    have hn:=KQ h3
    split
    ·rfl
    exact ih m _ t11 t11 t11
   rfl
theorem zKh (r:Rlm) (hR:RightR r) (city day:Int) (hc:0<=city/\city<r.bB.length) (hd:0<=day/\day<=100001):GC Tryz.prog 172 [rlG r,iG city,iG day] (.tup [iG (ji r city day).1,iG (ji r city day).2]):=by
 have hr:=hR.fit
 have h2:=hr.bB
 have hci:=hr.city _ (zJ (l:=r.bB) (i:=city.toNat) t11)
 refine zA Tryz.func172 ?_
 refine gE [1,2,3,6,7] ?_
 refine gR [.call (YP r city hr)] [1,2,3,6,7,8] ?_
 refine zI (α:=Int) (fun d=>ji r city day=Ub r city (100002-d).toNat d/\d<=100001/\0<=d) (fun d=>[(2,iG d)]) (fun _=>[]) (fun d=>(100002-d).toNat) day ⟨rfl,hd.2,hd.1⟩ ?_
 rintro d ⟨he,hd1,hd0⟩
 dsimp only at*
 have hs:=zHs hR (order:=zk r city) hd1
 have hf:(100002-d).toNat=(100001-d).toNat+1:=by omega
 refine gR [.call (zVq r hR (zk r city) d hd1 hd0)] [1,2,3,6,7,8] ?_
 refine gR [.call (zIj (r.bB.getD city.toNat dF) (QH r (zk r city) d) hci)] [1,2,3,6,7,8,9,10] ?_
 refine gE [1,2,3,6,7,8,9,29] ?_
 refine zP ?_ ?_<;>intro c1<;>try simp only[toN]at c1
 ·refine gE [1,2,3,6,7,8,9] ?_
  refine gT ?_
  rw[he,hf,Ub,iQ c1];rfl
 refine gE [1,2,3,6,7,8,9,32] ?_
 refine zB ?_ ?_<;>intro c2<;>try simp only[toN]at c2
 ·refine gE [1,2,3,6,7,8,9] ?_
  refine gT ?_
  rw[he,hf,Ub,iP c1,iP c2];rfl
 refine gE [1,2,3,6,7,8] ?_
 refine zD ((qW (r.bB.getD city.toNat dF) (QH r (zk r city) d)).1) ?_ (hm:=by have hn:=KQ c1;omega)
 have hn:=KQ c1
 refine ⟨?_,by omega,by omega⟩
 rw[he,hf,Ub,iP c1,iQ c2]
 exact zKi hR _ _ _ t11 t11 t11
theorem zEa (r:Rlm) (city day:Int) (hR:RightR r) (hc:0<=city/\city<r.bB.length) (hd:0<=day/\day<=100001):GC Tryz.prog 172 [rlG r,iG city,iG day] (.tup [iG (ji r city day).1,iG (ji r city day).2]):=zKh r hR city day hc hd
theorem zRy {r:Rlm} {c:Int} (h:wI r c=true):0<=c/\c<r.bB.length:=by unfold wI at h;simp only[bb]at h;omega
theorem zYd {d:Int} (h:WF d=true):0<=d/\d<=100000:=by unfold WF at h;simp only[bb]at h;omega
def UC (r:Rlm) (b:Bil) (seen:Int) (grace:Int):Int×Int:=if (bif (bif (bif (!decide ((YO r)=0))then true else (!(wI r b.city)))then true else (!(wI r b.pay)))then true else (!(WF b.day)))=true then (0,1)else if (bif (bif (bif decide (b.ten.kind<0)then true else decide (5<=b.ten.kind))then true else decide (b.ten.unit<0))then true else decide (2<=b.ten.unit))=true then (0,1)else if (bif (bif (bif (!decide (seen=(-1)))then (!(WF seen))else false)then true else decide (grace<0))then true else decide (20000<grace))=true then (0,1)else if (bif (KG b.ten)then decide (seen=(-1))else false)=true then (0,4)else if ((Yt r b seen).2)=0 then if (bif (!(WF ((Yt r b seen).1)))then true else decide (100000<(i64.wrap (((Yt r b seen).1)+grace))))=true then (0,3)else ((ji r b.pay (i64.wrap (((Yt r b seen).1)+grace))).1,(ji r b.pay (i64.wrap (((Yt r b seen).1)+grace))).2)else (0,(Yt r b seen).2)
theorem ZEj (r:Rlm) (b:Bil) (seen:Int) (grace:Int) (hR:RR r):GC Tryz.prog 136 [rlG r,zCr b,iG seen,iG grace] (.tup [iG ((UC r b seen grace).1),iG ((UC r b seen grace).2)]):=by
 have hr:=hR.right.fit
 have h1:=hr.bD
 have h2:=hr.bB
 have h3:=hr.bC
 refine zA Tryz.func136 ?_
 refine gE [2,3,4,5,8,9] ?_
 refine gE [2,3,4,5,8,9,10] ?_
 refine gR [.call (Wc r hr),.call (XZ r b.city hr),.call (XZ r b.pay hr),.call (uh b.day)] [2,3,4,5,8,9,10,15] ?_
 refine zF ?_ ?_<;>intro c1<;>try simp only[bb,toN]at c1
 ·refine gE [2,3,4,5,8,9] ?_
  refine gT ?_
  rw[UC,iP (by (try simp only[bb,toN]);exact c1)];rfl
 refine gE [2,3,4,5,8,9,10,39] ?_
 refine zF ?_ ?_<;>intro c2<;>try simp only[bb,toN]at c2
 ·refine gE [2,3,4,5,8,9] ?_
  refine gT ?_
  rw[UC,iN (by (try simp only[bb,toN]);exact c1),iP (by (try simp only[bb,toN]);exact c2)];rfl
 refine gR [.call (uh seen)] [2,3,4,5,8,9,10,58] ?_
 refine zF ?_ ?_<;>intro c3<;>try simp only[bb,toN]at c3
 ·refine gE [2,3,4,5,8,9] ?_
  refine gT ?_
  rw[UC,iN (by (try simp only[bb,toN]);exact c1),iN (by (try simp only[bb,toN]);exact c2),iP (by (try simp only[bb,toN]);exact c3)];rfl
 refine gR [.call (zKf b.ten)] [2,3,4,5,8,9,74] ?_
 refine zF ?_ ?_<;>intro c4<;>try simp only[bb,toN]at c4
 ·refine gE [2,3,4,5,8,9] ?_
  refine gT ?_
  rw[UC,iN (by (try simp only[bb,toN]);exact c1),iN (by (try simp only[bb,toN]);exact c2),iN (by (try simp only[bb,toN]);exact c3),iP (by (try simp only[bb,toN]);exact c4)];rfl
 refine gR [.call (zOu r b seen hr)] [3,4,5,8,9,11,12] ?_
 refine gE [3,4,5,8,9,11,12,89] ?_
 refine zP ?_ ?_<;>intro c5<;>try simp only[toN]at c5
 ·refine gE [3,4,5,8,9,11] ?_
  refine gT ?_
  rw[UC,iN (by (try simp only[bb,toN]);exact c1),iN (by (try simp only[bb,toN]);exact c2),iN (by (try simp only[bb,toN]);exact c3),iN (by (try simp only[bb,toN]);exact c4),iQ c5];rfl
 refine zG env true [.call (uh ((Yt r b seen).1))] [3,4,5,8,9,11,99] ?_
 refine zF ?_ ?_<;>intro c6<;>try simp only[bb,toN]at c6
 ·refine gE [3,4,5,8,9,11] ?_
  refine gT ?_
  rw[UC,iN (by (try simp only[bb,toN]);exact c1),iN (by (try simp only[bb,toN]);exact c2),iN (by (try simp only[bb,toN]);exact c3),iN (by (try simp only[bb,toN]);exact c4),iP c5,iP (by (try simp only[bb,toN]);exact c6)];rfl
 have hpc:=zRy c1.1.2
 have hbd:=zYd c6.1
 have ew:i64.wrap ((Yt r b seen).1+grace)=(Yt r b seen).1+grace:=IntWalk.i64_in _ ⟨by omega,by omega⟩
 have hdd:0<=i64.wrap ((Yt r b seen).1+grace)/\i64.wrap ((Yt r b seen).1+grace)<=100001:=by rw[ew]at c6⊢;omega
 refine zG env true [.call (zEa r b.pay (i64.wrap (((Yt r b seen).1)+grace)) hR.right t12 t12)] [8,9] ?_
 refine gT ?_
 rw[UC,iN (by (try simp only[bb,toN]);exact c1),iN (by (try simp only[bb,toN]);exact c2),iN (by (try simp only[bb,toN]);exact c3),iN (by (try simp only[bb,toN]);exact c4),iP c5,iN (by (try simp only[bb,toN]);exact c6)];rfl
def XV (l:List Int) (a3_1:Int) (k1:Nat):Int:=if k1<l.length then XV l (mnI a3_1 (l.getD k1 dF)) (k1+1)else a3_1
termination_by l.length-k1
def zXg (l:List Int):Int:=if (l.length:Int)<1 then dF else XV l (l.getD 0 dF) 1
theorem ZCq (l:List Int) (hl:l.length<=9223372036854775807) (h1:1<=l.length):GC Tryz.prog 173 [.d (.row dF inC l)] (iG (zXg l)):=by
 refine zA Tryz.func173 ?_
 refine gE [0,2] ?_
 refine gE [0,2,7] ?_
 refine zB ?_ ?_<;>intro c1<;>try simp only[toN]at c1
 ·exact absurd c1 t11
 refine gE [0,2,3] ?_
 refine gE [0,2,3,4] ?_
 refine zI (α:=Int×Nat) (fun x=>x.2<=l.length/\XV l (l.getD 0 dF) 1=XV l x.1 x.2) (fun x=>[(3,iG x.1),(4,iG x.2)]) (fun x=>[]) (fun x=>l.length-x.2) ((l.getD 0 dF),1) ⟨by (try simp only[]);omega,rfl⟩ ?_ (hp:=t40)
 rintro ⟨a3_1,k1⟩ ⟨hi1,he⟩
 dsimp only at*
 refine gE [0,2,3,4,15] ?_
 refine zB ?_ ?_<;>intro c2<;>try simp only[toN]at c2
 ·refine gE [0,2,3,4] ?_
  refine gE [0,2,3,4] ?_
  refine zD ((mnI a3_1 (l.getD k1 dF),k1+1)) ?_ (hp:=t40) (hm:=by dsimp only;omega)
  refine ⟨by (try simp only[]);omega,he.trans ?_⟩
  rw[XV,iP (show k1<l.length by omega)]
  try rfl
 refine gE [2] ?_
 refine gT ?_
 rw[zXg,iQ c1,he,XV,iQ (show ¬(k1<l.length)by omega)];rfl
theorem zXf (l:List Int) (h:l.length<=9223372036854775807/\1<=l.length):GC Tryz.prog 173 [qq l] (iG (zXg l)):=ZCq l h.1 h.2
def yK (f:Fil) (a3_1:List Int) (k1:Nat) (a3_2:List Int) (k2:Nat):Int:=if k2<f.acts.length then if (bif decide (f.bill.ten.kind=0)then decide (((f.acts.getD k2 dF).kind)=2)else false)=true then (f.acts.getD k2 dF).day else if (bif decide (f.bill.ten.kind=1)then decide (((f.acts.getD k2 dF).kind)=1)else false)=true then yK f a3_1 k1 (a3_2++ [(f.acts.getD k2 dF).day]) (k2+1)else yK f a3_1 k1 a3_2 (k2+1)else if (a3_2.length:Int)=0 then (-1)else (zXg a3_2)
termination_by f.acts.length-k2
def Yj (f:Fil) (a3_1:List Int) (k1:Nat):Int:=if k1<f.bF.length then if (bif decide (f.bill.ten.kind=1)then decide (((f.bF.getD k1 dF).kind)=1)else false)=true then Yj f (a3_1++ [(f.bF.getD k1 dF).day]) (k1+1)else Yj f a3_1 (k1+1)else yK f a3_1 k1 a3_1 0
termination_by f.bF.length-k1
def qT (f:Fil):Int:=Yj f [] 0
theorem zHu (f:Fil) (hF:FitFi f):GC Tryz.prog 137 [fiG f] (iG (qT f)):=by
 obtain ⟨h1,h2,h3,h4⟩:=hF
 refine zA Tryz.func137 ?_
 refine gE [1,2] ?_
 refine gE [1,2,3] ?_
 refine gE [1,2,3,4] ?_
 refine gE [1,2,3,4,14,15,16] ?_
 refine YV 3 3 1 (dF:Int) inC t26 t26 ?_
 refine zI (α:=List Int×Nat) (fun x=>x.2<=f.bF.length/\Yj f [] 0=Yj f x.1 x.2/\x.1.length<=x.2) (fun x=>[(3,.sl 1 1 0 x.1.length),(16,iG x.2)]) (fun x=>[(1,some (.row 3 1 dF inC x.1 0))]) (fun x=>f.bF.length-x.2) ([],0) ⟨by (try simp only[]);omega,rfl,by first|omega|(simp;done)|(simp only[List.length_append,List.length_cons,List.length_nil,List.length_set,List.length_replicate];omega)⟩ ?_ (hp:=t40)
 rintro ⟨a3_1,k1⟩ ⟨hi1,he,hl_a3_1⟩
 dsimp only at*
 refine gE [1,2,3,4,14,15,16,17] ?_
 refine zB ?_ ?_<;>intro c1<;>try simp only[toN]at c1
 ·refine gE [1,2,3,4,6,14,15,16] ?_
  refine gE [1,2,3,4,6,14,15,16,26] ?_
  refine zF ?_ ?_<;>intro c2<;>try simp only[bb,toN]at c2
  ·refine gU [.el dF inC [(f.bF.getD k1 dF).day],.el dF inC (a3_1++ [(f.bF.getD k1 dF).day])] [1,2,3,4,14,15,16] ?_
   refine gE [1,2,3,4,14,15,16] ?_
   refine zD ((a3_1++ [(f.bF.getD k1 dF).day],k1+1)) ?_ (hp:=t40) (hm:=by dsimp only;omega)
   refine ⟨by (try simp only[]);omega,he.trans ?_,by first|omega|(simp;done)|(simp only[List.length_append,List.length_cons,List.length_nil,List.length_set,List.length_replicate];omega)⟩
   rw[Yj,iP t11,iP (by (try simp only[bb,toN]);exact c2)]
   try rfl
  refine gE [1,2,3,4,14,15,16] ?_
  refine zD ((a3_1,k1+1)) ?_ (hp:=t40) (hm:=by dsimp only;omega)
  refine ⟨by (try simp only[]);omega,he.trans ?_,by first|omega|(simp;done)|(simp only[List.length_append,List.length_cons,List.length_nil,List.length_set,List.length_replicate];omega)⟩
  rw[Yj,iP t11,iN (by (try simp only[bb,toN]);exact c2)]
  try rfl
 refine gE [2,3,4,34,35,36] ?_
 refine zI (α:=List Int×Nat) (fun x=>x.2<=f.acts.length/\yK f a3_1 k1 a3_1 0=yK f a3_1 k1 x.1 x.2/\x.1.length<=x.2+a3_1.length) (fun x=>[(3,.sl 1 1 0 x.1.length),(36,iG x.2)]) (fun x=>[(1,some (.row 3 1 dF inC x.1 0))]) (fun x=>f.acts.length-x.2) (a3_1,0) ⟨by (try simp only[]);omega,rfl,by first|omega|(simp;done)|(simp only[List.length_append,List.length_cons,List.length_nil,List.length_set,List.length_replicate];omega)⟩ ?_ (hp:=t40)
 rintro ⟨a3_2,k2⟩ ⟨hi2,he2,hl_a3_2⟩
 dsimp only at*
 refine gE [2,3,4,34,35,36,37] ?_
 refine zB ?_ ?_<;>intro c3<;>try simp only[toN]at c3
 ·refine gE [2,3,4,8,34,35,36] ?_
  refine gE [2,3,4,8,34,35,36,46] ?_
  refine zF ?_ ?_<;>intro c4<;>try simp only[bb,toN]at c4
  ·refine gE [2,3,4,8,34,35,36] ?_
   refine gT ?_
   rw[qT,he,Yj,iQ t11,he2,yK,iP t11,iP (by (try simp only[bb,toN]);exact c4)];rfl
  refine gE [2,3,4,8,34,35,36,55] ?_
  refine zF ?_ ?_<;>intro c5<;>try simp only[bb,toN]at c5
  ·refine gU [.el dF inC [(f.acts.getD k2 dF).day],.el dF inC (a3_2++ [(f.acts.getD k2 dF).day])] [2,3,4,34,35,36] ?_
   refine gE [2,3,4,34,35,36] ?_
   refine zD ((a3_2++ [(f.acts.getD k2 dF).day],k2+1)) ?_ (hp:=t40) (hm:=by dsimp only;omega)
   refine ⟨by (try simp only[]);omega,he2.trans ?_,by first|omega|(simp;done)|(simp only[List.length_append,List.length_cons,List.length_nil,List.length_set,List.length_replicate];omega)⟩
   rw[yK,iP t11,iN (by (try simp only[bb,toN]);exact c4),iP (by (try simp only[bb,toN]);exact c5)]
   try rfl
  refine gE [2,3,4,34,35,36] ?_
  refine zD ((a3_2,k2+1)) ?_ (hp:=t40) (hm:=by dsimp only;omega)
  refine ⟨by (try simp only[]);omega,he2.trans ?_,by first|omega|(simp;done)|(simp only[List.length_append,List.length_cons,List.length_nil,List.length_set,List.length_replicate];omega)⟩
  rw[yK,iP t11,iN (by (try simp only[bb,toN]);exact c4),iN (by (try simp only[bb,toN]);exact c5)]
  try rfl
 refine gE [2,3,64] ?_
 refine zB ?_ ?_<;>intro c6<;>try simp only[toN]at c6
 ·refine gE [2,3] ?_
  refine gT ?_
  rw[qT,he,Yj,iQ t11,he2,yK,iQ t11,iP c6];rfl
 refine gR [.call (zXf a3_2 (by first|omega|assumption))] [2] ?_
 refine gT ?_
 rw[qT,he,Yj,iQ t11,he2,yK,iQ t11,iQ c6];rfl
def ZT (r:Rlm) (bK:Int) (f:Fil) (day:Int):Int:=if (((atV f day).bF).length:Int)=0 then (-1)else if ((UC r ((atV f day).bill) (qT (atV f day)) (mxI (zAe (Qs r bK 6 (atV f day) day)) 0)).2)=0 then (UC r ((atV f day).bill) (qT (atV f day)) (mxI (zAe (Qs r bK 6 (atV f day) day)) 0)).1 else (-1)
theorem vi (r:Rlm) (bK:Int) (f:Fil) (day:Int) (hR:RR r) (hF:FitFi f):GC Tryz.prog 93 [rlG r,iG bK,fiG f,iG day] (iG (ZT r bK f day)):=by
 have hr:=hR.right.fit
 have h1:=hr.bD
 have h2:=hr.bB
 have h3:=hr.bC
 refine zA Tryz.func93 ?_
 refine gE [1,3,4,6,8] ?_
 refine gR [.call (JB f day (by first|assumption|exact FitFi.at_ t12 _))] [1,3,4,6,8] ?_
 refine gE [1,3,4,6,8,18] ?_
 refine zB ?_ ?_<;>intro c1<;>try simp only[toN]at c1
 ·refine gE [1,3,4,6,8] ?_
  refine gT ?_
  rw[ZT,iP c1];rfl
 refine gR [.call (HI r bK 6 (atV f day) day hR (by first|assumption|exact FitFi.at_ t12 _|exact FitFi.nof t12|exact FitFi.nof (FitFi.at_ t12 _))),.call (zQo (Qs r bK 6 (atV f day) day))] [4,6,8,9] ?_
 refine gR [.call (zHu (atV f day) (by first|assumption|exact FitFi.at_ t12 _|exact FitFi.nof t12|exact FitFi.nof (FitFi.at_ t12 _))),.call (ZEj r ((atV f day).bill) (qT (atV f day)) (mxI (zAe (Qs r bK 6 (atV f day) day)) 0) hR)] [8,10,11] ?_
 refine gE [8,10,37] ?_
 refine zP ?_ ?_<;>intro c2<;>try simp only[toN]at c2
 ·refine gE [8,10] ?_
  refine gT ?_
  rw[ZT,iQ c1,iQ c2];rfl
 refine gE [8] ?_
 refine gT ?_
 rw[ZT,iQ c1,iP c2];rfl
structure Dvw where
 r:Rlm
 bK:Int
 f:Fil
 sign:Int
 day:Int
 due:Int
instance :Inhabited Dvw:=⟨⟨dF,0,dF,0,0,0⟩⟩
abbrev dvG (x:Dvw):G:= .agg [.d (.row dF zf x.r.bA),.d (.row dF ctC x.r.bB),.d (.row dF inC x.r.groups),.d (.row dF fmC x.r.bC),.d (.row dF odC x.r.bD),.d (.row dF usC x.r.bE),.d (.row dF rtC x.r.rates),.d (.row dF htC x.r.halts),iG x.bK,iG x.f.bill.bP,iG x.f.bill.bO,iG x.f.bill.bQ,iG x.f.bill.sum,iG x.f.bill.cur,iG x.f.bill.ten.kind,iG x.f.bill.ten.n,iG x.f.bill.ten.unit,iG x.f.bill.day,iG x.f.bill.city,iG x.f.bill.pay,iG x.f.bill.need,iG x.f.bill.rate,iG x.f.bill.flags,iG x.f.bill.parts,.d (.row dF sgC x.f.bF),.d (.row dF alC x.f.bH),.d (.row dF acC x.f.acts),.d (.row dF fcC x.f.facts),iG x.sign,iG x.day,iG x.due]
structure Dtm where
 known:Bool
 last:Int
deriving DecidableEq
instance :Inhabited Dtm:=⟨⟨false,0⟩⟩
abbrev dtG (x:Dtm):G:= .agg [bG x.known,iG x.last]
def zn (r:Rlm) (bK:Int) (f:Fil) (sign:Int) (day:Int):Dvw:=⟨r,bK,(atV f day),sign,day,(ZT r bK f day)⟩
theorem zIn (r:Rlm) (bK:Int) (f:Fil) (sign:Int) (day:Int) (hR:RR r) (hF:FitFi f):GC Tryz.prog 166 [rlG r,iG bK,fiG f,iG sign,iG day] (dvG (zn r bK f sign day)):=by
 have hr:=hR.right.fit
 have h1:=hr.bD
 have h2:=hr.bB
 have h3:=hr.bC
 refine zA Tryz.func166 ?_
 refine gE [1,3,4,5,7,10] ?_
 refine gR [.call (JB f day (by first|assumption|exact FitFi.at_ t12 _)),.call (vi r bK f day hR (by first|assumption|exact FitFi.at_ t12 _|exact FitFi.nof t12|exact FitFi.nof (FitFi.at_ t12 _)))] [10] ?_
 refine gT ?_
 rw[zn];rfl
def zO (v:Dvw) (q:Int):Sad:=(qQ v.r v.bK q (⟨v.f,v.sign,v.sign,(-1),v.due,v.day⟩:Cas))
theorem QY (v:Dvw) (q:Int) (hR:RR v.r) (hF:FitFi v.f):GC Tryz.prog 192 [dvG v,iG q] (sdG (zO v q)):=by
 have hr:=hR.right.fit
 refine zA Tryz.func192 ?_
 refine gE [1,2,4] ?_
 refine gR [.call (WP v.r v.bK q (⟨v.f,v.sign,v.sign,(-1),v.due,v.day⟩:Cas) hR (by first|assumption|exact FitFi.at_ t12 _|exact FitFi.nof t12|exact FitFi.nof (FitFi.at_ t12 _)))] [4] ?_
 refine gT ?_
 rw[zO];rfl
def Uq (l:List Int):Int:=if (qv l 0)=true then 0 else if (qv l 2)=true then 2 else 1
theorem wO (l:List Int) (hl:l.length<=9223372036854775807):GC Tryz.prog 195 [.d (.row dF inC l)] (iG (Uq l)):=by
 refine zA Tryz.func195 ?_
 refine gE [0,2] ?_
 refine gR [.call ((fun l x h=>zh l h x) l 0 t17)] [0,2,3] ?_
 refine zF ?_ ?_<;>intro c1<;>try simp only[bb,toN]at c1
 ·refine gE [2] ?_
  refine gT ?_
  rw[Uq,iP (by (try simp only[bb,toN]);exact c1)];rfl
 refine gR [.call ((fun l x h=>zh l h x) l 2 t17)] [2,6] ?_
 refine zF ?_ ?_<;>intro c2<;>try simp only[bb,toN]at c2
 ·refine gE [2] ?_
  refine gT ?_
  rw[Uq,iN (by (try simp only[bb,toN]);exact c1),iP (by (try simp only[bb,toN]);exact c2)];rfl
 refine gE [2] ?_
 refine gT ?_
 rw[Uq,iN (by (try simp only[bb,toN]);exact c1),iN (by (try simp only[bb,toN]);exact c2)];rfl
def YE (said:Sad) (answer:Int):Int:=if (bif decide ((wS said)=0)then true else decide (answer=1))=true then 1 else if (wS said)=2 then 2 else answer
theorem Uy (said:Sad) (answer:Int):GC Tryz.prog 191 [sdG said,iG answer] (iG (YE said answer)):=by
 refine zA Tryz.func191 ?_
 refine gE [1,2,4] ?_
 refine gR [.call (vR said)] [1,4,5] ?_
 refine gE [1,4,5,13] ?_
 refine zF ?_ ?_<;>intro c1<;>try simp only[bb,toN]at c1
 ·refine gE [1,4,5] ?_
  refine gT ?_
  rw[YE,iP (by (try simp only[bb,toN]);exact c1)];rfl
 refine gE [1,4,15] ?_
 refine zB ?_ ?_<;>intro c2<;>try simp only[toN]at c2
 ·refine gE [1,4] ?_
  refine gT ?_
  rw[YE,iN (by (try simp only[bb,toN]);exact c1),iP c2];rfl
 refine gE [4] ?_
 refine gT ?_
 rw[YE,iN (by (try simp only[bb,toN]);exact c1),iQ c2];rfl
def ZO (v:Dvw) (said:Sad) (fr:Int):Dtm:=if said.err=0 then if (!said.cell.known)=true then ⟨false,0⟩else if ((uI (v.r.bB.getD v.f.bill.pay.toNat dF) fr said.cell.n).2)=0 then ⟨true,(uI (v.r.bB.getD v.f.bill.pay.toNat dF) fr said.cell.n).1⟩else ⟨true,9223372036854775807⟩else ⟨true,9223372036854775807⟩
theorem jY (v:Dvw) (said:Sad) (fr:Int) (hR:RR v.r) (hF:FitFi v.f) (hp:0<=v.f.bill.pay/\v.f.bill.pay<v.r.bB.length):GC Tryz.prog 226 [dvG v,sdG said,iG fr] (dtG (ZO v said fr)):=by
 have hr:=hR.right.fit
 have h2:=hr.bB
 have hci:=hr.city _ (zJ (l:=v.r.bB) (i:=v.f.bill.pay.toNat) t11)
 refine zA Tryz.func226 ?_
 refine gE [2,3,4,6] ?_
 refine gE [2,3,4,6,11] ?_
 refine zP ?_ ?_<;>intro c1<;>try simp only[toN]at c1
 ·refine gE [2,3,4,6] ?_
  refine gT ?_
  rw[ZO,iQ c1];rfl
 refine gE [2,3,4,6,16] ?_
 refine zF ?_ ?_<;>intro c2<;>try simp only[bb,toN]at c2
 ·refine gE [2,3,4,6] ?_
  refine gT ?_
  rw[ZO,iP c1,iP (by (try simp only[bb,toN]);exact c2)];rfl
 refine gR [.call (zWt (v.r.bB.getD v.f.bill.pay.toNat dF) fr said.cell.n t12)] [6,7,8] ?_
 refine gE [6,7,36] ?_
 refine zP ?_ ?_<;>intro c3<;>try simp only[toN]at c3
 ·refine gE [6,7] ?_
  refine gE [6] ?_
  refine gT ?_
  rw[ZO,iP c1,iN (by (try simp only[bb,toN]);exact c2),iQ c3];rfl
 refine gE [6] ?_
 refine gT ?_
 rw[ZO,iP c1,iN (by (try simp only[bb,toN]);exact c2),iP c3];rfl
def Yx (v:Dvw):Dtm:=if ((Qs v.r v.bK 7 v.f v.day).err)=0 then if (!((Qs v.r v.bK 7 v.f v.day).cell).known)=true then ⟨false,0⟩else if 100000<(IntKind.i64.wrap (v.f.bill.day+(((Qs v.r v.bK 7 v.f v.day).cell).n)))then ⟨true,9223372036854775807⟩else ⟨true,IntKind.i64.wrap (v.f.bill.day+(((Qs v.r v.bK 7 v.f v.day).cell).n))⟩else ⟨true,9223372036854775807⟩
theorem zCc (v:Dvw) (hR:RR v.r) (hF:FitFi v.f):GC Tryz.prog 225 [dvG v] (dtG (Yx v)):=by
 have hr:=hR.right.fit
 refine zA Tryz.func225 ?_
 refine gE [1,2] ?_
 refine gR [.call (HI v.r v.bK 7 v.f v.day hR (by first|assumption|exact FitFi.at_ t12 _|exact FitFi.nof t12|exact FitFi.nof (FitFi.at_ t12 _)))] [1,2,3] ?_
 refine gE [1,2,3,13] ?_
 refine zP ?_ ?_<;>intro c1<;>try simp only[toN]at c1
 ·refine gE [1,2,3] ?_
  refine gT ?_
  rw[Yx,iQ c1];rfl
 refine gE [1,2,3,18] ?_
 refine zF ?_ ?_<;>intro c2<;>try simp only[bb,toN]at c2
 ·refine gE [1,2,3] ?_
  refine gT ?_
  rw[Yx,iP c1,iP (by (try simp only[bb,toN]);exact c2)];rfl
 refine zG env true [] [1,2,3,24] ?_
 refine zB ?_ ?_<;>intro c3<;>try simp only[toN]at c3
 ·refine gE [1,2,3] ?_
  refine gT ?_
  rw[Yx,iP c1,iN (by (try simp only[bb,toN]);exact c2),iP c3];rfl
 refine zG env true [] [2] ?_
 refine gT ?_
 rw[Yx,iP c1,iN (by (try simp only[bb,toN]);exact c2),iQ c3];rfl
def ZI (v:Dvw) (on:Int) (t:Dtm):Int:=if (!t.known)=true then 2 else if (bif (!decide (on=(-1)))then decide (on<=t.last)else false)=true then 1 else if (bif (!decide (on=(-1)))then true else decide (t.last<v.day))=true then 0 else 2
theorem wC (v:Dvw) (on:Int) (t:Dtm):GC Tryz.prog 223 [dvG v,iG on,dtG t] (iG (ZI v on t)):=by
 refine zA Tryz.func223 ?_
 refine gE [1,3,5,6] ?_
 refine gE [1,3,5,6,7] ?_
 refine zF ?_ ?_<;>intro c1<;>try simp only[bb,toN]at c1
 ·refine gE [6] ?_
  refine gT ?_
  rw[ZI,iP (by (try simp only[bb,toN]);exact c1)];rfl
 refine gE [1,3,5,6,11] ?_
 refine zF ?_ ?_<;>intro c2<;>try simp only[bb,toN]at c2
 ·refine gE [6] ?_
  refine gT ?_
  rw[ZI,iN (by (try simp only[bb,toN]);exact c1),iP (by (try simp only[bb,toN]);exact c2)];rfl
 refine gE [6,20] ?_
 refine zF ?_ ?_<;>intro c3<;>try simp only[bb,toN]at c3
 ·refine gE [6] ?_
  refine gT ?_
  rw[ZI,iN (by (try simp only[bb,toN]);exact c1),iN (by (try simp only[bb,toN]);exact c2),iP (by (try simp only[bb,toN]);exact c3)];rfl
 refine gE [6] ?_
 refine gT ?_
 rw[ZI,iN (by (try simp only[bb,toN]);exact c1),iN (by (try simp only[bb,toN]);exact c2),iN (by (try simp only[bb,toN]);exact c3)];rfl
def YJ (v:Dvw) (kind:Int) (fr:Int) (k1:Nat):Int:=if k1<v.f.acts.length then if (bif (bif decide (((v.f.acts.getD k1 dF).kind)=kind)then decide (((v.f.acts.getD k1 dF).to_)=v.f.bill.bO)else false)then decide (fr<=((v.f.acts.getD k1 dF).day))else false)=true then (v.f.acts.getD k1 dF).day else YJ v kind fr (k1+1)else (-1)
termination_by v.f.acts.length-k1
def yf (v:Dvw) (kind:Int) (fr:Int):Int:=YJ v kind fr 0
theorem wN (v:Dvw) (kind:Int) (fr:Int) (hF:FitFi v.f):GC Tryz.prog 224 [dvG v,iG kind,iG fr] (iG (yf v kind fr)):=by
 have g3:=hF.acts
 refine zA Tryz.func224 ?_
 refine gE [1,2,3,6] ?_
 refine gE [1,2,3,6,11,12,13] ?_
 refine zI (α:=Nat) (fun x=>x<=v.f.acts.length/\YJ v kind fr 0=YJ v kind fr x) (fun x=>[(13,iG x)]) (fun x=>[]) (fun x=>v.f.acts.length-x) 0 ⟨by (try simp only[]);omega,rfl⟩ ?_ (hp:=t40)
 rintro k1 ⟨hi1,he⟩
 refine gE [1,2,3,6,11,12,13,14] ?_
 refine zB ?_ ?_<;>intro c1<;>try simp only[toN]at c1
 ·refine gE [1,2,3,6,8,11,12,13] ?_
  refine gE [1,2,3,6,8,11,12,13,35] ?_
  refine zF ?_ ?_<;>intro c2<;>try simp only[bb,toN]at c2
  ·refine gE [1,2,3,6,11,12,13] ?_
   refine gT ?_
   rw[yf,he,YJ,iP t11,iP (by (try simp only[bb,toN]);exact c2)];rfl
  refine gE [1,2,3,6,11,12,13] ?_
  refine zD (k1+1) ?_ (hp:=t40)
  refine ⟨by (try simp only[]);omega,he.trans ?_⟩
  rw[YJ,iP t11,iN (by (try simp only[bb,toN]);exact c2)]
  try rfl
 refine gE [6] ?_
 refine gT ?_
 rw[yf,he,YJ,iQ t11];rfl
def yx (v:Dvw):Int:=if v.due<(yf v 1 0)then (-1)else (yf v 1 0)
theorem wv (v:Dvw) (hF:FitFi v.f):GC Tryz.prog 206 [dvG v] (iG (yx v)):=by
 refine zA Tryz.func206 ?_
 refine gE [1,2] ?_
 refine gR [.call (wN v 1 0 hF)] [1,2,3] ?_
 refine gE [2,3,9] ?_
 refine zB ?_ ?_<;>intro c1<;>try simp only[toN]at c1
 ·refine gE [2,3] ?_
  refine gT ?_
  rw[yx,iP c1];rfl
 refine gE [2] ?_
 refine gT ?_
 rw[yx,iQ c1];rfl
def ZF (v:Dvw):Int:=if (yx v)=(-1)then v.due else (yx v)
theorem UD (v:Dvw) (hF:FitFi v.f):GC Tryz.prog 167 [dvG v] (iG (ZF v)):=by
 refine zA Tryz.func167 ?_
 refine gE [1,2] ?_
 refine gR [.call (wv v hF)] [1,2,3] ?_
 refine gE [1,2,3,7] ?_
 refine zP ?_ ?_<;>intro c1<;>try simp only[toN]at c1
 ·refine gE [1,2] ?_
  refine gT ?_
  rw[ZF,iQ c1];rfl
 refine gE [2] ?_
 refine gT ?_
 rw[ZF,iP c1];rfl
def Yk (v:Dvw):Int:=if v.f.bill.ten.kind=0 then (ZI v (yf v 2 0) (Yx v))else if v.f.bill.ten.kind=1 then if (yx v)=(-1)then if v.due=(-1)then (Uq [(ZI v (qT v.f) (Yx v)),2])else (Uq [(ZI v (qT v.f) (Yx v)),(ZI v (yf v 2 v.due) (ZO v (zO v 10) v.due))])else (ZI v (qT v.f) (Yx v))else if (yx v)=(-1)then if v.due=(-1)then (Uq [1,2])else (Uq [1,(ZI v (yf v 2 v.due) (ZO v (zO v 10) v.due))])else 1
theorem zWs (v:Dvw) (hR:RR v.r) (hF:FitFi v.f) (hp:0<=v.f.bill.pay/\v.f.bill.pay<v.r.bB.length):GC Tryz.prog 190 [dvG v] (iG (Yk v)):=by
 have hr:=hR.right.fit
 refine zA Tryz.func190 ?_
 refine gE [1,2] ?_
 refine gE [1,2,3] ?_
 refine gE [1,2,3,11] ?_
 refine zB ?_ ?_<;>intro c1<;>try simp only[toN]at c1
 ·refine gR [.call (wN v 2 0 hF),.call (zCc v hR hF),.call (wC v (yf v 2 0) (Yx v))] [1,2,3] ?_
  refine gT ?_
  rw[Yk,iP c1];rfl
 refine gE [1,2,3,4] ?_
 refine gE [1,2,4,19] ?_
 refine zB ?_ ?_<;>intro c2<;>try simp only[toN]at c2
 ·refine gR [.call (zHu v.f (by first|assumption|exact FitFi.at_ t12 _|exact FitFi.nof t12|exact FitFi.nof (FitFi.at_ t12 _))),.call (zCc v hR hF),.call (wC v (qT v.f) (Yx v))] [1,2,4] ?_
  refine gR [.call (wv v hF)] [1,2,4,27] ?_
  refine zP ?_ ?_<;>intro c3<;>try simp only[toN]at c3
  ·refine gE [1,2,4] ?_
   refine gT ?_
   rw[Yk,iQ c1,iP c2,iQ c3];rfl
  refine gE [1,2,4,32] ?_
  refine zB ?_ ?_<;>intro c4<;>try simp only[toN]at c4
  ·refine gR [.el dF inC [(ZI v (qT v.f) (Yx v)),2],.call (wO [(ZI v (qT v.f) (Yx v)),2] t17)] [1,2,4] ?_
   refine gT ?_
   rw[Yk,iQ c1,iP c2,iP c3,iP c4];rfl
  refine gR [.call (wN v 2 v.due hF),.call (QY v 10 hR hF),.call (jY v (zO v 10) v.due hR hF hp),.call (wC v (yf v 2 v.due) (ZO v (zO v 10) v.due)),.el dF inC [(ZI v (qT v.f) (Yx v)),(ZI v (yf v 2 v.due) (ZO v (zO v 10) v.due))],.call (wO [(ZI v (qT v.f) (Yx v)),(ZI v (yf v 2 v.due) (ZO v (zO v 10) v.due))] t17)] [2] ?_
  refine gT ?_
  rw[Yk,iQ c1,iP c2,iP c3,iQ c4];rfl
 refine gR [.call (wv v hF)] [1,2,4,27] ?_
 refine zP ?_ ?_<;>intro c5<;>try simp only[toN]at c5
 ·refine gE [1,2,4] ?_
  refine gT ?_
  rw[Yk,iQ c1,iQ c2,iQ c5];rfl
 refine gE [1,2,4,32] ?_
 refine zB ?_ ?_<;>intro c6<;>try simp only[toN]at c6
 ·refine gR [.el dF inC [1,2],.call (wO [1,2] t17)] [1,2,4] ?_
  refine gT ?_
  rw[Yk,iQ c1,iQ c2,iP c5,iP c6];rfl
 refine gR [.call (wN v 2 v.due hF),.call (QY v 10 hR hF),.call (jY v (zO v 10) v.due hR hF hp),.call (wC v (yf v 2 v.due) (ZO v (zO v 10) v.due)),.el dF inC [1,(ZI v (yf v 2 v.due) (ZO v (zO v 10) v.due))],.call (wO [1,(ZI v (yf v 2 v.due) (ZO v (zO v 10) v.due))] t17)] [2] ?_
 refine gT ?_
 rw[Yk,iQ c1,iQ c2,iP c5,iQ c6];rfl
def yd (v:Dvw) (j5_1:Int) (a5_1:Int) (k1:Nat):Int:=if k1<v.f.acts.length then if (bif (bif (bif (!decide (((v.f.acts.getD k1 dF).kind)=4))then true else (!decide (((v.f.acts.getD k1 dF).to_)=v.f.bill.bO)))then true else decide (((v.f.acts.getD k1 dF).day)<(ZF v)))then true else decide (((ZO v (zO v 10) (ZF v)).last)<((v.f.acts.getD k1 dF).day)))=true then yd v j5_1 a5_1 (k1+1)else if ((v.f.acts.getD k1 dF).form)=1 then if (wS (zO v 9))=1 then 1 else if (wS (zO v 9))=2 then yd v j5_1 2 (k1+1)else yd v j5_1 a5_1 (k1+1)else 1 else a5_1
termination_by v.f.acts.length-k1
def QL (v:Dvw) (j5_1:Int):Int:=yd v j5_1 j5_1 0
def jN (v:Dvw):Int:=if (!(ZO v (zO v 10) (ZF v)).known)=true then 2 else if v.day<=((ZO v (zO v 10) (ZF v)).last)then QL v 2 else QL v 0
theorem zWq (v:Dvw) (hR:RR v.r) (hF:FitFi v.f) (hp:0<=v.f.bill.pay/\v.f.bill.pay<v.r.bB.length):GC Tryz.prog 193 [dvG v] (iG (jN v)):=by
 have hr:=hR.right.fit
 have g3:=hF.acts
 refine zA Tryz.func193 ?_
 refine gE [1,2] ?_
 refine gR [.call (UD v (by first|exact hF|exact FitFi.at_ hF _))] [1,2,3] ?_
 refine gR [.call (QY v 10 hR hF),.call (jY v (zO v 10) (ZF v) hR hF hp)] [1,2,3,4] ?_
 refine gE [1,2,3,4,18] ?_
 refine zF ?_ ?_<;>intro c1<;>try simp only[bb,toN]at c1
 ·refine gE [1,2,3,4] ?_
  refine gT ?_
  rw[jN,iP (by (try simp only[bb,toN]);exact c1)];rfl
 refine gE [1,2,3,4,5] ?_
 refine gE [1,2,3,4,5,23] ?_
 refine yO (α:=Int) (fun x=>jN v=QL v x) (fun x=>⟨[(1,.ptr 0 0 0 0),(2,iG 0),(3,iG (ZF v)),(4,.ptr 1 0 0 0),(5,iG x)],[(0,some (.box [.d (.row dF zf v.r.bA),.d (.row dF ctC v.r.bB),.d (.row dF inC v.r.groups),.d (.row dF fmC v.r.bC),.d (.row dF odC v.r.bD),.d (.row dF usC v.r.bE),.d (.row dF rtC v.r.rates),.d (.row dF htC v.r.halts),iG v.bK,iG v.f.bill.bP,iG v.f.bill.bO,iG v.f.bill.bQ,iG v.f.bill.sum,iG v.f.bill.cur,iG v.f.bill.ten.kind,iG v.f.bill.ten.n,iG v.f.bill.ten.unit,iG v.f.bill.day,iG v.f.bill.city,iG v.f.bill.pay,iG v.f.bill.need,iG v.f.bill.rate,iG v.f.bill.flags,iG v.f.bill.parts,.d (.row dF sgC v.f.bF),.d (.row dF alC v.f.bH),.d (.row dF acC v.f.acts),.d (.row dF fcC v.f.facts),iG v.sign,iG v.day,iG v.due])),(1,some (.box [bG ((ZO v (zO v 10) (ZF v)).known),iG ((ZO v (zO v 10) (ZF v)).last)]))],2⟩) ?_ ?_
 ·rintro j5_1 hjc1
  refine gE [1,2,3,4,5,26,27,28] ?_
  refine zI (α:=Int×Nat) (fun x=>x.2<=v.f.acts.length/\yd v j5_1 j5_1 0=yd v j5_1 x.1 x.2) (fun x=>[(5,iG x.1),(28,iG x.2)]) (fun x=>[]) (fun x=>v.f.acts.length-x.2) (j5_1,0) ⟨by (try simp only[]);omega,rfl⟩ ?_ (hp:=t40)
  rintro ⟨a5_1,k1⟩ ⟨hi1,he⟩
  dsimp only at*
  refine gE [1,2,3,4,5,26,27,28,29] ?_
  refine zB ?_ ?_<;>intro c2<;>try simp only[toN]at c2
  ·refine gE [1,2,3,4,5,7,26,27,28] ?_
   refine gE [1,2,3,4,5,7,26,27,28,56] ?_
   refine zF ?_ ?_<;>intro c3<;>try simp only[bb,toN]at c3
   ·refine gE [1,2,3,4,5,26,27,28] ?_
    refine zD ((a5_1,k1+1)) ?_ (hp:=t40) (hm:=by dsimp only;omega)
    refine ⟨by (try simp only[]);omega,he.trans ?_⟩
    rw[yd,iP t11,iP (by (try simp only[bb,toN]);exact c3)]
    try rfl
   refine gE [1,2,3,4,5,7,8,26,27,28] ?_
   refine gE [1,2,3,4,5,8,26,27,28,59] ?_
   refine zB ?_ ?_<;>intro c4<;>try simp only[toN]at c4
   ·refine gR [.call (QY v 9 hR hF),.call (vR (zO v 9))] [1,2,3,4,5,8,26,27,28] ?_
    refine gE [1,2,3,4,5,8,26,27,28,63] ?_
    refine zB ?_ ?_<;>intro c5<;>try simp only[toN]at c5
    ·refine gE [1,2,3,4,5,26,27,28] ?_
     refine gT ?_
     rw[hjc1,QL,he,yd,iP t11,iN (by (try simp only[bb,toN]);exact c3),iP c4,iP c5];rfl
    refine gE [1,2,3,4,5,26,27,28,66] ?_
    refine zB ?_ ?_<;>intro c6<;>try simp only[toN]at c6
    ·refine gE [1,2,3,4,5,26,27,28] ?_
     refine gE [1,2,3,4,5,26,27,28] ?_
     refine zD ((2,k1+1)) ?_ (hp:=t40) (hm:=by dsimp only;omega)
     refine ⟨by (try simp only[]);omega,he.trans ?_⟩
     rw[yd,iP t11,iN (by (try simp only[bb,toN]);exact c3),iP c4,iQ c5,iP c6]
     try rfl
    refine gE [1,2,3,4,5,26,27,28] ?_
    refine zD ((a5_1,k1+1)) ?_ (hp:=t40) (hm:=by dsimp only;omega)
    refine ⟨by (try simp only[]);omega,he.trans ?_⟩
    rw[yd,iP t11,iN (by (try simp only[bb,toN]);exact c3),iP c4,iQ c5,iQ c6]
    try rfl
   refine gE [1,2,3,4,5,8,26,27,28,63] ?_
   refine zB ?_ ?_<;>intro c7<;>try simp only[toN]at c7
   ·refine gE [1,2,3,4,5,26,27,28] ?_
    refine gT ?_
    rw[hjc1,QL,he,yd,iP t11,iN (by (try simp only[bb,toN]);exact c3),iQ c4];rfl
   first|omega|(exact absurd trivial c7)|(simp at c7)
  refine gE [2] ?_
  refine gT ?_
  rw[hjc1,QL,he,yd,iQ t11];rfl
 refine zB ?_ ?_<;>intro c8<;>try simp only[toN]at c8
 ·refine gE [1,2,3,4,5] ?_
  refine zV (2) ?_ (hp:=t40)
  exact by rw[jN,iN (by (try simp only[bb,toN]);exact c1),iP c8]
 refine zV (0) ?_ (hp:=t40)
 exact by rw[jN,iN (by (try simp only[bb,toN]);exact c1),iQ c8]
structure Bvw where
 r:Rlm
 bK:Int
 day:Int
 f:Fil
 form:Int
 due:Int
instance :Inhabited Bvw:=⟨⟨dF,0,0,dF,0,0⟩⟩
abbrev bvG (x:Bvw):G:= .agg [.d (.row dF zf x.r.bA),.d (.row dF ctC x.r.bB),.d (.row dF inC x.r.groups),.d (.row dF fmC x.r.bC),.d (.row dF odC x.r.bD),.d (.row dF usC x.r.bE),.d (.row dF rtC x.r.rates),.d (.row dF htC x.r.halts),iG x.bK,iG x.day,iG x.f.bill.bP,iG x.f.bill.bO,iG x.f.bill.bQ,iG x.f.bill.sum,iG x.f.bill.cur,iG x.f.bill.ten.kind,iG x.f.bill.ten.n,iG x.f.bill.ten.unit,iG x.f.bill.day,iG x.f.bill.city,iG x.f.bill.pay,iG x.f.bill.need,iG x.f.bill.rate,iG x.f.bill.flags,iG x.f.bill.parts,.d (.row dF sgC x.f.bF),.d (.row dF alC x.f.bH),.d (.row dF acC x.f.acts),.d (.row dF fcC x.f.facts),iG x.form,iG x.due]
def YG (v:Dvw) (a6_1:Int) (a7_1:List Act) (k1:Nat) (a10_2:Bool) (k2:Nat):Sum Int (Int×(List Act)):=if k2<a7_1.length then YG v a6_1 a7_1 k1 (bif a10_2 then true else (bif decide (((a7_1.getD k2 dF).to_)=((v.f.acts.getD k1 dF).who))then decide (((v.f.acts.getD k1 dF).day)<=((ZO v (zO v 12) ((a7_1.getD k2 dF).day)).last))else false)) (k2+1)else if (!a10_2)=true then .inr (a6_1,a7_1)else if ((v.f.acts.getD k1 dF).to_)=((v.f.bF.getD v.sign.toNat dF).who)then .inl 1 else .inr (mxI a6_1 ((ZO v (zO v 12) ((v.f.acts.getD k1 dF).day)).last),a7_1++ [(v.f.acts.getD k1 dF)])
termination_by a7_1.length-k2
def yt (v:Dvw) (a6_1:Int) (a7_1:List Act) (k1:Nat):Int:=if k1<v.f.acts.length then if ((v.f.acts.getD k1 dF).kind)=5 then (match YG v a6_1 a7_1 k1 (bif decide ((ZF v)<=((v.f.acts.getD k1 dF).day))then decide (((v.f.acts.getD k1 dF).day)<=((ZO v (zO v 12) (ZF v)).last))else false) 0 with| .inl r=>r| .inr (a6_1,a7_1)=>yt v a6_1 a7_1 (k1+1))else yt v a6_1 a7_1 (k1+1)else if a6_1<v.day then 0 else 2
termination_by v.f.acts.length-k1
def jS (v:Dvw):Int:=if (!(ZO v (zO v 12) (ZF v)).known)=true then 2 else yt v ((ZO v (zO v 12) (ZF v)).last) [] 0
theorem zXd (v:Dvw) (hR:RR v.r) (hF:FitFi v.f) (hp:0<=v.f.bill.pay/\v.f.bill.pay<v.r.bB.length) (hs:0<=v.sign/\v.sign<v.f.bF.length):GC Tryz.prog 194 [dvG v] (iG (jS v)):=by
 have hr:=hR.right.fit
 have g3:=hF.acts
 refine zA Tryz.func194 ?_
 refine gE [1,2] ?_
 refine gR [.call (UD v (by first|exact hF|exact FitFi.at_ hF _))] [1,2,3] ?_
 refine gR [.call (QY v 12 hR hF)] [1,2,3,4] ?_
 refine gR [.call (jY v (zO v 12) (ZF v) hR hF hp)] [1,2,3,4,5] ?_
 refine gE [1,2,3,4,5,23] ?_
 refine zF ?_ ?_<;>intro c1<;>try simp only[bb,toN]at c1
 ·refine gE [1,2,3,4,5] ?_
  refine gT ?_
  rw[jS,iP (show (!(ZO v (zO v 12) (ZF v)).known)=true by (try simp only[bb,toN]);exact c1)];rfl
 refine gE [1,2,3,4,5,6] ?_
 refine gE [1,2,3,4,5,6,7] ?_
 refine gE [1,2,3,4,5,6,7,28,29,30] ?_
 refine YV 7 66 9 (dF:Act) acC t26 t26 ?_
 refine zI (α:=Int×List Act×Nat) (fun x=>x.2.2<=v.f.acts.length/\yt v ((ZO v (zO v 12) (ZF v)).last) [] 0=yt v x.1 x.2.1 x.2.2/\x.2.1.length<=x.2.2) (fun x=>[(6,iG x.1),(7,.sl 3 9 0 x.2.1.length),(30,iG x.2.2)]) (fun x=>[(3,some (.row 66 9 dF acC x.2.1 0))]) (fun x=>v.f.acts.length-x.2.2) ((ZO v (zO v 12) (ZF v)).last,[],0) ⟨by (try simp only[]);omega,rfl,by first|omega|(simp;done)|(simp only[List.length_append,List.length_cons,List.length_nil,List.length_set,List.length_replicate];omega)⟩ ?_ (hp:=t40)
 rintro ⟨a6_1,a7_1,k1⟩ ⟨hi1,he,hl_a7_1⟩
 dsimp only at*
 refine gE [1,2,3,4,5,6,7,28,29,30,31] ?_
 refine zB ?_ ?_<;>intro c2<;>try simp only[toN]at c2
 ·refine gE [1,2,3,4,5,6,7,9,28,29,30] ?_
  refine gE [1,2,3,4,5,6,7,9,28,29,30,36] ?_
  refine zP ?_ ?_<;>intro c3<;>try simp only[toN]at c3
  ·refine gE [1,2,3,4,5,6,7,28,29,30] ?_
   refine zD ((a6_1,a7_1,k1+1)) ?_ (hp:=t40) (hm:=by dsimp only;omega)
   refine ⟨by (try simp only[]);omega,he.trans ?_,by first|omega|(simp;done)|(simp only[List.length_append,List.length_cons,List.length_nil,List.length_set,List.length_replicate];omega)⟩
   rw[yt,iP (show k1<v.f.acts.length by omega),iQ c3]
   try rfl
  refine gE [1,2,3,4,5,6,7,9,10,28,29,30] ?_
  refine gE [1,2,3,4,5,6,7,9,10,28,29,30,48,49,50] ?_
  refine zI (α:=Bool×Nat) (fun x=>x.2<=a7_1.length/\YG v a6_1 a7_1 k1 (bif decide ((ZF v)<=((v.f.acts.getD k1 dF).day))then decide (((v.f.acts.getD k1 dF).day)<=((ZO v (zO v 12) (ZF v)).last))else false) 0=YG v a6_1 a7_1 k1 x.1 x.2) (fun x=>[(10,bG x.1),(50,iG x.2)]) (fun x=>[]) (fun x=>a7_1.length-x.2) ((bif decide ((ZF v)<=((v.f.acts.getD k1 dF).day))then decide (((v.f.acts.getD k1 dF).day)<=((ZO v (zO v 12) (ZF v)).last))else false),0) ⟨by (try simp only[]);omega,rfl⟩ ?_ (hp:=t40)
  rintro ⟨a10_2,k2⟩ ⟨hi2,he2⟩
  dsimp only at*
  refine gE [1,2,3,4,5,6,7,9,10,28,29,30,48,49,50,51] ?_
  refine zB ?_ ?_<;>intro c4<;>try simp only[toN]at c4
  ·refine gE [1,2,3,4,5,6,7,9,10,12,28,29,30,48,49,50] ?_ (hp:=t15)
   refine gR [.call (jY v (zO v 12) ((a7_1.getD k2 dF).day) hR hF hp)] [1,2,3,4,5,6,7,9,10,28,29,30,48,49,50] ?_
   refine gE [1,2,3,4,5,6,7,9,10,28,29,30,48,49,50] ?_
   refine zD (((bif a10_2 then true else (bif decide (((a7_1.getD k2 dF).to_)=((v.f.acts.getD k1 dF).who))then decide (((v.f.acts.getD k1 dF).day)<=((ZO v (zO v 12) ((a7_1.getD k2 dF).day)).last))else false)),k2+1)) ?_ (hp:=t40) (hm:=by dsimp only;omega)
   refine ⟨by (try simp only[]);omega,he2.trans ?_⟩
   rw[YG,iP (show k2<a7_1.length by omega)]
   try rfl
  refine gE [1,2,3,4,5,6,7,9,28,29,30,75] ?_
  refine zF ?_ ?_<;>intro c5<;>try simp only[bb,toN]at c5
  ·refine gE [1,2,3,4,5,6,7,28,29,30] ?_
   refine zD ((a6_1,a7_1,k1+1)) ?_ (hp:=t40) (hm:=by dsimp only;omega)
   refine ⟨by (try simp only[]);omega,he.trans ?_,by first|omega|(simp;done)|(simp only[List.length_append,List.length_cons,List.length_nil,List.length_set,List.length_replicate];omega)⟩
   rw[yt,iP (show k1<v.f.acts.length by omega),iP c3,he2,YG,iQ (show ¬(k2<a7_1.length)by omega),iP (show (!a10_2)=true by (try simp only[bb,toN]);exact c5)]
   try rfl
  refine gE [1,2,3,4,5,6,7,9,28,29,30,86] ?_
  refine zB ?_ ?_<;>intro c6<;>try simp only[toN]at c6
  ·refine gE [1,2,3,4,5,6,7,9,28,29,30] ?_
   refine gT ?_
   rw[jS,iQ (show ¬((!(ZO v (zO v 12) (ZF v)).known)=true)by rw[Bool.not_eq_true];(try simp only[bb,toN]);exact c1),he,yt,iP (show k1<v.f.acts.length by omega),iP c3,he2,YG,iQ (show ¬(k2<a7_1.length)by omega),iQ (show ¬((!a10_2)=true)by rw[Bool.not_eq_true];(try simp only[bb,toN]);exact c5),iP c6];rfl
  refine gU [.el dF acC ([(v.f.acts.getD k1 dF)]:List Act),.el dF acC (a7_1++ [(v.f.acts.getD k1 dF)])] [1,2,3,4,5,6,7,9,28,29,30] ?_
  refine gR [.call (jY v (zO v 12) ((v.f.acts.getD k1 dF).day) hR hF hp)] [1,2,3,4,5,6,7,28,29,30] ?_
  refine gE [1,2,3,4,5,6,7,28,29,30] ?_
  refine zD ((mxI a6_1 ((ZO v (zO v 12) ((v.f.acts.getD k1 dF).day)).last),a7_1++ [(v.f.acts.getD k1 dF)],k1+1)) ?_ (hp:=t40) (hm:=by dsimp only;omega)
  refine ⟨by (try simp only[]);omega,he.trans ?_,by first|omega|(simp;done)|(simp only[List.length_append,List.length_cons,List.length_nil,List.length_set,List.length_replicate];omega)⟩
  rw[yt,iP (show k1<v.f.acts.length by omega),iP c3,he2,YG,iQ (show ¬(k2<a7_1.length)by omega),iQ (show ¬((!a10_2)=true)by rw[Bool.not_eq_true];(try simp only[bb,toN]);exact c5),iQ c6]
  try rfl
 refine gE [2,103] ?_
 refine zB ?_ ?_<;>intro c7<;>try simp only[toN]at c7
 ·refine gE [2] ?_
  refine gT ?_
  rw[jS,iQ (show ¬((!(ZO v (zO v 12) (ZF v)).known)=true)by rw[Bool.not_eq_true];(try simp only[bb,toN]);exact c1),he,yt,iQ (show ¬(k1<v.f.acts.length)by omega),iP c7];rfl
 refine gE [2] ?_
 refine gT ?_
 rw[jS,iQ (show ¬((!(ZO v (zO v 12) (ZF v)).known)=true)by rw[Bool.not_eq_true];(try simp only[bb,toN]);exact c1),he,yt,iQ (show ¬(k1<v.f.acts.length)by omega),iQ c7];rfl
def zVd (r:Rlm) (bK:Int) (f:Fil) (day:Int):Int:=(ZF (zn r bK f 0 day))
theorem ZAo (r:Rlm) (bK:Int) (f:Fil) (day:Int) (hR:RR r) (hF:FitFi f):GC Tryz.prog 133 [rlG r,iG bK,fiG f,iG day] (iG (zVd r bK f day)):=by
 have hr:=hR.right.fit
 have h1:=hr.bD
 have h2:=hr.bB
 have h3:=hr.bC
 refine zA Tryz.func133 ?_
 refine gE [1,3,4,6,8] ?_
 refine gR [.call (zIn r bK f 0 day hR (by first|assumption|exact FitFi.at_ t12 _|exact FitFi.nof t12|exact FitFi.nof (FitFi.at_ t12 _))),.call (UD (zn r bK f 0 day) (by first|exact hF|exact FitFi.at_ hF _))] [8] ?_
 refine gT ?_
 rw[zVd];rfl
def qy (l:List Int) (a3_1:Int) (k1:Nat):Int:=if k1<l.length then if (l.getD k1 dF)=0 then 0 else if (l.getD k1 dF)=2 then qy l 2 (k1+1)else qy l a3_1 (k1+1)else a3_1
termination_by l.length-k1
def vu (l:List Int):Int:=qy l 1 0
theorem zCq (l:List Int) (hl:l.length<=9223372036854775807):GC Tryz.prog 183 [.d (.row dF inC l)] (iG (vu l)):=by
 refine zA Tryz.func183 ?_
 refine gE [0,2] ?_
 refine gE [0,2,3] ?_
 refine gE [2,3,6,7,8] ?_
 refine zI (α:=Int×Nat) (fun x=>x.2<=l.length/\qy l 1 0=qy l x.1 x.2) (fun x=>[(3,iG x.1),(8,iG x.2)]) (fun x=>[]) (fun x=>l.length-x.2) (1,0) ⟨by (try simp only[]);omega,rfl⟩ ?_ (hp:=t40)
 rintro ⟨a3_1,k1⟩ ⟨hi1,he⟩
 dsimp only at*
 refine gE [2,3,6,7,8,9] ?_
 refine zB ?_ ?_<;>intro c1<;>try simp only[toN]at c1
 ·refine gE [2,3,5,6,7,8] ?_
  refine gE [2,3,5,6,7,8,12] ?_
  refine zB ?_ ?_<;>intro c2<;>try simp only[toN]at c2
  ·refine gE [2,3,6,7,8] ?_
   refine gT ?_
   rw[vu,he,qy,iP t11,iP c2];rfl
  refine gE [2,3,6,7,8,15] ?_
  refine zB ?_ ?_<;>intro c3<;>try simp only[toN]at c3
  ·refine gE [2,3,6,7,8] ?_
   refine gE [2,3,6,7,8] ?_
   refine zD ((2,k1+1)) ?_ (hp:=t40) (hm:=by dsimp only;omega)
   refine ⟨by (try simp only[]);omega,he.trans ?_⟩
   rw[qy,iP t11,iQ c2,iP c3]
   try rfl
  refine gE [2,3,6,7,8] ?_
  refine zD ((a3_1,k1+1)) ?_ (hp:=t40) (hm:=by dsimp only;omega)
  refine ⟨by (try simp only[]);omega,he.trans ?_⟩
  rw[qy,iP t11,iQ c2,iQ c3]
  try rfl
 refine gE [2] ?_
 refine gT ?_
 rw[vu,he,qy,iQ t11];rfl
def VM (a:Int) (b:Int):Int:=(vu [a,b])
theorem zJm (a:Int) (b:Int):GC Tryz.prog 157 [iG a,iG b] (iG (VM a b)):=by
 refine zA Tryz.func157 ?_
 refine gE [0,1,4] ?_
 refine gR [.el dF inC [a,b],.call (zCq [a,b] t17)] [4] ?_
 refine gT ?_
 rw[VM];rfl
def ZU (r:Rlm) (bK:Int) (f:Fil) (day:Int):Bvw:=⟨r,bK,day,(atV f day),(wS (Qs r bK 0 (atV f day) day)),(ZT r bK (atV f day) day)⟩
theorem zCm (r:Rlm) (bK:Int) (f:Fil) (day:Int) (hR:RR r) (hF:FitFi f):GC Tryz.prog 141 [rlG r,iG bK,fiG f,iG day] (bvG (ZU r bK f day)):=by
 have hr:=hR.right.fit
 have h1:=hr.bD
 have h2:=hr.bB
 have h3:=hr.bC
 refine zA Tryz.func141 ?_
 refine gE [1,3,4,6,8] ?_
 refine gR [.call (JB f day (by first|assumption|exact FitFi.at_ t12 _))] [1,3,4,8,9] ?_
 refine gR [.call (HI r bK 0 (atV f day) day hR (by first|assumption|exact FitFi.at_ t12 _|exact FitFi.nof t12|exact FitFi.nof (FitFi.at_ t12 _))),.call (vR (Qs r bK 0 (atV f day) day)),.call (vi r bK (atV f day) day hR (by first|assumption|exact FitFi.at_ t12 _|exact FitFi.nof t12|exact FitFi.nof (FitFi.at_ t12 _)))] [8] ?_
 refine gT ?_
 rw[ZU];rfl
def yW (v:Bvw) (q:Int) (sign:Int):Int:=(wS (qQ v.r v.bK q (⟨v.f,sign,sign,(-1),v.due,v.day⟩:Cas)))
theorem UL (v:Bvw) (q:Int) (sign:Int) (hR:RR v.r) (hF:FitFi v.f):GC Tryz.prog 184 [bvG v,iG q,iG sign] (iG (yW v q sign)):=by
 have hr:=hR.right.fit
 refine zA Tryz.func184 ?_
 refine gE [1,2,3,6] ?_
 refine gE [1,3,6,7] ?_
 refine gR [.call (WP v.r v.bK q (⟨v.f,sign,sign,(-1),v.due,v.day⟩:Cas) hR (by first|assumption|exact FitFi.at_ t12 _|exact FitFi.nof t12|exact FitFi.nof (FitFi.at_ t12 _))),.call (vR (qQ v.r v.bK q (⟨v.f,sign,sign,(-1),v.due,v.day⟩:Cas)))] [6] ?_
 refine gT ?_
 rw[yW];rfl
def Zx (v:Bvw) (sign:Int) (a7_1:Bool) (k1:Nat):Int×Int:=if k1<v.f.bH.length then Zx v sign (bif a7_1 then true else decide (sign<((v.f.bH.getD k1 dF).at_))) (k1+1)else if (!a7_1)=true then (0,(jh v.f sign))else if (yW v 4 sign)=1 then ((yW v 4 sign),(v.f.bH.getD (((v.f.bH.length:Int)-1).toNat) dF).sum)else if (yW v 4 sign)=2 then ((yW v 4 sign),mnI (jh v.f sign) ((v.f.bH.getD (((v.f.bH.length:Int)-1).toNat) dF).sum))else ((yW v 4 sign),(jh v.f sign))
termination_by v.f.bH.length-k1
def qP (v:Bvw) (sign:Int):Int×Int:=Zx v sign false 0
theorem zUf (v:Bvw) (sign:Int) (hR:RR v.r) (hF:FitFi v.f):GC Tryz.prog 185 [bvG v,iG sign] (.tup [iG ((qP v sign).1),iG ((qP v sign).2)]):=by
 have hr:=hR.right.fit
 have g2:=hF.bH
 refine zA Tryz.func185 ?_
 refine gE [1,2,4,5] ?_
 refine gR [.call (zOw v.f sign t11)] [1,2,4,5] ?_
 refine gE [1,2,4,5,6] ?_
 refine gE [1,2,4,5,6,7] ?_
 refine gE [1,2,4,5,6,7,21,22,23] ?_
 refine zI (α:=Bool×Nat) (fun x=>x.2<=v.f.bH.length/\Zx v sign false 0=Zx v sign x.1 x.2/\(fun (a:Bool) (k:Nat)=>a=true->1<=k) x.1 x.2) (fun x=>[(7,bG x.1),(23,iG x.2)]) (fun x=>[]) (fun x=>v.f.bH.length-x.2) (false,0) ⟨by (try simp only[]);omega,rfl,t25⟩ ?_ (hp:=t40)
 rintro ⟨a7_1,k1⟩ ⟨hi1,he,hv1⟩
 dsimp only at*
 refine gE [1,2,4,5,6,7,21,22,23,24] ?_
 refine zB ?_ ?_<;>intro c1<;>try simp only[toN]at c1
 ·refine gE [1,2,4,5,6,7,9,21,22,23] ?_
  refine gE [1,2,4,5,6,7,21,22,23] ?_
  refine gE [1,2,4,5,6,7,21,22,23] ?_
  refine zD (((bif a7_1 then true else decide (sign<((v.f.bH.getD k1 dF).at_))),k1+1)) ?_ (hp:=t40) (hm:=by dsimp only;omega)
  refine ⟨by (try simp only[]);omega,he.trans ?_,(fun _=>by dsimp only;omega)⟩
  rw[Zx,iP (show k1<v.f.bH.length by omega)]
  try rfl
 refine gE [1,2,4,5,6,36] ?_
 refine zF ?_ ?_<;>intro c2<;>try simp only[bb,toN]at c2
 ·refine gE [1,2,4,5,6] ?_
  refine gT ?_
  rw[qP,he,Zx,iQ (show ¬(k1<v.f.bH.length)by omega),iP (show (!a7_1)=true by (try simp only[bb,toN]);exact c2)];rfl
 have hk1:=hv1 c2
 refine gE [1,2,4,5,10] ?_
 refine gR [.call (UL v 4 sign hR hF)] [4,5,10] ?_
 refine gE [4,5,10,49] ?_
 refine gE [4,5,10,49,50] ?_
 refine zB ?_ ?_<;>intro c3<;>try simp only[toN]at c3
 ·refine gE [4,5] ?_
  refine gT ?_
  rw[qP,he,Zx,iQ (show ¬(k1<v.f.bH.length)by omega),iQ (show ¬((!a7_1)=true)by rw[Bool.not_eq_true];(try simp only[bb,toN]);exact c2),iP c3];rfl
 refine gE [4,5,10,54] ?_
 refine zB ?_ ?_<;>intro c4<;>try simp only[toN]at c4
 ·refine gE [4,5] ?_
  refine gT ?_
  rw[qP,he,Zx,iQ (show ¬(k1<v.f.bH.length)by omega),iQ (show ¬((!a7_1)=true)by rw[Bool.not_eq_true];(try simp only[bb,toN]);exact c2),iQ c3,iP c4];rfl
 refine gE [4,5] ?_
 refine gT ?_
 rw[qP,he,Zx,iQ (show ¬(k1<v.f.bH.length)by omega),iQ (show ¬((!a7_1)=true)by rw[Bool.not_eq_true];(try simp only[bb,toN]);exact c2),iQ c3,iQ c4];rfl
def wiV (n lo hi:Int):Bool:=decide (lo<=n)&&decide (n<=hi)
theorem ZJ {n lo hi:Int} :wiV n lo hi=true↔lo<=n/\n<=hi:=by simp[wiV]
theorem t13 {p:Prop} (h:p:=by simp only[zC,bb,toN,ZJ,loI,hiI];repeat' first|exact trivial|exact zH.refl _|exact zE.refl _|exact rfl|omega|apply And.intro|intro _):p:=h
theorem gS {nt p:Nat} {R:Exit->St->Prop} {c':Code} {K K':List Kont} (hs:List (Hint Tryz.prog)) (kp:List Nat) {id:Nat} {ops:Array Oper} {draw:Bool} {tm tm' tm1:List (Nat×G)} {h0 h1 h2:List (Nat×Option Blk)} {n n1:Nat} {feet:List Foot} {pr pr':List Prop} {hs':List (Hint Tryz.prog)}
 (hq:GK Tryz.prog nt p R c' K' ⟨tm',h2,n1⟩) (h:jl Tryz.prog false tab nt ops ops.toList tm h0 n [] hs=some (pr,⟨tm1,h1,n1⟩,feet,hs'):=by rfl) (hok:Wb ops nt draw feet=true:=by kernel_rfl) (hk:QP tm1 kp=some tm':=by rfl) (hh:nfH [] h1=some h2:=by rfl) (hn:nrm 1000 .skip K=some (c',K'):=by rfl) (hf:nfP pr=some pr':=by rfl)
 (hp:zC pr':=by simp only[zC,bb,toN,ZJ,loI,hiI];repeat' first|exact trivial|exact zH.refl _|exact zE.refl _|exact rfl|omega|apply And.intro|intro _):GK Tryz.prog nt p R (.region id ops draw) K ⟨tm,h0,n⟩:=
 zG env false hs kp hq h hok hk hh hn hf hp
theorem zHg {n lo hi:Int} :wiV n lo hi=false↔n<lo∨hi<n:=by simp[wiV];omega
def UO (l:List ByteArray) (n:Int) (s:ByteArray) (i:Nat):Bool:=if (i:Int)<n/\i<l.length then if l.getD i dF=s then true else UO l n s (i+1)else false
termination_by l.length-i
theorem zUm {l:List ByteArray} {n:Nat} {s:ByteArray} (hn:n<=l.length):∀(k i:Nat),n-i=k->UO l n s i=((l.take n).drop i).any fun x=>decide (x=s):=by
 intro k
 induction k with
 |zero=>
  intro i hk
  rw[UO,iQ t11,List.drop_eq_nil_of_le t34];rfl
 |succ k ih=>
  intro i hk
  have hd:(l.take n).drop i=l.getD i dF::(l.take n).drop (i+1):=by
   rw[List.drop_eq_getElem_cons t34]
   congr 1
   rw[List.getElem_take,List.getD_eq_getElem?_getD,List.getElem?_eq_getElem t11];rfl
  rw[UO,iP ⟨by omega,by omega⟩,hd,List.any_cons,<-ih (i+1) t11]
  by_cases h:l.getD i dF=s
  ·rw[iP h,decide_eq_true h];rfl
  rw[iQ h,decide_eq_false h];rfl
theorem zJj {l:List ByteArray} {n:Nat} {s:ByteArray} (hn:n<=l.length):UO l n s 0=(l.take n).any fun x=>decide (x=s):=by
 rw[zUm hn _ 0 rfl];rfl
theorem zGs {s:ByteArray} :s=⟨#[]⟩↔s.size=0:=⟨fun h=>by subst h;rfl,fun h=>by
 obtain ⟨d⟩:=s
 have:d.size=0:=h
 congr 1
 exact Array.eq_empty_of_size_eq_zero this⟩
theorem zw (n lo hi:Int):GC Tryz.prog 59 [iG n,iG lo,iG hi] (bG (wiV n lo hi)):=by
 refine zA Tryz.func59 ?_
 refine gE [0,1,2,6] ?_
 refine gE [6] ?_
 refine gT ?_
 simp[yR,wiV,Bool.cond_eq_ite]
theorem zXy (c:Int):GC Tryz.prog 165 [.d (.sc (.int .u8 c))] (bG (ub c)):=by
 refine zA Tryz.func165 ?_
 refine gE [0,2] ?_
 refine gE [2] ?_
 refine gT ?_
 simp only[yR,ub]
 cases decide (97<=c)<;>cases decide (c<=122)<;>cases decide (65<=c)<;>cases decide (c<=90)<;>rfl
theorem zQt (s:ByteArray) (hs:s.size<=9223372036854775807):GC Tryz.prog 128 [sG s] (bG (jn s)):=by
 refine zA Tryz.func128 ?_
 refine gE [0,2] ?_
 refine gE [0,2,12] ?_
 refine zF ?_ ?_<;>intro c1<;>try simp only[bb,toN]at c1
 ·refine gE [0,2] ?_
  refine gT ?_
  rw[jn,iP (by rw[zGs];omega)];rfl
 refine gE [0,2,3] ?_
 refine zI (α:=Nat) (fun i=>i<=s.size/\rnF s 0=rnF s i) (fun i=>[(3,iG i)]) (fun _=>[]) (fun i=>s.size-i) 0 ⟨by omega,rfl⟩ ?_ (hp:=t42)
 rintro i ⟨hi,he⟩
 refine gE [0,2,3,16] ?_
 refine zB ?_ ?_<;>intro c2<;>try simp only[toN]at c2
 ·refine gE [0,2,3,4] ?_
  refine gR [.call (zXy (WO s i))] [0,2,3,47] ?_
  refine zF ?_ ?_<;>intro c3<;>try simp only[bb,toN]at c3
  ·refine gE [0,2,3] ?_
   refine gT ?_
   rw[jn,iQ (by rw[zGs];omega),he,rnF,iP t11,iP (by simp only[Hh,wk];grind)];rfl
  refine gE [0,2,3] ?_
  refine zD (i+1) ?_ (hp:=t42)
  refine ⟨by omega,he.trans ?_⟩
  rw[rnF,iP t11,iQ (by simp only[Hh,wk];grind)]
 refine gE [2] ?_
 refine gT ?_
 rw[jn,iQ (by rw[zGs];omega),he,rnF,iQ t11];rfl
theorem zGp (l:List ByteArray) (hl:l.length<=9223372036854775807) (n:Int) (s:ByteArray):GC Tryz.prog 129 [vW l,iG n,sG s] (bG (UO l n s 0)):=by
 refine zA Tryz.func129 ?_
 refine gE [0,1,2,6] ?_
 refine gE [0,1,2,6,7] ?_
 refine zI (α:=Nat) (fun i=>i<=l.length/\UO l n s 0=UO l n s i) (fun i=>[(7,iG i)]) (fun _=>[]) (fun i=>l.length-i) 0 ⟨by omega,rfl⟩ ?_ (hp:=t42)
 rintro i ⟨hi,he⟩
 refine gE [0,1,2,6,7,16] ?_
 refine zF ?_ ?_<;>intro c1<;>try simp only[bb,toN]at c1
 ·refine gE [0,1,2,6,7,24] ?_
  refine zB ?_ ?_<;>intro c2<;>try simp only[toN]at c2
  ·refine gE [0,1,2,6,7] ?_
   refine gT ?_
   rw[he,UO,iP ⟨by omega,by omega⟩,iP t12];rfl
  refine gE [0,1,2,6,7] ?_
  refine zD (i+1) ?_ (hp:=t42)
  refine ⟨by omega,he.trans ?_⟩
  rw[UO,iP ⟨by omega,by omega⟩,iQ t12]
 refine gE [6] ?_
 refine gT ?_
 rw[he,UO,iQ t11];rfl
theorem wu (l:List Int) (hl:l.length<=9223372036854775807) (lo hi:Int):GC Tryz.prog 130 [qq l,iG lo,iG hi] (bG (zj l lo hi 0)):=by
 refine zA Tryz.func130 ?_
 refine gE [0,1,2,6] ?_
 refine gE [0,1,2,6,7] ?_
 refine zI (α:=Nat) (fun i=>i<=l.length/\zj l lo hi 0=zj l lo hi i) (fun i=>[(7,iG i)]) (fun _=>[]) (fun i=>l.length-i) 0 ⟨by omega,rfl⟩ ?_ (hp:=t42)
 rintro i ⟨hj,he⟩
 refine gE [0,1,2,6,7,11] ?_
 refine zB ?_ ?_<;>intro c1<;>try simp only[toN]at c1
 ·refine gR [.call (zw (l.getD i dF) lo hi)] [0,1,2,6,7,21] ?_
  refine zF ?_ ?_<;>intro c2<;>try simp only[bb,toN]at c2
  ·refine gE [0,1,2,6,7] ?_
   refine gT ?_
   rw[zHg]at c2
   rw[he,zj,iP t11,iP (by simp only[yh,Bool.or_eq_true,Bool.and_eq_true,decide_eq_true_eq];omega)];rfl
  refine gE [0,1,2,6,7,35] ?_
  refine zF ?_ ?_<;>intro c3<;>try simp only[bb,toN]at c3
  ·refine gE [0,1,2,6,7] ?_
   refine gT ?_
   rw[he,zj,iP t11,iP (by simp only[yh,Bool.or_eq_true,Bool.and_eq_true,decide_eq_true_eq];omega)];rfl
  refine gE [0,1,2,6,7] ?_
  refine zD (i+1) ?_ (hp:=t42)
  refine ⟨by omega,he.trans ?_⟩
  rw[ZJ]at c2
  rw[zj,iP t11,iQ (by simp only[yh,Bool.or_eq_true,Bool.and_eq_true,decide_eq_true_eq];omega)]
 refine gE [6] ?_
 refine gT ?_
 rw[he,zj,iQ t11];rfl
theorem wG (l:List ByteArray) (hl:l.length<=9223372036854775807) (hs:∀s,s∈l->s.size<=9223372036854775807) (i:Nat) (hi:i<l.length):GC Tryz.prog 82 [vW l,iG i] (iG (ZZ l i)):=by
 refine zA Tryz.func82 ?_
 refine gE [0,1,4] ?_
 refine gR [.call (zQt (l.getD i dF) (hs _ (zJ hi)))] [0,1,4,10] ?_
 refine zF ?_ ?_<;>intro c1<;>try simp only[bb,toN]at c1
 ·refine gE [0,1,4] ?_
  refine gT ?_
  rw[ZZ,iP (by simpa using c1)];rfl
 refine gR [.call (zGp l hl i (l.getD i dF))] [4,17] ?_
 refine zF ?_ ?_<;>intro c2<;>try simp only[bb,toN]at c2
 ·refine gE [4] ?_
  refine gT ?_
  rw[zJj t11]at c2
  rw[ZZ,iQ (by simpa using c1),iP c2];rfl
 refine gE [4] ?_
 refine gT ?_
 rw[zJj t11]at c2
 rw[ZZ,iQ (by simpa using c1),iQ (by rw[c2];simp)];rfl
theorem Vo {i:Int} {n:Nat} :wiV i 0 ((n:Int)-1)=inV i n:=by
 simp only[wiV,inV]
 congr 1
 exact decide_eq_decide.2 t11
theorem zOg {i:Int} {m n:Int} (h:m=n-1):wiV i 0 m=inV i n:=by
 subst h
 simp only[wiV,inV]
 congr 1
 exact decide_eq_decide.2 t11
def zFs (n:Int):Bool:= !wiV (IntKind.i64.wrap (n.tdiv 100)) 1 12|| !wiV (n.tmod 100) 1 31
def Wt (l:List Int) (i:Nat):Bool:=if i<l.length then if zFs (l.getD i dF)=true then false else Wt l (i+1)else true
termination_by l.length-i
def qC (r:Rlm) (c:Cty):Bool:=bif ((!wiV c.ord 0 ((r.bD.length:Int)-1)|| !wiV c.cur 0 ((r.bA.length:Int)-1))||decide ((60:Int)<c.feasts.length))||decide ((200:Int)<c.shut.length)then false else bif Wt c.feasts 0 then (zj c.rest 0 6 0&&zj c.feasts 0 2000 0)&&zj c.shut 0 100000 0 else false
def odB (l:List Cho) (i:Nat):Bool:=((!wiV (l.getD i dF).ask 0 21)|| !wiV (l.getD i dF).by_ 0 4)||(decide ((0:Int)<i)&&decide ((l.getD i dF).ask<=(l.getD ((i:Int)-1).toNat dF).ask))
def odF (l:List Cho) (i:Nat):Bool:=if i<l.length then if odB l i=true then false else odF l (i+1)else true
termination_by l.length-i
def ruB (l:List Rul) (i:Nat):Bool:=(!wiV (l.getD i dF).ask 0 21)||(decide ((0:Int)<i)&&decide ((l.getD i dF).ask<=(l.getD ((i:Int)-1).toNat dF).ask))
def ruF (l:List Rul) (i:Nat):Bool:=if i<l.length then if ruB l i=true then false else ruF l (i+1)else true
termination_by l.length-i
def yr (o:Od):Bool:=bif odF o.bL 0 then ruF o.rules 0 else false
theorem zTv (r:Rlm) (hr:FitR r) (c:Cty) (hc:FitC c):GC Tryz.prog 83 [rlG r,ctG c] (bG (qC r c)):=by
 obtain ⟨_,h2,h3,h4⟩:=hc
 have hr1:=hr.bD
 have hr2:=hr.cur
 refine zA Tryz.func83 ?_
 refine gE [2,3,4] ?_
 refine zz 0 ?_
 refine zz 1 ?_
 refine gR [.call (zw c.ord 0 ((r.bD.length:Int)-1)),.call (zw c.cur 0 ((r.bA.length:Int)-1))] [3,4,35] ?_
 refine zF ?_ ?_<;>intro c1<;>try simp only[bb,toN]at c1
 ·refine gE [3,4] ?_
  refine gT ?_
  rcases c1 with ((h|h)|h)|h
  ·simp[yR,qC,h]
  ·simp[yR,qC,h]
  ·simp[yR,qC,h]
  simp[yR,qC,h]
 refine gE [3,4,5] ?_
 refine zI (α:=Nat) (fun i=>i<=c.feasts.length/\Wt c.feasts 0=Wt c.feasts i) (fun i=>[(5,iG i)]) (fun _=>[]) (fun i=>c.feasts.length-i) 0 ⟨by omega,rfl⟩ ?_ (hp:=t42)
 rintro i ⟨hi,he⟩
 refine gE [3,4,5,40] ?_
 refine zB ?_ ?_<;>intro c2<;>try simp only[toN]at c2
 ·refine zG env true [.call (zw (IntKind.i64.wrap ((c.feasts.getD i dF).tdiv 100)) 1 12),.call (zw ((c.feasts.getD i dF).tmod 100) 1 31)] [3,4,5,60] ?_
  refine zF ?_ ?_<;>intro c3<;>try simp only[bb,toN]at c3
  ·refine gE [3,4,5] ?_
   refine gT ?_
   have hq:Wt c.feasts 0=false:=by
    rw[he,Wt,iP t11,iP (by rcases c3 with h|h<;>simp only[zFs,h,Bool.not_false,Bool.true_or,Bool.or_true])]
   rw[qC,hq]
   simp[yR]
  refine gE [3,4,5] ?_
  refine zD (i+1) ?_ (hp:=t42)
  refine ⟨by omega,he.trans ?_⟩
  rw[Wt,iP t11,iQ (by simp only[zFs,c3.1,c3.2,Bool.not_true,Bool.or_false];exact Bool.false_ne_true)]
 refine gR [.call (wu c.rest h2 0 6),.call (wu c.feasts h3 0 2000),.call (wu c.shut h4 0 100000)] [4] ?_
 refine gT ?_
 have hq:Wt c.feasts 0=true:=by rw[he,Wt,iQ t11]
 rw[qC,hq,c1.1.1.1,c1.1.1.2,decide_eq_false (show ¬(60:Int)<c.feasts.length by omega),decide_eq_false (show ¬(200:Int)<c.shut.length by omega)]
 cases zj c.rest 0 6 0<;>cases zj c.feasts 0 2000 0<;>rfl
theorem zKz (o:Od) (h1:o.bL.length<=1000) (h2:o.rules.length<=1000):GC Tryz.prog 84 [odG o] (bG (yr o)):=by
 refine zA Tryz.func84 ?_
 refine gE [1,2] ?_
 refine zz 0 ?_
 refine gE [1,2,3] ?_
 refine zI (α:=Nat) (fun i=>i<=o.bL.length/\odF o.bL 0=odF o.bL i) (fun i=>[(3,iG i)]) (fun _=>[]) (fun i=>o.bL.length-i) 0 ⟨by omega,rfl⟩ ?_ (hp:=t42)
 rintro i ⟨hi,he⟩
 refine gE [1,2,3,9] ?_
 refine zB ?_ ?_<;>intro c1<;>try simp only[toN]at c1
 ·refine gR [.call (zw (o.bL.getD i dF).ask 0 21),.call (zw (o.bL.getD i dF).by_ 0 4)] [1,2,3,29] ?_
  refine zF ?_ ?_<;>intro c2<;>try simp only[bb,toN]at c2
  ·refine gE [1,2,3] ?_
   refine gT ?_
   unfold yr
   have hq:odF o.bL 0=false:=by rw[he,odF,iP t11,iP (by rcases c2 with h|h<;>simp[odB,h,-List.getD_eq_getElem?_getD])]
   rw[hq];rfl
  refine gE [1,2,3,47] ?_
  refine zF ?_ ?_<;>intro c3<;>try simp only[bb,toN]at c3
  ·refine gE [1,2,3] ?_
   refine gT ?_
   unfold yr
   have hq:odF o.bL 0=false:=by rw[he,odF,iP t11,iP (by simp only[odB,Bool.or_eq_true,Bool.and_eq_true,decide_eq_true_eq];omega)]
   rw[hq];rfl
  refine gE [1,2,3] ?_
  refine zD (i+1) ?_ (hp:=t42)
  refine ⟨by omega,he.trans ?_⟩
  rw[odF,iP t11,iQ (by simp only[odB,c2.1,c2.2,Bool.or_eq_true,Bool.and_eq_true,decide_eq_true_eq,Bool.not_true,Bool.false_eq_true,false_or,or_false];omega)]
 refine gE [1,2,4] ?_
 refine zI (α:=Nat) (fun k=>k<=o.rules.length/\ruF o.rules 0=ruF o.rules k) (fun i=>[(4,iG i)]) (fun _=>[]) (fun i=>o.rules.length-i) 0 ⟨by omega,rfl⟩ ?_ (hp:=t42)
 rintro k ⟨hk,hf⟩
 refine gE [1,2,4,52] ?_
 refine zB ?_ ?_<;>intro c4<;>try simp only[toN]at c4
 ·refine gR [.call (zw (o.rules.getD k dF).ask 0 21)] [1,2,4,62] ?_
  refine zF ?_ ?_<;>intro c5<;>try simp only[bb,toN]at c5
  ·refine gE [1,2,4] ?_
   refine gT ?_
   unfold yr
   have ht:odF o.bL 0=true:=by rw[he,odF,iQ t11]
   have hq:ruF o.rules 0=false:=by rw[hf,ruF,iP t11,iP (by simp[ruB,c5,-List.getD_eq_getElem?_getD])]
   rw[ht,hq];rfl
  refine gE [1,2,4,80] ?_
  refine zF ?_ ?_<;>intro c6<;>try simp only[bb,toN]at c6
  ·refine gE [1,2,4] ?_
   refine gT ?_
   unfold yr
   have ht:odF o.bL 0=true:=by rw[he,odF,iQ t11]
   have hq:ruF o.rules 0=false:=by rw[hf,ruF,iP t11,iP (by simp only[ruB,Bool.or_eq_true,Bool.and_eq_true,decide_eq_true_eq];omega)]
   rw[ht,hq];rfl
  refine gE [1,2,4] ?_
  refine zD (k+1) ?_ (hp:=t42)
  refine ⟨by omega,hf.trans ?_⟩
  rw[ruF,iP t11,iQ (by simp only[ruB,c5,Bool.or_eq_true,Bool.and_eq_true,decide_eq_true_eq,Bool.not_true,Bool.false_eq_true,false_or,or_false];omega)]
 refine gE [2] ?_
 refine gT ?_
 unfold yr
 have ht:odF o.bL 0=true:=by rw[he,odF,iQ t11]
 have hq:ruF o.rules 0=true:=by rw[hf,ruF,iQ t11]
 rw[ht,hq];rfl
theorem qJ {α β:Type} [Inhabited α] [Inhabited β] {l:List α} {f:α->β} {i:Nat} (h:i<l.length):(l.map f).getD i dF=f (l.getD i dF):=by
 rw[List.getD_eq_getElem?_getD,List.getElem?_map,List.getElem?_eq_getElem h,List.getD_eq_getElem?_getD,List.getElem?_eq_getElem h];rfl
theorem KB {α:Type} [Inhabited α] {l:List α} {i:Nat} (h:i<l.length):l.take (i+1)=l.take i++ [l.getD i dF]:=by
 rw[List.take_add_one,List.getElem?_eq_getElem h,List.getD_eq_getElem?_getD,List.getElem?_eq_getElem h];rfl
theorem yL {l:List ByteArray} {i:Nat} (h:i<l.length):ZZ (l.take (i+1)) i=ZZ l i:=by
 have e1:(l.take (i+1)).getD i dF=l.getD i dF:=by
  rw[List.getD_eq_getElem?_getD,List.getElem?_take_of_lt t11,<-List.getD_eq_getElem?_getD]
 have e2:(l.take (i+1)).take i=l.take i:=by rw[List.take_take];congr 1;omega
 rw[ZZ,ZZ,e1,e2]
theorem zGf (r:Rlm) (hr:FitR r):GC Tryz.prog 52 [rlG r] (iG (orE (zY r.bA 8 fun _=>true) (zY (cityN r) 40 fun i=>qC r (r.bB.getD i dF)))):=by
 have hr1:=hr.cur
 have hr2:=hr.bB
 have hcl:(cityN r).length=r.bB.length:=by simp[cityN]
 have hcs:=hr.cityN.2.1
 refine zA Tryz.func52 ?_
 refine gE [1,2] ?_
 refine zz 0 ?_
 refine gE [1,2,11] ?_
 refine zB ?_ ?_<;>intro c1<;>try simp only[toN]at c1
 ·refine gE [1,2] ?_
  refine gT ?_
  have hA:zY r.bA 8 (fun _=>true)=6:=iP c1
  rw[hA];rfl
 refine gE [1,2,3] ?_
 refine zI (α:=Nat) (fun i=>i<=r.bA.length/\zd r.bA (fun _=>true) 0=zd r.bA (fun _=>true) i) (fun i=>[(3,iG i)]) (fun _=>[]) (fun i=>r.bA.length-i) 0 ⟨by omega,rfl⟩ ?_ (hp:=t42)
 rintro i ⟨hi,he⟩
 refine gE [1,2,3,16] ?_
 refine zB ?_ ?_<;>intro c2<;>try simp only[toN]at c2
 ·refine gR [.call (wG r.bA t11 hr.curS i t11)] [1,2,3,4] ?_
  refine gE [1,2,3,4,24] ?_
  refine zP ?_ ?_<;>intro c3<;>try simp only[toN]at c3
  ·refine gE [1,2,3] ?_
   refine gT ?_
   have hA:zY r.bA 8 (fun _=>true)=ZZ r.bA i:=by rw[zY,iQ c1,he,zd,iP t11,iQ c3]
   rw[hA,orE,iQ c3];rfl
  refine gE [1,2,3] ?_
  refine zD (i+1) ?_ (hp:=t42)
  refine ⟨by omega,he.trans ?_⟩
  rw[zd,iP t11,iP t12,iP rfl]
 refine gE [1,2,29] ?_
 refine zB ?_ ?_<;>intro c4<;>try simp only[toN]at c4
 ·refine gE [1,2] ?_
  refine gT ?_
  have hA:zY r.bA 8 (fun _=>true)=0:=by rw[zY,iQ c1,he,zd,iQ t11]
  have hB:zY (cityN r) 40 (fun i=>qC r (r.bB.getD i dF))=6:=iP (by rw[hcl];exact c4)
  rw[hA,hB];rfl
 refine gE [1,2,5] ?_
 refine YV 5 9 1 (dF:ByteArray) zf t26 t26 ?_
 refine gE [1,2,5,6] ?_
 refine zI (α:=Nat) (fun i=>i<=(cityN r).length/\zd (cityN r) (fun i=>qC r (r.bB.getD i dF)) 0=zd (cityN r) (fun i=>qC r (r.bB.getD i dF)) i) (fun i=>[(6,iG i),(5,.sl 1 1 0 ((cityN r).take i).length)]) (fun i=>[(1,some (.row 9 1 (dF:ByteArray) zf ((cityN r).take i) ((cityN r).take i).length))]) (fun i=>(cityN r).length-i) 0 ⟨Nat.zero_le _,rfl⟩ ?_ (hp:=t42)
 rintro k ⟨hk,hf⟩
 have hl:((cityN r).take k).length=k:=by rw[List.length_take];omega
 refine gE [1,2,5,6,34] ?_
 refine zB ?_ ?_<;>intro c5<;>try simp only[toN]at c5
 ·have hnx:(cityN r).take (k+1)=(cityN r).take k++ [(r.bB.getD k dF).name]:=by rw[KB t11,cityN,qJ t11]
  refine gU [.el dF zf [(r.bB.getD k dF).name],.el dF zf ((cityN r).take k++ [(r.bB.getD k dF).name])] [1,2,5,6] ?_
  refine gR [.call (wG ((cityN r).take k++ [(r.bB.getD k dF).name]) (by rw[<-hnx,List.length_take];omega) (fun s hs=>hcs s (List.mem_of_mem_take (hnx▸hs))) k (by rw[<-hnx,List.length_take];omega))] [1,2,5,6,7] ?_ (hp:=t24)
  refine gE [1,2,5,6,7,50] ?_
  refine zP ?_ ?_<;>intro c6<;>try simp only[toN]at c6
  ·refine gE [1,2,5,6] ?_
   refine gT ?_
   have hA:zY r.bA 8 (fun _=>true)=0:=by rw[zY,iQ c1,he,zd,iQ t11]
   have hnm:ZZ (cityN r) k=ZZ ((cityN r).take k++ [(r.bB.getD k dF).name]) k:=by rw[<-hnx,yL t11]
   have hB:zY (cityN r) 40 (fun i=>qC r (r.bB.getD i dF))=ZZ (cityN r) k:=by rw[zY,iQ (by rw[hcl];exact c4),hf,zd,iP t11,iQ (by rw[hnm];exact c6)]
   rw[hA,hB,hnm];rfl
  refine gR [.call (zTv r hr (r.bB.getD k dF) (zQy hr.city t11))] [1,2,5,6,59] ?_
  refine zF ?_ ?_<;>intro c7<;>try simp only[bb,toN]at c7
  ·refine gE [1,2,5,6] ?_
   refine gT ?_
   have hA:zY r.bA 8 (fun _=>true)=0:=by rw[zY,iQ c1,he,zd,iQ t11]
   have hB:zY (cityN r) 40 (fun i=>qC r (r.bB.getD i dF))=1:=by rw[zY,iQ (by rw[hcl];exact c4),hf,zd,iP t11,iP (by rw[<-yL t11,hnx];exact c6),iQ (by rw[c7];simp)]
   rw[hA,hB];rfl
  refine gE [1,2,5,6] ?_
  refine zD (k+1) ?_ (hp:=by simp only[zC,hnx];repeat' first|exact trivial|exact zH.refl _|exact zE.refl _|exact rfl|omega|apply And.intro|intro _|(simp;done))
  refine ⟨by omega,hf.trans ?_⟩
  rw[zd,iP t11,iP (by rw[<-yL t11,hnx];assumption),iP t12]
 refine gE [2] ?_
 refine gT ?_
 have hA:zY r.bA 8 (fun _=>true)=0:=by rw[zY,iQ c1,he,zd,iQ t11]
 have hB:zY (cityN r) 40 (fun i=>qC r (r.bB.getD i dF))=0:=by rw[zY,iQ (by rw[hcl];exact c4),hf,zd,iQ t11]
 rw[hA,hB];rfl
def jU (r:Rlm) (f:Frm):Bool:=wiV f.city 0 ((r.bB.length:Int)-1)&&wiV f.group 0 ((r.groups.length:Int)-1)
def grF (l:List Int) (i:Nat):Bool:=if i<l.length then if wiV (l.getD i dF) 0 9=true then grF l (i+1)else false else true
termination_by l.length-i
def jw (r:Rlm):Int:=if (20:Int)<r.groups.length then 6 else if grF r.groups 0=true then zY (firmN r) 200 (fun i=>jU r (r.bC.getD i dF))else 1
def jr (r:Rlm):Int:=zY (orderN r) 20 (fun i=>yr (r.bD.getD i dF))
theorem zNb (r:Rlm) (hr:FitR r):GC Tryz.prog 53 [rlG r] (iG (jw r)):=by
 have hr1:=hr.groups
 have hr2:=hr.bC
 have hr3:=hr.bB
 have hcl:(firmN r).length=r.bC.length:=by simp[firmN]
 have hcs:=hr.firmN.2.1
 refine zA Tryz.func53 ?_
 refine gE [1,2] ?_
 refine zz 0 ?_
 refine gE [1,2,10] ?_
 refine zB ?_ ?_<;>intro c1<;>try simp only[toN]at c1
 ·refine gE [1,2] ?_
  refine gT ?_
  rw[jw,iP c1];rfl
 refine gE [1,2,3] ?_
 refine zI (α:=Nat) (fun i=>i<=r.groups.length/\grF r.groups 0=grF r.groups i) (fun i=>[(3,iG i)]) (fun _=>[]) (fun i=>r.groups.length-i) 0 ⟨by omega,rfl⟩ ?_ (hp:=t42)
 rintro i ⟨hi,he⟩
 refine gE [1,2,3,15] ?_
 refine zB ?_ ?_<;>intro c2<;>try simp only[toN]at c2
 ·refine gR [.call (zw (r.groups.getD i dF) 0 9)] [1,2,3,25] ?_
  refine zF ?_ ?_<;>intro c3<;>try simp only[bb,toN]at c3
  ·refine gE [1,2,3] ?_
   refine gT ?_
   have hg:grF r.groups 0=false:=by rw[he,grF,iP t11,iQ (by rw[c3];simp)]
   rw[jw,iQ c1,iQ (by rw[hg];simp)];rfl
  refine gE [1,2,3] ?_
  refine zD (i+1) ?_ (hp:=t42)
  refine ⟨by omega,he.trans ?_⟩
  rw[grF,iP t11,iP t12]
 refine gE [1,2,29] ?_
 refine zB ?_ ?_<;>intro c4<;>try simp only[toN]at c4
 ·refine gE [1,2] ?_
  refine gT ?_
  have hg:grF r.groups 0=true:=by rw[he,grF,iQ t11]
  have hB:zY (firmN r) 200 (fun i=>jU r (r.bC.getD i dF))=6:=iP (by rw[hcl];exact c4)
  rw[jw,iQ c1,iP hg,hB];rfl
 refine gE [1,2,4] ?_
 refine YV 4 9 1 (dF:ByteArray) zf t26 t26 ?_
 refine gE [1,2,4,5] ?_
 refine zI (α:=Nat) (fun i=>i<=(firmN r).length/\zd (firmN r) (fun i=>jU r (r.bC.getD i dF)) 0=zd (firmN r) (fun i=>jU r (r.bC.getD i dF)) i) (fun i=>[(5,iG i),(4,.sl 1 1 0 ((firmN r).take i).length)]) (fun i=>[(1,some (.row 9 1 (dF:ByteArray) zf ((firmN r).take i) ((firmN r).take i).length))]) (fun i=>(firmN r).length-i) 0 ⟨Nat.zero_le _,rfl⟩ ?_ (hp:=t42)
 rintro k ⟨hk,hf⟩
 have hl:((firmN r).take k).length=k:=by rw[List.length_take];omega
 refine gE [1,2,4,5,34] ?_
 refine zB ?_ ?_<;>intro c5<;>try simp only[toN]at c5
 ·have hnx:(firmN r).take (k+1)=(firmN r).take k++ [(r.bC.getD k dF).name]:=by rw[KB t11,firmN,qJ t11]
  refine gU [.el dF zf [(r.bC.getD k dF).name],.el dF zf ((firmN r).take k++ [(r.bC.getD k dF).name])] [1,2,4,5] ?_
  refine gR [.call (wG ((firmN r).take k++ [(r.bC.getD k dF).name]) (by rw[<-hnx,List.length_take];omega) (fun s hs=>hcs s (List.mem_of_mem_take (hnx▸hs))) k (by rw[<-hnx,List.length_take];omega))] [1,2,4,5,6] ?_ (hp:=t24)
  refine gE [1,2,4,5,6,50] ?_
  refine zP ?_ ?_<;>intro c6<;>try simp only[toN]at c6
  ·refine gE [1,2,4,5] ?_
   refine gT ?_
   have hg:grF r.groups 0=true:=by rw[he,grF,iQ t11]
   have hnm:ZZ (firmN r) k=ZZ ((firmN r).take k++ [(r.bC.getD k dF).name]) k:=by rw[<-hnx,yL t11]
   have hB:zY (firmN r) 200 (fun i=>jU r (r.bC.getD i dF))=ZZ (firmN r) k:=by rw[zY,iQ (by rw[hcl];exact c4),hf,zd,iP t11,iQ (by rw[hnm];exact c6)]
   rw[jw,iQ c1,iP hg,hB,hnm];rfl
  refine gR [.call (zw (r.bC.getD k dF).city 0 ((r.bB.length:Int)-1)),.call (zw (r.bC.getD k dF).group 0 ((r.groups.length:Int)-1))] [1,2,4,5,77] ?_
  refine zF ?_ ?_<;>intro c7<;>try simp only[bb,toN]at c7
  ·refine gE [1,2,4,5] ?_
   refine gT ?_
   have hg:grF r.groups 0=true:=by rw[he,grF,iQ t11]
   have hB:zY (firmN r) 200 (fun i=>jU r (r.bC.getD i dF))=1:=by rw[zY,iQ (by rw[hcl];exact c4),hf,zd,iP t11,iP (by rw[<-yL t11,hnx];exact c6),iQ (by rw[(show jU r (r.bC.getD k dF)=false by rw[jU];rcases c7 with h|h<;>simp only[h,Bool.false_and,Bool.and_false])];simp)]
   rw[jw,iQ c1,iP hg,hB];rfl
  refine gE [1,2,4,5] ?_
  refine zD (k+1) ?_ (hp:=by simp only[zC,hnx];repeat' first|exact trivial|exact zH.refl _|exact zE.refl _|exact rfl|omega|apply And.intro|intro _|(simp;done))
  refine ⟨by omega,hf.trans ?_⟩
  rw[zd,iP t11,iP (by rw[<-yL t11,hnx];assumption),iP (by rw[jU,Bool.and_eq_true];assumption)]
 refine gE [2] ?_
 refine gT ?_
 have hg:grF r.groups 0=true:=by rw[he,grF,iQ t11]
 have hB:zY (firmN r) 200 (fun i=>jU r (r.bC.getD i dF))=0:=by rw[zY,iQ (by rw[hcl];exact c4),hf,zd,iQ t11]
 rw[jw,iQ c1,iP hg,hB];rfl
theorem uO (r:Rlm) (hr:FitR r):GC Tryz.prog 54 [rlG r] (iG (jr r)):=by
 have hr2:=hr.bD
 have hcl:(orderN r).length=r.bD.length:=by simp[orderN]
 have hcs:=hr.orderN.2.1
 refine zA Tryz.func54 ?_
 refine gE [1,2] ?_
 refine zz 0 ?_
 refine gE [1,2,9] ?_
 refine zB ?_ ?_<;>intro c1<;>try simp only[toN]at c1
 ·refine gE [1,2] ?_
  refine gT ?_
  have hB:zY (orderN r) 20 (fun i=>yr (r.bD.getD i dF))=6:=iP (by rw[hcl];exact c1)
  rw[jr,hB];rfl
 refine gE [1,2,3] ?_
 refine YV 3 9 1 (dF:ByteArray) zf t26 t26 ?_
 refine gE [1,2,3,4] ?_
 refine zI (α:=Nat) (fun i=>i<=(orderN r).length/\zd (orderN r) (fun i=>yr (r.bD.getD i dF)) 0=zd (orderN r) (fun i=>yr (r.bD.getD i dF)) i) (fun i=>[(4,iG i),(3,.sl 1 1 0 ((orderN r).take i).length)]) (fun i=>[(1,some (.row 9 1 (dF:ByteArray) zf ((orderN r).take i) ((orderN r).take i).length))]) (fun i=>(orderN r).length-i) 0 ⟨Nat.zero_le _,rfl⟩ ?_ (hp:=t42)
 rintro k ⟨hk,hf⟩
 have hl:((orderN r).take k).length=k:=by rw[List.length_take];omega
 refine gE [1,2,3,4,14] ?_
 refine zB ?_ ?_<;>intro c2<;>try simp only[toN]at c2
 ·have hnx:(orderN r).take (k+1)=(orderN r).take k++ [(r.bD.getD k dF).name]:=by rw[KB t11,orderN,qJ t11]
  have hok:=zQy hr.order (i:=k) t11
  refine gU [.el dF zf [(r.bD.getD k dF).name],.el dF zf ((orderN r).take k++ [(r.bD.getD k dF).name])] [1,2,3,4] ?_
  refine gR [.call (wG ((orderN r).take k++ [(r.bD.getD k dF).name]) (by rw[<-hnx,List.length_take];omega) (fun s hs=>hcs s (List.mem_of_mem_take (hnx▸hs))) k (by rw[<-hnx,List.length_take];omega))] [1,2,3,4,5] ?_ (hp:=t24)
  refine gE [1,2,3,4,5,30] ?_
  refine zP ?_ ?_<;>intro c3<;>try simp only[toN]at c3
  ·refine gE [1,2,3,4] ?_
   refine gT ?_
   have hnm:ZZ (orderN r) k=ZZ ((orderN r).take k++ [(r.bD.getD k dF).name]) k:=by rw[<-hnx,yL t11]
   have hB:zY (orderN r) 20 (fun i=>yr (r.bD.getD i dF))=ZZ (orderN r) k:=by rw[zY,iQ (by rw[hcl];exact c1),hf,zd,iP t11,iQ (by rw[hnm];exact c3)]
   rw[jr,hB,hnm];rfl
  refine gR [.call (zKz (r.bD.getD k dF) hok.2.1 hok.2.2)] [1,2,3,4,38] ?_
  refine zF ?_ ?_<;>intro c4<;>try simp only[bb,toN]at c4
  ·refine gE [1,2,3,4] ?_
   refine gT ?_
   have hB:zY (orderN r) 20 (fun i=>yr (r.bD.getD i dF))=1:=by rw[zY,iQ (by rw[hcl];exact c1),hf,zd,iP t11,iP (by rw[<-yL t11,hnx];exact c3),iQ (by rw[c4];simp)]
   rw[jr,hB];rfl
  refine gE [1,2,3,4] ?_
  refine zD (k+1) ?_ (hp:=by simp only[zC,hnx];repeat' first|exact trivial|exact zH.refl _|exact zE.refl _|exact rfl|omega|apply And.intro|intro _|(simp;done))
  refine ⟨by omega,hf.trans ?_⟩
  rw[zd,iP t11,iP (by rw[<-yL t11,hnx];assumption),iP t12]
 refine gE [2] ?_
 refine gT ?_
 have hB:zY (orderN r) 20 (fun i=>yr (r.bD.getD i dF))=0:=by rw[zY,iQ (by rw[hcl];exact c1),hf,zd,iQ t11]
 rw[jr,hB];rfl
end Go.Gh
