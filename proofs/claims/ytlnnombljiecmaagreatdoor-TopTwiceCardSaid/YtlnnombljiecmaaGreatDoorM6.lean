/- Walks by the logic of calls, and plain laws (several texts in one). -/
import Derived.Test.YtlnnombljiecmaaGreatDoorM5
namespace Go.Gh
open Go Go.Proofs
set_option maxRecDepth 1000000
set_option maxHeartbeats 2000000
set_option linter.unusedSimpArgs false
set_option linter.unusedVariables false
set_option linter.unnecessarySimpa false
set_option linter.unusedSectionVars false
variable [Dep]
open Go.RowKit
def vN (y:Sgn) (a:Act):Bool:=decide (y.who=a.to_)
theorem zWe (y:Sgn) (a:Act):GC Tryz.prog 66 [sgG y,.ep (acC a)] (bG (vN y a)):=by
 refine zA Tryz.func66 ?_
 refine gE [1,2,3] ?_
 refine gE [3] ?_
 refine gT ?_
 rw[vN];rfl
theorem zBf (l:List Sgn) (hl:l.length<=9223372036854775807) (a:Act):GC Tryz.prog 103 [.d (.row dF sgC l),.fn (.func 66) [] [.ep (acC a)]] (iG (zQ (fun y=>vN y a) l 0)):=by
 refine zA Tryz.func103 ?_
 refine gE [0,1,4] ?_
 refine gE [0,1,4,7,8] ?_
 refine zI (α:=Nat) (fun i=>i<=l.length/\zQ (fun y=>vN y a) l 0=zQ (fun y=>vN y a) (l.drop i) i) (fun i=>[(8,iG i)]) (fun _=>[]) (fun i=>l.length-i) 0 ⟨by omega,rfl⟩ ?_ (hp:=t40)
 rintro i ⟨hi,he⟩
 refine gE [0,1,4,7,8,9] ?_
 refine zB ?_ ?_<;>intro c1<;>try simp only[toN]at c1
 ·refine gE [0,1,4,5,7,8] ?_
  refine gR [.call (zWe (l.getD i dF) a)] [0,1,4,5,7,8,16] ?_
  refine zF ?_ ?_<;>intro c2<;>try simp only[bb,toN]at c2
  ·refine gE [0,1,4,7,8] ?_
   refine gT ?_
   rw[he,Yb t11,zQ,iP (by exact c2)];rfl
  refine gE [0,1,4,7,8] ?_
  refine zD (i+1) ?_ (hp:=t40)
  refine ⟨by omega,he.trans ?_⟩
  rw[Yb t11,zQ,iQ (by rw[Bool.not_eq_true];exact c2)]
 refine gE [4] ?_
 refine gT ?_
 rw[he,JJ t11];rfl
theorem zBg (l:List Sgn) (hl:l.length<=9223372036854775807) (a:Act):GC Tryz.prog 65 [.d (.row dF sgC l),.fn (.func 66) [] [.ep (acC a)]] (bG (l.any (fun y=>vN y a))):=by
 refine zA Tryz.func65 ?_
 refine gE [0,1,4] ?_
 refine gR [.call (zBf l hl a)] [4] ?_
 refine gT ?_
 rw[<-QB];rfl
theorem zMd (v:Ovw) (part by_:Int) (links:List Int):∀k x,x∈qt v part by_ links k->Jd v x=part:=by
 intro k
 induction k with
 |zero=>intro x h;cases h
 |succ k ih=>
  intro x h
  unfold qt at h
  split at h
  ·rename_i hc
   rcases List.mem_append.1 h with h|h
   ·exact ih x h
   rw[List.mem_singleton.1 h];exact hc.1
  exact ih x h
theorem zMc (v:Ovw) (part by_:Int) (links:List Int):∀x,x∈Zn v part by_ links->Jd v x=part:=by
 unfold Zn
 split
 ·exact fun x h=>by cases h
 exact zMd _ _ _ _ _
theorem qL {α β:Type} (I:β->Prop) (g:β->α->β):∀(l:List α) (b:β),I b->(∀b x,x∈l->I b->I (g b x))->I (l.foldl g b):=by
 intro l
 induction l with
 |nil=>intro b h _;exact h
 |cons x l ih=>intro b h hg;exact ih _ (hg b x t25 h) fun b y hy=>hg b y (List.mem_cons_of_mem _ hy)
def zDe (f:Fil) (day:Int) (s:Int):Int×Int:=(((atV f day).bF.getD s.toNat dF).who,Jd (zm f day) s)
theorem wP (r:Rlm) (bK:Int) (f:Fil) (day:Int):qh (atV f day).bF.length (zDe f day) (Yg r bK f day):=by
 unfold Yg
 split
 ·exact fun x h=>by cases h
 refine qL (qh (atV f day).bF.length (zDe f day)) _ _ _ (fun x h=>by cases h) fun b p _ hb=> ?_
 refine qL (qh (atV f day).bF.length (zDe f day)) _ _ _ hb fun b o _ hb=> ?_
 refine qL (qh (atV f day).bF.length (zDe f day)) _ _ _ hb fun b s hs hb=> ?_
 unfold WN
 split
 ·exact hb
 intro x hx
 rcases List.mem_append.1 hx with hx|hx
 ·exact hb x hx
 rw[List.mem_singleton.1 hx]
 have h1:=(ua _ _ _ _).2 s hs
 exact ⟨h1,rfl,(zMc _ _ _ _ s hs).symm⟩
theorem zCg (r:Rlm) (bK:Int) (f:Fil) (day:Int) (hF:FitFi f) (hd:YB f):(Yg r bK f day).length<=1002001000:=by
 unfold Yg
 split
 ·exact Nat.zero_le _
 have h1:=qK (vD r bK f day) 1001000 (zCi r bK f day hF hd) (YZ (atV f day)) []
 have h2:=(zRr _ (hF.at_ day)).2
 have h3:(YZ (atV f day)).length*1001000<=1001*1001000:=Nat.mul_le_mul_right _ h2
 have h4:([]:List Clm).length=0:=rfl
 omega
def XG (g:Fil) (a:Act):Bool:=bif bif !decide (a.kind=6)then true else decide (a.at_<0)then true else decide ((g.bF.length:Int)<=a.at_)
def jk (g:Fil) (acc:List Clm) (a:Act):List Clm:=if XG g a=true then acc else (Ye acc a (g.bF.getD a.at_.toNat dF).kind (!(g.bF.any fun y=>vN y a))).1
def ZE (r:Rlm) (bK:Int) (f:Fil) (day:Int):List Clm:=(atV f day).acts.foldl (jk (atV f day)) (Yg r bK f day)
theorem vV {S:Nat} {w:Int->Int×Int} {g:Fil} {acc:List Clm} (a:Act) (h:qh S w acc):qh S w (jk g acc a)/\(jk g acc a).length<=acc.length+S:=by
 unfold jk
 split
 ·exact ⟨h,by omega⟩
 exact zKs a _ _ h
def UB (e:Int×Int):Value×Value:=(.int .i64 e.1,.int .i64 e.2)
def zKp (k v:Int):List (Int×Int)->List (Int×Int)
 | []=>[(k,v)]
 |e::l=>if k=e.1 then (k,v)::l else e::zKp k v l
def uo (k:Int):List (Int×Int)->Option Int
 | []=>none
 |e::l=>if k=e.1 then some e.2 else uo k l
theorem ZCp (k v:Int):∀l:List (Int×Int),KT (.int .i64 k) (.int .i64 v) (l.map UB)=some ((zKp k v l).map UB):=by
 intro l
 induction l with
 |nil=>rfl
 |cons a l ih=>
  show (match some (decide (k=a.1))with|some true=>_|some false=>_|none=>_)=_
  by_cases e:k=a.1
  ·rw[decide_eq_true e,zKp,iP e,List.map_cons]
   simp[UB,e]
  rw[decide_eq_false e]
  show (match KT (.int .i64 k) (.int .i64 v) (l.map UB)with|some l'=>some (UB a::l')|none=>none)=_
  rw[ih,zKp,iQ e];rfl
theorem zQx (k:Int):∀l:List (Int×Int),KU (.int .i64 k) (l.map UB)=some ((uo k l).map fun v=> .int .i64 v):=by
 intro l
 induction l with
 |nil=>rfl
 |cons a l ih=>
  show (match some (decide (k=a.1))with|some true=>_|some false=>_|none=>_)=_
  by_cases e:k=a.1
  ·rw[decide_eq_true e,uo,iP e];rfl
  rw[decide_eq_false e]
  show KU (.int .i64 k) (l.map UB)=_
  rw[ih,uo,iQ e]
theorem ZCy (k:Int) (l:List (Int×Int)):zIo (.int .i64 k) (l.map UB) (.int .i64 0) (.int .i64 ((uo k l).getD 0)) (uo k l).isSome:=by
 cases h:uo k l with
 |some v=>exact .inl ⟨rfl,by rw[zQx,h];rfl⟩
 |none=>exact .inr ⟨rfl,rfl,by rw[zQx,h];rfl⟩
theorem zQk (M:List Int):ve (M.map jW)=true:=by
 induction M with
 |nil=>rfl
 |cons a M ih=>show (_&&ve (M.map jW))=true;rw[ih];rfl
theorem zPm (r:Rlm) (bK:Int) (f:Fil) (day:Int) (hR:RR r) (hF:FitFi f) (hB:yY f) (hd:YB f) (hw:vK r f) (hp:0<=f.bill.pay/\f.bill.pay<r.bB.length):GM Tryz.prog 28 [rlG r,iG bK,fiG f,iG day] [] (.tup [.sl 0 9 0 (ZE r bK f day).length,.junk]) [some (.row 55 9 dF clC (ZE r bK f day) 0)]:=by
 have hF2:=hF.at_ day
 have g1:=hF2.bF
 have g3:=hF2.acts
 refine ZX Tryz.func28 ?_
 refine gE [1,3,4,6,8,9] ?_
 refine gR [.call (JB f day hF)] [1,3,4,6,8,9,10] ?_
 refine gR [.callm [] (zWy r bK f day hR hF hB hd hw hp)] [8,9,10,11] ?_
 refine gE [8,9,10,11,12] ?_
 refine gE [8,9,10,11,12,32,33,34] ?_
 refine zI (α:=List Clm×List (Int×Int)×Nat) (fun x=>x.2.2<=(atV f day).acts.length/\x.1=((atV f day).acts.take x.2.2).foldl (jk (atV f day)) (Yg r bK f day)/\qh (atV f day).bF.length (zDe f day) x.1/\x.1.length<=1002001000+1000*x.2.2) (fun x=>[(34,iG x.2.2),(11,.sl 3 9 0 x.1.length)]) (fun x=>[(3,some (.row 55 9 (dF:Clm) clC (x.1) 0)),(4,some (.mp (x.2.1.map UB)))]) (fun x=>(atV f day).acts.length-x.2.2) (Yg r bK f day,[],0) ⟨Nat.zero_le _,rfl,wP r bK f day,zCg r bK f day hF hd⟩ ?_ (hp:=t43)
 rintro ⟨acc,P,k⟩ ⟨hk,hacc,ht,hal⟩
 dsimp only at hk hacc ht hal⊢
 refine gE [8,9,10,11,12,32,33,34,35] ?_
 refine zB (fun c1=> ?_) (fun c1=> ?_)
 ·have hk2:k<(atV f day).acts.length:=by omega
  have hnx:((atV f day).acts.take (k+1)).foldl (jk (atV f day)) (Yg r bK f day)=jk (atV f day) acc ((atV f day).acts.getD k dF):=by rw[yb _ _ _ _ hk2,<-hacc]
  have hto:=vV (g:=(atV f day)) ((atV f day).acts.getD k dF) ht
  rw[jk]at hnx hto
  refine gP [] [8,9,10,11,12,14,32,33,34] ?_
  refine gE [8,9,10,11,12,14,32,33,34,53] ?_
  refine zF (fun c2=> ?_) (fun c2=> ?_)
  ·rw[iP (show XG (atV f day) ((atV f day).acts.getD k dF)=true from c2)]at hnx hto
   refine gP [] [8,9,10,11,12,32,33,34] ?_
   exact zD (acc,P,k+1) ⟨hk2,hnx.symm,ht,by dsimp only;omega⟩ (hp:=t43) (hm:=by dsimp only;omega)
  have c2':=c2
  simp only[bb,toN]at c2'
  rw[iQ (by rw[show XG (atV f day) ((atV f day).acts.getD k dF)=false from c2];decide)]at hnx hto
  refine zz 5 ?_
  refine gR [.call (zBg (atV f day).bF t11 ((atV f day).acts.getD k dF))] [8,9,10,11,12,14,15,32,33,34] ?_
  refine gP [.callm [] (zUy acc ((atV f day).acts.getD k dF) ((atV f day).bF.getD ((atV f day).acts.getD k dF).at_.toNat dF).kind (!((atV f day).bF.any fun y=>vN y ((atV f day).acts.getD k dF))) t11)] [8,9,10,11,12,14,16,17,32,33,34] ?_
  have hz2:=(Hv acc ((atV f day).acts.getD k dF) ((atV f day).bF.getD ((atV f day).acts.getD k dF).at_.toNat dF).kind (!((atV f day).bF.any fun y=>vN y ((atV f day).acts.getD k dF)))).2.2
  obtain ⟨z,hz⟩:∃z,z=(Ye acc ((atV f day).acts.getD k dF) ((atV f day).bF.getD ((atV f day).acts.getD k dF).at_.toNat dF).kind (!((atV f day).bF.any fun y=>vN y ((atV f day).acts.getD k dF)))):=⟨_,rfl⟩
  rw[<-hz]at hnx hto hz2⊢
  refine gE [8,9,10,11,12,14,16,17,18,32,33,34] ?_
  refine gE [8,9,10,11,12,14,16,18,32,33,34,74,75,76] ?_
  refine zI (α:=List Int×Nat) (fun x=>x.2<=z.2.length) (fun x=>[(76,iG x.2)]) (fun x=>[(8,some (.mp (x.1.map jW)))]) (fun x=>z.2.length-x.2) ([],0) (Nat.zero_le _) ?_ (hp:=t43)
  rintro ⟨M,j⟩ hj
  dsimp only at hj⊢
  refine gE [8,9,10,11,12,14,16,18,32,33,34,74,75,76,77] ?_
  refine zB (fun c3=> ?_) (fun c3=> ?_)
  ·have hj2:j<z.2.length:=by omega
   refine gP [] [8,9,10,11,12,14,16,18,20,32,33,34,74,75,76] ?_
   refine gR [.mp ((Wl M (z.2.getD j dF).bI).map jW)] [8,9,10,11,12,14,16,18,32,33,34,74,75,76] ?_ (hp:=by simp only[zC,Nat.zero_add,bb,toN];first|exact vh _ _|exact ⟨vh _ _,trivial⟩)
   refine gP [] [8,9,10,11,12,14,16,18,32,33,34,74,75,76] ?_
   exact zD (Wl M (z.2.getD j dF).bI,j+1) hj2 (hp:=t43) (hm:=by dsimp only;omega)
  refine Jo env false 1 [] 8 85 86 87 88 7 (M.map jW) (fun _ _=>True) (fun _=>[(8,.d (.sc (.slice none 0 0))),(9,.d (.sc (.map none))),(10,.ptr 2 0 0 0),(12,.mp 4),(14,.ep (acC ((atV f day).acts.getD k dF))),(16,.sl 6 9 0 z.1.length),(32,.d (.row dF acC (atV f day).acts)),(33,iG (atV f day).acts.length),(34,iG k)]) (fun P'=>[(0,some (.box [.d (.row dF zf r.bA),.d (.row dF ctC r.bB),.d (.row dF inC r.groups),.d (.row dF fmC r.bC),.d (.row dF odC r.bD),.d (.row dF usC r.bE),.d (.row dF rtC r.rates),.d (.row dF htC r.halts)])),(1,some (.box [iG f.bill.bP,iG f.bill.bO,iG f.bill.bQ,iG f.bill.sum,iG f.bill.cur,iG f.bill.ten.kind,iG f.bill.ten.n,iG f.bill.ten.unit,iG f.bill.day,iG f.bill.city,iG f.bill.pay,iG f.bill.need,iG f.bill.rate,iG f.bill.flags,iG f.bill.parts,.d (.row dF sgC f.bF),.d (.row dF alC f.bH),.d (.row dF acC f.acts),.d (.row dF fcC f.facts)])),(2,some (.box [iG ((atV f day).bill.bP),iG ((atV f day).bill.bO),iG ((atV f day).bill.bQ),iG ((atV f day).bill.sum),iG ((atV f day).bill.cur),iG ((atV f day).bill.ten.kind),iG ((atV f day).bill.ten.n),iG ((atV f day).bill.ten.unit),iG ((atV f day).bill.day),iG ((atV f day).bill.city),iG ((atV f day).bill.pay),iG ((atV f day).bill.need),iG ((atV f day).bill.rate),iG ((atV f day).bill.flags),iG ((atV f day).bill.parts),.d (.row dF sgC ((atV f day).bF)),.d (.row dF alC ((atV f day).bH)),.d (.row dF acC ((atV f day).acts)),.d (.row dF fcC ((atV f day).facts))])),(4,some (.mp (P'.map UB))),(6,some (.row 55 9 (dF:Clm) clC (z.1) 0))]) P trivial ?_ ?_ (zQk M)
  ·rintro r0 done kk v rest P' hperm _
   obtain ⟨e,he,hek⟩:=List.mem_map.1 (hperm.mem_iff.1 (List.mem_append_right _ List.mem_cons_self))
   simp only[jW,Prod.mk.injEq]at hek
   obtain ⟨rfl,rfl⟩:=hek
   refine WH env false [] [8,9,10,12,14,16,21,32,33,34,85] ?_
   refine zG env true [.look (.int .i64 ((uo e P').getD 0)) (uo e P').isSome,.mp ((zKp e (mnI 1099511627776 (IntKind.i64.wrap ((uo e P').getD 0+((atV f day).acts.getD k dF).sum))) P').map UB)] [8,9,10,12,14,16,32,33,34,85] ?_ (hp:=by simp only[zC];repeat' first|exact ZCy _ _|exact ZCp _ _ _|exact trivial|apply And.intro)
   exact vo (zKp e (mnI 1099511627776 (IntKind.i64.wrap ((uo e P').getD 0+((atV f day).acts.getD k dF).sum))) P') trivial
  intro done P' _ _
  refine gE [8,9,10,11,12,32,33,34] ?_
  refine gP [] [8,9,10,11,12,32,33,34] ?_
  exact zD (z.1,P',k+1) ⟨hk2,hnx.symm,hto.1,by dsimp only;omega⟩ (hp:=t43) (hm:=by dsimp only;omega)
 have e:k=(atV f day).acts.length:=by omega
 rw[e,List.take_length]at hacc
 refine gE [8,9] ?_
 have hV:acc=ZE r bK f day:=hacc
 refine yj env [.sl 0 9 0 (ZE r bK f day).length,.junk] (hp:= ?_)
 simp only[zC,<-hV]
 repeat' first|exact trivial|exact rfl|(simp;done)|apply And.intro
theorem zId (r:Rlm) (bK:Int) (f:Fil) (day:Int) (hR:RR r) (hF:FitFi f) (hB:yY f) (hd:YB f) (hw:vK r f) (hp:0<=f.bill.pay/\f.bill.pay<r.bB.length):GM Tryz.prog 12 [rlG r,iG bK,fiG f,iG day] [] (.sl 0 9 0 (ZE r bK f day).length) [some (.row 55 9 dF clC (ZE r bK f day) 0)]:=by
 refine ZX Tryz.func12 ?_
 refine gE [1,3,4,6,8] ?_
 refine gR [.callm [] (zPm r bK f day hR hF hB hd hw hp)] [8,9] ?_
 refine gE [8] ?_
 refine yj env [.sl 0 9 0 (ZE r bK f day).length] (hp:= ?_)
 simp only[zC]
 repeat' first|exact trivial|exact rfl|(simp;done)|apply And.intro
theorem zPr (r:Rlm) (bK:Int) (f:Fil) (day:Int) (hF:FitFi f) (hd:YB f):(ZE r bK f day).length<=1003001000:=by
 have h0:=zCg r bK f day hF hd
 have hF2:=hF.at_ day
 have:∀(l:List Act) (b:List Clm),qh (atV f day).bF.length (zDe f day) b->(l.foldl (jk (atV f day)) b).length<=b.length+1000*l.length:=by
  intro l
  induction l with
  |nil=>intro b _;simp
  |cons a l ih=>
   intro b hb
   have h1:=vV (g:=atV f day) a hb
   have h2:=ih _ h1.1
   have h3:=hF2.bF
   simp only[List.foldl_cons,List.length_cons]
   omega
 have h1:=this (atV f day).acts _ (wP r bK f day)
 have h3:=hF2.acts
 unfold ZE
 omega
def WA (r:Rlm) (bK:Int) (f:Fil) (c:Clm) (day:Int) (k1:Nat):Int×Int:=if k1<f.acts.length then if (bif (bif decide (((f.acts.getD k1 dF).kind)=6)then decide (((f.acts.getD k1 dF).who)=c.bI)else false)then decide (((f.acts.getD k1 dF).at_)=c.by_)else false)=true then (15,(f.acts.getD k1 dF).day)else WA r bK f c day (k1+1)else (14,(zVd r bK f day))
termination_by f.acts.length-k1
def qA (r:Rlm) (bK:Int) (f:Fil) (c:Clm) (day:Int):Int×Int:=if c.turn=0 then (13,(ZT r bK f day))else WA r bK f c day 0
theorem zXm (r:Rlm) (bK:Int) (f:Fil) (c:Clm) (day:Int) (hR:RR r) (hF:FitFi f) (hp:0<=f.bill.pay/\f.bill.pay<r.bB.length):GC Tryz.prog 92 [rlG r,iG bK,fiG f,clG c,iG day] (.tup [iG ((qA r bK f c day).1),iG ((qA r bK f c day).2)]):=by
 have hr:=hR.right.fit
 have h1:=hr.bD
 have h2:=hr.bB
 have h3:=hr.bC
 have g3:=hF.acts
 refine zA Tryz.func92 ?_
 refine gE [1,4,5,7,8,10,11] ?_
 refine gE [1,4,5,7,8,10,11,16] ?_
 refine zB ?_ ?_<;>intro c1<;>try simp only[toN]at c1
 ·refine gR [.call (vi r bK f day hR (by first|assumption|exact FitFi.at_ t12 _|exact FitFi.nof t12|exact FitFi.nof (FitFi.at_ t12 _)))] [1,4,5,7,8,10,11] ?_
  refine gT ?_
  rw[qA,iP c1];rfl
 refine gE [1,4,5,7,8,10,11,23,24,25] ?_
 refine zI (α:=Nat) (fun x=>x<=f.acts.length/\WA r bK f c day 0=WA r bK f c day x) (fun x=>[(25,iG x)]) (fun x=>[]) (fun x=>f.acts.length-x) 0 ⟨by (try simp only[]);omega,rfl⟩ ?_ (hp:=t41)
 rintro k1 ⟨hi1,he⟩
 refine gE [1,4,5,7,8,10,11,23,24,25,26] ?_
 refine zB ?_ ?_<;>intro c2<;>try simp only[toN]at c2
 ·refine gE [1,4,5,7,8,10,11,13,23,24,25] ?_
  refine gE [1,4,5,7,8,10,11,13,23,24,25,45] ?_
  refine zF ?_ ?_<;>intro c3<;>try simp only[bb,toN]at c3
  ·refine gE [1,4,5,7,8,10,11,23,24,25] ?_
   refine gT ?_
   rw[qA,iQ c1,he,WA,iP t11,iP (by (try simp only[bb,toN]);exact c3)];rfl
  refine gE [1,4,5,7,8,10,11,23,24,25] ?_
  refine zD (k1+1) ?_ (hp:=t41)
  refine ⟨by (try simp only[]);omega,he.trans ?_⟩
  rw[WA,iP t11,iN (by (try simp only[bb,toN]);exact c3)]
  try rfl
 refine gR [.call (ZAo r bK f day hR (by first|assumption|exact FitFi.at_ t12 _|exact FitFi.nof t12|exact FitFi.nof (FitFi.at_ t12 _)))] [10,11] ?_
 refine gT ?_
 rw[qA,iQ c1,he,WA,iQ t11];rfl
def Ji (r:Rlm) (bK:Int) (f:Fil) (c:Clm) (day:Int) (a16_1:Int) (k1:Nat):Int×Int:=if k1<((atV f day).acts).length then if (bif (bif (zIs (((atV f day).acts).getD k1 dF) c)then decide (((qA r bK (atV f day) c day).2)<=((((atV f day).acts).getD k1 dF).day))else false)then decide (((((atV f day).acts).getD k1 dF).day)<=a16_1)else false)=true then Ji r bK f c day (IntKind.i64.wrap (((((atV f day).acts).getD k1 dF).day)+(((qQ r bK ((qA r bK (atV f day) c day).1) (⟨(atV f day),c.sign,c.sign,(-1),(ZT r bK (atV f day) day),day⟩:Cas)).cell).n))) (k1+1)else Ji r bK f c day a16_1 (k1+1)else (a16_1,0)
termination_by ((atV f day).acts).length-k1
def Wj (r:Rlm) (bK:Int) (f:Fil) (c:Clm) (day:Int):Int×Int:=if (bif decide (c.sign<0)then true else decide ((((atV f day).bF).length:Int)<=c.sign))=true then (0,1)else if (bif (!decide (((qQ r bK ((qA r bK (atV f day) c day).1) (⟨(atV f day),c.sign,c.sign,(-1),(ZT r bK (atV f day) day),day⟩:Cas)).err)=0))then true else decide (((qA r bK (atV f day) c day).2)=(-1)))=true then (0,4)else if (!((qQ r bK ((qA r bK (atV f day) c day).1) (⟨(atV f day),c.sign,c.sign,(-1),(ZT r bK (atV f day) day),day⟩:Cas)).cell).known)=true then (0,17)else Ji r bK f c day (IntKind.i64.wrap (((qA r bK (atV f day) c day).2)+(((qQ r bK ((qA r bK (atV f day) c day).1) (⟨(atV f day),c.sign,c.sign,(-1),(ZT r bK (atV f day) day),day⟩:Cas)).cell).n))) 0
theorem zXz (r:Rlm) (bK:Int) (f:Fil) (c:Clm) (day:Int) (hR:RR r) (hF:FitFi f) (hp:0<=f.bill.pay/\f.bill.pay<r.bB.length):GC Tryz.prog 63 [rlG r,iG bK,fiG f,clG c,iG day] (.tup [iG ((Wj r bK f c day).1),iG ((Wj r bK f c day).2)]):=by
 have hr:=hR.right.fit
 have h1:=hr.bD
 have h2:=hr.bB
 have h3:=hr.bC
 have hF2:=hF.at_ day
 have g1:(atV f day).bF.length<=1000:=hF2.bF
 have g3:(atV f day).acts.length<=1000:=hF2.acts
 have hp2:0<=(atV f day).bill.pay/\(atV f day).bill.pay<r.bB.length:=by rw[Zb];exact hp
 refine zA Tryz.func63 ?_
 refine gE [1,4,5,7,8,10,11] ?_
 refine gR [.call (JB f day (by first|assumption|exact FitFi.at_ t12 _))] [1,4,5,7,8,10,11] ?_
 refine gE [1,4,5,7,8,10,11,32] ?_
 refine zF ?_ ?_<;>intro c1<;>try simp only[bb,toN]at c1
 ·refine gE [1,4,5,7,8,10,11] ?_
  refine gT ?_
  rw[Wj,iP (by (try simp only[bb,toN]);exact c1)];rfl
 refine gR [.call (zXm r bK (atV f day) c day hR (by first|assumption|exact FitFi.at_ t12 _|exact FitFi.nof t12|exact FitFi.nof (FitFi.at_ t12 _)) (by first|assumption|exact hp2))] [1,4,5,7,8,10,11,12,13] ?_
 refine gR [.call (vi r bK (atV f day) day hR (by first|assumption|exact FitFi.at_ t12 _|exact FitFi.nof t12|exact FitFi.nof (FitFi.at_ t12 _)))] [1,4,5,7,8,10,11,12,13,14] ?_
 refine gR [.call (WP r bK ((qA r bK (atV f day) c day).1) (⟨(atV f day),c.sign,c.sign,(-1),(ZT r bK (atV f day) day),day⟩:Cas) hR (by first|assumption|exact FitFi.at_ t12 _|exact FitFi.nof t12|exact FitFi.nof (FitFi.at_ t12 _)))] [7,8,10,11,13,15] ?_
 refine gE [7,8,10,11,13,15,59] ?_
 refine zF ?_ ?_<;>intro c2<;>try simp only[bb,toN]at c2
 ·refine gE [7,8,10,11,13,15] ?_
  refine gT ?_
  rw[Wj,iN (by (try simp only[bb,toN]);exact c1),iP (by (try simp only[bb,toN]);exact c2)];rfl
 refine gE [7,8,10,11,13,15,67] ?_
 refine zF ?_ ?_<;>intro c3<;>try simp only[bb,toN]at c3
 ·refine gE [7,8,10,11,13,15] ?_
  refine gT ?_
  rw[Wj,iN (by (try simp only[bb,toN]);exact c1),iN (by (try simp only[bb,toN]);exact c2),iP (by (try simp only[bb,toN]);exact c3)];rfl
 refine zG env true [] [7,8,10,11,13,15,16] ?_
 refine gE [8,10,11,13,15,16,78,79,80] ?_
 refine zI (α:=Int×Nat) (fun x=>x.2<=((atV f day).acts).length/\Ji r bK f c day (IntKind.i64.wrap (((qA r bK (atV f day) c day).2)+(((qQ r bK ((qA r bK (atV f day) c day).1) (⟨(atV f day),c.sign,c.sign,(-1),(ZT r bK (atV f day) day),day⟩:Cas)).cell).n))) 0=Ji r bK f c day x.1 x.2) (fun x=>[(16,iG x.1),(80,iG x.2)]) (fun x=>[]) (fun x=>((atV f day).acts).length-x.2) (IntKind.i64.wrap (((qA r bK (atV f day) c day).2)+(((qQ r bK ((qA r bK (atV f day) c day).1) (⟨(atV f day),c.sign,c.sign,(-1),(ZT r bK (atV f day) day),day⟩:Cas)).cell).n)),0) ⟨by (try simp only[]);omega,rfl⟩ ?_ (hp:=t41)
 rintro ⟨a16_1,k1⟩ ⟨hi1,he⟩
 dsimp only at*
 refine gE [8,10,11,13,15,16,78,79,80,81] ?_
 refine zB ?_ ?_<;>intro c4<;>try simp only[toN]at c4
 ·refine gE [8,10,11,13,15,16,18,78,79,80] ?_
  refine gR [.call (zYe (((atV f day).acts).getD k1 dF) c)] [8,10,11,13,15,16,18,78,79,80,98] ?_
  refine zF ?_ ?_<;>intro c5<;>try simp only[bb,toN]at c5
  ·refine zG env true [] [8,10,11,13,15,16,78,79,80] ?_
   refine gE [8,10,11,13,15,16,78,79,80] ?_
   refine zD ((IntKind.i64.wrap (((((atV f day).acts).getD k1 dF).day)+(((qQ r bK ((qA r bK (atV f day) c day).1) (⟨(atV f day),c.sign,c.sign,(-1),(ZT r bK (atV f day) day),day⟩:Cas)).cell).n)),k1+1)) ?_ (hp:=t41) (hm:=by dsimp only;omega)
   refine ⟨by (try simp only[]);omega,he.trans ?_⟩
   rw[Ji,iP t11,iP (by (try simp only[bb,toN]);exact c5)]
   try rfl
  refine gE [8,10,11,13,15,16,78,79,80] ?_
  refine zD ((a16_1,k1+1)) ?_ (hp:=t41) (hm:=by dsimp only;omega)
  refine ⟨by (try simp only[]);omega,he.trans ?_⟩
  rw[Ji,iP t11,iN (by (try simp only[bb,toN]);exact c5)]
  try rfl
 refine gE [10,11] ?_
 refine gT ?_
 rw[Wj,iN (by (try simp only[bb,toN]);exact c1),iN (by (try simp only[bb,toN]);exact c2),iN (by (try simp only[bb,toN]);exact c3),he,Ji,iQ t11];rfl
def zAx (r:Rlm) (bK:Int) (f:Fil) (c:Clm) (day:Int):Int:=if ((Wj r bK f c day).2)=17 then 2 else if (bif decide (((Wj r bK f c day).2)=0)then decide (((Wj r bK f c day).1)<day)else false)=true then 1 else 0
theorem zRv (r:Rlm) (bK:Int) (f:Fil) (c:Clm) (day:Int) (hR:RR r) (hF:FitFi f) (hp:0<=f.bill.pay/\f.bill.pay<r.bB.length):GC Tryz.prog 26 [rlG r,iG bK,fiG f,clG c,iG day] (iG (zAx r bK f c day)):=by
 refine zA Tryz.func26 ?_
 refine gE [1,4,5,7,8,10] ?_
 refine gR [.call (zXz r bK f c day hR (by first|assumption|exact FitFi.at_ t12 _|exact FitFi.nof t12|exact FitFi.nof (FitFi.at_ t12 _)) t12)] [4,10,11,12] ?_
 refine gE [4,10,11,12,22] ?_
 refine zB ?_ ?_<;>intro c1<;>try simp only[toN]at c1
 ·refine gE [10] ?_
  refine gT ?_
  rw[zAx,iP c1];rfl
 refine gE [10,25] ?_
 refine zF ?_ ?_<;>intro c2<;>try simp only[bb,toN]at c2
 ·refine gE [10] ?_
  refine gT ?_
  rw[zAx,iQ c1,iP (by (try simp only[bb,toN]);exact c2)];rfl
 refine gE [10] ?_
 refine gT ?_
 rw[zAx,iQ c1,iN (by (try simp only[bb,toN]);exact c2)];rfl
open Go.IntKind (i64)
def inP (n:Int) (lo:Int) (hi:Int):Bool:=(bif decide (lo<=n)then decide (n<=hi)else false)
theorem t38 {p:Prop} (h:p:=by rw[Bool.not_eq_true];simp only[bb,inP];omega):p:=h
theorem t35 {p:Prop} (h:p:=by simp only[Bool.not_eq_true,bb,inP];omega):p:=h
theorem ZQ (n:Int) (lo:Int) (hi:Int):GC Tryz.prog 32 [iG n,iG lo,iG hi] (bG (inP n lo hi)):=by
 refine zA Tryz.func32 ?_
 refine gE [0,1,2,6] ?_
 refine gE [6] ?_
 refine gT ?_
 rw[inP];rfl
theorem zL {n lo hi:Int} :inP n lo hi=true↔lo<=n/\n<=hi:=by simp[inP,Bool.cond_false_right]
theorem t10 {p:Prop} (h:p:=by simp only[zC,bb,toN,zL,loI,hiI];repeat' first|exact trivial|exact zH.refl _|exact zE.refl _|exact rfl|omega|apply And.intro|intro _):p:=h
def WV (f:Fil) (i:Int) (part:Int):Bool:=(bif decide (i=0)then true else decide (((f.bF.getD i.toNat dF).part)=part))
theorem zHr (f:Fil) (i:Int) (part:Int) (hi:0<=i/\i<f.bF.length):GC Tryz.prog 120 [fiG f,iG i,iG part] (bG (WV f i part)):=by
 refine zA Tryz.func120 ?_
 refine gE [1,2,3,6] ?_
 refine gE [6] ?_
 refine gT ?_
 rw[WV];rfl
def zNr (f:Fil) (i:Int) (kinds:List Int):Bool:=(bif (bif (inP ((f.bF.getD i.toNat dF).for_) 0 (i-1))then (WV f ((f.bF.getD i.toNat dF).for_) ((f.bF.getD i.toNat dF).part))else false)then (qv kinds ((f.bF.getD (((f.bF.getD i.toNat dF).for_).toNat) dF).kind))else false)
theorem zJl (f:Fil) (i:Int) (kinds:List Int) (hF:FitFi f) (hk:kinds.length<=1000) (hi:0<=i/\i<f.bF.length):GC Tryz.prog 119 [fiG f,iG i,.d (.row dF inC kinds)] (bG (zNr f i kinds)):=by
 have g1:=hF.bF
 refine zA Tryz.func119 ?_
 refine gE [1,2,3,6] ?_ (hp:=t10)
 refine gE [1,2,3,6,7] ?_ (hp:=t10)
 refine gR [.call (ZQ ((f.bF.getD i.toNat dF).for_) 0 (i-1)),.callq (Q:=0<=((f.bF.getD i.toNat dF).for_)/\((f.bF.getD i.toNat dF).for_)<(f.bF.length:Int)) (fun hq=>zHr f ((f.bF.getD i.toNat dF).for_) ((f.bF.getD i.toNat dF).part) hq),.call ((fun l x h=>zh l h x) kinds ((f.bF.getD (((f.bF.getD i.toNat dF).for_).toNat) dF).kind) t17)] [6] ?_ (hp:=t10)
 refine gT ?_
 rw[zNr];rfl
def Qp (r:Rlm) (f:Fil) (i:Int):Bool:=if (bif (!(decide (i=0)==decide (((f.bF.getD i.toNat dF).kind)=0)))then true else (bif (!decide (((f.bF.getD i.toNat dF).kind)=2))then (!decide (((f.bF.getD i.toNat dF).to_)=(-1)))else false))=true then false else if (bif (bif (!decide (((f.bF.getD i.toNat dF).kind)=3))then (!decide (((f.bF.getD i.toNat dF).kind)=4))else false)then (!decide (((f.bF.getD i.toNat dF).for_)=(-1)))else false)=true then false else if ((f.bF.getD i.toNat dF).kind)=0 then (bif (bif (bif (bif (bif decide (((f.bF.getD i.toNat dF).who)=f.bill.bP)then decide (((f.bF.getD i.toNat dF).sum)=0)else false)then decide ((orI .i64 ((f.bF.getD i.toNat dF).flags) 1)=1)else false)then decide (((f.bF.getD i.toNat dF).part)=0)else false)then decide (((f.bF.getD i.toNat dF).day)=f.bill.day)else false)then decide (((f.bF.getD i.toNat dF).city)=f.bill.city)else false)else if ((f.bF.getD i.toNat dF).kind)=1 then (bif decide (((f.bF.getD i.toNat dF).who)=f.bill.bO)then (bif (inP ((f.bF.getD i.toNat dF).sum) 1 1099511627776)then decide (((f.bF.getD i.toNat dF).flags)=0)else false)else false)else if ((f.bF.getD i.toNat dF).kind)=2 then (bif (bif (bif (inP ((f.bF.getD i.toNat dF).to_) (-1) (i64.wrap ((r.bC.length:Int)-1)))then decide (((f.bF.getD i.toNat dF).sum)=0)else false)then (inP ((f.bF.getD i.toNat dF).flags) 0 7)else false)then (!decide ((YA .i64 ((f.bF.getD i.toNat dF).flags) 6)=6))else false)else if ((f.bF.getD i.toNat dF).kind)=3 then (bif (bif decide (((f.bF.getD i.toNat dF).sum)=0)then decide (((f.bF.getD i.toNat dF).flags)=0)else false)then (zNr f i [0,1,2,4])else false)else if ((f.bF.getD i.toNat dF).kind)=4 then (bif (bif (bif (inP ((f.bF.getD i.toNat dF).sum) 1 1099511627776)then decide (((f.bF.getD i.toNat dF).flags)=0)else false)then (!decide (((f.bF.getD i.toNat dF).who)=f.bill.bO))else false)then (zNr f i [0,2])else false)else false
theorem zSt (r:Rlm) (f:Fil) (i:Int) (hr:FitR r) (hF:FitFi f) (hi:0<=i/\i<f.bF.length):GC Tryz.prog 71 [rlG r,fiG f,iG i] (bG (Qp r f i)):=by
 have h1:=hr.bD
 have h2:=hr.bB
 have h3:=hr.bC
 have g1:=hF.bF
 have g2:=hF.bH
 have g3:=hF.acts
 have g4:=hF.facts
 refine zA Tryz.func71 ?_
 refine gE [2,3,4,6] ?_ (hp:=t10)
 refine gE [2,3,4,6,7,8] ?_ (hp:=t10)
 refine gE [2,3,4,6,7,8,34] ?_ (hp:=t10)
 refine zF ?_ ?_<;>intro c1<;>try simp only[bb,toN]at c1
 ·refine gE [2,3,4,6,7,8] ?_ (hp:=t10)
  refine gT ?_
  rw[Qp,iP (by (try simp only[bb,toN]);exact c1)];rfl
 refine gE [2,3,4,6,7,8,47] ?_ (hp:=t10)
 refine zF ?_ ?_<;>intro c2<;>try simp only[bb,toN]at c2
 ·refine gE [2,3,4,6,7,8] ?_ (hp:=t10)
  refine gT ?_
  rw[Qp,iN (by (try simp only[bb,toN]);exact c1),iP (by (try simp only[bb,toN]);exact c2)];rfl
 refine gE [2,3,4,6,7,8,9] ?_ (hp:=t10)
 refine gR [.call (ZQ ((f.bF.getD i.toNat dF).sum) 1 1099511627776)] [2,3,4,6,7,8,9,10] ?_ (hp:=t10)
 refine gE [2,3,4,6,7,8,9,10,65] ?_ (hp:=t10)
 refine gE [2,3,4,6,7,8,9,10,65,66] ?_ (hp:=t10)
 refine zB ?_ ?_<;>intro c3<;>try simp only[toN]at c3
 ·refine gE [6] ?_ (hp:=t10)
  refine gT ?_
  rw[Qp,iN (by (try simp only[bb,toN]);exact c1),iN (by (try simp only[bb,toN]);exact c2),iP c3];rfl
 refine gE [2,3,4,6,7,8,9,10,65,103] ?_ (hp:=t10)
 refine zB ?_ ?_<;>intro c4<;>try simp only[toN]at c4
 ·refine gE [6] ?_ (hp:=t10)
  refine gT ?_
  rw[Qp,iN (by (try simp only[bb,toN]);exact c1),iN (by (try simp only[bb,toN]);exact c2),iQ c3,iP c4];rfl
 refine gE [2,3,4,6,7,8,9,10,65,113] ?_ (hp:=t10)
 refine zB ?_ ?_<;>intro c5<;>try simp only[toN]at c5
 ·refine gE [3,6,7,11] ?_ (hp:=t10)
  refine zG env true [.call (ZQ ((f.bF.getD i.toNat dF).to_) (-1) (i64.wrap ((r.bC.length:Int)-1))),.call (ZQ ((f.bF.getD i.toNat dF).flags) 0 7)] [6] ?_ (hp:=t10)
  refine gT ?_
  rw[Qp,iN (by (try simp only[bb,toN]);exact c1),iN (by (try simp only[bb,toN]);exact c2),iQ c3,iQ c4,iP c5];rfl
 refine gE [2,4,6,7,8,9,10,65,140] ?_ (hp:=t10)
 refine zB ?_ ?_<;>intro c6<;>try simp only[toN]at c6
 ·refine Jn ?_
  refine ZC env false 2 [] ?_
  cases hc:(bif decide ((f.bF.getD i.toNat dF).sum=0)then decide ((f.bF.getD i.toNat dF).flags=0)else false)with
  |true=>
   refine ZC env false 6 [.el dF inC [0,1,2,4],.call (zJl f i [0,1,2,4] t12 (by first|assumption|(simp;done)) t16)] ?_
   refine Yo [6] ?_
   refine gT ?_
   rw[Qp,iN (by (try simp only[bb,toN]);exact c1),iN (by (try simp only[bb,toN]);exact c2),iQ c3,iQ c4,iQ c5,iP c6,hc];rfl
  |false=>
   refine ZC env false 6 [.nb,.no] ?_
   refine Yo [6] ?_
   refine gT ?_
   rw[Qp,iN (by (try simp only[bb,toN]);exact c1),iN (by (try simp only[bb,toN]);exact c2),iQ c3,iQ c4,iQ c5,iP c6,hc];rfl
 refine gE [2,4,6,7,8,10,149] ?_ (hp:=t10)
 refine zB ?_ ?_<;>intro c7<;>try simp only[toN]at c7
 ·refine Jn ?_
  refine ZC env false 9 [] ?_
  cases hc:(bif (bif inP (f.bF.getD i.toNat dF).sum 1 1099511627776 then decide ((f.bF.getD i.toNat dF).flags=0)else false)then !decide ((f.bF.getD i.toNat dF).who=f.bill.bO)else false)with
  |true=>
   refine ZC env false 6 [.el dF inC [0,2],.call (zJl f i [0,2] t12 (by first|assumption|(simp;done)) t16)] ?_
   refine Yo [6] ?_
   refine gT ?_
   rw[Qp,iN (by (try simp only[bb,toN]);exact c1),iN (by (try simp only[bb,toN]);exact c2),iQ c3,iQ c4,iQ c5,iQ c6,iP c7,hc];rfl
  |false=>
   refine ZC env false 6 [.nb,.no] ?_
   refine Yo [6] ?_
   refine gT ?_
   rw[Qp,iN (by (try simp only[bb,toN]);exact c1),iN (by (try simp only[bb,toN]);exact c2),iQ c3,iQ c4,iQ c5,iQ c6,iP c7,hc];rfl
 refine gE [6] ?_ (hp:=t10)
 refine gT ?_
 rw[Qp,iN (by (try simp only[bb,toN]);exact c1),iN (by (try simp only[bb,toN]);exact c2),iQ c3,iQ c4,iQ c5,iQ c6,iQ c7];rfl
def qc (r:Rlm) (f:Fil) (i:Int) (a8_1:Int) (a9_1:Bool) (k1:Nat):Int:=if k1<(f.bF.take i.toNat).length then qc r f i (((f.bF.take i.toNat).getD k1 dF).day) (bif a9_1 then true else (bif (bif decide (((f.bF.getD i.toNat dF).kind)=1)then decide ((((f.bF.take i.toNat).getD k1 dF).kind)=1)else false)then decide ((((f.bF.take i.toNat).getD k1 dF).part)=((f.bF.getD i.toNat dF).part))else false)) (k1+1)else if (bif (!(inP ((f.bF.getD i.toNat dF).day) a8_1 100000))then true else (bif decide (i=0)then (!decide (((f.bF.getD i.toNat dF).day)=a8_1))else false))=true then 13 else if (!(Qp r f i))=true then 14 else if a9_1=true then 5 else 0
termination_by (f.bF.take i.toNat).length-k1
decreasing_by all_goals first|omega|(simp only[bb]at*;omega)
def JZ (r:Rlm) (f:Fil) (i:Int):Int:=if (!(inP ((f.bF.getD i.toNat dF).part) 0 (i64.wrap (f.bill.parts-1))))=true then 15 else if (bif (!(inP ((f.bF.getD i.toNat dF).who) 0 (i64.wrap ((r.bC.length:Int)-1))))then true else (!(inP ((f.bF.getD i.toNat dF).city) 0 (i64.wrap ((r.bB.length:Int)-1)))))=true then 1 else qc r f i f.bill.day false 0
theorem zPc (r:Rlm) (f:Fil) (i:Int) (hr:FitR r) (hF:FitFi f) (hi:0<=i/\i<f.bF.length):GC Tryz.prog 31 [rlG r,fiG f,iG i] (iG (JZ r f i)):=by
 have h1:=hr.bD
 have h2:=hr.bB
 have h3:=hr.bC
 have g1:=hF.bF
 have g2:=hF.bH
 have g3:=hF.acts
 have g4:=hF.facts
 have hcut:zGc f.bF none (some i)=f.bF.take i.toNat:=by simp[zGc,loI,hiI]
 have htl:(f.bF.take i.toNat).length=i.toNat:=by rw[List.length_take];omega
 refine zA Tryz.func31 ?_
 refine gE [2,3,4,6] ?_ (hp:=t10)
 refine gE [2,3,4,6,7] ?_ (hp:=t10)
 refine zG env true [.call (ZQ ((f.bF.getD i.toNat dF).part) 0 (i64.wrap (f.bill.parts-1)))] [2,3,4,6,7,24] ?_ (hp:=t10)
 refine zF ?_ ?_<;>intro c1<;>try simp only[bb,toN]at c1
 ·refine gE [2,3,4,6,7] ?_ (hp:=t10)
  refine gT ?_
  rw[JZ,iP (by (try simp only[bb,toN]);exact c1)];rfl
 refine zG env true [.call (ZQ ((f.bF.getD i.toNat dF).who) 0 (i64.wrap ((r.bC.length:Int)-1))),.call (ZQ ((f.bF.getD i.toNat dF).city) 0 (i64.wrap ((r.bB.length:Int)-1)))] [2,3,4,6,7,42] ?_ (hp:=t10)
 refine zF ?_ ?_<;>intro c2<;>try simp only[bb,toN]at c2
 ·refine gE [2,3,4,6,7] ?_ (hp:=t10)
  refine gT ?_
  rw[JZ,iN (by (try simp only[bb,toN]);exact c1),iP (by (try simp only[bb,toN]);exact c2)];rfl
 refine gE [2,3,4,6,7,8,9] ?_ (hp:=t10)
 refine gE [2,3,4,6,7,8,9,49,50,51] ?_ (hp:=t10)
 refine zI (α:=Int×Bool×Nat) (fun x=>x.2.2<=(f.bF.take i.toNat).length/\qc r f i f.bill.day false 0=qc r f i x.1 x.2.1 x.2.2) (fun x=>[(8,iG x.1),(9,bG x.2.1),(51,iG x.2.2)]) (fun x=>[]) (fun x=>(f.bF.take i.toNat).length-x.2.2) (f.bill.day,false,0) ⟨by (try simp only[]);omega,rfl⟩ ?_ (hp:=t40)
 rintro ⟨a8_1,a9_1,k1⟩ ⟨hi1,he⟩
 dsimp only at*
 simp only[hcut]
 refine gE [2,3,4,6,7,8,9,49,50,51,52] ?_ (hp:=t10)
 refine zB ?_ ?_<;>intro c3<;>try simp only[toN]at c3
 ·refine gE [2,3,4,6,7,8,9,11,49,50,51] ?_ (hp:=t10)
  refine gE [2,3,4,6,7,8,9,11,49,50,51] ?_ (hp:=t10)
  refine gE [2,3,4,6,7,8,9,49,50,51] ?_ (hp:=t10)
  refine gE [2,3,4,6,7,8,9,49,50,51] ?_ (hp:=t10)
  refine zD ((((f.bF.take i.toNat).getD k1 dF).day,(bif a9_1 then true else (bif (bif decide (((f.bF.getD i.toNat dF).kind)=1)then decide ((((f.bF.take i.toNat).getD k1 dF).kind)=1)else false)then decide ((((f.bF.take i.toNat).getD k1 dF).part)=((f.bF.getD i.toNat dF).part))else false)),k1+1)) ?_ (hp:=t40) (hm:=by dsimp only;omega)
  refine ⟨by (try simp only[]);omega,he.trans ?_⟩
  rw[qc,iP t11]
  try rfl
 refine gR [.call (ZQ ((f.bF.getD i.toNat dF).day) a8_1 100000)] [2,3,4,6,9,76] ?_ (hp:=t10)
 refine zF ?_ ?_<;>intro c4<;>try simp only[bb,toN]at c4
 ·refine gE [6] ?_ (hp:=t10)
  refine gT ?_
  rw[JZ,iN (by (try simp only[bb,toN]);exact c1),iN (by (try simp only[bb,toN]);exact c2),he,qc,iQ t11,iP (by (try simp only[bb,toN]);exact c4)];rfl
 refine gR [.call (zSt r f i t12 t12 t16)] [6,9,92] ?_ (hp:=t10)
 refine zF ?_ ?_<;>intro c5<;>try simp only[bb,toN]at c5
 ·refine gE [6] ?_ (hp:=t10)
  refine gT ?_
  rw[JZ,iN (by (try simp only[bb,toN]);exact c1),iN (by (try simp only[bb,toN]);exact c2),he,qc,iQ t11,iN (by (try simp only[bb,toN]);exact c4),iP (by (try simp only[bb,toN]);exact c5)];rfl
 refine gE [6,98] ?_ (hp:=t10)
 refine zF ?_ ?_<;>intro c6<;>try simp only[bb,toN]at c6
 ·refine gE [6] ?_ (hp:=t10)
  refine gT ?_
  rw[JZ,iN (by (try simp only[bb,toN]);exact c1),iN (by (try simp only[bb,toN]);exact c2),he,qc,iQ t11,iN (by (try simp only[bb,toN]);exact c4),iN (by (try simp only[bb,toN]);exact c5),iP (by (try simp only[bb,toN]);exact c6)];rfl
 refine gE [6] ?_ (hp:=t10)
 refine gT ?_
 rw[JZ,iN (by (try simp only[bb,toN]);exact c1),iN (by (try simp only[bb,toN]);exact c2),he,qc,iQ t11,iN (by (try simp only[bb,toN]);exact c4),iN (by (try simp only[bb,toN]);exact c5),iN (by (try simp only[bb,toN]);exact c6)];rfl
def Zz (r:Rlm) (f:Fil) (a:Act) (j65_1:Bool) (j80_2:Bool):Bool:=if j80_2=true then (bif (bif (bif (inP a.to_ 0 ((r.bC.length:Int)-1))then decide (a.at_=(-1))else false)then (inP a.sum 0 1099511627776)else false)then (inP a.form 0 1)else false)else if a.kind=6 then (bif (bif (inP a.to_ 0 ((r.bC.length:Int)-1))then (bif (bif (inP a.at_ 0 ((f.bF.length:Int)-1))then (WV f a.at_ a.part)else false)then decide (((f.bF.getD a.at_.toNat dF).who)=a.who)else false)else false)then (inP a.sum 1 1099511627776)else false)else if a.kind=9 then (bif (bif decide (a.to_=(-1))then (bif (bif (inP a.at_ 0 ((f.bF.length:Int)-1))then (WV f a.at_ a.part)else false)then decide (((f.bF.getD a.at_.toNat dF).who)=a.who)else false)else false)then decide (a.sum=0)else false)else (bif (bif decide (a.to_=(-1))then (bif (inP a.at_ 0 ((f.bF.length:Int)-1))then (WV f a.at_ a.part)else false)else false)then decide (a.sum=0)else false)
def Zt (r:Rlm) (f:Fil) (a:Act) (j65_1:Bool):Bool:=if j65_1=true then (bif (bif (inP a.to_ 0 ((r.bC.length:Int)-1))then decide (a.at_=(-1))else false)then decide (a.sum=0)else false)else if a.kind=3 then Zz r f a j65_1 (decide (a.kind=3))else if a.kind=5 then Zz r f a j65_1 (decide (a.kind=5))else Zz r f a j65_1 (decide (a.kind=4))
def VZ (r:Rlm) (f:Fil) (a:Act):Bool:=if (bif (!(inP a.who 0 ((r.bC.length:Int)-1)))then true else (bif (!decide (a.kind=4))then (!decide (a.form=0))else false))=true then false else if a.kind=0 then Zt r f a (decide (a.kind=0))else if a.kind=1 then Zt r f a (decide (a.kind=1))else Zt r f a (decide (a.kind=2))
theorem ZAn (r:Rlm) (f:Fil) (a:Act) (hr:FitR r) (hF:FitFi f):GC Tryz.prog 72 [rlG r,fiG f,acG a] (bG (VZ r f a)):=by
 have h1:=hr.bD
 have h2:=hr.bB
 have h3:=hr.bC
 have g1:=hF.bF
 have g2:=hF.bH
 have g3:=hF.acts
 have g4:=hF.facts
 refine zA Tryz.func72 ?_
 refine gE [3,4,5,6] ?_ (hp:=t10)
 refine gR [.call (ZQ a.at_ 0 ((f.bF.length:Int)-1)),.callq (Q:=0<=a.at_/\a.at_<(f.bF.length:Int)) (fun hq=>zHr f a.at_ a.part hq)] [3,4,5,6,7] ?_ (hp:=t10)
 refine gE [3,5,6,7,8] ?_ (hp:=t10)
 refine gR [.call (ZQ a.to_ 0 ((r.bC.length:Int)-1))] [3,5,6,7,8,9] ?_ (hp:=t10)
 refine gR [.call (ZQ a.who 0 ((r.bC.length:Int)-1))] [5,6,7,8,9,62] ?_ (hp:=t10)
 refine zF ?_ ?_<;>intro c1<;>try simp only[bb,toN]at c1
 ·refine gE [5,6,7,8,9] ?_ (hp:=t10)
  refine gT ?_
  rw[VZ,iP (by (try simp only[bb,toN]);exact c1)];rfl
 refine gE [5,6,7,8,9,64] ?_ (hp:=t10)
 refine gE [5,6,7,8,9,64,65] ?_ (hp:=t10)
 refine yO (α:=Bool) (fun x=>VZ r f a=Zt r f a x) (fun x=>⟨[(5,.ptr 2 0 0 0),(6,bG false),(7,bG (bif (inP a.at_ 0 ((f.bF.length:Int)-1))then (WV f a.at_ a.part)else false)),(8,bG (bif (bif (inP a.at_ 0 ((f.bF.length:Int)-1))then (WV f a.at_ a.part)else false)then decide (((f.bF.getD a.at_.toNat dF).who)=a.who)else false)),(9,bG (inP a.to_ 0 ((r.bC.length:Int)-1))),(64,iG a.kind),(65,bG x)],[(0,some (.box [.d (.row dF zf r.bA),.d (.row dF ctC r.bB),.d (.row dF inC r.groups),.d (.row dF fmC r.bC),.d (.row dF odC r.bD),.d (.row dF usC r.bE),.d (.row dF rtC r.rates),.d (.row dF htC r.halts)])),(1,some (.box [iG f.bill.bP,iG f.bill.bO,iG f.bill.bQ,iG f.bill.sum,iG f.bill.cur,iG f.bill.ten.kind,iG f.bill.ten.n,iG f.bill.ten.unit,iG f.bill.day,iG f.bill.city,iG f.bill.pay,iG f.bill.need,iG f.bill.rate,iG f.bill.flags,iG f.bill.parts,.d (.row dF sgC f.bF),.d (.row dF alC f.bH),.d (.row dF acC f.acts),.d (.row dF fcC f.facts)])),(2,some (.box [iG a.kind,iG a.who,iG a.to_,iG a.part,iG a.at_,iG a.sum,iG a.day,iG a.city,iG a.form]))],3⟩) ?_ ?_
 ·rintro j65_1 hjc1
  refine zF ?_ ?_<;>intro c2<;>try simp only[bb,toN]at c2
  ·refine gE [5,6,7] ?_ (hp:=t10)
   refine gT ?_
   rw[hjc1,Zt,iP (by (try simp only[bb,toN]);exact c2)];rfl
  refine gE [5,6,7,8,9,64,80] ?_ (hp:=t10)
  refine yO (α:=Bool) (fun x=>VZ r f a=Zz r f a j65_1 x) (fun x=>⟨[(5,.ptr 2 0 0 0),(6,bG false),(7,bG (bif (inP a.at_ 0 ((f.bF.length:Int)-1))then (WV f a.at_ a.part)else false)),(8,bG (bif (bif (inP a.at_ 0 ((f.bF.length:Int)-1))then (WV f a.at_ a.part)else false)then decide (((f.bF.getD a.at_.toNat dF).who)=a.who)else false)),(9,bG (inP a.to_ 0 ((r.bC.length:Int)-1))),(64,iG a.kind),(80,bG x)],[(0,some (.box [.d (.row dF zf r.bA),.d (.row dF ctC r.bB),.d (.row dF inC r.groups),.d (.row dF fmC r.bC),.d (.row dF odC r.bD),.d (.row dF usC r.bE),.d (.row dF rtC r.rates),.d (.row dF htC r.halts)])),(1,some (.box [iG f.bill.bP,iG f.bill.bO,iG f.bill.bQ,iG f.bill.sum,iG f.bill.cur,iG f.bill.ten.kind,iG f.bill.ten.n,iG f.bill.ten.unit,iG f.bill.day,iG f.bill.city,iG f.bill.pay,iG f.bill.need,iG f.bill.rate,iG f.bill.flags,iG f.bill.parts,.d (.row dF sgC f.bF),.d (.row dF alC f.bH),.d (.row dF acC f.acts),.d (.row dF fcC f.facts)])),(2,some (.box [iG a.kind,iG a.who,iG a.to_,iG a.part,iG a.at_,iG a.sum,iG a.day,iG a.city,iG a.form]))],3⟩) ?_ ?_
  ·rintro j80_2 hjc2
   refine zF ?_ ?_<;>intro c3<;>try simp only[bb,toN]at c3
   ·refine gR [.call (ZQ a.sum 0 1099511627776),.call (ZQ a.form 0 1)] [5,6,7] ?_ (hp:=t10)
    refine gT ?_
    rw[hjc2,Zz,iP (by (try simp only[bb,toN]);exact c3)];rfl
   refine gE [5,6,7,8,9,64,100] ?_ (hp:=t10)
   refine zB ?_ ?_<;>intro c4<;>try simp only[toN]at c4
   ·refine gR [.call (ZQ a.sum 1 1099511627776)] [5,6,7] ?_ (hp:=t10)
    refine gT ?_
    rw[hjc2,Zz,iN (by (try simp only[bb,toN]);exact c3),iP c4];rfl
   refine gE [5,6,7,8,111] ?_ (hp:=t10)
   refine zB ?_ ?_<;>intro c5<;>try simp only[toN]at c5
   ·refine gE [5,6,7] ?_ (hp:=t10)
    refine gT ?_
    rw[hjc2,Zz,iN (by (try simp only[bb,toN]);exact c3),iQ c4,iP c5];rfl
   refine gE [6] ?_ (hp:=t10)
   refine gT ?_
   rw[hjc2,Zz,iN (by (try simp only[bb,toN]);exact c3),iQ c4,iQ c5];rfl
  refine zB ?_ ?_<;>intro c6<;>try simp only[toN]at c6
  ·refine zV (decide (a.kind=3)) ?_ (hp:=t40)
   exact by rw[hjc1,Zt,iN (by (try simp only[bb,toN]);exact c2),iP c6]
  refine gE [5,6,7,8,9,64,80] ?_ (hp:=t10)
  refine zB ?_ ?_<;>intro c7<;>try simp only[toN]at c7
  ·refine zV (decide (a.kind=5)) ?_ (hp:=t40)
   exact by rw[hjc1,Zt,iN (by (try simp only[bb,toN]);exact c2),iQ c6,iP c7]
  refine gE [5,6,7,8,9,64,80] ?_ (hp:=t10)
  refine zV (decide (a.kind=4)) ?_ (hp:=t40)
  exact by rw[hjc1,Zt,iN (by (try simp only[bb,toN]);exact c2),iQ c6,iQ c7]
 refine zB ?_ ?_<;>intro c8<;>try simp only[toN]at c8
 ·refine zV (decide (a.kind=0)) ?_ (hp:=t40)
  exact by rw[VZ,iN (by (try simp only[bb,toN]);exact c1),iP c8]
 refine gE [5,6,7,8,9,64,65] ?_ (hp:=t10)
 refine zB ?_ ?_<;>intro c9<;>try simp only[toN]at c9
 ·refine zV (decide (a.kind=1)) ?_ (hp:=t40)
  exact by rw[VZ,iN (by (try simp only[bb,toN]);exact c1),iQ c8,iP c9]
 refine gE [5,6,7,8,9,64,65] ?_ (hp:=t10)
 refine zV (decide (a.kind=2)) ?_ (hp:=t40)
 exact by rw[VZ,iN (by (try simp only[bb,toN]);exact c1),iQ c8,iQ c9]
theorem ZEx {r:Rlm} {f:Fil} {a:Act} (h:VZ r f a=true) (hm:¬a.at_= -1):0<=a.at_/\a.at_<f.bF.length:=by
 refine Classical.byContradiction fun hn=> ?_
 have ha:inP a.at_ 0 ((f.bF.length:Int)-1)=false:=by rw[<-Bool.not_eq_true,zL];omega
 clear hn
 have k2:∀x y,Zz r f a x y=false:=fun x y=>by unfold Zz;(repeat' split);all_goals simp_all
 have k1:∀x,Zt r f a x=false:=fun x=>by unfold Zt;(repeat' split);all_goals first|exact k2 _ _|(simp_all;done)
 revert h
 unfold VZ
 repeat' split
 all_goals first|(rw[k1];exact Bool.false_ne_true)|simp_all
def Zp (r:Rlm) (f:Fil) (k1:Nat):Int:=if k1<f.acts.length then if (!(inP ((f.acts.getD k1 dF).part) 0 (i64.wrap (f.bill.parts-1))))=true then 15 else if (bif (!(inP ((f.acts.getD k1 dF).city) 0 (i64.wrap ((r.bB.length:Int)-1))))then true else (!(inP ((f.acts.getD k1 dF).kind) 0 9)))=true then 1 else if (!(VZ r f (f.acts.getD k1 dF)))=true then 14 else if ((f.acts.getD k1 dF).at_)=(-1)then if 0<(k1:Int)then if (!(inP ((f.acts.getD k1 dF).day) (mxI f.bill.day ((f.acts.getD (((k1:Int)-1).toNat) dF).day)) 100000))=true then 13 else Zp r f (k1+1)else if (!(inP ((f.acts.getD k1 dF).day) f.bill.day 100000))=true then 13 else Zp r f (k1+1)else if 0<(k1:Int)then if (!(inP ((f.acts.getD k1 dF).day) (mxI (mxI f.bill.day ((f.bF.getD (((f.acts.getD k1 dF).at_).toNat) dF).day)) ((f.acts.getD (((k1:Int)-1).toNat) dF).day)) 100000))=true then 13 else Zp r f (k1+1)else if (!(inP ((f.acts.getD k1 dF).day) (mxI f.bill.day ((f.bF.getD (((f.acts.getD k1 dF).at_).toNat) dF).day)) 100000))=true then 13 else Zp r f (k1+1)else 0
termination_by f.acts.length-k1
def Qv (r:Rlm) (f:Fil):Int:=Zp r f 0
theorem zVa (r:Rlm) (f:Fil) (hr:FitR r) (hF:FitFi f):GC Tryz.prog 33 [rlG r,fiG f] (iG (Qv r f)):=by
 have h1:=hr.bD
 have h2:=hr.bB
 have h3:=hr.bC
 have g1:=hF.bF
 have g2:=hF.bH
 have g3:=hF.acts
 have g4:=hF.facts
 refine zA Tryz.func33 ?_
 refine gE [2,3,4] ?_ (hp:=t10)
 refine gE [2,3,4,9,10,11] ?_ (hp:=t10)
 refine zI (α:=Nat) (fun x=>x<=f.acts.length/\Zp r f 0=Zp r f x) (fun x=>[(11,iG x)]) (fun x=>[]) (fun x=>f.acts.length-x) 0 ⟨by (try simp only[]);omega,rfl⟩ ?_ (hp:=t41)
 rintro k1 ⟨hi1,he⟩
 refine gE [2,3,4,9,10,11,12] ?_ (hp:=t10)
 refine zB ?_ ?_<;>intro c1<;>try simp only[toN]at c1
 ·refine gE [2,3,4,5,6,9,10,11] ?_ (hp:=t10)
  refine zG env true [.call (ZQ ((f.acts.getD k1 dF).part) 0 (i64.wrap (f.bill.parts-1)))] [2,3,4,5,6,9,10,11,23] ?_ (hp:=t10)
  refine zF ?_ ?_<;>intro c2<;>try simp only[bb,toN]at c2
  ·refine gE [2,3,4,5,6,9,10,11] ?_ (hp:=t10)
   refine gT ?_
   rw[Qv,he,Zp,iP (show k1<f.acts.length by omega),iP (by (try simp only[bb,toN]);exact c2)];rfl
  refine zG env true [.call (ZQ ((f.acts.getD k1 dF).city) 0 (i64.wrap ((r.bB.length:Int)-1))),.call (ZQ ((f.acts.getD k1 dF).kind) 0 9)] [2,3,4,5,6,9,10,11,37] ?_ (hp:=t10)
  refine zF ?_ ?_<;>intro c3<;>try simp only[bb,toN]at c3
  ·refine gE [2,3,4,5,6,9,10,11] ?_ (hp:=t10)
   refine gT ?_
   rw[Qv,he,Zp,iP (show k1<f.acts.length by omega),iN (by (try simp only[bb,toN]);exact c2),iP (by (try simp only[bb,toN]);exact c3)];rfl
  refine gR [.call (ZAn r f (f.acts.getD k1 dF) t12 t12)] [2,3,4,5,6,9,10,11,42] ?_ (hp:=t10)
  refine zF ?_ ?_<;>intro c4<;>try simp only[bb,toN]at c4
  ·refine gE [2,3,4,5,6,9,10,11] ?_ (hp:=t10)
   refine gT ?_
   rw[Qv,he,Zp,iP (show k1<f.acts.length by omega),iN (by (try simp only[bb,toN]);exact c2),iN (by (try simp only[bb,toN]);exact c3),iP (by (try simp only[bb,toN]);exact c4)];rfl
  refine gE [2,3,4,5,6,7,9,10,11] ?_ (hp:=t10)
  refine gE [2,3,4,5,6,7,9,10,11,48] ?_ (hp:=t10)
  refine zP ?_ ?_<;>intro c5<;>try simp only[toN]at c5
  ·have hq:=ZEx t12 t12
   refine gE [2,3,4,5,6,7,9,10,11] ?_ (hp:=t10)
   refine gE [2,3,4,5,6,7,9,10,11,59] ?_ (hp:=t10)
   refine zB ?_ ?_<;>intro c6<;>try simp only[toN]at c6
   ·refine gE [2,3,4,6,7,9,10,11] ?_ (hp:=t10)
    refine gR [.call (ZQ ((f.acts.getD k1 dF).day) (mxI (mxI f.bill.day ((f.bF.getD (((f.acts.getD k1 dF).at_).toNat) dF).day)) ((f.acts.getD (((k1:Int)-1).toNat) dF).day)) 100000)] [2,3,4,9,10,11,73] ?_ (hp:=t10)
    refine zF ?_ ?_<;>intro c7<;>try simp only[bb,toN]at c7
    ·refine gE [2,3,4,9,10,11] ?_ (hp:=t10)
     refine gT ?_
     rw[Qv,he,Zp,iP (show k1<f.acts.length by omega),iN (by (try simp only[bb,toN]);exact c2),iN (by (try simp only[bb,toN]);exact c3),iN (by (try simp only[bb,toN]);exact c4),iQ c5,iP c6,iP (by (try simp only[bb,toN]);exact c7)];rfl
    refine gE [2,3,4,9,10,11] ?_ (hp:=t10)
    refine zD (k1+1) ?_ (hp:=t41)
    refine ⟨by (try simp only[]);omega,he.trans ?_⟩
    rw[Zp,iP (show k1<f.acts.length by omega),iN (by (try simp only[bb,toN]);exact c2),iN (by (try simp only[bb,toN]);exact c3),iN (by (try simp only[bb,toN]);exact c4),iQ c5,iP c6,iN (by (try simp only[bb,toN]);exact c7)]
    try rfl
   refine gR [.call (ZQ ((f.acts.getD k1 dF).day) (mxI f.bill.day ((f.bF.getD (((f.acts.getD k1 dF).at_).toNat) dF).day)) 100000)] [2,3,4,9,10,11,73] ?_ (hp:=t10)
   refine zF ?_ ?_<;>intro c8<;>try simp only[bb,toN]at c8
   ·refine gE [2,3,4,9,10,11] ?_ (hp:=t10)
    refine gT ?_
    rw[Qv,he,Zp,iP (show k1<f.acts.length by omega),iN (by (try simp only[bb,toN]);exact c2),iN (by (try simp only[bb,toN]);exact c3),iN (by (try simp only[bb,toN]);exact c4),iQ c5,iQ c6,iP (by (try simp only[bb,toN]);exact c8)];rfl
   refine gE [2,3,4,9,10,11] ?_ (hp:=t10)
   refine zD (k1+1) ?_ (hp:=t41)
   refine ⟨by (try simp only[]);omega,he.trans ?_⟩
   rw[Zp,iP (show k1<f.acts.length by omega),iN (by (try simp only[bb,toN]);exact c2),iN (by (try simp only[bb,toN]);exact c3),iN (by (try simp only[bb,toN]);exact c4),iQ c5,iQ c6,iN (by (try simp only[bb,toN]);exact c8)]
   try rfl
  refine gE [2,3,4,5,6,7,9,10,11,59] ?_ (hp:=t10)
  refine zB ?_ ?_<;>intro c9<;>try simp only[toN]at c9
  ·refine gE [2,3,4,6,7,9,10,11] ?_ (hp:=t10)
   refine gR [.call (ZQ ((f.acts.getD k1 dF).day) (mxI f.bill.day ((f.acts.getD (((k1:Int)-1).toNat) dF).day)) 100000)] [2,3,4,9,10,11,73] ?_ (hp:=t10)
   refine zF ?_ ?_<;>intro c10<;>try simp only[bb,toN]at c10
   ·refine gE [2,3,4,9,10,11] ?_ (hp:=t10)
    refine gT ?_
    rw[Qv,he,Zp,iP (show k1<f.acts.length by omega),iN (by (try simp only[bb,toN]);exact c2),iN (by (try simp only[bb,toN]);exact c3),iN (by (try simp only[bb,toN]);exact c4),iP c5,iP c9,iP (by (try simp only[bb,toN]);exact c10)];rfl
   refine gE [2,3,4,9,10,11] ?_ (hp:=t10)
   refine zD (k1+1) ?_ (hp:=t41)
   refine ⟨by (try simp only[]);omega,he.trans ?_⟩
   rw[Zp,iP (show k1<f.acts.length by omega),iN (by (try simp only[bb,toN]);exact c2),iN (by (try simp only[bb,toN]);exact c3),iN (by (try simp only[bb,toN]);exact c4),iP c5,iP c9,iN (by (try simp only[bb,toN]);exact c10)]
   try rfl
  refine gR [.call (ZQ ((f.acts.getD k1 dF).day) f.bill.day 100000)] [2,3,4,9,10,11,73] ?_ (hp:=t10)
  refine zF ?_ ?_<;>intro c11<;>try simp only[bb,toN]at c11
  ·refine gE [2,3,4,9,10,11] ?_ (hp:=t10)
   refine gT ?_
   rw[Qv,he,Zp,iP (show k1<f.acts.length by omega),iN (by (try simp only[bb,toN]);exact c2),iN (by (try simp only[bb,toN]);exact c3),iN (by (try simp only[bb,toN]);exact c4),iP c5,iQ c9,iP (by (try simp only[bb,toN]);exact c11)];rfl
  refine gE [2,3,4,9,10,11] ?_ (hp:=t10)
  refine zD (k1+1) ?_ (hp:=t41)
  refine ⟨by (try simp only[]);omega,he.trans ?_⟩
  rw[Zp,iP (show k1<f.acts.length by omega),iN (by (try simp only[bb,toN]);exact c2),iN (by (try simp only[bb,toN]);exact c3),iN (by (try simp only[bb,toN]);exact c4),iP c5,iQ c9,iN (by (try simp only[bb,toN]);exact c11)]
  try rfl
 refine gE [4] ?_ (hp:=t10)
 refine gT ?_
 rw[Qv,he,Zp,iQ (show ¬(k1<f.acts.length)by omega)];rfl
def zFa (n:Int):Bool:=(!decide (n=n))
theorem zIk (n:Int):GC Tryz.prog 121 [iG n] (bG (zFa n)):=by
 refine zA Tryz.func121 ?_
 refine gE [0,2] ?_
 refine gE [2] ?_
 refine gT ?_
 rw[zFa];rfl
def jz (m:Int) (n:Int):Int:=if (zFa m)=true then if (zFa n)=true then 0 else (-1)else if (zFa n)=true then 1 else if m<n then (-1)else if n<m then 1 else 0
theorem zJe (m:Int) (n:Int):GC Tryz.prog 74 [iG m,iG n] (iG (jz m n)):=by
 refine zA Tryz.func74 ?_
 refine gE [0,1,4] ?_
 refine gR [.call (zIk m)] [0,1,4,5] ?_
 refine gR [.call (zIk n)] [0,1,4,5,6] ?_
 refine gE [0,1,4,6,11] ?_
 refine zF ?_ ?_<;>intro c1<;>try simp only[bb,toN]at c1
 ·refine gE [0,1,4,6,12] ?_
  refine zF ?_ ?_<;>intro c2<;>try simp only[bb,toN]at c2
  ·refine gE [0,1,4,6] ?_
   refine gT ?_
   rw[jz,iP (by (try simp only[bb,toN]);exact c1),iP (by (try simp only[bb,toN]);exact c2)];rfl
  refine gE [0,1,4,6] ?_
  refine gT ?_
  rw[jz,iP (by (try simp only[bb,toN]);exact c1),iN (by (try simp only[bb,toN]);exact c2)];rfl
 refine gE [0,1,4,13] ?_
 refine zF ?_ ?_<;>intro c3<;>try simp only[bb,toN]at c3
 ·refine gE [0,1,4] ?_
  refine gT ?_
  rw[jz,iN (by (try simp only[bb,toN]);exact c1),iP (by (try simp only[bb,toN]);exact c3)];rfl
 refine gE [0,1,4,16] ?_
 refine zB ?_ ?_<;>intro c4<;>try simp only[toN]at c4
 ·refine gE [0,1,4] ?_
  refine gT ?_
  rw[jz,iN (by (try simp only[bb,toN]);exact c1),iN (by (try simp only[bb,toN]);exact c3),iP c4];rfl
 refine gE [4,19] ?_
 refine zB ?_ ?_<;>intro c5<;>try simp only[toN]at c5
 ·refine gE [4] ?_
  refine gT ?_
  rw[jz,iN (by (try simp only[bb,toN]);exact c1),iN (by (try simp only[bb,toN]);exact c3),iQ c4,iP c5];rfl
 refine gE [4] ?_
 refine gT ?_
 rw[jz,iN (by (try simp only[bb,toN]);exact c1),iN (by (try simp only[bb,toN]);exact c3),iQ c4,iQ c5];rfl
def uP (l:List Int) (k1:Nat):Int:=if k1<l.length then if (l.getD k1 dF)=0 then uP l (k1+1)else (l.getD k1 dF)else 0
termination_by l.length-k1
def orV (l:List Int):Int:=uP l 0
theorem ZCj (l:List Int) (hl:l.length<=1000):GC Tryz.prog 73 [.d (.row dF inC l)] (iG (orV l)):=by
 refine zA Tryz.func73 ?_
 refine gE [0,2] ?_
 refine gE [0,2,3] ?_
 refine gE [2,3,6,7,8] ?_
 refine zI (α:=Nat) (fun x=>x<=l.length/\uP l 0=uP l x) (fun x=>[(8,iG x)]) (fun x=>[]) (fun x=>l.length-x) 0 ⟨by (try simp only[]);omega,rfl⟩ ?_ (hp:=t40)
 rintro k1 ⟨hi1,he⟩
 refine gE [2,3,6,7,8,9] ?_
 refine zB ?_ ?_<;>intro c1<;>try simp only[toN]at c1
 ·refine gE [2,3,5,6,7,8] ?_
  refine gE [2,3,5,6,7,8,14] ?_
  refine zP ?_ ?_<;>intro c2<;>try simp only[toN]at c2
  ·refine gE [2,3,6,7,8] ?_
   refine gT ?_
   rw[orV,he,uP,iP t11,iQ c2];rfl
  refine gE [2,3,6,7,8] ?_
  refine zD (k1+1) ?_ (hp:=t40)
  refine ⟨by (try simp only[]);omega,he.trans ?_⟩
  rw[uP,iP t11,iP c2]
  try rfl
 refine gE [2] ?_
 refine gT ?_
 rw[orV,he,uP,iQ t11];rfl
def Ul (n:Int) (len:Int):Bool:=(bif decide (0<=n)then decide (n<len)else false)
theorem Qm (n:Int) (len:Int):GC Tryz.prog 36 [iG n,iG len] (bG (Ul n len)):=by
 refine zA Tryz.func36 ?_
 refine gE [0,1,4] ?_
 refine gE [4] ?_
 refine gT ?_
 rw[Ul];rfl
def UX (b:Bil):Bool:=if b.ten.kind=0 then (bif decide (b.ten.n=0)then decide (b.ten.unit=0)else false)else if b.ten.kind=4 then (bif decide (b.ten.n=0)then decide (b.ten.unit=0)else false)else if b.ten.kind=1 then (bif (bif decide (1<=b.ten.n)then decide (b.ten.n<=400)else false)then (bif decide (b.ten.unit=0)then true else decide (b.ten.unit=1))else false)else if b.ten.kind=2 then (bif (bif decide (1<=b.ten.n)then decide (b.ten.n<=400)else false)then (bif decide (b.ten.unit=0)then true else decide (b.ten.unit=1))else false)else if b.ten.kind=3 then (bif (bif decide (b.day<=b.ten.n)then decide (b.ten.n<=100000)else false)then decide (b.ten.unit=0)else false)else false
theorem zVk (b:Bil):GC Tryz.prog 69 [zCr b] (bG (UX b)):=by
 refine zA Tryz.func69 ?_
 refine gE [1,2] ?_
 refine gE [1,2,3] ?_
 refine gE [1,2,3,7] ?_
 refine gE [1,2,3,7,8] ?_
 refine zB ?_ ?_<;>intro c1<;>try simp only[toN]at c1
 ·refine zB ?_ ?_<;>intro c2<;>try simp only[toN]at c2
  ·refine gE [2] ?_
   refine gT ?_
   rw[UX,iP c1];rfl
  exact absurd c1 c2
 refine gE [1,2,3,7,8] ?_
 refine zB ?_ ?_<;>intro c3<;>try simp only[toN]at c3
 ·refine gE [2] ?_
  refine gT ?_
  rw[UX,iQ c1,iP c3];rfl
 refine gE [1,2,3,7,19] ?_
 refine zB ?_ ?_<;>intro c4<;>try simp only[toN]at c4
 ·refine zB ?_ ?_<;>intro c5<;>try simp only[toN]at c5
  ·refine gE [2] ?_
   refine gT ?_
   rw[UX,iQ c1,iQ c3,iP c4];rfl
  exact absurd c4 c5
 refine gE [1,2,3,7,19] ?_
 refine zB ?_ ?_<;>intro c6<;>try simp only[toN]at c6
 ·refine gE [2] ?_
  refine gT ?_
  rw[UX,iQ c1,iQ c3,iQ c4,iP c6];rfl
 refine gE [1,2,3,40] ?_
 refine zB ?_ ?_<;>intro c7<;>try simp only[toN]at c7
 ·refine gE [2] ?_
  refine gT ?_
  rw[UX,iQ c1,iQ c3,iQ c4,iQ c6,iP c7];rfl
 refine gE [2] ?_
 refine gT ?_
 rw[UX,iQ c1,iQ c3,iQ c4,iQ c6,iQ c7];rfl
def yk (f:Fil) (k1:Nat):Int:=if k1<f.facts.length then if (bif (bif (!(inP ((f.facts.getD k1 dF).kind) 0 4))then true else (!(inP ((f.facts.getD k1 dF).at_) 0 (IntKind.i64.wrap ((f.bF.length:Int)-1)))))then true else (!(inP ((f.facts.getD k1 dF).n) 0 1)))=true then 1 else if (k1:Int)=0 then yk f (k1+1)else if 0<=(orV [(jz ((f.facts.getD (((k1:Int)-1).toNat) dF).at_) ((f.facts.getD k1 dF).at_)),(jz ((f.facts.getD (((k1:Int)-1).toNat) dF).kind) ((f.facts.getD k1 dF).kind))])then 5 else yk f (k1+1)else 0
termination_by f.facts.length-k1
def Js (f:Fil):Int:=yk f 0
theorem zNg (f:Fil) (hF:FitFi f):GC Tryz.prog 34 [fiG f] (iG (Js f)):=by
 have g1:=hF.bF
 have g2:=hF.bH
 have g3:=hF.acts
 have g4:=hF.facts
 refine zA Tryz.func34 ?_
 refine gE [1,2] ?_
 refine gE [1,2,7,8,9] ?_
 refine zI (α:=Nat) (fun x=>x<=f.facts.length/\yk f 0=yk f x) (fun x=>[(9,iG x)]) (fun x=>[]) (fun x=>f.facts.length-x) 0 ⟨by (try simp only[]);omega,rfl⟩ ?_ (hp:=t40)
 rintro k1 ⟨hi1,he⟩
 refine gE [1,2,7,8,9,10] ?_
 refine zB ?_ ?_<;>intro c1<;>try simp only[toN]at c1
 ·refine gE [1,2,3,4,7,8,9] ?_
  refine zG env true [.call (ZQ ((f.facts.getD k1 dF).kind) 0 4),.call (ZQ ((f.facts.getD k1 dF).at_) 0 (IntKind.i64.wrap ((f.bF.length:Int)-1))),.call (ZQ ((f.facts.getD k1 dF).n) 0 1)] [1,2,3,4,7,8,9,33] ?_
  refine zF ?_ ?_<;>intro c2<;>try simp only[bb,toN]at c2
  ·refine gE [1,2,3,4,7,8,9] ?_
   refine gT ?_
   rw[Js,he,yk,iP t11,iP (by (try simp only[bb,toN]);exact c2)];rfl
  refine gE [1,2,3,4,7,8,9,35] ?_
  refine zB ?_ ?_<;>intro c3<;>try simp only[toN]at c3
  ·refine gE [1,2,7,8,9] ?_
   refine zD (k1+1) ?_ (hp:=t40)
   refine ⟨by (try simp only[]);omega,he.trans ?_⟩
   rw[yk,iP t11,iN (by (try simp only[bb,toN]);exact c2),iP c3]
   try rfl
  refine gE [1,2,4,5,7,8,9] ?_
  refine gR [.call (zJe ((f.facts.getD (((k1:Int)-1).toNat) dF).at_) ((f.facts.getD k1 dF).at_)),.call (zJe ((f.facts.getD (((k1:Int)-1).toNat) dF).kind) ((f.facts.getD k1 dF).kind)),.el dF inC [(jz ((f.facts.getD (((k1:Int)-1).toNat) dF).at_) ((f.facts.getD k1 dF).at_)),(jz ((f.facts.getD (((k1:Int)-1).toNat) dF).kind) ((f.facts.getD k1 dF).kind))],.call (ZCj [(jz ((f.facts.getD (((k1:Int)-1).toNat) dF).at_) ((f.facts.getD k1 dF).at_)),(jz ((f.facts.getD (((k1:Int)-1).toNat) dF).kind) ((f.facts.getD k1 dF).kind))] (by first|assumption|(simp;done)))] [1,2,7,8,9,54] ?_
  refine zB ?_ ?_<;>intro c4<;>try simp only[toN]at c4
  ·refine gE [1,2,7,8,9] ?_
   refine gT ?_
   rw[Js,he,yk,iP t11,iN (by (try simp only[bb,toN]);exact c2),iQ c3,iP c4];rfl
  refine gE [1,2,7,8,9] ?_
  refine zD (k1+1) ?_ (hp:=t40)
  refine ⟨by (try simp only[]);omega,he.trans ?_⟩
  rw[yk,iP t11,iN (by (try simp only[bb,toN]);exact c2),iQ c3,iQ c4]
  try rfl
 refine gE [2] ?_
 refine gT ?_
 rw[Js,he,yk,iQ t11];rfl
def vF (r:Rlm) (b:Bil):Int:=if (YO r)=0 then if (bif (bif (bif (!(bif (bif (bif (Ul b.bP (r.bC.length:Int))then (Ul b.bO (r.bC.length:Int))else false)then (bif decide (b.bQ=(-1))then true else (Ul b.bQ (r.bC.length:Int)))else false)then (bif decide (b.need=(-1))then true else (Ul b.need (r.bC.length:Int)))else false))then true else (!(Ul b.cur (r.bA.length:Int))))then true else (!(Ul b.city (r.bB.length:Int))))then true else (!(Ul b.pay (r.bB.length:Int))))=true then 1 else if (bif (bif (bif (bif (bif decide (b.sum<1)then true else decide (1099511627776<b.sum))then true else decide (b.day<0))then true else decide (100000<b.day))then true else decide (b.rate<0))then true else decide (1000<b.rate))=true then 3 else if (bif decide (b.parts<1)then true else decide (4<b.parts))=true then 15 else if (bif (bif (bif decide (b.flags<0)then true else decide (7<b.flags))then true else (bif (!decide ((YA .i64 b.flags 4)=0))then decide (b.bQ=(-1))else false))then true else (!(UX b)))=true then 2 else if b.ten.kind=4 then (HQ r b.city b.pay).2 else 0 else (YO r)
theorem zJf (r:Rlm) (b:Bil) (hr:FitR r):GC Tryz.prog 30 [rlG r,zCr b] (iG (vF r b)):=by
 have h1:=hr.bD
 have h2:=hr.bB
 have h3:=hr.bC
 refine zA Tryz.func30 ?_
 refine gE [2,3,4] ?_
 refine gR [.call (Wc r hr)] [2,3,4,5] ?_
 refine gE [2,3,4,5,14] ?_
 refine zP ?_ ?_<;>intro c1<;>try simp only[toN]at c1
 ·refine gE [2,3,4] ?_
  refine gT ?_
  rw[vF,iQ c1];rfl
 refine gE [2,3,4,6,7] ?_
 refine gR [.call (Qm b.bP (r.bC.length:Int)),.call (Qm b.bO (r.bC.length:Int)),.call (Qm b.bQ (r.bC.length:Int)),.call (Qm b.need (r.bC.length:Int))] [2,3,4,7,8] ?_
 refine gR [.call (Qm b.cur (r.bA.length:Int)),.call (Qm b.city (r.bB.length:Int)),.call (Qm b.pay (r.bB.length:Int))] [2,3,4,54] ?_
 refine zF ?_ ?_<;>intro c2<;>try simp only[bb,toN]at c2
 ·refine gE [2,3,4] ?_
  refine gT ?_
  rw[vF,iP c1,iP (by (try simp only[bb,toN]);exact c2)];rfl
 refine gE [2,3,4,80] ?_
 refine zF ?_ ?_<;>intro c3<;>try simp only[bb,toN]at c3
 ·refine gE [2,3,4] ?_
  refine gT ?_
  rw[vF,iP c1,iN (by (try simp only[bb,toN]);exact c2),iP (by (try simp only[bb,toN]);exact c3)];rfl
 refine gE [2,3,4,109] ?_
 refine zF ?_ ?_<;>intro c4<;>try simp only[bb,toN]at c4
 ·refine gE [2,3,4] ?_
  refine gT ?_
  rw[vF,iP c1,iN (by (try simp only[bb,toN]);exact c2),iN (by (try simp only[bb,toN]);exact c3),iP (by (try simp only[bb,toN]);exact c4)];rfl
 refine gR [.call (zVk b)] [2,3,4,118] ?_
 refine zF ?_ ?_<;>intro c5<;>try simp only[bb,toN]at c5
 ·refine gE [2,3,4] ?_
  refine gT ?_
  rw[vF,iP c1,iN (by (try simp only[bb,toN]);exact c2),iN (by (try simp only[bb,toN]);exact c3),iN (by (try simp only[bb,toN]);exact c4),iP (by (try simp only[bb,toN]);exact c5)];rfl
 refine gE [2,3,4,146] ?_
 refine zB ?_ ?_<;>intro c6<;>try simp only[toN]at c6
 ·refine gR [.call (Uw r b.city b.pay hr)] [4,10] ?_
  refine gE [4] ?_
  refine gT ?_
  rw[vF,iP c1,iN (by (try simp only[bb,toN]);exact c2),iN (by (try simp only[bb,toN]);exact c3),iN (by (try simp only[bb,toN]);exact c4),iN (by (try simp only[bb,toN]);exact c5),iP c6];rfl
 refine gE [4] ?_
 refine gT ?_
 rw[vF,iP c1,iN (by (try simp only[bb,toN]);exact c2),iN (by (try simp only[bb,toN]);exact c3),iN (by (try simp only[bb,toN]);exact c4),iN (by (try simp only[bb,toN]);exact c5),iQ c6];rfl
def Yq (r:Rlm) (f:Fil) (k1:Nat) (a8_2:Int) (k2:Nat):Int:=if k2<f.bH.length then if (!(inP ((f.bH.getD k2 dF).at_) (IntKind.i64.wrap (a8_2+1)) (f.bF.length:Int)))=true then 1 else if (!(inP ((f.bH.getD k2 dF).sum) 1 1099511627776))=true then 3 else Yq r f k1 ((f.bH.getD k2 dF).at_) (k2+1)else if (Qv r f)=0 then (Js f)else (Qv r f)
termination_by f.bH.length-k2
decreasing_by all_goals first|omega|(simp only[bb]at*;omega)
def jc (r:Rlm) (f:Fil) (k1:Nat):Int:=if k1<f.bF.length then if (JZ r f (k1:Int))=0 then jc r f (k1+1)else (JZ r f (k1:Int))else Yq r f k1 0 0
termination_by f.bF.length-k1
decreasing_by all_goals first|omega|(simp only[bb]at*;omega)
def vq (r:Rlm) (f:Fil):Int:=if (bif (bif (bif decide (40<(f.bF.length:Int))then true else decide (4<(f.bH.length:Int)))then true else decide (100<(f.acts.length:Int)))then true else decide (200<(f.facts.length:Int)))=true then 6 else if (vF r f.bill)=0 then if (f.bF.length:Int)=0 then 14 else jc r f 0 else (vF r f.bill)
theorem zZs (r:Rlm) (f:Fil) (hr:FitR r) (hF:FitFi f):GC Tryz.prog 15 [rlG r,fiG f] (iG (vq r f)):=by
 have h1:=hr.bD
 have h2:=hr.bB
 have h3:=hr.bC
 have g1:=hF.bF
 have g2:=hF.bH
 have g3:=hF.acts
 have g4:=hF.facts
 refine zA Tryz.func15 ?_
 refine gE [2,3,4] ?_
 refine gE [2,3,4,33] ?_
 refine zF ?_ ?_<;>intro c1<;>try simp only[bb,toN]at c1
 ·refine gE [2,3,4] ?_
  refine gT ?_
  rw[vq,iP (by (try simp only[bb,toN]);exact c1)];rfl
 refine gR [.call (zJf r f.bill t12)] [2,3,4,5] ?_
 refine gE [2,3,4,5,39] ?_
 refine zP ?_ ?_<;>intro c2<;>try simp only[toN]at c2
 ·refine gE [2,3,4] ?_
  refine gT ?_
  rw[vq,iN (by (try simp only[bb,toN]);exact c1),iQ c2];rfl
 refine gE [2,3,4,44] ?_
 refine zB ?_ ?_<;>intro c3<;>try simp only[toN]at c3
 ·refine gE [2,3,4] ?_
  refine gT ?_
  rw[vq,iN (by (try simp only[bb,toN]);exact c1),iP c2,iP c3];rfl
 refine gE [2,3,4,47,48] ?_
 refine zI (α:=Nat) (fun x=>x<=f.bF.length/\jc r f 0=jc r f x) (fun x=>[(48,iG x)]) (fun x=>[]) (fun x=>f.bF.length-x) 0 ⟨by (try simp only[]);omega,rfl⟩ ?_ (hp:=t41)
 rintro k1 ⟨hi1,he⟩
 refine gE [2,3,4,47,48,49] ?_
 refine zB ?_ ?_<;>intro c4<;>try simp only[toN]at c4
 ·refine gE [2,3,4,6,47,48] ?_
  refine gR [.call (zPc r f (k1:Int) t12 t12 t16)] [2,3,4,7,47,48] ?_
  refine gE [2,3,4,7,47,48,56] ?_
  refine zP ?_ ?_<;>intro c5<;>try simp only[toN]at c5
  ·refine gE [2,3,4,47,48] ?_
   refine gT ?_
   rw[vq,iN (by (try simp only[bb,toN]);exact c1),iP c2,iQ c3,he,jc,iP t11,iQ c5];rfl
  refine gE [2,3,4,47,48] ?_
  refine zD (k1+1) ?_ (hp:=t41)
  refine ⟨by (try simp only[]);omega,he.trans ?_⟩
  rw[jc,iP t11,iP c5]
  try rfl
 refine gE [2,3,4,8] ?_
 refine gE [2,3,4,8,60,61,62] ?_
 refine zI (α:=Int×Nat) (fun x=>x.2<=f.bH.length/\Yq r f k1 0 0=Yq r f k1 x.1 x.2) (fun x=>[(8,iG x.1),(62,iG x.2)]) (fun x=>[]) (fun x=>f.bH.length-x.2) (0,0) ⟨by (try simp only[]);omega,rfl⟩ ?_ (hp:=t41)
 rintro ⟨a8_2,k2⟩ ⟨hi2,he2⟩
 dsimp only at*
 refine gE [2,3,4,8,60,61,62,63] ?_
 refine zB ?_ ?_<;>intro c6<;>try simp only[toN]at c6
 ·refine gE [2,3,4,8,10,60,61,62] ?_
  refine zG env true [.call (ZQ ((f.bH.getD k2 dF).at_) (IntKind.i64.wrap (a8_2+1)) (f.bF.length:Int))] [2,3,4,8,10,60,61,62,74] ?_
  refine zF ?_ ?_<;>intro c7<;>try simp only[bb,toN]at c7
  ·refine gE [2,3,4,8,10,60,61,62] ?_
   refine gT ?_
   rw[vq,iN (by (try simp only[bb,toN]);exact c1),iP c2,iQ c3,he,jc,iQ t11,he2,Yq,iP t11,iP (by (try simp only[bb,toN]);exact c7)];rfl
  refine gR [.call (ZQ ((f.bH.getD k2 dF).sum) 1 1099511627776)] [2,3,4,8,10,60,61,62,78] ?_
  refine zF ?_ ?_<;>intro c8<;>try simp only[bb,toN]at c8
  ·refine gE [2,3,4,8,10,60,61,62] ?_
   refine gT ?_
   rw[vq,iN (by (try simp only[bb,toN]);exact c1),iP c2,iQ c3,he,jc,iQ t11,he2,Yq,iP t11,iN (by (try simp only[bb,toN]);exact c7),iP (by (try simp only[bb,toN]);exact c8)];rfl
  refine gE [2,3,4,8,60,61,62] ?_
  refine gE [2,3,4,8,60,61,62] ?_
  refine zD (((f.bH.getD k2 dF).at_,k2+1)) ?_ (hp:=t41) (hm:=by dsimp only;omega)
  refine ⟨by (try simp only[]);omega,he2.trans ?_⟩
  rw[Yq,iP t11,iN (by (try simp only[bb,toN]);exact c7),iN (by (try simp only[bb,toN]);exact c8)]
  try rfl
 refine gR [.call (zVa r f t12 t12)] [3,4,11] ?_
 refine gE [3,4,11,86] ?_
 refine zP ?_ ?_<;>intro c9<;>try simp only[toN]at c9
 ·refine gE [3,4] ?_
  refine gT ?_
  rw[vq,iN (by (try simp only[bb,toN]);exact c1),iP c2,iQ c3,he,jc,iQ t11,he2,Yq,iQ t11,iQ c9];rfl
 refine gR [.call (zNg f t12)] [4] ?_
 refine gT ?_
 rw[vq,iN (by (try simp only[bb,toN]);exact c1),iP c2,iQ c3,he,jc,iQ t11,he2,Yq,iQ t11,iP c9];rfl
def JV (l:List Clm) (c:Clm) (a5_1:Int) (k1:Nat):Int:=if k1<l.length then if (bif (bif decide (((l.getD k1 dF).bJ)=c.bJ)then decide (((l.getD k1 dF).part)=c.part)else false)then decide (((l.getD k1 dF).sign)=c.sign)else false)=true then JV l c (i64.wrap (a5_1+((l.getD k1 dF).sum))) (k1+1)else JV l c a5_1 (k1+1)else a5_1
termination_by l.length-k1
def zKa (l:List Clm) (c:Clm):Int:=JV l c 0 0
theorem zHm (l:List Clm) (c:Clm) (hl:l.length<=4000000000):GC Tryz.prog 16 [.d (.row dF clC l),clG c] (iG (zKa l c)):=by
 refine zA Tryz.func16 ?_
 refine gE [0,3,4] ?_
 refine gE [0,3,4,5] ?_
 refine gE [0,3,4,5,6] ?_
 refine zI (α:=Int×Nat) (fun x=>x.2<=l.length/\JV l c 0 0=JV l c x.1 x.2) (fun x=>[(5,iG x.1),(6,iG x.2)]) (fun x=>[]) (fun x=>l.length-x.2) (0,0) ⟨by (try simp only[]);omega,rfl⟩ ?_ (hp:=t40)
 rintro ⟨a5_1,k1⟩ ⟨hi1,he⟩
 dsimp only at*
 refine gE [0,3,4,5,6,10] ?_
 refine zB ?_ ?_<;>intro c1<;>try simp only[toN]at c1
 ·refine gE [0,3,4,5,6,40] ?_
  refine zF ?_ ?_<;>intro c2<;>try simp only[bb,toN]at c2
  ·refine zG env true [] [0,3,4,5,6] ?_
   refine gE [0,3,4,5,6] ?_
   refine zD ((i64.wrap (a5_1+((l.getD k1 dF).sum)),k1+1)) ?_ (hp:=t40) (hm:=by dsimp only;omega)
   refine ⟨by (try simp only[]);omega,he.trans ?_⟩
   rw[JV,iP t11,iP (by (try simp only[bb,toN]);exact c2)]
   try rfl
  refine gE [0,3,4,5,6] ?_
  refine zD ((a5_1,k1+1)) ?_ (hp:=t40) (hm:=by dsimp only;omega)
  refine ⟨by (try simp only[]);omega,he.trans ?_⟩
  rw[JV,iP t11,iN (by (try simp only[bb,toN]);exact c2)]
  try rfl
 refine gE [4] ?_
 refine gT ?_
 rw[zKa,he,JV,iQ t11];rfl
def ZR (f:Fil) (i:Int) (to_:Int) (sum:Int) (day:Int):Fil:=⟨(atV f day).bill,(atV f day).bF,(atV f day).bH,((atV f day).acts)++ [⟨6,(((atV f day).bF).getD i.toNat dF).who,to_,(((atV f day).bF).getD i.toNat dF).part,i,sum,day,(((atV f day).bF).getD i.toNat dF).city,0⟩],(atV f day).facts⟩
theorem zQd (f:Fil) (i:Int) (to_:Int) (sum:Int) (day:Int) (hF:FitFi f) (hi:0<=i/\i<(atV f day).bF.length):GC Tryz.prog 14 [fiG f,iG i,iG to_,iG sum,iG day] (fiG (ZR f i to_ sum day)):=by
 have hF2:=hF.at_ day
 have g3:=hF2.acts
 refine zA Tryz.func14 ?_
 refine gE [1,2,3,4,5,10] ?_
 refine gR [.call (JB f day (by first|assumption|exact FitFi.at_ t12 _))] [1,2,3,4,10,11] ?_
 refine gE [1,2,3,4,10,11,12] ?_
 refine gU [.el dF acC ([]:List Act),.el dF acC ((atV f day).acts),.el dF acC ([⟨6,(((atV f day).bF).getD i.toNat dF).who,to_,(((atV f day).bF).getD i.toNat dF).part,i,sum,day,(((atV f day).bF).getD i.toNat dF).city,0⟩]:List Act),.el dF acC (((atV f day).acts)++ [⟨6,(((atV f day).bF).getD i.toNat dF).who,to_,(((atV f day).bF).getD i.toNat dF).part,i,sum,day,(((atV f day).bF).getD i.toNat dF).city,0⟩])] [10,11] ?_
 refine gE [10] ?_
 refine gT ?_
 rw[ZR];rfl
theorem HJ {α:Type} [Inhabited α] {l:List α} {Q:α->Prop} (h:∀i,i<l.length->Q (l.getD i dF)):∀x,x∈l->Q x:=by
 intro c hc
 obtain ⟨i,hi,rfl⟩:=List.getElem_of_mem hc
 have:=h i hi
 rwa[List.getD_eq_getElem?_getD,List.getElem?_eq_getElem hi]at this
structure MemX (r:Rlm):Prop where
 curS:∀s,s∈r.bA->s.size<=9223372036854775807
 city:∀c,c∈r.bB->FitC c
 firm:∀c,c∈r.bC->c.name.size<=9223372036854775807
 order:∀o,o∈r.bD->o.name.size<=9223372036854775807
 rate:∀x,x∈r.rates->yn x.num/\yn x.den
 lo:r.bD.length<=9223372036854775807
 tm:∀o,o∈r.bD->∀x,x∈o.rules->Qb Dep.d x.term
theorem ZEd {r:Rlm} (h:zFw r=true):(r.bA.length<50/\r.bB.length<50/\r.groups.length<50/\r.bC.length<210/\r.bD.length<50/\r.bE.length<110/\r.rates.length<110/\r.halts.length<50)/\∀i,i<r.bD.length->(r.bD.getD i dF).bL.length<=40/\(r.bD.getD i dF).rules.length<=40:=by
 have q2:∀n k1 i,50-i=n->i<=50->qM r k1 i=true->(r.bA.length<50/\r.bB.length<50/\r.groups.length<50/\r.bC.length<210/\r.bD.length<50/\r.bE.length<110/\r.rates.length<110/\r.halts.length<50)/\∀j,i<=j->j<r.bD.length->(r.bD.getD j dF).bL.length<=40/\(r.bD.getD j dF).rules.length<=40:=by
  intro n
  induction n with
  |zero=>
   intro k1 i hn hi h
   unfold qM at h
   rw[iQ (by intro hx;simp only[bb]at hx;omega)]at h
   simp only[bb]at h
   exact ⟨by omega,fun j a b=>by omega⟩
  |succ n ih=>
   intro k1 i hn hi h
   unfold qM at h
   split at h
   ·split at h
    ·cases h
    rename_i hc
    rw[Bool.not_eq_true]at hc
    simp only[bb]at hc
    obtain ⟨h1,h2⟩:=ih k1 (i+1) t11 t11 h
    refine ⟨h1,fun j a b=> ?_⟩
    by_cases hj:j=i
    ·rw[hj];omega
    exact h2 j t11 b
   rename_i hc
   rw[Bool.not_eq_true]at hc
   simp only[bb]at h hc
   exact ⟨by omega,fun j a b=>by omega⟩
 have q1:∀n i,50-i=n->i<=50->Jq r i=true->qM r i 0=true∨∃k,qM r k 0=true:=by
  intro n
  induction n with
  |zero=>
   intro i hn hi h
   unfold Jq at h
   rw[iQ (by intro hx;simp only[bb]at hx;omega)]at h
   exact .inl h
  |succ n ih=>
   intro i hn hi h
   unfold Jq at h
   split at h
   ·split at h
    ·cases h
    rcases ih (i+1) t11 t11 h with h|h
    ·exact .inr ⟨_,h⟩
    exact .inr h
   exact .inl h
 have h0:∃k,qM r k 0=true:=by
  rcases q1 _ 0 rfl t11 h with h|h
  ·exact ⟨_,h⟩
  exact h
 obtain ⟨k,hk⟩:=h0
 obtain ⟨h1,h2⟩:=q2 _ k 0 rfl t11 hk
 exact ⟨h1,fun i hi=>h2 i (Nat.zero_le _) hi⟩
theorem zTc {r:Rlm} (hm:MemX r) (h:zFw r=true):FitR r:=by
 obtain ⟨h1,h2⟩:=ZEd h
 refine ⟨by omega,hm.curS,by omega,hm.city,by omega,by omega,hm.firm,by omega,fun o ho=>⟨hm.order o ho,?_⟩,by omega,by omega,hm.rate,by omega⟩
 have:=HJ (Q:=fun o:Od=>o.bL.length<=40/\o.rules.length<=40) h2 o ho
 omega
theorem zNf {f:Fil} (h:zBx f=true):FitFi f:=by
 unfold zBx at h
 simp only[bb]at h
 exact ⟨by omega,by omega,by omega,by omega⟩
def jx (r:Rlm) (f:Fil) (k1:Nat):Bool:=if k1<r.bD.length then if (!(VI (r.bD.getD k1 dF)))=true then false else jx r f (k1+1)else true
termination_by r.bD.length-k1
def Wy (r:Rlm) (f:Fil):Bool:=if (bif (!(zFw r))then true else (!(zBx f)))=true then false else jx r f 0
theorem zTe (r:Rlm) (f:Fil) (hm:MemX r):GC Tryz.prog 20 [rlG r,fiG f] (bG (Wy r f)):=by
 have h1:=hm.lo
 refine zA Tryz.func20 ?_
 refine gE [2,3,4] ?_
 refine gR [.call (zZa r),.call (zTh f)] [2,4,13] ?_
 refine zF ?_ ?_<;>intro c1<;>try simp only[bb,toN]at c1
 ·refine gE [2,4] ?_
  refine gT ?_
  rw[Wy,iP (by (try simp only[bb,toN]);exact c1)];rfl
 refine gE [2,4,5] ?_
 refine zI (α:=Nat) (fun x=>x<=r.bD.length/\jx r f 0=jx r f x) (fun x=>[(5,iG x)]) (fun x=>[]) (fun x=>r.bD.length-x) 0 ⟨by (try simp only[]);omega,rfl⟩ ?_ (hp:=t40)
 rintro k1 ⟨hi1,he⟩
 refine gE [2,4,5,18] ?_
 refine zB ?_ ?_<;>intro c2<;>try simp only[toN]at c2
 ·have ho2:=hm.tm _ (zJ (l:=r.bD) (i:=k1) t11)
  refine gR [.call (zTf (r.bD.getD k1 dF) t12)] [2,4,5,27] ?_
  refine zF ?_ ?_<;>intro c3<;>try simp only[bb,toN]at c3
  ·refine gE [2,4,5] ?_
   refine gT ?_
   rw[Wy,iN (by (try simp only[bb,toN]);exact c1),he,jx,iP t11,iP (by (try simp only[bb,toN]);exact c3)];rfl
  refine gE [2,4,5] ?_
  refine zD (k1+1) ?_ (hp:=t40)
  refine ⟨by (try simp only[]);omega,he.trans ?_⟩
  rw[jx,iP t11,iN (by (try simp only[bb,toN]);exact c3)]
  try rfl
 refine gE [4] ?_
 refine gT ?_
 rw[Wy,iN (by (try simp only[bb,toN]);exact c1),he,jx,iQ t11];rfl
theorem jV {r:Rlm} {f:Fil} (hm:MemX r) (h:Wy r f=true):FitR r/\FitFi f:=by
 unfold Wy at h
 split at h
 ·cases h
 rename_i hc
 rw[Bool.not_eq_true]at hc
 simp only[bb]at hc
 exact ⟨zTc hm hc.1,zNf hc.2⟩
theorem zVt:∀(k:Nat) (t:Tm) (n lv:Int),0<=n->n<=1000->Qb k t->0<=Ua k t n lv->Yf k t/\Ua k t n lv<n:=by
 have loop:∀(f:Tm->Int->Int->Int) (t:Tm) (n lv:Int),(∀a,a∈t.args->∀m l,0<=m->m<=1000->0<=f a m l->f a m l<m)->∀q i a,t.args.length-i=q->i<=t.args.length->a<=1000->0<=JH f t n lv a i->0<=a/\JH f t n lv a i<=a/\(t.args.length:Int)-i<=a-JH f t n lv a i/\∀j,i<=j->j<t.args.length->∃m,0<=m/\m<=1000/\0<=f (t.args.getD j dF) m (i64.wrap (lv-1)):=by
  intro f t n lv hf q
  induction q with
  |zero=>
   intro i a hq hi ha h
   unfold JH at h⊢
   rw[iQ (by intro hx;simp only[bb]at hx;omega)]at h⊢
   exact ⟨h,Int.le_refl _,by omega,fun j a b=>by omega⟩
  |succ q ih=>
   intro i a hq hi ha h
   have hS:i<t.args.length:=by omega
   unfold JH at h⊢
   by_cases h0:0<=a
   ·have hc:(bif decide ((i:Int)<(t.args.length:Int))then decide (0<=a)else false)=true:=by simp only[bb];omega
    rw[iP hc]at h⊢
    have hm:=zJ hS
    by_cases hz:0<=f (t.args.getD i dF) a (i64.wrap (lv-1))
    ·have hlt:=hf _ hm _ _ h0 ha hz
     obtain ⟨p1,p2,p3,p4⟩:=ih (i+1) _ t11 t11 t11 h
     refine ⟨h0,by omega,by omega,fun j j1 j2=> ?_⟩
     by_cases hj:j=i
     ·rw[hj];exact ⟨a,h0,ha,hz⟩
     exact p4 j t11 j2
    exfalso
    unfold JH at h
    rw[iQ (by intro hx;simp only[bb]at hx;omega)]at h
    exact hz h
   rw[iQ (by intro hx;simp only[bb]at hx;omega)]at h
   exact absurd h h0
 intro k
 induction k with
 |zero=>
  intro t n lv h0 hn ht h
  have ha:t.args= []:=ht
  have e:i64.wrap (n-1)=n-1:=zT (by unfold inR;omega)
  refine ⟨ha,?_⟩
  rw[show Ua 0 t n lv=KF (fun _ _ _=>0) t n lv from rfl]at h⊢
  unfold KF at h⊢
  rw[e]at h⊢
  split at h
  ·omega
  rename_i hc
  rw[iQ hc]
  have:=loop (fun _ _ _=>0) t n lv (fun a h=>by rw[ha]at h;cases h) _ 0 (n-1) rfl (Nat.zero_le _) t11 h
  omega
 |succ k ih=>
  intro t n lv h0 hn ht h
  have e:i64.wrap (n-1)=n-1:=zT (by unfold inR;omega)
  rw[show Ua (k+1) t n lv=KF (Ua k) t n lv from rfl]at h⊢
  unfold KF at h⊢
  rw[e]at h⊢
  split at h
  ·omega
  rename_i hc
  rw[iQ hc]
  obtain ⟨p1,p2,p3,p4⟩:=loop (Ua k) t n lv (fun a ha m l m0 m1 hz=>(ih a m l m0 m1 (ht.2 a ha) hz).2) _ 0 (n-1) rfl (Nat.zero_le _) t11 h
  refine ⟨⟨by omega,fun a ha=> ?_⟩,by omega⟩
  obtain ⟨i,hi,rfl⟩:=List.getElem_of_mem ha
  obtain ⟨m,m0,m1,hz⟩:=p4 i (Nat.zero_le _) hi
  rw[show t.args.getD i dF=t.args[i]by rw[List.getD_eq_getElem?_getD,List.getElem?_eq_getElem hi];rfl]at hz
  exact (ih _ m _ m0 m1 (ht.2 _ ha) hz).1
theorem zNe {t:Tm} (h:Xi t=true) (hm:Qb Dep.d t):Yf Dep.d t:=by
 unfold Xi at h
 exact (zVt Dep.d t 100 20 t23 t23 hm (by simpa using h)).1
theorem zNd {o:Od} (h:VI o=true) (hm:∀x,x∈o.rules->Qb Dep.d x.term):∀x,x∈o.rules->Yf Dep.d x.term:=by
 have:∀n i,o.rules.length-i=n->jy o i=true->∀j,i<=j->j<o.rules.length->Xi (o.rules.getD j dF).term=true:=by
  intro n
  induction n with
  |zero=>intro i hn _ j h1 h2;omega
  |succ n ih=>
   intro i hn h j h1 h2
   have hS:i<o.rules.length:=by omega
   unfold jy at h
   rw[iP hS]at h
   split at h
   ·cases h
   rename_i hf
   by_cases hj:j=i
   ·rw[hj];simpa using hf
   exact ih _ t11 h j t11 h2
 unfold VI at h
 split at h
 ·cases h
 intro x hx
 obtain ⟨i,hi,rfl⟩:=List.getElem_of_mem hx
 have h1:=this _ 0 rfl h i (Nat.zero_le _) hi
 rw[show o.rules.getD i dF=o.rules[i]by rw[List.getD_eq_getElem?_getD,List.getElem?_eq_getElem hi];rfl]at h1
 exact zNe h1 (hm _ hx)
theorem zTd {r:Rlm} {f:Fil} (hm:MemX r) (h:Wy r f=true):∀o,o∈r.bD->∀x,x∈o.rules->Yf Dep.d x.term:=by
 have:∀n i,r.bD.length-i=n->jx r f i=true->∀j,i<=j->j<r.bD.length->VI (r.bD.getD j dF)=true:=by
  intro n
  induction n with
  |zero=>intro i hn _ j h1 h2;omega
  |succ n ih=>
   intro i hn h j h1 h2
   have hS:i<r.bD.length:=by omega
   unfold jx at h
   rw[iP hS]at h
   split at h
   ·cases h
   rename_i hf
   by_cases hj:j=i
   ·rw[hj];simpa using hf
   exact ih _ t11 h j t11 h2
 unfold Wy at h
 split at h
 ·cases h
 intro o ho
 obtain ⟨i,hi,rfl⟩:=List.getElem_of_mem ho
 have h1:=this _ 0 rfl h i (Nat.zero_le _) hi
 rw[show r.bD.getD i dF=r.bD[i]by rw[List.getD_eq_getElem?_getD,List.getElem?_eq_getElem hi];rfl]at h1
 exact zNd h1 (hm.tm _ ho)
theorem zUb (r:Rlm) (hr:FitR r):GC Tryz.prog 21 [rlG r] (iG (ZS r)):=Xo r hr
theorem zZv (r:Rlm) (f:Fil) (hq:FitR r/\FitFi f):GC Tryz.prog 22 [rlG r,fiG f] (iG (vG r f)):=zTy r f hq.1 hq.2
def zBw (r:Rlm) (f:Fil):Bool:=(bif (bif (bif (bif (Wy r f)then decide ((ZS r)=0)else false)then decide ((vG r f)=0)else false)then decide ((f.bF.length:Int)<=20)else false)then decide ((f.acts.length:Int)<=30)else false)
theorem zYz (r:Rlm) (f:Fil) (hm:MemX r):GC Tryz.prog 7 [rlG r,fiG f] (bG (zBw r f)):=by
 refine zA Tryz.func7 ?_
 refine gE [2,3,4] ?_
 refine gR [.call (zTe r f t12),.callq (Q:=FitR r) (fun hq=>zUb r hq),.callq (Q:=FitR r/\FitFi f) (fun hq=>zZv r f hq)] [4] ?_ (hp:=(by simp only[zC,bb,toN];repeat' first|exact trivial|exact zH.refl _|exact zE.refl _|exact rfl|exact (jV hm t12).1|exact (jV hm (And.left t12)).1|exact (jV hm t12).2|exact (jV hm (And.left t12)).2|omega|apply And.intro|intro _))
 refine gT ?_
 rw[zBw];rfl
structure Ck (r:Rlm) (f:Fil):Prop where
 ls:f.bF.length<=40
 la:f.bH.length<=4
 lc:f.acts.length<=100
 lf:f.facts.length<=200
 ne:0<f.bF.length
 bill:QU r f.bill=0
 sign:∀k:Nat,k<f.bF.length->Yi r f (k:Int)=0
 alt:∀k:Nat,k<f.bH.length->(if 0<k then (f.bH.getD (k-1) dF).at_+1 else 1)<=(f.bH.getD k dF).at_/\(f.bH.getD k dF).at_<=f.bF.length/\1<=(f.bH.getD k dF).sum/\(f.bH.getD k dF).sum<=1099511627776
 act:∀k:Nat,k<f.acts.length->qj r f (k:Int)=0
 fact:∀k:Nat,k<f.facts.length->qO f (k:Int)=0
theorem zGh (r:Rlm) (f:Fil) (a b:Int) (c:Nat) (d:Int) (a2:Nat) (b2:Int) (c2:Nat) {e:Int} (k:Nat) (he:e≠0):Yr r f a b c d a2 b2 c2 e k≠0:=by
 unfold Yr
 rw[iQ (by intro hx;simp only[bb]at hx;exact he hx.2)];exact he
theorem zGi (r:Rlm) (f:Fil) (a b:Int) (c:Nat) (d:Int) (a2:Nat) {e:Int} (k:Nat) (he:e≠0):Ys r f a b c d a2 e k≠0:=by
 unfold Ys
 rw[iQ (by intro hx;simp only[bb]at hx;exact he hx.2)];exact zGh _ _ _ _ _ _ _ _ _ _ he
theorem UJ (r:Rlm) (f:Fil) (a b:Int) (c:Nat) (e:Int) (k:Nat) (he:e≠0):zv r f a b c e k≠0:=by
 unfold zv
 rw[iQ (by intro hx;simp only[bb]at hx;exact he hx.2)];exact zGi _ _ _ _ _ _ _ _ he
theorem zZu {r:Rlm} {f:Fil} (h:vG r f=0):Ck r f:=by
 have q4:∀n k e a b c d a2 b2 c2,f.facts.length-k=n->Yr r f a b c d a2 b2 c2 e k=0->e=0/\∀j,k<=j->j<f.facts.length->qO f (j:Int)=0:=by
  intro n
  induction n with
  |zero=>
   intro k e a b c d a2 b2 c2 hn h
   unfold Yr at h
   rw[iQ (by intro hx;simp only[bb]at hx;omega)]at h
   exact ⟨h,fun j h1 h2=>by omega⟩
  |succ n ih=>
   intro k e a b c d a2 b2 c2 hn h
   unfold Yr at h
   by_cases hc:e=0
   ·rw[iP t19]at h
    obtain ⟨h1,h2⟩:=ih _ _ _ _ _ _ _ _ _ t11 h
    refine ⟨hc,fun j a b=> ?_⟩
    by_cases hj:j=k
    ·rw[hj];exact h1
    exact h2 j t11 b
   rw[iQ (by intro hx;simp only[bb]at hx;exact hc hx.2)]at h
   exact absurd h hc
 have q3:∀n k e a b c d a2,f.acts.length-k=n->Ys r f a b c d a2 e k=0->e=0/\(∀j,k<=j->j<f.acts.length->qj r f (j:Int)=0)/\∀j,j<f.facts.length->qO f (j:Int)=0:=by
  intro n
  induction n with
  |zero=>
   intro k e a b c d a2 hn h
   unfold Ys at h
   rw[iQ (by intro hx;simp only[bb]at hx;omega)]at h
   obtain ⟨h1,h2⟩:=q4 _ _ _ _ _ _ _ _ _ _ rfl h
   exact ⟨h1,fun j a b=>by omega,fun j hj=>h2 j (Nat.zero_le _) hj⟩
  |succ n ih=>
   intro k e a b c d a2 hn h
   unfold Ys at h
   by_cases hc:e=0
   ·rw[iP t19]at h
    obtain ⟨h1,h2,h3⟩:=ih _ _ _ _ _ _ _ t11 h
    refine ⟨hc,fun j a b=> ?_,h3⟩
    by_cases hj:j=k
    ·rw[hj];exact h1
    exact h2 j t11 b
   rw[iQ (by intro hx;simp only[bb]at hx;exact hc hx.2)]at h
   exact absurd (q4 _ _ _ _ _ _ _ _ _ _ rfl h).1 hc
 have q2:∀n k e a b c,f.bH.length-k=n->f.bH.length<=4->f.bF.length<=40->(0<k->1<=(f.bH.getD (k-1) dF).at_/\(f.bH.getD (k-1) dF).at_<=f.bF.length)->zv r f a b c e k=0->e=0/\(∀j,k<=j->j<f.bH.length->(if 0<j then (f.bH.getD (j-1) dF).at_+1 else 1)<=(f.bH.getD j dF).at_/\(f.bH.getD j dF).at_<=f.bF.length/\1<=(f.bH.getD j dF).sum/\(f.bH.getD j dF).sum<=1099511627776)/\(∀j,j<f.acts.length->qj r f (j:Int)=0)/\∀j,j<f.facts.length->qO f (j:Int)=0:=by
  intro n
  induction n with
  |zero=>
   intro k e a b c hn hl hs hp h
   unfold zv at h
   rw[iQ (by intro hx;simp only[bb]at hx;omega)]at h
   obtain ⟨h1,h2,h3⟩:=q3 _ _ _ _ _ _ _ _ rfl h
   exact ⟨h1,fun j a b=>by omega,fun j hj=>h2 j (Nat.zero_le _) hj,h3⟩
  |succ n ih=>
   intro k e a b c hn hl hs hp h
   unfold zv at h
   by_cases hc:e=0
   ·have hk:k<f.bH.length:=by omega
    rw[iP t19]at h
    subst hc
    have key:∀(lo:Int),(lo=if 0<k then (f.bH.getD (k-1) dF).at_+1 else 1)->1<=lo->(if (!(wiV ((f.bH.getD k dF).at_) lo (f.bF.length:Int)))=true then zv r f a b c 1 (k+1)else if (!(wiV ((f.bH.getD k dF).sum) 1 1099511627776))=true then zv r f a b c 3 (k+1)else zv r f a b c 0 (k+1))=0->(∀j,k<=j->j<f.bH.length->(if 0<j then (f.bH.getD (j-1) dF).at_+1 else 1)<=(f.bH.getD j dF).at_/\(f.bH.getD j dF).at_<=f.bF.length/\1<=(f.bH.getD j dF).sum/\(f.bH.getD j dF).sum<=1099511627776)/\(∀j,j<f.acts.length->qj r f (j:Int)=0)/\∀j,j<f.facts.length->qO f (j:Int)=0:=by
     intro lo hlo hlo1 h
     by_cases h1:wiV ((f.bH.getD k dF).at_) lo (f.bF.length:Int)=true
     ·by_cases h2:wiV ((f.bH.getD k dF).sum) 1 1099511627776=true
      ·rw[iQ (by rw[h1];decide),iQ (by rw[h2];decide)]at h
       rw[ZJ]at h1 h2
       obtain ⟨_,h4,h5⟩:=ih (k+1) 0 a b c t11 hl hs (fun _=>by rw[show k+1-1=k by omega];omega) h
       refine ⟨fun j a b=> ?_,h5⟩
       by_cases hj:j=k
       ·subst hj;rw[<-hlo];exact ⟨h1.1,h1.2,h2.1,h2.2⟩
       exact h4 j t11 b
      rw[iQ (by rw[h1];decide),iP (by simpa using h2)]at h
      exact absurd h (UJ r f a b c 3 (k+1) t23)
     rw[iP (by simpa using h1)]at h
     exact absurd h (UJ r f a b c 1 (k+1) t23)
    refine ⟨rfl,?_⟩
    by_cases hk0:0<k
    ·obtain ⟨p1,p2⟩:=hp hk0
     have e1:(IntKind.i64.wrap ((k:Int)-1)).toNat=k-1:=by rw[zT (by unfold inR;omega)];omega
     have e2:IntKind.i64.wrap ((f.bH.getD (k-1) dF).at_+1)=(f.bH.getD (k-1) dF).at_+1:=zT (by unfold inR;omega)
     rw[iP t11,e1,e2]at h
     exact key _ (by rw[iP hk0]) t11 h
    rw[iQ t11]at h
    exact key 1 (by rw[iQ hk0]) t11 h
   rw[iQ (by intro hx;simp only[bb]at hx;exact hc hx.2)]at h
   exact absurd (q3 _ _ _ _ _ _ _ _ rfl h).1 hc
 have q1:∀n k e a,f.bF.length-k=n->f.bH.length<=4->f.bF.length<=40->jE r f a e k=0->e=0/\(∀j,k<=j->j<f.bF.length->Yi r f (j:Int)=0)/\∃b c,zv r f a b c 0 0=0:=by
  intro n
  induction n with
  |zero=>
   intro k e a hn hl hs h
   unfold jE at h
   rw[iQ (by intro hx;simp only[bb]at hx;omega)]at h
   obtain ⟨h1,_⟩:=q2 _ _ _ _ _ _ rfl hl hs (fun h=>absurd h t11) h
   subst h1
   exact ⟨rfl,fun j a b=>by omega,_,_,h⟩
  |succ n ih=>
   intro k e a hn hl hs h
   unfold jE at h
   by_cases hc:e=0
   ·rw[iP t19]at h
    obtain ⟨h1,h2,h3⟩:=ih _ _ _ t11 hl hs h
    refine ⟨hc,fun j a b=> ?_,h3⟩
    by_cases hj:j=k
    ·rw[hj];exact h1
    exact h2 j t11 b
   rw[iQ (by intro hx;simp only[bb]at hx;exact hc hx.2)]at h
   exact absurd (q2 _ _ _ _ _ _ rfl hl hs (fun h=>absurd h t11) h).1 hc
 unfold vG at h
 split at h
 ·cases h
 rename_i hl
 rw[Bool.not_eq_true]at hl
 simp only[bb]at hl
 have hb:QU r f.bill=0/\0<f.bF.length/\jE r f 0 0 0=0:=by
  split at h
  ·have:=(q1 _ _ _ _ rfl t11 t11 h).1;omega
  rename_i hc
  have h1:=(q1 _ _ _ _ rfl t11 t11 h).1
  rw[Bool.not_eq_true]at hc
  simp only[bb]at hc
  unfold Jw at h
  rw[h1]at h
  exact ⟨h1,by omega,h⟩
 obtain ⟨hb1,hb2,h⟩:=hb
 obtain ⟨_,h2,b,c,h3⟩:=q1 _ _ _ _ rfl t11 t11 h
 obtain ⟨_,h4,h5,h6⟩:=q2 _ _ _ _ _ _ rfl t11 t11 (fun h=>absurd h t11) h3
 exact ⟨by omega,by omega,by omega,by omega,hb2,hb1,fun k hk=>h2 k (Nat.zero_le _) hk,fun k hk=>h4 k (Nat.zero_le _) hk,h5,h6⟩
structure Bl10 (r:Rlm) (b:Bil):Prop where
 realm:ZS r=0
 bP:0<=b.bP/\b.bP<r.bC.length
 bO:0<=b.bO/\b.bO<r.bC.length
 bQ:b.bQ= -1∨0<=b.bQ/\b.bQ<r.bC.length
 need:b.need= -1∨0<=b.need/\b.need<r.bC.length
 cur:0<=b.cur/\b.cur<r.bA.length
 city:0<=b.city/\b.city<r.bB.length
 pay:0<=b.pay/\b.pay<r.bB.length
 sum:1<=b.sum/\b.sum<=1099511627776
 day:0<=b.day/\b.day<=100000
 rate:0<=b.rate/\b.rate<=1000
 parts:1<=b.parts/\b.parts<=4
 flags:0<=b.flags/\b.flags<=7
 order:b.bQ= -1->YA .i64 b.flags 4=0
 ten:WU b=true
 us:b.ten.kind=4->(zDi r b.city b.pay).2=0
theorem qw {r:Rlm} {b:Bil} (h:QU r b=0):Bl10 r b:=by
 unfold QU at h
 split at h
 ·rename_i h0
  split at h
  ·cases h
  rename_i h1
  rw[Bool.not_eq_true]at h1
  simp only[uX,HK,Vr,bb]at h1
  split at h
  ·cases h
  rename_i h2
  rw[Bool.not_eq_true]at h2
  simp only[Vr,bb]at h2
  split at h
  ·cases h
  rename_i h3
  rw[Bool.not_eq_true]at h3
  simp only[bb]at h3
  split at h
  ·cases h
  rename_i h4
  rw[Bool.not_eq_true]at h4
  simp only[bb]at h4
  have h5:WU b=true:=by
   have:=h4.2
   simpa using this
  refine ⟨h0,by omega,by omega,by omega,by omega,by omega,by omega,by omega,by omega,by omega,by omega,by omega,by omega,fun hp=> ?_,h5,fun hk=> ?_⟩
  ·have:=h4.1
   have h6:=this.2
   rcases h6 with h6|h6
   ·exact absurd hp h6
   exact h6
  rw[iP hk]at h;exact h
 rename_i h0;exact absurd h h0
structure Sg12 (r:Rlm) (f:Fil) (k:Nat) (s:Sgn):Prop where
 part:0<=s.part/\s.part<=f.bill.parts-1
 who:0<=s.who/\s.who<r.bC.length
 city:0<=s.city/\s.city<r.bB.length
 first:k=0->s.day=f.bill.day
 late:s.day<=100000
 rise:0<k->(f.bF.getD (k-1) dF).day<=s.day
 fits:Yp r f k=true
 once:s.kind=1->∀j,j<k->¬((f.bF.getD j dF).kind=1/\(f.bF.getD j dF).part=s.part)
theorem zPd {r:Rlm} {f:Fil} (hr:FitR r) (hb:Bl10 r f.bill) {k:Nat} (h:Yi r f (k:Int)=0):Sg12 r f k (f.bF.getD k dF):=by
 have a1:=hr.bC
 have a2:=hr.bB
 have a3:=hb.parts
 have e1:IntKind.i64.wrap (f.bill.parts-1)=f.bill.parts-1:=zT (by unfold inR;omega)
 have e2:IntKind.i64.wrap ((r.bC.length:Int)-1)=(r.bC.length:Int)-1:=zT (by unfold inR;omega)
 have e3:IntKind.i64.wrap ((r.bB.length:Int)-1)=(r.bB.length:Int)-1:=zT (by unfold inR;omega)
 unfold Yi at h
 rw[e1,e2,e3,show ((k:Int)).toNat=k from rfl]at h
 split at h
 ·cases h
 rename_i h1
 have h1:wiV (f.bF.getD k dF).part 0 (f.bill.parts-1)=true:=by simpa using h1
 rw[ZJ]at h1
 split at h
 ·cases h
 rename_i h2
 rw[Bool.not_eq_true]at h2
 simp only[bb,zHg,ZJ,Bool.not_eq_false']at h2
 split at h
 ·cases h
 rename_i h3
 rw[Bool.not_eq_true]at h3
 simp only[bb]at h3
 have hk:∀j:Int,yg r f (k:Int) j=0->Yp r f (k:Int)=true/\((f.bF.getD k dF).kind=1->∀j,j<k->¬((f.bF.getD j dF).kind=1/\(f.bF.getD j dF).part=(f.bF.getD k dF).part)):=by
  intro j h
  unfold yg at h
  split at h
  ·cases h
  rename_i h4
  refine ⟨by simpa using h4,?_⟩
  have hL:∀n i,k-i=n->i<=k->qp r f (k:Int) j i=0->(f.bF.getD k dF).kind=1->∀j,i<=j->j<k->¬((f.bF.getD j dF).kind=1/\(f.bF.getD j dF).part=(f.bF.getD k dF).part):=by
   intro n
   induction n with
   |zero=>intro i hn hi _ _ j q1 q2;omega
   |succ n ih=>
    intro i hn hi h hkd j q1 q2
    unfold qp at h
    rw[show ((k:Int)).toNat=k from rfl]at h
    rw[iP t19]at h
    split at h
    ·cases h
    rename_i h5
    by_cases hj:j=i
    ·subst hj
     intro hc
     exact h5 (by simp only[bb];exact hc)
    exact ih (i+1) t11 t11 h hkd j t11 q2
  exact fun hkd j hj=>hL _ 0 rfl (Nat.zero_le _) h hkd j (Nat.zero_le _) hj
 have hrise:0<k->(f.bF.getD (k-1) dF).day<=(f.bF.getD k dF).day:=fun hk0=>by
  rw[iP (show (0:Int)<(k:Int)by omega),show (((k:Int)-1).toNat)=k-1 by omega]at h
  split at h
  ·cases h
  omega
 have hfin:yg r f (k:Int) 0=0:=by
  split at h
  ·split at h
   ·cases h
   exact h
  exact h
 obtain ⟨h5,h6⟩:=hk 0 hfin
 exact ⟨h1,by omega,by omega,fun hk0=>by omega,by omega,hrise,h5,h6⟩
structure Eqv (k:Int) (F G:Fil):Prop where
 bill:G.bill=F.bill
 bF:G.bF=F.bF
 bH:G.bH=F.bH
 acts:G.acts=F.acts∨∃p,p.kind=6/\G.acts=F.acts++ [p]
 facts:∀i,i≠k->G.facts.filter (fun x=>decide (x.at_=i))=F.facts.filter (fun x=>decide (x.at_=i))
theorem Eqv.get {k:Int} {F G:Fil} (h:Eqv k F G) {i:Nat} (hi:i<F.acts.length):i<G.acts.length/\G.acts.getD i dF=F.acts.getD i dF:=by
 rcases h.acts with e|⟨p,_,e⟩<;>rw[e]
 ·exact ⟨hi,rfl⟩
 refine ⟨by simp;omega,?_⟩
 rw[List.getD_eq_getElem?_getD,List.getElem?_append_left hi,List.getD_eq_getElem?_getD]
theorem Eqv.past {k:Int} {F G:Fil} (h:Eqv k F G) {i:Nat} (hi:¬i<F.acts.length) (hj:i<G.acts.length):(G.acts.getD i dF).kind=6/\¬i+1<G.acts.length:=by
 rcases h.acts with e|⟨p,hp,e⟩<;>rw[e]at hj⊢
 ·exact absurd hj hi
 have:i=F.acts.length:=by simp at hj;omega
 subst this
 refine ⟨?_,by simp⟩
 rw[List.getD_eq_getElem?_getD,List.getElem?_append_right (Nat.le_refl _)]
 simpa using hp
def At (k day:Int) (f g:Fil):Prop:=Eqv k (atV f day) (atV g day)
theorem zUr (f:Fil) (day:Int):atV (atV f day) day=atV f day:=by
 have tt:∀ {α:Type} (p:α->Bool) (l:List α),(l.takeWhile p).takeWhile p=l.takeWhile p:=fun p l=>by
  induction l with
  |nil=>rfl
  |cons a l ih=>
   rw[List.takeWhile_cons]
   split
   ·rename_i h;rw[List.takeWhile_cons,iP h,ih]
   rfl
 have ff:∀ {α:Type} (p:α->Bool) (l:List α),(l.filter p).filter p=l.filter p:=fun p l=>by
  rw[List.filter_filter];simp
 rw[Zb (atV f day),Zb f]
 have e:upto (upto f.bF day) day=upto f.bF day:=tt _ _
 simp only[e,tt,ff]
theorem At.at_ {k day:Int} {f g:Fil} (h:At k day f g):At k day (atV f day) (atV g day):=by
 unfold At;rw[zUr,zUr];exact h
theorem vJ (f:Fil) (day:Int):(atV f day).bill=f.bill:=by rw[Zb]
theorem At.bill {k day:Int} {f g:Fil} (h:At k day f g):g.bill=f.bill:=by
 have:=Eqv.bill h
 rwa[vJ,vJ]at this
theorem Xj (f:Fil) (kind at_:Int):Zg f kind at_=match (f.facts.filter (fun x=>decide (x.at_=at_))).find? (fun x=>decide (x.kind=kind))with|some x=>JU (!decide (x.n=0))|none=>⟨false,0⟩:=by
 have:∀n i,f.facts.length-i=n->i<=f.facts.length->jC f kind at_ i=match ((f.facts.drop i).filter (fun x=>decide (x.at_=at_))).find? (fun x=>decide (x.kind=kind))with|some x=>JU (!decide (x.n=0))|none=>⟨false,0⟩:=by
  intro n
  induction n with
  |zero=>
   intro i hn hi
   have e:i=f.facts.length:=by omega
   unfold jC
   rw[iQ t11,e,List.drop_length];rfl
  |succ n ih=>
   intro i hn hi
   have hi2:i<f.facts.length:=by omega
   have e3:f.facts.drop i=f.facts.getD i dF::f.facts.drop (i+1):=by rw[List.drop_eq_getElem_cons hi2,List.getD_eq_getElem?_getD,List.getElem?_eq_getElem hi2];rfl
   have hr:=ih (i+1) t11 hi2
   unfold jC
   rw[iP hi2,e3]
   generalize f.facts.getD i dF=y at*
   by_cases h1:y.at_=at_
   ·rw[List.filter_cons_of_pos (by simpa using h1)]
    by_cases h2:y.kind=kind
    ·rw[iP (by simp[h1,h2]),List.find?_cons_of_pos (by simpa using h2)]
    rw[iQ (by simp[h2]),List.find?_cons_of_neg (by simpa using h2)];exact hr
   rw[iQ (by simp[h1]),List.filter_cons_of_neg (by simpa using h1)];exact hr
 have h:=this _ 0 rfl (Nat.zero_le _)
 rw[List.drop_zero]at h
 exact h
theorem zTi {k:Int} {F G:Fil} (h:Eqv k F G) (kind:Int) {at_:Int} (ha:at_≠k):Zg G kind at_=Zg F kind at_:=by
 rw[Xj,Xj,h.facts at_ ha]
theorem ZBf {k:Int} {F G:Fil} (h:Eqv k F G) (r:Rlm) {s hd:Int} (d due day:Int) (h1:s≠k) (h2:mxI hd 0≠k):QF r ⟨G,s,hd,d,due,day⟩=QF r ⟨F,s,hd,d,due,day⟩:=by
 have hb:qm ⟨G,s,hd,d,due,day⟩=qm ⟨F,s,hd,d,due,day⟩:=by simp only[qm,h.bF]
 have ha:((⟨G,s,hd,d,due,day⟩:Cas).file.bH.any fun a=>VB a ⟨G,s,hd,d,due,day⟩)=((⟨F,s,hd,d,due,day⟩:Cas).file.bH.any fun a=>VB a ⟨F,s,hd,d,due,day⟩):=by
  show G.bH.any _=F.bH.any _
  rw[h.bH];rfl
 unfold QF
 rw[hb,ha]
 simp only[h.bF,h.bill,zTi h _ h1,zTi h _ h2]
theorem zKr (r:Rlm) (bK:Int):∀c c':Cas,c.file.bF=c'.file.bF->c.file.bill=c'.file.bill->c.sign=c'.sign->Zk r bK c=Zk r bK c':=by
 rintro ⟨⟨b,s,al,ac,fc⟩,sg,hd,de,du,dy⟩ ⟨⟨b',s',al',ac',fc'⟩,sg',hd',de',du',dy'⟩ h1 h2 h3
 dsimp only at h1 h2 h3
 subst h1 h2 h3
 rfl
theorem ZEc {k day:Int} {f g:Fil} (h:At k day f g) (r:Rlm) (bK q:Int) {s hd:Int} (d due:Int) (h1:s≠k) (h2:mxI hd 0≠k):yB r bK q ⟨g,s,hd,d,due,day⟩=yB r bK q ⟨f,s,hd,d,due,day⟩:=by
 have e1:(ofV r ⟨g,s,hd,d,due,day⟩).2=(ofV r ⟨f,s,hd,d,due,day⟩).2:=ZBf h r d due day h1 h2
 have e2:Zk r bK (ofV r ⟨g,s,hd,d,due,day⟩).1=Zk r bK (ofV r ⟨f,s,hd,d,due,day⟩).1:=zKr r bK _ _ h.bF (Eqv.bill h) rfl
 unfold yB
 rw[e1,e2]
theorem zCv {k day:Int} {f g:Fil} (h:At k day f g) (r:Rlm) (bK q:Int) {s hd:Int} (d due:Int) (h1:s≠k) (h2:mxI hd 0≠k):qQ r bK q ⟨g,s,hd,d,due,day⟩=qQ r bK q ⟨f,s,hd,d,due,day⟩:=by
 unfold qQ
 rw[ZEc h r bK q d due h1 h2]
theorem zJn (f:Fil) (day:Int):atV ⟨f.bill,f.bF,f.bH,f.acts,[]⟩ day=⟨(atV f day).bill,(atV f day).bF,(atV f day).bH,(atV f day).acts,[]⟩:=by
 rw[Zb,Zb];rfl
theorem zGn {k day:Int} {f g:Fil} (h:At k day f g) (r:Rlm) (bK q:Int):Qs r bK q g day=Qs r bK q f day:=by
 refine zCv (k:= -7) ?_ r bK q (-1) (-1) t23 t23
 unfold At
 rw[zJn,zJn]
 have hb:(atV g day).bill=(atV f day).bill:=Eqv.bill h
 exact ⟨hb,h.bF,h.bH,h.acts,fun _ _=>rfl⟩
theorem zPf {k:Int} {F G:Fil} (h:Eqv k F G):qT G=qT F:=by
 have h2:∀n i a1 k1 a,F.acts.length-i=n->yK G a1 k1 a i=yK F a1 k1 a i:=by
  intro n
  induction n with
  |zero=>
   intro i a1 k1 a hn
   have hF:¬i<F.acts.length:=by omega
   unfold yK
   rw[iQ hF]
   by_cases hG:i<G.acts.length
   ·obtain ⟨p1,p2⟩:=h.past hF hG
    rw[iP hG,p1,iQ t25,iQ t25,yK,iQ p2]
   rw[iQ hG]
  |succ n ih=>
   intro i a1 k1 a hn
   have hF:i<F.acts.length:=by omega
   obtain ⟨g1,g2⟩:=h.get hF
   unfold yK
   rw[iP g1,iP hF,g2,h.bill,ih _ _ _ _ t11,ih _ _ _ _ t11]
 have h1:∀n i a,F.bF.length-i=n->Yj G a i=Yj F a i:=by
  intro n
  induction n with
  |zero=>
   intro i a hn
   unfold Yj
   have hS:¬i<F.bF.length:=by omega
   rw[h.bF,iQ hS,iQ hS];exact h2 _ _ _ _ _ rfl
  |succ n ih=>
   intro i a hn
   unfold Yj
   have hS:i<F.bF.length:=by omega
   rw[h.bF,iP hS,iP hS,h.bill,ih _ _ t11,ih _ _ t11]
 exact h1 _ _ _ rfl
theorem zIm {k day:Int} {f g:Fil} (h:At k day f g) (r:Rlm) (bK:Int):ZT r bK g day=ZT r bK f day:=by
 unfold ZT
 rw[zGn h.at_,zPf h,h.bF,Eqv.bill h]
structure Seen2 (k:Int) (v w:Dvw):Prop where
 r:w.r=v.r
 bK:w.bK=v.bK
 sign:w.sign=v.sign
 day:w.day=v.day
 due:w.due=v.due
 f:Eqv k v.f w.f
 at_:At k v.day v.f w.f
theorem ZCx {k day:Int} {f g:Fil} (h:At k day f g) (r:Rlm) (bK s:Int):Seen2 k (zn r bK f s day) (zn r bK g s day):=⟨rfl,rfl,rfl,rfl,zIm h r bK,h,h.at_⟩
section
variable {k:Int} {v w:Dvw} (h:Seen2 k v w)
include h
theorem Qt (q:Int) (h0:0<=v.sign) (h1:v.sign≠k):zO w q=zO v q:=by
 have h2:mxI v.sign 0≠k:=by unfold mxI;rw[iQ t11];exact h1
 unfold zO
 rw[h.r,h.bK,h.sign,h.due,h.day]
 exact zCv h.at_ v.r v.bK q (-1) v.due h1 h2
theorem WL (said:Sad) (fr:Int):ZO w said fr=ZO v said fr:=by
 unfold ZO;rw[h.r,h.f.bill]
theorem ZBp:Yx w=Yx v:=by
 unfold Yx;rw[h.r,h.bK,h.day,zGn h.at_,h.f.bill]
theorem zOr (on:Int) (t:Dtm):ZI w on t=ZI v on t:=by
 unfold ZI;rw[h.day]
theorem zIy {kind:Int} (hk:kind≠6) (fr:Int):yf w kind fr=yf v kind fr:=by
 have h2:∀n i,v.f.acts.length-i=n->YJ w kind fr i=YJ v kind fr i:=by
  intro n
  induction n with
  |zero=>
   intro i hn
   have hF:¬i<v.f.acts.length:=by omega
   unfold YJ
   rw[iQ hF]
   by_cases hG:i<w.f.acts.length
   ·obtain ⟨p1,p2⟩:=h.f.past hF hG
    rw[iP hG,p1,iQ (by rw[decide_eq_false (fun e:6=kind=>hk e.symm)];simp),YJ,iQ p2]
   rw[iQ hG]
  |succ n ih=>
   intro i hn
   have hF:i<v.f.acts.length:=by omega
   obtain ⟨g1,g2⟩:=h.f.get hF
   unfold YJ
   rw[iP g1,iP hF,g2,h.f.bill,ih _ t11]
 exact h2 _ _ rfl
theorem XJ:yx w=yx v:=by
 unfold yx;rw[h.due,zIy h t23]
theorem Vh:ZF w=ZF v:=by
 unfold ZF;rw[h.due,XJ h]
theorem ZCb (h0:0<=v.sign) (h1:v.sign≠k):Yk w=Yk v:=by
 unfold Yk
 simp only[h.f.bill,h.due,zIy h (show (2:Int)≠6 by decide),ZBp h,zOr h,XJ h,zPf h.f,Qt h _ h0 h1,WL h]
theorem ZCa (h0:0<=v.sign) (h1:v.sign≠k):jN w=jN v:=by
 have h2:∀n i j a,v.f.acts.length-i=n->yd w j a i=yd v j a i:=by
  intro n
  induction n with
  |zero=>
   intro i j a hn
   have hF:¬i<v.f.acts.length:=by omega
   unfold yd
   rw[iQ hF]
   by_cases hG:i<w.f.acts.length
   ·obtain ⟨p1,p2⟩:=h.f.past hF hG
    rw[iP hG,p1,iP t25,yd,iQ p2]
   rw[iQ hG]
  |succ n ih=>
   intro i j a hn
   have hF:i<v.f.acts.length:=by omega
   obtain ⟨g1,g2⟩:=h.f.get hF
   unfold yd
   rw[iP g1,iP hF,g2]
   simp only[h.f.bill,Vh h,WL h,Qt h _ h0 h1,ih (i+1) _ _ (show v.f.acts.length-(i+1)=n by omega)]
 unfold jN QL
 simp only[WL h,Qt h _ h0 h1,Vh h,h.day,h2 _ _ _ _ rfl]
theorem ZCo (h0:0<=v.sign) (h1:v.sign≠k):jS w=jS v:=by
 have h3:∀n i k1 a b c,k1<v.f.acts.length->b.length-i=n->YG w a b k1 c i=YG v a b k1 c i:=by
  intro n
  induction n with
  |zero=>
   intro i k1 a b c hk hn
   obtain ⟨g1,g2⟩:=h.f.get hk
   unfold YG
   have hS:¬i<b.length:=by omega
   rw[iQ hS,iQ hS]
   simp only[g2,WL h,Qt h _ h0 h1,h.f.bF,h.sign]
  |succ n ih=>
   intro i k1 a b c hk hn
   obtain ⟨g1,g2⟩:=h.f.get hk
   unfold YG
   have hS:i<b.length:=by omega
   rw[iP hS,iP hS]
   simp only[g2,WL h,Qt h _ h0 h1,ih (i+1) k1 _ _ _ hk (show b.length-(i+1)=n by omega)]
 have h2:∀n i a b,v.f.acts.length-i=n->yt w a b i=yt v a b i:=by
  intro n
  induction n with
  |zero=>
   intro i a b hn
   have hF:¬i<v.f.acts.length:=by omega
   unfold yt
   rw[iQ hF,h.day]
   by_cases hG:i<w.f.acts.length
   ·obtain ⟨p1,p2⟩:=h.f.past hF hG
    rw[iP hG,p1,iQ t23,yt,iQ p2,h.day]
   rw[iQ hG]
  |succ n ih=>
   intro i a b hn
   have hF:i<v.f.acts.length:=by omega
   obtain ⟨g1,g2⟩:=h.f.get hF
   unfold yt
   rw[iP g1,iP hF,g2]
   simp only[Vh h,WL h,Qt h _ h0 h1,h3 _ _ i _ _ _ hF rfl,ih (i+1) _ _ (show v.f.acts.length-(i+1)=n by omega)]
 unfold jS
 simp only[WL h,Qt h _ h0 h1,Vh h,h2 _ _ _ _ rfl]
end
theorem ZDi {k day:Int} {f g:Fil} (h:At k day f g) (r:Rlm) (bK:Int) {s:Int} (h0:0<=s) (h1:s≠k):jT r bK g s day=jT r bK f s day:=by
 have hl:=ZCx h r bK s
 have e1:=ZCb hl h0 h1
 have e2:=ZCa hl h0 h1
 have e3:=ZCo hl h0 h1
 have e4:∀q,zO (zn r bK g s day) q=zO (zn r bK f s day) q:=fun q=>Qt hl q h0 h1
 have e5:=hl.due
 have e6:=hl.f.bF
 unfold jT
 rw[e1,e2,e3,e4,e4,e5,e6]
theorem zVn {k:Int} {F G:Fil} (h:Eqv k F G) (i:Int):jh G i=jh F i:=by
 have:∀n j a,F.bH.length-j=n->yJ G i a j=yJ F i a j:=by
  intro n
  induction n with
  |zero=>
   intro j a hn
   have hS:¬j<F.bH.length:=by omega
   unfold yJ
   rw[h.bH,iQ hS,iQ hS]
  |succ n ih=>
   intro j a hn
   have hS:j<F.bH.length:=by omega
   unfold yJ
   rw[h.bH,iP hS,iP hS,ih _ _ t11,ih _ _ t11]
 unfold jh
 rw[h.bill];exact this _ _ _ rfl
structure Seen3 (k:Int) (v w:Bvw):Prop where
 r:w.r=v.r
 bK:w.bK=v.bK
 day:w.day=v.day
 form:w.form=v.form
 due:w.due=v.due
 f:Eqv k v.f w.f
 at_:At k v.day v.f w.f
theorem HH {k day:Int} {f g:Fil} (h:At k day f g) (r:Rlm) (bK:Int):Seen3 k (ZU r bK f day) (ZU r bK g day):=
 ⟨rfl,rfl,rfl,by show wS _=wS _;rw[zGn h.at_],zIm h.at_ r bK,h,h.at_⟩
theorem zOy {k:Int} {F G:Fil} (h:Eqv k F G) (day:Int):JO G day=JO F day:=by
 rcases h.acts with e|⟨p,hp,e⟩
 ·unfold JO;rw[e]
 unfold JO
 rw[e,List.foldl_append]
 show (if zDp p day=true then _ else _)=_
 rw[iQ (by rw[zDp,hp];simp)]
theorem zOx {k:Int} {F G:Fil} (h:Eqv k F G) (s day:Int):qo G s day=qo F s day:=by
 unfold qo;rw[zOy h,h.bF]
section
variable {k:Int} {v w:Bvw} (h:Seen3 k v w)
include h
theorem HG (q:Int) {s:Int} (h0:0<=s) (h1:s≠k):yW w q s=yW v q s:=by
 have h2:mxI s 0≠k:=by unfold mxI;rw[iQ t11];exact h1
 unfold yW
 rw[h.r,h.bK,h.due,h.day,zCv h.at_ v.r v.bK q (-1) v.due h1 h2]
theorem ZAb {s:Int} (h0:0<=s) (h1:s≠k):qP w s=qP v s:=by
 have:∀n j a,v.f.bH.length-j=n->Zx w s a j=Zx v s a j:=by
  intro n
  induction n with
  |zero=>
   intro j a hn
   have hS:¬j<v.f.bH.length:=by omega
   unfold Zx
   rw[h.f.bH,iQ hS,iQ hS,zVn h.f,HG h 4 h0 h1]
  |succ n ih=>
   intro j a hn
   have hS:j<v.f.bH.length:=by omega
   unfold Zx
   rw[h.f.bH,iP hS,iP hS,ih _ _ t11]
 exact this _ _ _ rfl
theorem zGq {s:Int} (h0:0<=s) (h1:s≠k):qD w s=qD v s:=by
 unfold qD QW
 rw[zOx h.f,h.day,h.form,HG h 1 h0 h1,HG h 2 h0 h1,ZAb h h0 h1,h.f.bF]
end
theorem zCu (r:Rlm) (bK:Int) (f:Fil) (day:Int):∀(m:Nat) (a:List Efc) (i:Nat),(atV f day).bF.length-i=m->i<=(atV f day).bF.length->a=(List.range i).map (fun (j:Nat)=>qD (ZU r bK f day) j)->YL r bK f day a i=(List.range (atV f day).bF.length).map (fun (j:Nat)=>qD (ZU r bK f day) j):=by
 intro m
 induction m with
 |zero=>
  intro a i hn hi ha
  have hS:¬i<(ZU r bK f day).f.bF.length:=by show ¬i<(atV f day).bF.length;omega
  have e:i=(atV f day).bF.length:=by omega
  unfold YL
  rw[iQ hS,ha,e]
 |succ m ih=>
  intro a i hn hi ha
  have hS:i<(ZU r bK f day).f.bF.length:=by show i<(atV f day).bF.length;omega
  unfold YL
  rw[iP hS]
  refine ih _ _ t11 t11 ?_
  rw[ha,List.range_succ,List.map_append];rfl
theorem wQ (r:Rlm) (bK:Int) (f:Fil) (day:Int) {s:Int} (h0:0<=s) (h1:s<(atV f day).bF.length):(ZM r bK f day).getD s.toNat dF=qD (ZU r bK f day) s:=by
 have e:=zCu r bK f day _ [] 0 rfl (Nat.zero_le _) rfl
 rw[show ZM r bK f day=_ from e,List.getD_eq_getElem?_getD,List.getElem?_map,List.getElem?_range t11]
 show qD _ ((s.toNat:Nat):Int)=_
 rw[Int.toNat_of_nonneg h0]
theorem ZAi {k day:Int} {f g:Fil} (h:At k day f g) (r:Rlm) (bK:Int) {s:Int} (h1:s≠k):zW r bK g s day=zW r bK f s day:=by
 have hl:=HH h r bK
 have e:(ZU r bK g day).f.bF=(ZU r bK f day).f.bF:=hl.f.bF
 unfold zW
 rw[e]
 split
 ·rfl
 rename_i hc
 rw[Bool.not_eq_true]at hc
 simp only[bb]at hc
 rw[zGq hl t11 h1]
theorem ZCi {k day:Int} {f g:Fil} (h:At k day f g) (r:Rlm) (bK:Int) {s:Int} (h0:0<=s) (h1:s≠k):Yz r bK g s day=Yz r bK f s day:=by
 have h2:mxI s 0≠k:=by unfold mxI;rw[iQ t11];exact h1
 have e1:=ZAi h r bK h1
 have e2:=zIm h r bK
 have e3:∀q,qQ r bK q ⟨g,s,s,-1,ZT r bK f day,day⟩=qQ r bK q ⟨f,s,s,-1,ZT r bK f day,day⟩:=fun q=>zCv h r bK q (-1) _ h1 h2
 have e4:(atV g day).bF=(atV f day).bF:=h.bF
 have e5:=h.bill
 have hL:∀n i a b c,(atV f day).acts.length-i=n->yq r bK g s day a b i c=yq r bK f s day a b i c:=by
  intro n
  induction n with
  |zero=>
   intro i a b c hn
   have hF:¬i<(atV f day).acts.length:=by omega
   unfold yq
   rw[iQ hF,e1,e5]
   by_cases hG:i<(atV g day).acts.length
   ·obtain ⟨p1,p2⟩:=Eqv.past h hF hG
    rw[iP hG,p1,iQ t23,yq,iQ p2,e1,e5]
   rw[iQ hG]
  |succ n ih=>
   intro i a b c hn
   have hF:i<(atV f day).acts.length:=by omega
   obtain ⟨g1,g2⟩:=Eqv.get h hF
   unfold yq
   rw[iP g1,iP hF,g2,ih _ _ _ _ t11,ih _ _ _ _ t11]
 unfold Yz QN jP jQ
 simp only[e1,e2,e3,e4,e5,hL _ _ _ _ _ rfl]
theorem zTa {α:Type} [Inhabited α] (p:α->Bool):∀(l:List α) (i:Nat),(zQ p l i= -1/\l.find? p=none)∨∃j:Nat,zQ p l i=((i+j:Nat):Int)/\l.find? p=some (l.getD j dF):=by
 intro l
 induction l with
 |nil=>intro i;exact .inl ⟨rfl,rfl⟩
 |cons a l ih=>
  intro i
  unfold zQ
  cases h:p a with
  |true=>exact .inr ⟨0,by rw[iP rfl];rfl,by rw[List.find?_cons_of_pos h];rfl⟩
  |false=>
   rw[iQ t23,List.find?_cons_of_neg (by rw[h];decide)]
   rcases ih (i+1)with ⟨h1,h2⟩|⟨j,h1,h2⟩
   ·exact .inl ⟨h1,h2⟩
   exact .inr ⟨j+1,by rw[h1];congr 1;omega,by rw[h2];rfl⟩
theorem XF (v:Ovw) (kind s:Int):Qf v kind s=match (v.now.facts.filter (fun x=>decide (x.at_=s))).find? (fun x=>decide (x.kind=kind))with|some x=>if x.n=0 then 0 else 1|none=>2:=by
 have e:(v.now.facts.filter (fun x=>decide (x.at_=s))).find? (fun x=>decide (x.kind=kind))=v.now.facts.find? (fun y=>uA y kind s):=by
  rw[List.find?_filter]
  congr 1
  funext x
  unfold uA
  by_cases h1:x.kind=kind<;>by_cases h2:x.at_=s<;>simp[h1,h2]
 rw[e]
 unfold Qf
 rcases zTa (fun y=>uA y kind s) v.now.facts 0 with ⟨h1,h2⟩|⟨j,h1,h2⟩
 ·rw[h1,h2,iP t23]
 rw[h1,h2,iQ t11,Nat.zero_add];rfl
structure Sim (k day:Int) (f g:Fil):Prop where
 at_:At k day f g
 links:∀part,zK (zm g day) part=zK (zm f day) part
 off:∀part l,l∈zK (zm f day) part->0<=l/\l≠k
theorem ZBm {k:Int} {F G:Fil} (h:Eqv k F G):HZ G=HZ F:=by
 rcases h.acts with e|⟨p,hp,e⟩
 ·unfold HZ;rw[e]
 unfold HZ
 rw[e,List.foldl_append]
 show (if decide (p.kind=7)=true then _ else _)=_
 rw[iQ (by rw[hp];decide)]
theorem zRs {k:Int} {F G:Fil} (h:Eqv k F G):YZ G=YZ F:=by
 have e:ldR G=ldR F:=by
  unfold ldR
  have:ldB G=ldB F:=by funext j;unfold ldB;rw[h.bF,ZBm h]
  rw[this,h.bF]
 unfold YZ;rw[e]
theorem try_e {k day:Int} {f g:Fil} (h:At k day f g) (r:Rlm) (bK:Int):(Yd r bK f day).2=(Yd r bK g day).2:=by
 unfold Yd;split<;>rfl
structure Seen4 (k:Int) (c d:Crt):Prop where
 r:d.r=c.r
 bK:d.bK=c.bK
 due:d.due=c.due
 day:d.v.day=c.v.day
 lead:d.v.lead=c.v.lead
 now:Eqv k c.v.now d.v.now
 at_:At k c.v.day c.v.now d.v.now
 all:At k c.v.day c.v.all d.v.all
theorem zOm {r:Rlm} {bK:Int} {f:Fil} {day:Int} (h:¬(!(Yd r bK f day).2)=true):(Yd r bK f day).1=⟨zm f day,r,bK,ZT r bK f day⟩:=by
 unfold Yd at h⊢
 split
 ·rename_i h1;rw[iP h1]at h;exact absurd rfl h
 rfl
theorem zZo {k day:Int} {f g:Fil} (h:At k day f g) (r:Rlm) (bK:Int):Seen4 k ⟨zm f day,r,bK,ZT r bK f day⟩ ⟨zm g day,r,bK,ZT r bK g day⟩:=
 ⟨rfl,rfl,zIm h r bK,rfl,zRs h,h,h.at_,h⟩
section
variable {k:Int} {c d:Crt} (h:Seen4 k c d)
include h
theorem zPh (kind:Int) {s:Int} (h1:s≠k):Qf d.v kind s=Qf c.v kind s:=by
 rw[XF,XF,h.now.facts s h1]
theorem ZCc {l last:Int} (h1:l≠k) (h0:0<=last) (h2:last≠k):Jc d l last=Jc c l last:=by
 have h3:mxI last 0≠k:=by unfold mxI;rw[iQ t11];exact h2
 unfold Jc
 rw[zPh h 0 h1,zPh h 2 h1,h.r,h.bK,h.due,h.day,zCv h.at_ c.r c.bK 3 (-1) c.due h1 h3]
theorem ZCg (last:Int) (h0:0<=last) (h2:last≠k):∀(l:List Int) (o:Onr),(∀x,x∈l->x≠k)->VT d last l o=VT c last l o:=by
 intro l
 induction l with
 |nil=>intro o _;rfl
 |cons a l ih=>
  intro o hl
  have e:=ZCc h (hl a t25) h0 h2
  have hl':∀x,x∈l->x≠k:=fun x hx=>hl x (List.mem_cons_of_mem _ hx)
  rw[VT,VT,e,h.now.bF,ih _ hl',ih _ hl']
theorem own_e (l:List Int) (hl:∀x,x∈l->0<=x/\x≠k):jq d l=jq c l:=by
 have e0:Hy d=Hy c:=by unfold Hy;rw[h.now.bill]
 unfold jq
 rw[e0]
 cases l with
 |nil=>rfl
 |cons a l=>
  have hm:Jj (a::l)∈a::l:=by
   unfold Jj
   exact zJ (by simp only[List.length_cons];omega)
  obtain ⟨h1,h2⟩:=hl _ hm
  exact ZCg h _ h1 h2 _ _ fun x hx=>(hl x hx).2
theorem ZCe (s:Int):Jd d.v s=Jd c.v s:=by
 unfold Jd;rw[h.lead,h.now.bF]
theorem ZDd (part by_:Int) (links:List Int):∀n,qt d.v part by_ links n=qt c.v part by_ links n:=by
 intro n
 induction n with
 |zero=>rfl
 |succ n ih=>
  have e:∀l,VV d.v by_ links l n=VV c.v by_ links l n:=fun l=>by unfold VV;rw[h.now.bF]
  rw[qt,qt,ih,ZCe h,e]
theorem lia_e (part by_:Int) (links:List Int):Zn d.v part by_ links=Zn c.v part by_ links:=by
 unfold Zn;rw[ZDd h,h.now.bF]
theorem bas_e (s:Int):QX d.v s=QX c.v s:=by
 have:∀n s,JK d.v.now n s=JK c.v.now n s:=by
  intro n
  induction n with
  |zero=>intro s;rfl
  |succ n ih=>intro s;rw[JK,JK,h.now.bF,ih]
 exact this _ _
theorem st_e (o:Onr) {s:Int} (links:List Int) (effs effs':List Efc) (h0:0<=QX c.v s) (h1:QX c.v s≠k) (he:(effs'.getD s.toNat dF).binds=(effs.getD s.toNat dF).binds) (hr:(effs'.getD (QX c.v s).toNat dF).recourse=(effs.getD (QX c.v s).toNat dF).recourse):stO d o s links effs'=stO c o s links effs:=by
 have e1:=bas_e h s
 have e2:jT d.r d.bK d.v.all (QX c.v s) d.v.day=jT c.r c.bK c.v.all (QX c.v s) c.v.day:=by
  rw[h.r,h.bK,h.day];exact ZDi h.all c.r c.bK h0 h1
 have e3:(d.v.now.acts.any fun y=>Ud y)=c.v.now.acts.any fun y=>Ud y:=by
  rcases h.now.acts with e|⟨p,hp,e⟩<;>rw[e]
  rw[List.any_append]
  simp[Ud,hp]
 have hL:∀n i a b,links.length-i=n->JY d o s links effs' a b i=JY c o s links effs a b i:=by
  intro n
  induction n with
  |zero=>
   intro i a b hn
   have hS:¬i<links.length:=by omega
   unfold JY
   rw[iQ hS,iQ hS,e1,he,e2]
  |succ n ih=>
   intro i a b hn
   have hS:i<links.length:=by omega
   unfold JY
   rw[iP hS,iP hS,e1]
   simp only[ih (i+1) _ _ (show links.length-(i+1)=n by omega)]
 unfold stO
 rw[e1,h.now.bF,h.due,h.day,he,hr,e3,hL _ _ _ _ rfl]
end
def we (k:Int) (F:Fil) (s:Int):Bool:= !decide (s=k)&& !decide (vv F s=k)
theorem WJ {α:Type} (p:Clm->Bool) {g1 g2:List Clm->α->List Clm} :∀(l:List α) (a b:List Clm),a.filter p=b.filter p->(∀x,x∈l->∀a b,a.filter p=b.filter p->(g1 a x).filter p=(g2 b x).filter p)->(l.foldl g1 a).filter p=(l.foldl g2 b).filter p:=by
 intro l
 induction l with
 |nil=>intro a b h _;exact h
 |cons x l ih=>intro a b h hg;exact ih _ _ (hg x t25 a b h) fun y hy=>hg y (List.mem_cons_of_mem _ hy)
theorem clm_e {k day:Int} {f g:Fil} (h:Sim k day f g) (hB:yY f) (r:Rlm) (bK:Int):(Yg r bK g day).filter (fun x=>we k (atV f day) x.sign)=(Yg r bK f day).filter (fun x=>we k (atV f day) x.sign):=by
 have ht:=try_e h.at_ r bK
 by_cases hc:(!(Yd r bK f day).2)=true
 ·rw[Yg,Yg,iP hc,iP (by rw[<-ht];exact hc)]
 have hc':¬(!(Yd r bK g day).2)=true:=by rw[<-ht];exact hc
 rw[Yg,Yg,iQ hc,iQ hc']
 have hF:=zOm hc
 have hG:=zOm hc'
 have hC:=zZo h.at_ r bK
 have hle:YZ (atV g day)=YZ (atV f day):=zRs h.at_
 rw[hle]
 refine WJ _ _ _ _ rfl fun p _ a b hab=> ?_
 have hlk:=h.links p
 unfold vD
 rw[hF,hG,hlk,own_e hC _ (fun x hx=>h.off p x hx)]
 refine WJ _ _ _ _ hab fun o _ a b hab=> ?_
 unfold wT
 rw[hlk,lia_e hC p o.sign (zK (zm f day) p)]
 refine WJ _ _ _ _ hab fun s hs a b hab=> ?_
 have hsr:=(ua _ _ _ _).2 s hs
 have hs2:s<(atV f day).bF.length:=hsr.2
 have hbr:=zGr (hB.at_ day) ⟨hsr.1,hs2⟩
 have hsg:(atV g day).bF=(atV f day).bF:=h.at_.bF
 unfold WN
 rw[hF,hG,hlk,hsg,h.at_.bill]
 by_cases hk:we k (atV f day) s=true
 ·have hk1:s≠k:=by intro e;simp[we,e]at hk
  have hk2:vv (atV f day) s≠k:=by intro e;simp[we,e]at hk
  have e1:((ZM r bK g day).getD s.toNat dF).binds=((ZM r bK f day).getD s.toNat dF).binds:=by
   rw[wQ r bK f day hsr.1 hs2,wQ r bK g day hsr.1 (by rw[hsg];exact hs2),zGq (HH h.at_ r bK) hsr.1 hk1]
  have e2:((ZM r bK g day).getD (vv (atV f day) s).toNat dF).recourse=((ZM r bK f day).getD (vv (atV f day) s).toNat dF).recourse:=by
   rw[wQ r bK f day hbr.1 hbr.2,wQ r bK g day hbr.1 (by rw[hsg];exact hbr.2),zGq (HH h.at_ r bK) hbr.1 hk2]
  rw[st_e hC o (zK (zm f day) p) (ZM r bK f day) (ZM r bK g day) hbr.1 hk2 e1 e2,ZCi h.at_ r bK hsr.1 hk1]
  split
  ·exact hab
  rw[List.filter_append,List.filter_append,hab]
 have hf:∀x:Clm,x.sign=s-> [x].filter (fun x=>we k (atV f day) x.sign)= []:=fun x hx=>List.filter_cons_of_neg (by rw[hx];exact hk)
 have e:∀(q:Prop) [Decidable q] (l:List Clm) (x:Clm),x.sign=s->(if q then l else l++ [x]).filter (fun x=>we k (atV f day) x.sign)=l.filter (fun x=>we k (atV f day) x.sign):=fun q _ l x hx=>by
  split
  ·rfl
  rw[List.filter_append,hf x hx,List.append_nil]
 rw[e _ _ _ rfl,e _ _ _ rfl,hab]
def jO (a:Act) (str:Bool) (x:Clm):Clm:=if qf a str x=true then {x with sum:=IntKind.i64.wrap (mxI 0 x.sum-JQ a x)} else x
def bkC (a:Act) (x:Clm):Clm:= {x with bI:=a.who,by_:=a.at_,sum:=JQ a x}
def bkB (a:Act) (q:Int) (str:Bool) (x:Clm):Bool:=qf a str x&&zPy a q x
def bkF (a:Act) (q:Int) (str:Bool) (b:List Clm) (x:Clm):List Clm:=if bkB a q str x=true then ZL Wp (bkC a x) b else b
def Jl (b n:List Clm):List Clm:=b.foldl (fun n c=>ZL yA c n) n
theorem zWw (a:Act) (q:Int) (str:Bool) (l:List Clm):∀k,k<=l.length->(Qa a q str l k).now=(l.take k).map (jO a str)++l.drop k/\(Qa a q str l k).back=(l.take k).foldl (bkF a q str) []:=by
 intro k
 induction k with
 |zero=>intro _;exact ⟨by simp[Qa],rfl⟩
 |succ k ih=>
  intro hk
  obtain ⟨h1,h2⟩:=ih t11
  have hk':k<l.length:=by omega
  have e1:l.take (k+1)=l.take k++ [l.getD k dF]:=by rw[List.take_succ_eq_append_getElem hk',List.getD_eq_getElem?_getD,List.getElem?_eq_getElem hk'];rfl
  have e2:l.drop k=l.getD k dF::l.drop (k+1):=by rw[List.drop_eq_getElem_cons hk',List.getD_eq_getElem?_getD,List.getElem?_eq_getElem hk'];rfl
  have hg:(Qa a q str l k).now.getD k dF=l.getD k dF:=by
   rw[h1,List.getD_eq_getElem?_getD,List.getElem?_append_right (by simp;omega)]
   simp[Nat.min_eq_left (Nat.le_of_lt hk'),List.getD_eq_getElem?_getD]
  rw[Qa,zKt,e1,List.map_append,List.foldl_append]
  have eX: [l.getD k dF].map (jO a str)= [jO a str (l.getD k dF)]:=rfl
  have eF: [l.getD k dF].foldl (bkF a q str) ((l.take k).foldl (bkF a q str) [])=bkF a q str ((l.take k).foldl (bkF a q str) []) (l.getD k dF):=rfl
  rw[eX,eF,<-h2]
  cases hm:qf a str (l.getD k dF)
  ·rw[iP t23,jO,iQ (by rw[hm];decide),bkF,iQ (by rw[bkB,hm,Bool.false_and];decide)]
   exact ⟨by rw[h1,e2];simp,rfl⟩
  rw[iQ (by decide:¬(!true)=true),hg]
  refine ⟨?_,?_⟩
  ·dsimp only
   rw[h1,e2,List.set_append,iQ (by simp only[List.length_map,List.length_take];omega),jO,iP hm]
   simp[Nat.min_eq_left (Nat.le_of_lt hk')]
  dsimp only
  cases hp:zPy a q (l.getD k dF)
  ·rw[bkF,iQ t23,iQ (by rw[bkB,hm,hp];decide)]
  rw[bkF,iP rfl,iP (by rw[bkB,hm,hp];decide)];rfl
theorem KN (l:List Clm) (a:Act) (q:Int) (str:Bool):(Ye l a q str).1=Jl (l.foldl (bkF a q str) []) (l.map (jO a str)):=by
 have h:=zWw a q str l l.length (Nat.le_refl _)
 rw[List.take_length,List.drop_length,List.append_nil]at h
 rw[Ye,h.1,h.2];rfl
theorem vZ (a:Act) (str:Bool) (x:Clm):yE (jO a str x)=yE x:=by
 unfold jO;split<;>rfl
def qz (x:Clm):Prop:=0<=x.sum/\x.sum<=1099511627776
theorem uK (a:Act) {x:Clm} (h:qz x):0<=JQ a x/\JQ a x<=x.sum/\JQ a x=if a.sum<0 then 0 else if x.sum<a.sum then x.sum else a.sum:=by
 obtain ⟨h1,h2⟩:=h
 unfold JQ mnI mxI
 repeat' split
 all_goals omega
theorem uJ (a:Act) (str:Bool) {x:Clm} (h:qz x):(jO a str x).sum=if qf a str x=true then x.sum-JQ a x else x.sum:=by
 have h2:=uK a h
 unfold jO
 split
 ·have:mxI 0 x.sum=x.sum:=by unfold mxI;have:=h.1;split<;>omega
  dsimp only
  rw[this]
  exact zT (by unfold inR;have:=h.1;have:=h.2;omega)
 rfl
theorem XN (a:Act) (str:Bool) {x:Clm} (h:qz x):qz (jO a str x):=by
 have h1:=uJ a str h
 have h2:=uK a h
 obtain ⟨h3,h4⟩:=h
 unfold qz;rw[h1];split<;>omega
theorem zCp (a:Act) {x:Clm} (h:qz x):qz (bkC a x):=by
 have h2:=uK a h
 have:=h.2
 exact ⟨h2.1,by show JQ a x<=_;omega⟩
theorem Xb {x c:Clm} (hx:qz x) (hc:qz c):qz (Wp x c)/\(Wp x c).sum<=x.sum+c.sum:=by
 obtain ⟨a1,a2⟩:=hx
 obtain ⟨b1,b2⟩:=hc
 simp only[qz,Wp,mxI]
 split<;>omega
theorem WE {x c:Clm} (hx:qz x) (hc:qz c):qz (yA x c)/\(yA x c).sum<=x.sum+c.sum:=by
 obtain ⟨a1,a2⟩:=hx
 obtain ⟨b1,b2⟩:=hc
 have e:IntKind.i64.wrap (x.sum+c.sum)=x.sum+c.sum:=zT (by unfold inR;omega)
 simp only[qz,yA,e,mnI]
 split<;>omega
def yV (l:List Clm):Prop:=∀x,x∈l->qz x
theorem vY {u:Clm->Clm->Clm} (hu:∀x c,qz x->qz c->qz (u x c)/\(u x c).sum<=x.sum+c.sum) {c:Clm} (hc:qz c) {l:List Clm} (hl:yV l):yV (ZL u c l):=fun x h=>by
 rcases Wd u c l x h with h|rfl|⟨y,hy,rfl⟩
 ·exact hl x h
 ·exact hc
 exact (hu y c (hl y hy) hc).1
theorem zFm:∀b n:List Clm,yV b->yV n->yV (Jl b n):=by
 intro b
 induction b with
 |nil=>intro n _ h;exact h
 |cons c b ih=>intro n hb hn;exact ih _ (fun x h=>hb x (List.mem_cons_of_mem _ h)) (vY (fun _ _ h1 h2=>WE h1 h2) (hb c t25) hn)
theorem UN (a:Act) (q:Int) (str:Bool):∀l b:List Clm,yV l->yV b->yV (l.foldl (bkF a q str) b):=by
 intro l
 induction l with
 |nil=>intro b _ h;exact h
 |cons x l ih=>
  intro b hl hb
  refine ih _ (fun x h=>hl x (List.mem_cons_of_mem _ h)) ?_
  unfold bkF
  split
  ·exact vY (fun _ _ h1 h2=>Xb h1 h2) (zCp a (hl x t25)) hb
  exact hb
theorem XO (a:Act) (q:Int) (str:Bool) {l:List Clm} (hl:yV l):yV (Ye l a q str).1:=by
 rw[KN]
 refine zFm _ _ (UN a q str l [] hl fun x h=>by cases h) fun x h=> ?_
 obtain ⟨y,hy,rfl⟩:=List.mem_map.1 h
 exact XN a str (hl y hy)
def Yy (c x:Clm):Bool:=decide (x.bJ=c.bJ)&&(decide (x.part=c.part)&&decide (x.sign=c.sign))
def YN (l:List Clm) (c:Clm):Int:=l.foldr (fun x n=>(if Yy c x=true then x.sum else 0)+n) 0
theorem vU {x y c:Clm} (h:yE x=yE y):Yy c x=Yy c y:=by
 have h1:=congrArg Pky.bJ h
 have h2:=congrArg Pky.part h
 have h3:=congrArg Pky.sign h
 simp only[yE]at h1 h2 h3
 simp only[Yy,h1,h2,h3]
theorem HV {u:Clm->Clm->Clm} (hs:VN u) (hu:∀x c,qz x->qz c->qz (u x c)/\(u x c).sum<=x.sum+c.sum) (c0:Clm) {c:Clm} (hc:qz c):∀l:List Clm,yV l->YN (ZL u c l) c0<=YN l c0+if Yy c0 c=true then c.sum else 0:=by
 intro l
 induction l with
 |nil=>intro _;show _+YN [] c0<=_;have:YN [] c0=0:=rfl;omega
 |cons x l ih=>
  intro hl
  have h2:=hl x t25
  rw[ZL]
  split
  ·rename_i hk
   have h3:=(hu x c h2 hc).2
   have e1:=vU (c:=c0) (hs.key x c)
   have e2:=vU (c:=c0) hk
   show (if Yy c0 (u x c)=true then (u x c).sum else 0)+YN l c0<=((if Yy c0 x=true then x.sum else 0)+YN l c0)+_
   rw[e1,<-e2]
   split<;>omega
  have h3:=ih fun y h=>hl y (List.mem_cons_of_mem _ h)
  show (if Yy c0 x=true then x.sum else 0)+YN (ZL u c l) c0<=((if Yy c0 x=true then x.sum else 0)+YN l c0)+_
  omega
theorem zKb (c0:Clm):∀b n:List Clm,yV b->yV n->YN (Jl b n) c0<=YN n c0+YN b c0:=by
 intro b
 induction b with
 |nil=>intro n _ _;show YN n c0<=_+0;omega
 |cons c b ih=>
  intro n hb hn
  have hc:=hb c t25
  have h1:=ih (ZL yA c n) (fun x h=>hb x (List.mem_cons_of_mem _ h)) (vY (fun _ _ h1 h2=>WE h1 h2) hc hn)
  have h2:=HV WD (fun _ _ h1 h2=>WE h1 h2) c0 hc n hn
  show YN (Jl b (ZL yA c n)) c0<=YN n c0+((if Yy c0 c=true then c.sum else 0)+YN b c0)
  omega
theorem zVi (a:Act) (q:Int) (str:Bool) (c0:Clm):∀l b:List Clm,yV l->yV b->YN (l.map (jO a str)) c0+YN (l.foldl (bkF a q str) b) c0<=YN l c0+YN b c0:=by
 intro l
 induction l with
 |nil=>intro b _ _;exact Int.le_refl _
 |cons x l ih=>
  intro b hl hb
  have hx:=hl x t25
  have hl':yV l:=fun y h=>hl y (List.mem_cons_of_mem _ h)
  have hf:yV (bkF a q str b x):=UN a q str [x] b (fun y h=>by rw[List.mem_singleton.1 h];exact hx) hb
  have h1:=ih _ hl' hf
  have h2:=uK a hx
  have e1:YN ((x::l).map (jO a str)) c0=(if Yy c0 (jO a str x)=true then (jO a str x).sum else 0)+YN (l.map (jO a str)) c0:=rfl
  have e2:YN (x::l) c0=(if Yy c0 x=true then x.sum else 0)+YN l c0:=rfl
  rw[List.foldl_cons,e1,e2,vU (vZ a str x),uJ a str hx]
  have h3:YN (bkF a q str b x) c0<=YN b c0+if Yy c0 x=true then (if qf a str x=true then JQ a x else 0)else 0:=by
   unfold bkF
   split
   ·rename_i hb'
    have hm:qf a str x=true:=by
     cases h:qf a str x
     ·simp[bkB,h]at hb'
     rfl
    have h4:=HV vm (fun _ _ h1 h2=>Xb h1 h2) c0 (zCp a hx) b hb
    have e:Yy c0 (bkC a x)=Yy c0 x:=rfl
    have e':(bkC a x).sum=JQ a x:=rfl
    rw[e,e']at h4
    rw[iP hm];exact h4
   repeat' split
   all_goals omega
  revert h3
  repeat' split
  all_goals omega
theorem zPx (a:Act) (q:Int) (str:Bool) {l:List Clm} (hl:yV l) (c0:Clm):YN (Ye l a q str).1 c0<=YN l c0:=by
 have h1:=zVi a q str c0 l [] hl fun x h=>by cases h
 have h2:=zKb c0 (l.foldl (bkF a q str) []) (l.map (jO a str)) (UN a q str l [] hl fun x h=>by cases h) fun x h=>by
  obtain ⟨y,hy,rfl⟩:=List.mem_map.1 h
  exact XN a str (hl y hy)
 have h3:YN [] c0=0:=rfl
 rw[KN];omega
theorem zWn {u:Clm->Clm->Clm} (hu:VN u) (c:Clm):∀(l:List Clm) (i:Nat),(i<l.length->yE ((ZL u c l).getD i dF)=yE (l.getD i dF)/\(yE (l.getD i dF)≠yE c->(ZL u c l).getD i dF=l.getD i dF))/\(l.length<=i->i<(ZL u c l).length->(ZL u c l).getD i dF=c):=by
 intro l
 induction l with
 |nil=>
  intro i
  refine ⟨fun h=>absurd h (Nat.not_lt_zero _),fun _ h=> ?_⟩
  have:i=0:=by simp[ZL]at h;exact h
  subst this;rfl
 |cons x l ih=>
  intro i
  rw[ZL]
  split
  ·rename_i hk
   cases i with
   |zero=>
    refine ⟨fun _=>⟨hu.key x c,fun h=>absurd hk h⟩,fun h=>absurd h t25⟩
   |succ i=>
    refine ⟨fun _=>⟨rfl,fun _=>rfl⟩,fun h1 h2=>absurd h2 (by simp at h1⊢;omega)⟩
  rename_i hk
  cases i with
  |zero=>exact ⟨fun _=>⟨rfl,fun _=>rfl⟩,fun h=>absurd h t25⟩
  |succ i=>
   have:=ih i
   refine ⟨fun h=>this.1 (by simpa using h),fun h1 h2=>this.2 (by simpa using h1) (by simpa using h2)⟩
theorem zRx (w t:Int):∀(b n:List Clm) (i:Nat),(∀x,x∈b->x.bI=w/\x.by_=t)->(i<n.length->yE ((Jl b n).getD i dF)=yE (n.getD i dF)/\((n.getD i dF).bI≠w->(Jl b n).getD i dF=n.getD i dF))/\(n.length<=i->i<(Jl b n).length->((Jl b n).getD i dF).bI=w/\((Jl b n).getD i dF).by_=t):=by
 intro b
 induction b with
 |nil=>intro n i _;exact ⟨fun _=>⟨rfl,fun _=>rfl⟩,fun h1 h2=>absurd h2 (Nat.not_lt.2 h1)⟩
 |cons c b ih=>
  intro n i hb
  have hc:=hb c t25
  have h1:=ih (ZL yA c n) i fun x h=>hb x (List.mem_cons_of_mem _ h)
  have h2:=zWn WD c n i
  have h3:=uH yA c n
  show (i<n.length->yE ((Jl b (ZL yA c n)).getD i dF)=yE (n.getD i dF)/\_)/\(n.length<=i->i<(Jl b (ZL yA c n)).length->_)
  refine ⟨fun hi=> ?_,fun hi hj=> ?_⟩
  ·have h4:=h1.1 t11
   have h5:=h2.1 hi
   refine ⟨h4.1.trans h5.1,fun hw=> ?_⟩
   have hne:yE (n.getD i dF)≠yE c:=fun e=>hw (by rw[<-hc.1];exact congrArg Pky.bI e)
   have e:=h5.2 hne
   rw[<-e];exact h4.2 (by rw[e];exact hw)
  by_cases h6:i<(ZL yA c n).length
  ·have h4:=h1.1 h6
   have h5:=h2.2 hi h6
   rw[h5]at h4
   exact ⟨(congrArg Pky.bI h4.1).trans hc.1,(congrArg Pky.by_ h4.1).trans hc.2⟩
  exact h1.2 t11 hj
theorem ZAf (a:Act) (q:Int) (str:Bool):∀l b:List Clm,(∀x,x∈b->x.bI=a.who/\x.by_=a.at_)->∀x,x∈l.foldl (bkF a q str) b->x.bI=a.who/\x.by_=a.at_:=by
 intro l
 induction l with
 |nil=>intro b h;exact h
 |cons y l ih=>
  intro b hb
  refine ih _ ?_
  unfold bkF
  split
  ·intro x h
   rcases Wd _ _ _ _ h with h|rfl|⟨z,hz,rfl⟩
   ·exact hb x h
   ·exact ⟨rfl,rfl⟩
   exact hb z hz
  exact hb
theorem zSn {l:List Clm} (g:Clm->Clm) {i:Nat} (h:i<l.length):(l.map g).getD i dF=g (l.getD i dF):=by
 simp[List.getD_eq_getElem?_getD,h]
theorem zWv (a:Act) (q:Int) (str:Bool) (l:List Clm) (i:Nat):(i<l.length->yE ((Ye l a q str).1.getD i dF)=yE (l.getD i dF)/\((l.getD i dF).bI≠a.who->(Ye l a q str).1.getD i dF=jO a str (l.getD i dF)))/\(l.length<=i->i<(Ye l a q str).1.length->((Ye l a q str).1.getD i dF).bI=a.who/\((Ye l a q str).1.getD i dF).by_=a.at_):=by
 have h:=zRx a.who a.at_ (l.foldl (bkF a q str) []) (l.map (jO a str)) i (ZAf a q str l [] fun x h=>by cases h)
 rw[KN]
 rw[List.length_map]at h
 refine ⟨fun hi=> ?_,h.2⟩
 have h1:=h.1 hi
 rw[zSn _ hi,vZ]at h1
 refine ⟨h1.1,fun hw=>h1.2 ?_⟩
 have:=congrArg Pky.bI (vZ a str (l.getD i dF))
 rw[show (jO a str (l.getD i dF)).bI=_ from this];exact hw
end Go.Gh
