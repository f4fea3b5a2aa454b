/- Walks by the logic of calls, and plain laws (several texts in one). -/
import Derived.Test.YtjnjegclenjlbaaGreatDoorM4
namespace Go.Gh
open Go Go.Proofs
set_option maxRecDepth 1000000
set_option maxHeartbeats 2000000
set_option linter.unusedSimpArgs false
set_option linter.unusedVariables false
set_option linter.unnecessarySimpa false
open Go.RowKit
theorem endF_lt (best:List Cst) (too:List Int) {v:Nat} {e:Int} (h:v<too.length):endF best too v e=endF best too (v+1) (if getV 0 too v<0∧((e<0∧(getV default best v).fine=true)∨(0≤e∧lessC (getV default best v) (getV default best e)=true))then v else e):=by rw[endF,if_pos h]
theorem stepOf_most {n:Nat} {dues:List Du} (h:DuesR n dues) {sums:List Int} (hc:Caps dues sums) {s:Stp} (hs:StepOf dues sums s):s.most≤1099511627776:=by
 obtain ⟨i,hi,_,hs⟩:=hs
 have:=h.hb hc i hi
 rcases hs with ⟨_,_,_,h1,_⟩|⟨_,_,_,h1,_⟩<;>omega
theorem bal_ok (n:Nat) (dues:List Du) (h:DuesR n dues):GM Tryz.prog 35 [iG n,.d (.row default duC dues),.sl 0 1 0 (dues.map Du.sum).length] [.row 3 1 (0:Int) inC (dues.map Du.sum) 0] (.tup []) [some (.row 3 1 (0:Int) inC (balS n dues) 0)]:=by
 obtain ⟨sums0,hs0⟩:∃s,s=dues.map Du.sum:=⟨_,rfl⟩
 rw[←hs0]
 have hc0:Caps dues sums0:=hs0▸(bal_start h.sum).caps (n:=n)
 have hn40:=h.n40
 have h100:=h.l100
 have hlen:=hc0.len
 refine gm_of_gk Tryz.func35 ?_
 refine gk_region env false [.el (0:Int) inC (List.replicate n 0)] [0,1,2,6] ?_ (hp:=(by simp only[AllP,bb,toN,loI,hiI];repeat' first|exact trivial|exact EntL.refl _|exact BEntL.refl _|exact rfl|(rw[rowL,List.map_replicate];rfl)|omega|apply And.intro|intro _|(simp;done)))
 refine gk_region env false [] [0,1,2,6,19,20,21] ?_
 refine gk_loop (α:=Nat) (fun k=>k≤dues.length) (fun k=>[(21,iG k)]) (fun k=>[(1,some (.row 3 1 (0:Int) inC (tooK n dues sums0 k) 0))]) (fun k=>dues.length-k) 0 (Nat.zero_le _) ?_ (hp:=by simp only[AllP,tooK_0,tooK_len,List.length_replicate];repeat' first|exact trivial|exact rfl|omega|apply And.intro)
 rintro k hk
 refine gk_region env false [] [0,1,2,6,19,20,21,22] ?_
 refine gk_ifd (fun c1=> ?_) (fun c1=> ?_)
 ·try simp only[toN]at c1
  have hk2:k<dues.length:=by omega
  have hf:=h.in_.fr k hk2
  have ht:=h.in_.to_ k hk2
  have hbk:=h.hb hc0 k hk2
  have hTl:=tooK_len n dues sums0 k
  have hTs:=tooK_s h.in_ hk2 hlen
  have hB1:=tooK_bd h hc0 k ht.1 ht.2
  have hB2:=tooK_bd h hc0 k hf.1 hf.2
  have hB3: -110000000000000≤((tooK n dues sums0 k).set (dues.getD k default).to_.toNat ((tooK n dues sums0 k).getD (dues.getD k default).to_.toNat 0+sums0.getD k 0)).getD (dues.getD k default).fr.toNat 0∧((tooK n dues sums0 k).set (dues.getD k default).to_.toNat ((tooK n dues sums0 k).getD (dues.getD k default).to_.toNat 0+sums0.getD k 0)).getD (dues.getD k default).fr.toNat 0≤113000000000000:=by
   rw[getD_setL (by omega)];split<;>omega
  refine gk_region env false [] [0,1,2,6,7,8,19,20,21] ?_ (hp:=(by simp only[AllP,bb,toN,loI,hiI];repeat' first|exact trivial|exact EntL.refl _|exact BEntL.refl _|exact rfl|omega|apply And.intro|intro _))
  refine gk_region env false [.el (0:Int) inC ((tooK n dues sums0 k).set (dues.getD k default).to_.toNat ((tooK n dues sums0 k).getD (dues.getD k default).to_.toNat 0+sums0.getD k 0))] [0,1,2,6,7,8,19,20,21] ?_ (hp:=(by simp only[AllP,bb,toN,loI,hiI,Nat.zero_add];repeat' first|exact Nat.le_refl _|exact (putD_all (cs:=inC) (by first|omega|(simp only[List.length_set];omega)) rfl (by rfl)).symm|exact trivial|exact EntL.refl _|exact BEntL.refl _|exact rfl|omega|apply And.intro|intro _|(simp only[List.length_set];omega)|(simp;done)))
  refine gk_region env false [.el (0:Int) inC (((tooK n dues sums0 k).set (dues.getD k default).to_.toNat ((tooK n dues sums0 k).getD (dues.getD k default).to_.toNat 0+sums0.getD k 0)).set (dues.getD k default).fr.toNat (((tooK n dues sums0 k).set (dues.getD k default).to_.toNat ((tooK n dues sums0 k).getD (dues.getD k default).to_.toNat 0+sums0.getD k 0)).getD (dues.getD k default).fr.toNat 0-sums0.getD k 0))] [0,1,2,6,19,20,21] ?_ (hp:=(by simp only[AllP,bb,toN,loI,hiI,Nat.zero_add];repeat' first|exact Nat.le_refl _|exact (putD_all (cs:=inC) (by first|omega|(simp only[List.length_set];omega)) rfl (by rfl)).symm|exact trivial|exact EntL.refl _|exact BEntL.refl _|exact rfl|omega|apply And.intro|intro _|(simp only[List.length_set];omega)|(simp;done)))
  refine gk_region env false [] [0,1,2,6,19,20,21] ?_
  refine gk_round (k+1) ?_ (hp:=by simp only[AllP,hTs,tooK_len];repeat' first|exact trivial|exact rfl|omega|apply And.intro)
  exact hk2
 ·try simp only[toN]at c1
  obtain rfl:k=dues.length:=by omega
  rw[tooK_n _ _ _ hlen]
  refine gk_set [(19,.junk),(20,.junk),(21,.junk),(22,.junk)] [] ?_
  refine gk_loop (α:=List Int×List Int×Nat) (fun x=>Bal n dues x.1 x.2.1∧posS x.2.1<x.2.2∧balS n dues=balF dues x.2.2 x.1 x.2.1) (fun x=>[(2,.sl 0 1 0 x.1.length),(6,.sl 1 1 0 x.2.1.length)]) (fun x=>[(0,some (.row 3 1 (0:Int) inC x.1 0)),(1,some (.row 3 1 (0:Int) inC x.2.1 0))]) (fun x=>x.2.2) (sums0,too0 n dues sums0,posS (too0 n dues sums0)+1) ⟨hs0▸bal_start h.sum,Nat.lt_succ_self _,by rw[hs0];rfl⟩ ?_ (hp:=by simp only[AllP,show (too0 n dues sums0).length=n by simp[too0]];repeat' first|exact trivial|exact rfl|omega|apply And.intro)
  rintro ⟨sums,too,j⟩ ⟨hB,hj,he⟩
  dsimp only at hB hj he⊢
  obtain ⟨π,hπ⟩:=hB.pot
  obtain ⟨hbi,hfx⟩:=bal_search h.in_ h.n40 hB
  have hbe:balE dues sums too=endF (balL dues sums too).1 too 0 (-1):=rfl
  have hwy:=bal_way h.in_ h.n40 hB
  have hsi:=stepsIn h.in_ sums
  have hlt:=hB.len
  have hsl:=hB.caps.len
  have hll:(stepsV dues sums).length≤1000:=by have h1:=stepsL_len dues sums dues.length;have h3:stepsV dues sums=stepsL dues sums dues.length:=rfl;rw[h3];omega
  have hst:=steps_ok dues sums hB.caps.len h.l100 (fun i hi=>h.hb hB.caps i hi)
  have hch:=cheap_ok n (stepsV dues sums) π too h.n1 h.n40 hsi hll hπ hB.len
  have hpe:balP dues sums too=chainT (stepsV dues sums) (balL dues sums too).2 41 (balE dues sums too):=rfl
  obtain ⟨best,hbest⟩:∃b,b=(balL dues sums too).1:=⟨_,rfl⟩
  obtain ⟨last,hlast⟩:∃b,b=(balL dues sums too).2:=⟨_,rfl⟩
  rw[show cheapF (stepsV dues sums) too=(best,last)by rw[hbest,hlast];rfl]at hch
  dsimp only at hch
  rw[←hbest]at hbi hfx hbe
  rw[←hlast]at hbi hpe
  obtain ⟨l,hl⟩:∃l,l=stepsV dues sums:=⟨_,rfl⟩
  rw[←hl]at hst hch hbi hfx hsi hll hpe
  have hbl:=hbi.len
  have hll2:=hbi.lenl
  have htb:∀v:Int,0≤v→v<n→-109951162777600≤too.getD v.toNat 0∧too.getD v.toNat 0≤109951162777600:=fun v h0 h1=>by
   have h3:too.getD v.toNat 0=netT dues sums v:=hB.net v h0 h1
   rw[h3];exact net_bound2 h hB.caps v
  refine gk_region env false [.callm [0] hst] [0,1,2,6,9] ?_
  refine gk_region env false [.callm [1] hch] [0,1,2,6,9,10,11] ?_
  refine gk_region env false [] [0,1,2,6,9,10,11,12] ?_
  refine gk_region env false [] [0,1,2,6,9,10,11,12,59,60] ?_
  refine gk_loop (α:=Nat×Int) (fun x=>x.1≤n∧balE dues sums too=endF best too x.1 x.2∧(x.2= -1∨(0≤x.2∧x.2<n))) (fun x=>[(12,iG x.2),(60,iG x.1)]) (fun x=>[]) (fun x=>n-x.1) (0,-1) ⟨Nat.zero_le _,hbe,.inl rfl⟩ ?_ (hp:=by (try simp only[AllP,Nat.zero_add]);repeat' first|exact trivial|exact rfl|exact EntL.refl _|exact BEntL.refl _|omega|apply And.intro|(simp;done)|(simp[*];done))
  rintro ⟨v,e⟩ ⟨hv,hee,he1⟩
  dsimp only at hv hee he1⊢
  refine gk_region env false [] [0,1,2,6,9,10,11,12,59,60,61] ?_
  refine gk_ifd (fun c2=> ?_) (fun c2=> ?_)
  ·try simp only[toN]at c2
   have hv2:v<n:=by omega
   refine gk_region env false [] [0,1,2,6,9,10,11,12,13,59,60] ?_
   refine gk_region env false [.call (less_ok (best.getD v default) (best.getD e.toNat default))] [0,1,2,6,9,10,11,12,13,59,60,93] ?_ (hp:=(by simp only[AllP,bb,toN,loI,hiI];repeat' first|exact trivial|exact EntL.refl _|exact BEntL.refl _|exact rfl|omega|apply And.intro|intro _))
   rw[endF_lt _ _ (by omega)]at hee
   refine gk_if (fun c3=> ?_) (fun c3=> ?_)
   ·try simp only[bb,toN]at c3
    refine gk_region env false [] [0,1,2,6,9,10,11,12,59,60] ?_
    refine gk_region env false [] [0,1,2,6,9,10,11,12,59,60] ?_
    refine gk_round (v+1,(v:Int)) ⟨hv2,hee.trans ?_,.inr ⟨by dsimp only;omega,by dsimp only;omega⟩⟩ (hp:=by (try simp only[AllP,Nat.zero_add]);repeat' first|exact trivial|exact rfl|exact EntL.refl _|exact BEntL.refl _|omega|apply And.intro|(simp;done)|(simp[*];done)) (hm:=by dsimp only;omega)
    exact congrArg (endF best too (v+1)) (if_pos c3)
   ·try simp only[bb,toN]at c3
    refine gk_region env false [] [0,1,2,6,9,10,11,12,59,60] ?_
    refine gk_round (v+1,e) ⟨hv2,hee.trans ?_,he1⟩ (hp:=by (try simp only[AllP,Nat.zero_add]);repeat' first|exact trivial|exact rfl|exact EntL.refl _|exact BEntL.refl _|omega|apply And.intro|(simp;done)|(simp[*];done)) (hm:=by dsimp only;omega)
    refine congrArg (endF best too (v+1)) (if_neg fun hh=> ?_)
    have h1:too.getD v 0<0:=hh.1
    rcases c3 with c3|⟨c4,c5⟩
    ·omega
    rcases hh.2 with ⟨h2,h3⟩|⟨h2,h3⟩
    ·rcases c4 with c4|c4
     ·omega
     ·exact absurd (c4.symm.trans h3) (by decide)
    ·rcases c5 with c5|c5
     ·omega
     ·exact absurd (c5.symm.trans h3) (by decide)
  ·try simp only[toN]at c2
   have hvn:n=v:=by omega
   subst hvn
   rw[endF,if_neg (by omega)]at hee
   refine gk_region env false [] [0,1,2,6,9,11,12,97] ?_
   obtain ⟨j',rfl⟩:∃j',j=j'+1:=⟨j-1,by omega⟩
   rw[balF]at he
   refine gk_ifd (fun c4=> ?_) (fun c4=> ?_)
   ·try simp only[toN]at c4
    rw[if_pos (by rw[hee];exact c4)]at he
    refine gk_retX env [] (hp:= ?_)
    simp only[AllP,he]
    repeat' first|exact trivial|exact rfl|apply And.intro
   ·try simp only[toN]at c4
    rw[if_neg (by rw[hee];exact c4)]at he
    obtain ⟨a1,a2⟩:=bal_step h.in_ h.n40 hB (by rw[hee];exact c4)
    have W:=hwy (by rw[hee];exact c4)
    have hmdef:(balM dues sums too)=min (mostT (0-getV 0 too (balE dues sums too)) (balP dues sums too)) (getV 0 too (balB dues sums too)):=rfl
    have hbdef:(balB dues sums too)=beginT (balE dues sums too) (balP dues sums too):=rfl
    have hchain:=W.chain
    rw[←hbest,←hlast,←hl]at hchain
    have hMI:MovI dues sums (balM dues sums too) (balE dues sums too) (balP dues sums too):=⟨hB.caps,W.chain.link,fun s hs=>⟨W.stepOf s hs,W.ms s hs⟩,W.dnd⟩
    have hM0:=W.m0
    have hb0:=W.b0
    have hb1:=W.b1
    have hmb:=W.mb
    have hbne:(balB dues sums too)≠(balE dues sums too):=fun e=>by have h3:=W.bpos;have h4:=W.eneg;rw[e]at h3;omega
    have htdef:balT dues sums too=(too.set (balB dues sums too).toNat (getV 0 too (balB dues sums too)-(balM dues sums too))).set (balE dues sums too).toNat (getV 0 (too.set (balB dues sums too).toNat (getV 0 too (balB dues sums too)-(balM dues sums too))) (balE dues sums too)+(balM dues sums too)):=rfl
    rw[hee]at hmdef hbdef hchain hMI hpe hbne htdef
    rw[hpe]at hchain hMI
    obtain ⟨M,hM⟩:∃M,M=(balM dues sums too):=⟨_,rfl⟩
    obtain ⟨Bg,hBg⟩:∃M,M=(balB dues sums too):=⟨_,rfl⟩
    obtain ⟨NT,hNT⟩:∃M,M=balT dues sums too:=⟨_,rfl⟩
    rw[←hM]at hmdef hMI hM0 hmb a1
    rw[←hBg]at hmdef hbdef hb0 hb1 hmb hbne
    rw[←hNT]at a1 a2 he
    rw[←hM,←hBg,←hNT]at htdef
    rw[←hM]at he
    rw[hpe]at hmdef hbdef he a1
    have he2:0≤e∧e<n:=by omega
    have hte:=htb e he2.1 he2.2
    have htB:=htb Bg hb0 hb1
    refine gk_region env false [] [0,1,2,6,9,11,12,14,15] ?_ (hp:=(by simp only[AllP,bb,toN,loI,hiI];repeat' first|exact trivial|exact EntL.refl _|exact BEntL.refl _|exact rfl|omega|apply And.intro|intro _))
    refine gk_loop (α:=Int×Int×Nat) (fun x=>(0≤x.2.1∧x.2.1<n)∧ChainP l best last (fun v=>0<getV 0 too v) x.2.1 (chainT l last x.2.2 x.2.1)∧mostT x.1 (chainT l last x.2.2 x.2.1)=mostT (0-getV 0 too e) (chainT l last 41 e)∧beginT x.2.1 (chainT l last x.2.2 x.2.1)=beginT e (chainT l last 41 e)) (fun x=>[(14,iG x.1),(15,iG x.2.1)]) (fun x=>[]) (fun x=>x.2.2) (0-getV 0 too e,e,41) ⟨he2,hchain,rfl,rfl⟩ ?_ (hp:=by (try simp only[AllP,Nat.zero_add]);repeat' first|exact trivial|exact rfl|exact EntL.refl _|exact BEntL.refl _|omega|apply And.intro|(simp;done)|(simp[*];done))
    rintro ⟨m,u,q⟩ ⟨hu,hch1,hm1,hb1'⟩
    dsimp only at hu hch1 hm1 hb1'⊢
    refine gk_region env false [] [0,1,2,6,9,11,12,14,15,108] ?_ (hp:=(by simp only[AllP,bb,toN,loI,hiI];repeat' first|exact trivial|exact EntL.refl _|exact BEntL.refl _|exact rfl|omega|apply And.intro|intro _))
    refine gk_ifd (fun c5=> ?_) (fun c5=> ?_)
    ·try simp only[toN]at c5
     have hlt1:=hbi.last_lt hu.1 hu.2 c5
     obtain ⟨q',rfl,hq⟩:=chainT_pos hch1 c5
     rw[hq]at hch1 hm1 hb1'
     have hsf:=hsi.fr _ hch1.1
     refine gk_region env false [] [0,1,2,6,9,11,12,14,15] ?_ (hp:=(by simp only[AllP,bb,toN,loI,hiI];repeat' first|exact trivial|exact EntL.refl _|exact BEntL.refl _|exact rfl|omega|apply And.intro|intro _))
     refine gk_region env false [] [0,1,2,6,9,11,12,14,15] ?_ (hp:=(by simp only[AllP,bb,toN,loI,hiI];repeat' first|exact trivial|exact EntL.refl _|exact BEntL.refl _|exact rfl|omega|apply And.intro|intro _))
     rw[mnI_min]
     refine gk_round (min m (l.getD (last.getD u.toNat 0).toNat default).most,(l.getD (last.getD u.toNat 0).toNat default).fr,q') ⟨hsf,hch1.2.2.2.2,hm1,hb1'⟩ (hp:=by (try simp only[AllP,Nat.zero_add]);repeat' first|exact trivial|exact rfl|exact EntL.refl _|exact BEntL.refl _|omega|apply And.intro|(simp;done)|(simp[*];done)) (hm:=by dsimp only;omega)
    ·try simp only[toN]at c5
     rw[chainT_neg c5]at hm1 hb1'
     have hub:u=Bg:=hb1'.trans hbdef.symm
     rw[hub]
     refine gk_region env false [] [0,1,2,6,9,11,12,14,15] ?_ (hp:=(by simp only[AllP,bb,toN,loI,hiI];repeat' first|exact trivial|exact EntL.refl _|exact BEntL.refl _|exact rfl|omega|apply And.intro|intro _))
     rw[mnI_min,show min m (too.getD (0+Bg.toNat) 0)=M by rw[Nat.zero_add,hmdef,←hm1];rfl]
     refine gk_region env false [] [0,1,2,6,9,11,12,14,15,16] ?_
     refine gk_loop (α:=List Int×Int×Nat) (fun x=>(0≤x.2.1∧x.2.1<n)∧ChainP l best last (fun v=>0<getV 0 too v) x.2.1 (chainT l last x.2.2 x.2.1)∧MovI dues x.1 M x.2.1 (chainT l last x.2.2 x.2.1)∧movesT sums M (chainT l last 41 e)=movesT x.1 M (chainT l last x.2.2 x.2.1)) (fun x=>[(2,.sl 0 1 0 x.1.length),(16,iG x.2.1)]) (fun x=>[(0,some (.row 3 1 (0:Int) inC x.1 0))]) (fun x=>x.2.2) (sums,e,41) ⟨he2,hchain,hMI,rfl⟩ ?_ (hp:=by (try simp only[AllP,Nat.zero_add]);repeat' first|exact trivial|exact rfl|exact EntL.refl _|exact BEntL.refl _|omega|apply And.intro|(simp;done)|(simp[*];done))
     rintro ⟨ss,u,q⟩ ⟨hu,hch1,hMI,hmv⟩
     dsimp only at hu hch1 hMI hmv⊢
     refine gk_region env false [] [0,1,2,6,9,11,12,14,15,16,138] ?_ (hp:=(by simp only[AllP,bb,toN,loI,hiI];repeat' first|exact trivial|exact EntL.refl _|exact BEntL.refl _|exact rfl|omega|apply And.intro|intro _))
     refine gk_ifd (fun c6=> ?_) (fun c6=> ?_)
     ·try simp only[toN]at c6
      have hlt1:=hbi.last_lt hu.1 hu.2 c6
      obtain ⟨q',rfl,hq⟩:=chainT_pos hch1 c6
      rw[hq]at hch1 hMI hmv
      have hsf:=hsi.fr _ hch1.1
      obtain ⟨hS1,hS2⟩:=hMI.st _ List.mem_cons_self
      have hsm:=stepOf_most h hMI.caps hS1
      have hsd:=stepOf_due hS1
      have hcl:=hMI.caps.len
      have hval:=h.hb hMI.caps _ hsd.2
      have hMI2:=hMI.step (by omega)
      refine gk_region env false [.callm [0] (mov_ok (l.getD (last.getD u.toNat 0).toNat default) ss M (by omega) (by omega) (by omega))] [0,1,2,6,9,11,12,14,15,16] ?_ (hp:=(by simp only[AllP,bb,toN,loI,hiI];repeat' first|exact trivial|exact EntL.refl _|exact BEntL.refl _|exact rfl|omega|apply And.intro|intro _))
      refine gk_region env false [] [0,1,2,6,9,11,12,14,15,16] ?_ (hp:=(by simp only[AllP,bb,toN,loI,hiI];repeat' first|exact trivial|exact EntL.refl _|exact BEntL.refl _|exact rfl|omega|apply And.intro|intro _))
      refine gk_round (moveT ss (l.getD (last.getD u.toNat 0).toNat default) M,(l.getD (last.getD u.toNat 0).toNat default).fr,q') ⟨hsf,hch1.2.2.2.2,hMI2,hmv⟩ (hp:=by simp only[AllP,moveT,List.length_set];repeat' first|exact trivial|exact rfl|omega|apply And.intro) (hm:=by dsimp only;omega)
     ·try simp only[toN]at c6
      rw[chainT_neg c6]at hmv
      have hss:ss=movesT sums M (chainT l last 41 e):=hmv.symm
      have hmb2:M≤too.getD Bg.toNat 0:=hmb
      refine gk_region env false [.el (0:Int) inC (too.set Bg.toNat (too.getD Bg.toNat 0-M))] [0,1,2,6,12,14] ?_ (hp:=(by simp only[AllP,bb,toN,loI,hiI,Nat.zero_add];repeat' first|exact Nat.le_refl _|exact (putD_all (cs:=inC) (by first|omega|(simp only[List.length_set];omega)) rfl (by rfl)).symm|exact trivial|exact EntL.refl _|exact BEntL.refl _|exact rfl|omega|apply And.intro|intro _|(simp only[List.length_set];omega)|(simp;done)))
      have htv:(too.set Bg.toNat (too.getD Bg.toNat 0-M)).getD e.toNat 0=too.getD e.toNat 0:=by rw[getD_setL (by omega),if_neg (by omega)]
      refine gk_region env false [.el (0:Int) inC NT] [0,1,2,6] ?_ (hp:=by rw[htdef];exact (by simp only[AllP,bb,toN,loI,hiI,Nat.zero_add];repeat' first|exact Nat.le_refl _|exact (putD_all (cs:=inC) (by first|omega|(simp only[List.length_set];omega)) rfl (by rfl)).symm|exact trivial|exact EntL.refl _|exact BEntL.refl _|exact rfl|omega|apply And.intro|intro _|(simp only[List.length_set];omega)|(simp;done)))
      rw[hss]
      refine gk_round (movesT sums M (chainT l last 41 e),NT,j') ⟨a1,by dsimp only;omega,he⟩ (hp:=by simp only[AllP,show NT.length=too.length by rw[htdef];simp];repeat' first|exact trivial|exact rfl|omega|apply And.intro) (hm:=by dsimp only;omega)
theorem putD_sp3 {l:List Stp} {i:Nat} {c:Int} (hi:i<l.length):putD (rowL spC l) i 3 [.sc (.int .i64 c)]=rowL spC (l.set i {l.getD i default with cost:=c}):=by
 have e:(rowL spC l).getD i []=spC (l.getD i default):=by
  simp[rowL,List.getD_eq_getElem?_getD,List.getElem?_eq_getElem hi]
 rw[putD,e]
 simp only[rowL,List.map_set]
 rfl
def zc (s:Stp):Stp:= {s with cost:=0}
def zcK (l:List Stp) (k:Nat):List Stp:=(l.take k).map zc++l.drop k
theorem zcK_len (l:List Stp) (k:Nat):(zcK l k).length=l.length:=by simp[zcK];omega
theorem zcK_0 (l:List Stp):zcK l 0=l:=by simp[zcK]
theorem zcK_n (l:List Stp):zcK l l.length=l.map zc:=by simp[zcK]
theorem zcK_s (l:List Stp) {k:Nat} (h:k<l.length):(zcK l k).set k {(zcK l k).getD k default with cost:=0} =zcK l (k+1):=by
 have hl:((l.take k).map zc).length=k:=by simp;omega
 have hg:(zcK l k).getD k default=l.getD k default:=by
  unfold zcK
  rw[List.getD_eq_getElem?_getD,List.getElem?_append_right (by omega),hl,Nat.sub_self,dropC h];rfl
 rw[hg]
 unfold zcK
 rw[List.set_append_right _ _ (by omega),hl,Nat.sub_self,dropC h,List.set_cons_zero,take_getD h,List.map_append,List.append_assoc]
 rfl
def rP (p:List Int) (i:Nat) (s:Stp):Bool:=decide ((i:Int)<s.due)&&decide (getV 0 p s.to_=getV 0 p s.fr+s.cost)
theorem raiseL_eq (dues:List Du) (sums p:List Int) (i:Nat):raiseL dues sums p i=((stepsV dues sums).filter (rP p i)).map zc:=rfl
theorem filt_take (P:Stp→Bool) (l:List Stp) {k:Nat} (h:k<l.length):(l.take (k+1)).filter P=(l.take k).filter P++(if P (l.getD k default)=true then [l.getD k default]else []):=by
 rw[take_getD h,List.filter_append,List.filter_cons]
 split<;>simp_all
theorem raise_ok (n:Nat) (dues:List Du) (sums0 p:List Int) (i:Nat) (h:DuesR n dues) (hi:i<dues.length) (hR:Ris n dues sums0 p) (hpl:p.length=n) (hpb:∀v:Int,0≤v→v<n→-1000≤p.getD v.toNat 0∧p.getD v.toNat 0≤1000):
 GM Tryz.prog 37 [iG n,.d (.row default duC dues),.sl 0 1 0 sums0.length,.d (.row (0:Int) inC p),iG i] [.row 3 1 (0:Int) inC sums0 0] (.tup []) [some (.row 3 1 (0:Int) inC (raise1 n dues p sums0 i) 0)]:=by
 have hn40:=h.n40
 have h100:=h.l100
 have hfi:=h.in_.fr i hi
 have hti:=h.in_.to_ i hi
 have hpf:=hpb _ hfi.1 hfi.2
 have hpt:=hpb _ hti.1 hti.2
 have hl0:=hR.caps.len
 refine gm_of_gk Tryz.func37 ?_
 refine gk_region env false [] [0,1,2,3,4,37] ?_ (hp:=(by simp only[AllP,bb,toN,loI,hiI];repeat' first|exact trivial|exact EntL.refl _|exact BEntL.refl _|exact rfl|omega|apply And.intro|intro _))
 refine gk_ifn (fun c1=> ?_) (fun c1=> ?_)
 ·simp only[Int.toNat_natCast]at c1
  refine gk_retX env [] (hp:= ?_)
  rw[raise1,if_neg (show ¬(getV 0 p (dues.getD i default).to_=getV 0 p (dues.getD i default).fr-1)from c1)]
  simp only[AllP]
  repeat' first|exact trivial|exact rfl|apply And.intro
 simp only[Int.toNat_natCast]at c1
 rw[raise1,if_pos (show getV 0 p (dues.getD i default).to_=getV 0 p (dues.getD i default).fr-1 from c1)]
 have hst0:=raise_all h.in_ h.n40 hi c1
 have hstp:=fun sums a b c=>raise_step (sums:=sums) (p:=p) h.in_ h.n40 hi c1 a b c
 obtain ⟨TG,hTG⟩:∃t,t=raiseF n dues p i (((dues.getD i default).sum-sums0.getD i 0).toNat+1) sums0:=⟨_,rfl⟩
 rw[←hTG]
 refine gk_set [(37,.junk)] [] ?_
 refine gk_loop (α:=List Int×Nat) (fun x=>Ris n dues x.1 p∧((dues.getD i default).sum-x.1.getD i 0).toNat<x.2∧TG=raiseF n dues p i x.2 x.1) (fun x=>[(2,.sl 0 1 0 x.1.length)]) (fun x=>[(0,some (.row 3 1 (0:Int) inC x.1 0))]) (fun x=>x.2) (sums0,((dues.getD i default).sum-sums0.getD i 0).toNat+1) ⟨hR,Nat.lt_succ_self _,hTG⟩ ?_ (hp:=by (try simp only[AllP,Nat.zero_add]);repeat' first|exact trivial|exact rfl|exact EntL.refl _|exact BEntL.refl _|omega|apply And.intro|(simp;done)|(simp[*];done))
 rintro ⟨sums,j⟩ ⟨hS,hj,he⟩
 dsimp only at hS hj he⊢
 have hsl:=hS.caps.len
 have hbi2:=h.hb hS.caps i hi
 obtain ⟨j',rfl⟩:∃j',j=j'+1:=⟨j-1,by omega⟩
 rw[raiseF]at he
 refine gk_region env false [] [0,1,2,3,4,47] ?_ (hp:=(by simp only[AllP,bb,toN,loI,hiI];repeat' first|exact trivial|exact EntL.refl _|exact BEntL.refl _|exact rfl|omega|apply And.intro|intro _))
 refine gk_ifd (fun c2=> ?_) (fun c2=> ?_)
 ·simp only[Int.toNat_natCast,Nat.zero_add]at c2
  have hll:(stepsV dues sums).length≤200:=by have h1:=stepsL_len dues sums dues.length;have h3:(stepsV dues sums)=stepsL dues sums dues.length:=rfl;rw[h3];omega
  have hsi:=stepsIn h.in_ sums
  rw[if_pos c2]at he
  refine gk_region env false [] [0,1,2,3,4,10] ?_
  refine gk_region env false [.callm [0] (steps_ok dues sums hsl h.l100 (fun i hi=>h.hb hS.caps i hi))] [0,1,2,3,4,10,50,51,52] ?_
  refine gk_nil 10 140 6 (default:Stp) spC (by rfl) (by rfl) ?_
  refine gk_loop (α:=Nat) (fun k=>k≤(stepsV dues sums).length) (fun k=>[(10,.sl 1 6 0 (((stepsV dues sums).take k).filter (rP p i)).length),(52,iG k)]) (fun k=>[(1,some (.row 140 6 (default:Stp) spC (((stepsV dues sums).take k).filter (rP p i)) 0))]) (fun k=>(stepsV dues sums).length-k) 0 (Nat.zero_le _) ?_ (hp:=by (try simp only[AllP,Nat.zero_add]);repeat' first|exact trivial|exact rfl|exact EntL.refl _|exact BEntL.refl _|omega|apply And.intro|(simp;done)|(simp[*];done))
  rintro k hk
  refine gk_region env false [] [0,1,2,3,4,10,50,51,52,53] ?_
  refine gk_ifd (fun c3=> ?_) (fun c3=> ?_)
  ·have hk2:k<(stepsV dues sums).length:=by omega
   have hm:=mem_of hk2
   have hsf:=hsi.fr _ hm
   have hst:=hsi.to_ _ hm
   have hsc:=hsi.cost _ hm
   have hpf2:=hpb _ hsf.1 hsf.2
   have hft:=filt_take (rP p i) (stepsV dues sums) hk2
   have hfl:(((stepsV dues sums).take k).filter (rP p i)).length≤k:=Nat.le_trans (List.length_filter_le _ _) (by rw[List.length_take];omega)
   refine gk_region env false [] [0,1,2,3,4,10,12,50,51,52] ?_ (hp:=(by simp only[AllP,bb,toN,loI,hiI];repeat' first|exact trivial|exact EntL.refl _|exact BEntL.refl _|exact rfl|omega|apply And.intro|intro _))
   refine gk_region env false [] [0,1,2,3,4,10,12,50,51,52,75] ?_ (hp:=(by simp only[AllP,bb,toN,loI,hiI];repeat' first|exact trivial|exact EntL.refl _|exact BEntL.refl _|exact rfl|omega|apply And.intro|intro _))
   refine gk_if (fun c4=> ?_) (fun c4=> ?_)
   ·have hP:rP p i ((stepsV dues sums).getD k default)=true:=by
     simp only[bb]at c4
     unfold rP
     rw[Bool.and_eq_true]
     exact ⟨decide_eq_true c4.1,decide_eq_true c4.2⟩
    rw[if_pos hP]at hft
    refine gk_region env false [.el (default:Stp) spC [((stepsV dues sums).getD k default)],.el (default:Stp) spC ((((stepsV dues sums).take k).filter (rP p i))++ [((stepsV dues sums).getD k default)])] [0,1,2,3,4,10,50,51,52] ?_ (hp:=(by simp only[AllP,bb,toN,loI,hiI,Int.toNat_natCast];repeat' first|exact trivial|exact EntL.refl _|exact BEntL.refl _|exact rfl|omega|apply And.intro|intro _|(simp[rowL];done)|(simp only[List.length_append,List.length_cons,List.length_nil];omega)|(simp[*];done)))
    refine gk_region env false [] [0,1,2,3,4,10,50,51,52] ?_ (hp:=(by simp only[AllP,bb,toN,loI,hiI];repeat' first|exact trivial|exact EntL.refl _|exact BEntL.refl _|exact rfl|omega|apply And.intro|intro _))
    refine gk_round (k+1) hk2 (hp:=by simp only[AllP,hft];repeat' first|exact trivial|exact rfl|omega|apply And.intro|(simp only[List.length_append];done))
   ·have hP:¬(rP p i ((stepsV dues sums).getD k default)=true):=by
     intro hh
     unfold rP at hh
     rw[Bool.and_eq_true]at hh
     simp only[bb]at c4
     simp only[Int.toNat_natCast]at c4
     have h1:=of_decide_eq_true hh.1
     have h2:p.getD ((stepsV dues sums).getD k default).to_.toNat 0=p.getD ((stepsV dues sums).getD k default).fr.toNat 0+((stepsV dues sums).getD k default).cost:=of_decide_eq_true hh.2
     omega
    rw[if_neg hP,List.append_nil]at hft
    refine gk_region env false [] [0,1,2,3,4,10,50,51,52] ?_ (hp:=(by simp only[AllP,bb,toN,loI,hiI];repeat' first|exact trivial|exact EntL.refl _|exact BEntL.refl _|exact rfl|omega|apply And.intro|intro _))
    refine gk_round (k+1) hk2 (hp:=by simp only[AllP,hft];repeat' first|exact trivial|exact rfl|omega|apply And.intro|(simp only[List.length_append];done))
  ·have hke:k=(stepsV dues sums).length:=by omega
   subst hke
   rw[List.take_length]
   obtain ⟨l0,hl0'⟩:∃l0,l0=(stepsV dues sums).filter (rP p i):=⟨_,rfl⟩
   have hl0l:l0.length≤200:=by rw[hl0'];exact Nat.le_trans (List.length_filter_le _ _) hll
   have hrl:raiseL dues sums p i=l0.map zc:=by rw[raiseL_eq,hl0']
   rw[←hl0']
   have hT:raiseT n dues i=(List.replicate n 0).set (dues.getD i default).to_.toNat 1:=rfl
   refine gk_region env false [.el (0:Int) inC (List.replicate n 0)] [0,1,2,3,4,10,13] ?_ (hp:=(by simp only[AllP,bb,toN,loI,hiI];repeat' first|exact trivial|exact EntL.refl _|exact BEntL.refl _|exact rfl|(rw[rowL,List.map_replicate];rfl)|omega|apply And.intro|intro _|(simp;done)))
   refine gk_region env false [.el (0:Int) inC (raiseT n dues i)] [0,1,2,3,4,10,13] ?_ (hp:=by rw[hT];exact (by simp only[AllP,bb,toN,loI,hiI,Nat.zero_add];repeat' first|exact Nat.le_refl _|exact (putD_all (cs:=inC) (by first|omega|(simp only[List.length_replicate];omega)) rfl (by rfl)).symm|exact trivial|exact EntL.refl _|exact BEntL.refl _|exact rfl|omega|apply And.intro|intro _|(simp only[List.length_replicate];omega)|(simp;done)))
   have hTl:(raiseT n dues i).length=n:=by simp[raiseT]
   refine gk_region env false [] [0,1,2,3,4,10,13,91,92] ?_
   refine gk_loop (α:=Nat) (fun k=>k≤l0.length) (fun k=>[(92,iG k)]) (fun k=>[(1,some (.row 140 6 (default:Stp) spC (zcK l0 k) 0))]) (fun k=>l0.length-k) 0 (Nat.zero_le _) ?_ (hp:=by simp only[AllP,zcK_0];repeat' first|exact trivial|exact rfl|omega|apply And.intro)
   rintro k hk
   refine gk_region env false [] [0,1,2,3,4,10,13,91,92,93] ?_
   refine gk_ifd (fun c5=> ?_) (fun c5=> ?_)
   ·have hk2:k<l0.length:=by omega
    have hzl:=zcK_len l0 k
    refine gk_region env false [] [0,1,2,3,4,10,13,14,91,92] ?_
    refine gk_region env false [.el (default:Stp) spC ((zcK l0 k).set k {(zcK l0 k).getD k default with cost:=0})] [0,1,2,3,4,10,13,91,92] ?_ (hp:=(by simp only[AllP,bb,toN,loI,hiI,Nat.zero_add];repeat' first|exact Nat.le_refl _|exact (putD_sp3 (by omega)).symm|exact trivial|exact EntL.refl _|exact BEntL.refl _|exact rfl|omega|apply And.intro|intro _|(simp only[List.length_set];omega)|(simp;done)))
    refine gk_region env false [] [0,1,2,3,4,10,13,91,92] ?_ (hp:=(by simp only[AllP,bb,toN,loI,hiI];repeat' first|exact trivial|exact EntL.refl _|exact BEntL.refl _|exact rfl|omega|apply And.intro|intro _))
    refine gk_round (k+1) hk2 (hp:=by simp only[AllP,←zcK_s l0 hk2];repeat' first|exact trivial|exact rfl|omega|apply And.intro)
   ·have hke:k=l0.length:=by omega
    subst hke
    rw[zcK_n,←hrl]
    have hlr:l0.length=(raiseL dues sums p i).length:=by rw[hrl,List.length_map]
    rw[hlr]
    obtain ⟨hbi,hfx⟩:=raise_search (sums:=sums) (p:=p) (i:=i) h.in_ h.n40
    have hri:=raiseL_in (sums:=sums) (p:=p) (i:=i) h.in_
    have hch:=cheap_ok n (raiseL dues sums p i) (fun _=>0) (raiseT n dues i) h.n1 h.n40 hri (by omega) (fun s hs=>by obtain ⟨t,ht,rfl,_⟩:=raiseL_mem hs;simp) hTl
    have hwy:=raise_way (p:=p) h.in_ h.n40 hi c2
    have hpe:raiseP n dues sums p i=chainT (raiseL dues sums p i) (raiseC n dues sums p i).2 41 (dues.getD i default).fr:=rfl
    obtain ⟨best,hbest⟩:∃b,b=(raiseC n dues sums p i).1:=⟨_,rfl⟩
    obtain ⟨last,hlast⟩:∃b,b=(raiseC n dues sums p i).2:=⟨_,rfl⟩
    rw[show cheapF (raiseL dues sums p i) (raiseT n dues i)=(best,last)by rw[hbest,hlast];rfl]at hch
    dsimp only at hch
    rw[hTl]at hch
    have hstp:=hstp sums hS c2
    rw[←hbest]at hbi hfx hwy he hstp
    rw[←hlast]at hbi hpe
    refine gk_region env false [.callm [2] hch] [0,1,2,3,4,10,15,16] ?_ (hp:=(by simp only[AllP,bb,toN,loI,hiI];repeat' first|exact trivial|exact EntL.refl _|exact BEntL.refl _|exact rfl|omega|apply And.intro|intro _))
    obtain ⟨l,hl⟩:∃l,l=raiseL dues sums p i:=⟨_,rfl⟩
    rw[←hl]at hbi hfx hpe hri⊢
    have hbl:=hbi.len
    have hll2:=hbi.lenl
    refine gk_region env false [] [0,1,2,3,4,10,16,116] ?_ (hp:=(by simp only[AllP,bb,toN,loI,hiI];repeat' first|exact trivial|exact EntL.refl _|exact BEntL.refl _|exact rfl|omega|apply And.intro|intro _))
    refine gk_if (fun c6=> ?_) (fun c6=> ?_)
    ·rw[if_neg (by simp only[bb]at c6;rw[show (getV default best (dues.getD i default).fr).fine=false from c6];decide)]at he
     refine gk_retX env [] (hp:= ?_)
     simp only[AllP,he]
     repeat' first|exact trivial|exact rfl|apply And.intro
    ·have hfn:(getV default best (dues.getD i default).fr).fine=true:=by simp only[bb]at c6;exact c6
     rw[if_pos hfn]at he
     have W:=hwy hfn
     obtain ⟨a1,a2⟩:=hstp hfn
     have hchain:=W.chain
     rw[←hbest,←hlast,←hl]at hchain
     have hM0:=W.m0
     have hMi:=W.mi
     have hMI:MovI dues sums (raiseM n dues sums p i) (dues.getD i default).fr (raiseP n dues sums p i):=⟨hS.caps,W.chain.link,fun s hs=>⟨W.stepOf s hs,W.ms s hs⟩,W.dnd⟩
     have hmdef:raiseM n dues sums p i=mostT ((dues.getD i default).sum-sums.getD i 0) (raiseP n dues sums p i):=rfl
     have hlat:=W.later
     have hsdef:raiseS n dues sums p i=(movesT sums (raiseM n dues sums p i) (raiseP n dues sums p i)).set i ((movesT sums (raiseM n dues sums p i) (raiseP n dues sums p i)).getD i 0+raiseM n dues sums p i):=rfl
     obtain ⟨M,hM⟩:∃M,M=raiseM n dues sums p i:=⟨_,rfl⟩
     obtain ⟨NS,hNS⟩:∃M,M=raiseS n dues sums p i:=⟨_,rfl⟩
     rw[←hM]at hM0 hMi hMI hmdef a2 hsdef
     rw[←hNS]at a1 a2 he hsdef
     rw[hpe]at hMI hmdef hchain hsdef
     refine gk_region env false [] [0,1,2,3,4,10,16,17] ?_ (hp:=(by simp only[AllP,bb,toN,loI,hiI];repeat' first|exact trivial|exact EntL.refl _|exact BEntL.refl _|exact rfl|omega|apply And.intro|intro _))
     refine gk_region env false [] [0,1,2,3,4,10,16,17,18] ?_ (hp:=(by simp only[AllP,bb,toN,loI,hiI];repeat' first|exact trivial|exact EntL.refl _|exact BEntL.refl _|exact rfl|omega|apply And.intro|intro _))
     refine gk_loop (α:=Int×Int×Nat) (fun x=>(0≤x.2.1∧x.2.1<n)∧ChainP l best last (fun v=>0<getV 0 (raiseT n dues i) v) x.2.1 (chainT l last x.2.2 x.2.1)∧mostT x.1 (chainT l last x.2.2 x.2.1)=mostT ((dues.getD i default).sum-sums.getD i 0) (chainT l last 41 (dues.getD i default).fr)) (fun x=>[(17,iG x.1),(18,iG x.2.1)]) (fun x=>[]) (fun x=>x.2.2) ((dues.getD i default).sum-sums.getD i 0,(dues.getD i default).fr,41) ⟨hfi,hchain,rfl⟩ ?_ (hp:=by (try simp only[AllP,Nat.zero_add]);repeat' first|exact trivial|exact rfl|exact EntL.refl _|exact BEntL.refl _|omega|apply And.intro|(simp;done)|(simp[*];done))
     rintro ⟨m,u,q⟩ ⟨hu,hch1,hm1⟩
     dsimp only at hu hch1 hm1⊢
     refine gk_region env false [] [0,1,2,3,4,10,16,17,18,136] ?_ (hp:=(by simp only[AllP,bb,toN,loI,hiI];repeat' first|exact trivial|exact EntL.refl _|exact BEntL.refl _|exact rfl|omega|apply And.intro|intro _))
     refine gk_ifd (fun c7=> ?_) (fun c7=> ?_)
     ·try simp only[toN]at c7
      have hlt1:=hbi.last_lt hu.1 hu.2 c7
      obtain ⟨q',rfl,hq⟩:=chainT_pos hch1 c7
      rw[hq]at hch1 hm1
      have hsf:=hri.fr _ hch1.1
      refine gk_region env false [] [0,1,2,3,4,10,16,17,18] ?_ (hp:=(by simp only[AllP,bb,toN,loI,hiI];repeat' first|exact trivial|exact EntL.refl _|exact BEntL.refl _|exact rfl|omega|apply And.intro|intro _))
      refine gk_region env false [] [0,1,2,3,4,10,16,17,18] ?_ (hp:=(by simp only[AllP,bb,toN,loI,hiI];repeat' first|exact trivial|exact EntL.refl _|exact BEntL.refl _|exact rfl|omega|apply And.intro|intro _))
      rw[mnI_min]
      refine gk_round (min m (l.getD (last.getD u.toNat 0).toNat default).most,(l.getD (last.getD u.toNat 0).toNat default).fr,q') ⟨hsf,hch1.2.2.2.2,hm1⟩ (hp:=by (try simp only[AllP,Nat.zero_add]);repeat' first|exact trivial|exact rfl|exact EntL.refl _|exact BEntL.refl _|omega|apply And.intro|(simp;done)|(simp[*];done)) (hm:=by dsimp only;omega)
     ·try simp only[toN]at c7
      rw[chainT_neg c7]at hm1
      rw[show m=M from hm1.trans hmdef.symm]
      refine gk_region env false [] [0,1,2,3,4,10,16,17,19] ?_ (hp:=(by simp only[AllP,bb,toN,loI,hiI];repeat' first|exact trivial|exact EntL.refl _|exact BEntL.refl _|exact rfl|omega|apply And.intro|intro _))
      refine gk_loop (α:=List Int×Int×Nat) (fun x=>(0≤x.2.1∧x.2.1<n)∧ChainP l best last (fun v=>0<getV 0 (raiseT n dues i) v) x.2.1 (chainT l last x.2.2 x.2.1)∧MovI dues x.1 M x.2.1 (chainT l last x.2.2 x.2.1)∧movesT sums M (chainT l last 41 (dues.getD i default).fr)=movesT x.1 M (chainT l last x.2.2 x.2.1)) (fun x=>[(2,.sl 0 1 0 x.1.length),(19,iG x.2.1)]) (fun x=>[(0,some (.row 3 1 (0:Int) inC x.1 0))]) (fun x=>x.2.2) (sums,(dues.getD i default).fr,41) ⟨hfi,hchain,hMI,rfl⟩ ?_ (hp:=by (try simp only[AllP,Nat.zero_add]);repeat' first|exact trivial|exact rfl|exact EntL.refl _|exact BEntL.refl _|omega|apply And.intro|(simp;done)|(simp[*];done))
      rintro ⟨ss,u,q⟩ ⟨hu,hch1,hMI,hmv⟩
      dsimp only at hu hch1 hMI hmv⊢
      have hcl:=hMI.caps.len
      refine gk_region env false [] [0,1,2,3,4,10,16,17,19,164] ?_ (hp:=(by simp only[AllP,bb,toN,loI,hiI];repeat' first|exact trivial|exact EntL.refl _|exact BEntL.refl _|exact rfl|omega|apply And.intro|intro _))
      refine gk_ifd (fun c8=> ?_) (fun c8=> ?_)
      ·try simp only[toN]at c8
       have hlt1:=hbi.last_lt hu.1 hu.2 c8
       obtain ⟨q',rfl,hq⟩:=chainT_pos hch1 c8
       rw[hq]at hch1 hMI hmv
       have hsf:=hri.fr _ hch1.1
       obtain ⟨hS1,hS2⟩:=hMI.st _ List.mem_cons_self
       have hsm:=stepOf_most h hMI.caps hS1
       have hsd:=stepOf_due hS1
       have hval:=h.hb hMI.caps _ hsd.2
       have hMI2:=hMI.step (by omega)
       refine gk_region env false [.callm [0] (mov_ok (l.getD (last.getD u.toNat 0).toNat default) ss M (by omega) (by omega) (by omega))] [0,1,2,3,4,10,16,17,19] ?_ (hp:=(by simp only[AllP,bb,toN,loI,hiI];repeat' first|exact trivial|exact EntL.refl _|exact BEntL.refl _|exact rfl|omega|apply And.intro|intro _))
       refine gk_region env false [] [0,1,2,3,4,10,16,17,19] ?_ (hp:=(by simp only[AllP,bb,toN,loI,hiI];repeat' first|exact trivial|exact EntL.refl _|exact BEntL.refl _|exact rfl|omega|apply And.intro|intro _))
       refine gk_round (moveT ss (l.getD (last.getD u.toNat 0).toNat default) M,(l.getD (last.getD u.toNat 0).toNat default).fr,q') ⟨hsf,hch1.2.2.2.2,hMI2,hmv⟩ (hp:=by simp only[AllP,moveT,List.length_set,Nat.zero_add];repeat' first|exact trivial|exact rfl|omega|apply And.intro) (hm:=by dsimp only;omega)
      ·try simp only[toN]at c8
       rw[chainT_neg c8]at hmv
       have hss:ss=movesT sums M (chainT l last 41 (dues.getD i default).fr):=hmv.symm
       rw[←hss]at hsdef
       have hvi:=h.hb hMI.caps i hi
       refine gk_region env false [.el (0:Int) inC NS] [0,1,2,3,4] ?_ (hp:=by rw[hsdef];exact (by simp only[AllP,bb,toN,loI,hiI,Nat.zero_add];repeat' first|exact Nat.le_refl _|exact (putD_all (cs:=inC) (by first|omega|(simp only[List.length_set];omega)) rfl (by rfl)).symm|exact trivial|exact EntL.refl _|exact BEntL.refl _|exact rfl|omega|apply And.intro|intro _|(simp only[List.length_set];omega)|(simp;done)))
       have hNl:NS.length=ss.length:=by rw[hsdef,List.length_set]
       refine gk_round (NS,j') ⟨a1,by dsimp only;omega,he⟩ (hp:=by simp only[AllP];repeat' first|exact trivial|exact rfl|omega|apply And.intro) (hm:=by dsimp only;omega)
 ·simp only[Int.toNat_natCast,Nat.zero_add]at c2
  rw[if_neg c2]at he
  refine gk_endX env [] (hp:= ?_)
  simp only[AllP,he]
  repeat' first|exact trivial|exact rfl|apply And.intro
end Go.Gh
