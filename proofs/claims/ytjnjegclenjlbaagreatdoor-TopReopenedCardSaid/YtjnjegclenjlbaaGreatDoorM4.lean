/- Walks by the logic of calls, and plain laws (several texts in one). -/
import Derived.Test.YtjnjegclenjlbaaGreatDoorM3
import Derived.Test.YtjnjegclenjlbaaGreatDoorGh4
namespace Go.Gh
open Go Go.Proofs
set_option maxRecDepth 1000000
set_option maxHeartbeats 2000000
set_option linter.unusedSimpArgs false
set_option linter.unusedVariables false
set_option linter.unnecessarySimpa false
open Go.RowKit
theorem mov_ok (s:Stp) (sums:List Int) (m:Int) (h1:0≤m∧m≤2199023255552) (h2:0≤s.due∧s.due<sums.length) (h3: -2199023255552≤sums.getD s.due.toNat 0∧sums.getD s.due.toNat 0≤2199023255552):GM Tryz.prog 64 [spG s,.sl 0 1 0 sums.length,iG m] [.row 3 1 (0:Int) inC sums 0] (.tup []) [some (.row 3 1 (0:Int) inC (moveT sums s m) 0)]:=by
 refine gm_of_gk Tryz.func64 ?_
 refine gk_region env false [] [1,2,3] ?_
 refine gk_region env false [] [1,2,3,7] ?_
 refine gk_if (fun c1=> ?_) (fun c1=> ?_)
 ·try simp only[bb,toN]at c1
  refine gk_region env false [] [1,2,3] ?_
  refine gk_region env false [.el (0:Int) inC (sums.set s.due.toNat (sums.getD s.due.toNat 0+(0-m)))] [] ?_ (hp:=(by simp only[AllP,bb,toN,loI,hiI,Nat.zero_add];repeat' first|exact Nat.le_refl _|exact (putD_all (cs:=inC) (by first|omega|(simp only[List.length_set];omega)) rfl (by rfl)).symm|exact trivial|exact EntL.refl _|exact BEntL.refl _|exact rfl|omega|apply And.intro|intro _|(simp only[List.length_set];omega)|(simp;done)))
  refine gk_endM env [] (hp:= ?_)
  rw[moveT,if_pos c1]
  (try simp only[AllP,Nat.zero_add]);repeat' first|exact trivial|exact rfl|exact EntL.refl _|exact BEntL.refl _|omega|apply And.intro|(simp;done)|(simp[*];done)
 ·try simp only[bb,toN]at c1
  refine gk_region env false [.el (0:Int) inC (sums.set s.due.toNat (sums.getD s.due.toNat 0+m))] [] ?_ (hp:=(by simp only[AllP,bb,toN,loI,hiI,Nat.zero_add];repeat' first|exact Nat.le_refl _|exact (putD_all (cs:=inC) (by first|omega|(simp only[List.length_set];omega)) rfl (by rfl)).symm|exact trivial|exact EntL.refl _|exact BEntL.refl _|exact rfl|omega|apply And.intro|intro _|(simp only[List.length_set];omega)|(simp;done)))
  refine gk_endM env [] (hp:= ?_)
  rw[moveT,if_neg (by rw[c1];decide)]
  (try simp only[AllP,Nat.zero_add]);repeat' first|exact trivial|exact rfl|exact EntL.refl _|exact BEntL.refl _|omega|apply And.intro|(simp;done)|(simp[*];done)
theorem cst_bound {n:Nat} {l:List Stp} {S:Int→Prop} {best:List Cst} {last:List Int} (hl:StepsIn n l) (h:BI algC n l S best last) (hn:n≤40) {v:Int} (h0:0≤v) (h1:v<n):
 (-1000≤(best.getD v.toNat default).c∧(best.getD v.toNat default).c≤1000)∧-1000≤(best.getD v.toNat default).steps∧(best.getD v.toNat default).steps≤1000:=by
 cases e:(best.getD v.toNat default).fine with
 |true=>
  have h2:=h.bound algC_ok hl h0 h1 (x:=((best.getD v.toNat default).c,(best.getD v.toNat default).steps)) (if_pos e)
  simp only at h2;omega
 |false=>
  have h2:best.getD v.toNat default=default:=h.norm v h0 h1 (if_neg (by show ¬((best.getD v.toNat default).fine=true);rw[e];decide))
  rw[h2];exact ⟨⟨by decide,by decide⟩,by decide,by decide⟩
theorem int_bound {n:Nat} {l:List Stp} {S:Int→Prop} {best:List Int} {last:List Int} (hl:StepsIn n l) (h:BI algI n l S best last) (hn:n≤40) {v:Int} (h0:0≤v) (h1:v<n): -1000≤best.getD v.toNat 0∧best.getD v.toNat 0≤1000:=by
 have h2:=h.bound algI_ok hl h0 h1 (x:=(best.getD v.toNat 0,0)) rfl
 simp only at h2;omega
theorem onwI_ok (a:Int) (s:Stp) (h1: -1000≤a∧a≤1000) (h3: -1≤s.cost∧s.cost≤1):GC Tryz.prog 65 [iG a,spG s] (iG (a+s.cost)):=by
 refine gc_of_gk Tryz.func65 ?_
 refine gk_region env false [] [0,3,4] ?_
 refine gk_region env false [] [4] ?_
 refine gk_ret env ?_
 rfl
def nanV (n:Int):Bool:=(!decide (n=n))
theorem nan_ok (n:Int):GC Tryz.prog 105 [iG n] (bG (nanV n)):=by
 refine gc_of_gk Tryz.func105 ?_
 refine gk_region env false [] [0,2] ?_
 refine gk_region env false [] [2] ?_
 refine gk_ret env ?_
 rw[nanV];rfl
def lessIV (a:Int) (b:Int):Bool:=(bif (bif (nanV a)then (!(nanV b))else false)then true else decide (a<b))
theorem lessIV_ok (a:Int) (b:Int):GC Tryz.prog 66 [iG a,iG b] (bG (lessIV a b)):=by
 refine gc_of_gk Tryz.func66 ?_
 refine gk_region env false [] [0,1,4] ?_
 refine gk_region env false [.call (nan_ok a),.call (nan_ok b)] [4] ?_
 refine gk_ret env ?_
 rw[lessIV];rfl
theorem lessI_ok (a b:Int):GC Tryz.prog 66 [iG a,iG b] (bG (decide (a<b))):=by
 have h:=lessIV_ok a b
 have e:lessIV a b=decide (a<b):=by unfold lessIV nanV;simp
 rw[e]at h;exact h
theorem runC_ok (n:Nat) (l:List Stp) (π:Int→Int) (S:Int→Prop) (best0:List Cst) (hn1:1≤n) (hn:n≤40) (hl:StepsIn n l) (hll:l.length≤1000) (hp:Pot π l) (h0:BI algC n l S best0 (List.replicate n (-1))) (hmu:mu algC best0<fuelB):GM Tryz.prog 104 [.ptr 0 0 0 0,.d (.row default spC l)] [.box [.sl 1 3 0 best0.length,.d (.sc (.slice none 0 0)),.d (.sc (.func (.func 103) #[] #[])),.d (.sc (.func (.func 63) #[] #[]))],.row 137 3 (default:Cst) csC best0 0] (.tup []) [some (.box [.sl 1 3 0 (runF algC l fuelB (best0,List.replicate n (-1))).1.length,.sl 2 1 0 (runF algC l fuelB (best0,List.replicate n (-1))).2.length,.d (.sc (.func (.func 103) #[] #[])),.d (.sc (.func (.func 63) #[] #[]))]),some (.row 137 3 (default:Cst) csC (runF algC l fuelB (best0,List.replicate n (-1))).1 0),some (.row 3 1 (0:Int) inC (runF algC l fuelB (best0,List.replicate n (-1))).2 0)]:=by
 have hlen0:=h0.len
 refine gm_of_gk Tryz.func104 ?_
 refine gk_region env false [.el (0:Int) inC [-1],.callm [] (repeat_ok n hn1 (by omega))] [0,1] ?_ (hp:=(by simp only[AllP,bb,toN,loI,hiI,hlen0];repeat' first|exact trivial|exact EntL.refl _|exact BEntL.refl _|exact rfl|omega|apply And.intro|intro _))
 refine gk_region env false [] [0,1,4] ?_
 refine gk_loop (α:=List Cst×List Int×Bool×Nat) (fun x=>BI algC n l S x.1 x.2.1∧(runF algC l fuelB (best0,List.replicate n (-1)))=(if x.2.2.1=true then runF algC l x.2.2.2 (x.1,x.2.1)else (x.1,x.2.1))∧(x.2.2.1=true→mu algC x.1<x.2.2.2)) (fun x=>[(4,bG x.2.2.1)]) (fun x=>[(0,some (.box [.sl 1 3 0 x.1.length,.sl 3 1 0 x.2.1.length,.d (.sc (.func (.func 103) #[] #[])),.d (.sc (.func (.func 63) #[] #[]))])),(1,some (.row 137 3 (default:Cst) csC x.1 0)),(3,some (.row 3 1 (0:Int) inC x.2.1 0))]) (fun x=>if x.2.2.1=true then x.2.2.2 else 0) (best0,List.replicate n (-1),true,fuelB) ⟨h0,(if_pos rfl).symm,fun _=>hmu⟩ ?_ (hp:=by (try simp only[AllP,hlen0,List.length_replicate]);repeat' first|exact trivial|exact rfl|exact EntL.refl _|exact BEntL.refl _|omega|apply And.intro|(simp;done))
 rintro ⟨bestA,lastA,chA,j⟩ ⟨hA,heA,hmA⟩
 dsimp only at*
 refine gk_region env false [] [0,1,4,18] ?_
 refine gk_if (fun c1=> ?_) (fun c1=> ?_)
 ·try simp only[bb,toN]at c1
  refine gk_region env false [] [0,1,4] ?_
  refine gk_region env false [] [0,1,4,19,20,21] ?_
  refine gk_loop (α:=List Cst×List Int×Bool×Nat) (fun x=>x.2.2.2≤l.length∧BI algC n l S x.1 x.2.1∧roundF algC l (bestA,lastA,false) 0=roundF algC l (x.1,x.2.1,x.2.2.1) x.2.2.2) (fun x=>[(4,bG x.2.2.1),(21,iG x.2.2.2)]) (fun x=>[(0,some (.box [.sl 1 3 0 x.1.length,.sl 3 1 0 x.2.1.length,.d (.sc (.func (.func 103) #[] #[])),.d (.sc (.func (.func 63) #[] #[]))])),(1,some (.row 137 3 (default:Cst) csC x.1 0)),(3,some (.row 3 1 (0:Int) inC x.2.1 0))]) (fun x=>l.length-x.2.2.2) (bestA,lastA,false,0) ⟨Nat.zero_le _,hA,rfl⟩ ?_ (hp:=by (try simp only[AllP,Nat.zero_add]);repeat' first|exact trivial|exact rfl|exact EntL.refl _|exact BEntL.refl _|omega|apply And.intro|(simp;done)|(simp[*];done))
  rintro ⟨best,last,ch,k⟩ ⟨hk,hI,he⟩
  dsimp only at*
  refine gk_region env false [] [0,1,4,19,20,21,22] ?_
  refine gk_ifd (fun c2=> ?_) (fun c2=> ?_)
  ·try simp only[toN]at c2
   have hk2:k<l.length:=by omega
   have hm:=mem_of hk2
   have hfr:=hl.fr _ hm
   have hto:=hl.to_ _ hm
   have hcost:=hl.cost _ hm
   have hlb:=hI.len
   have hll2:=hI.lenl
   have hbd:=cst_bound hl hI hn hfr.1 hfr.2
   obtain ⟨hb1,hb2⟩:=hbd
   refine gk_region env false [] [0,1,4,5,6,19,20,21] ?_ (hp:=(by simp only[AllP,bb,toN,loI,hiI];repeat' first|exact trivial|exact EntL.refl _|exact BEntL.refl _|exact rfl|omega|apply And.intro|intro _))
   refine gk_region env false [.call (onw_ok (best.getD (l.getD k default).fr.toNat default) (l.getD k default) hb1 hb2 hcost)] [0,1,4,5,6,7,19,20,21] ?_ (hp:=(by simp only[AllP,bb,toN,loI,hiI];repeat' first|exact trivial|exact EntL.refl _|exact BEntL.refl _|exact rfl|omega|apply And.intro|intro _))
   refine gk_region env false [.call (less_ok (onwC (best.getD (l.getD k default).fr.toNat default) (l.getD k default)) (best.getD (l.getD k default).to_.toNat default))] [0,1,4,5,6,7,19,20,21,53] ?_ (hp:=(by simp only[AllP,bb,toN,loI,hiI];repeat' first|exact trivial|exact EntL.refl _|exact BEntL.refl _|exact rfl|omega|apply And.intro|intro _))
   refine gk_if (fun c3=> ?_) (fun c3=> ?_)
   ·try simp only[bb,toN]at c3
    have hrx:=relax_BI algC_ok hl hp hn (st:=((best,last,ch):SrS Cst)) hk2 hI
    rw[relaxF,if_pos (show algC.less (algC.onw (getV algC.dflt best (l.getD k default).fr) (l.getD k default)) (getV algC.dflt best (l.getD k default).to_)=true from c3)]at hrx
    refine gk_region env false [.el (default:Cst) csC (best.set (l.getD k default).to_.toNat (onwC (best.getD (l.getD k default).fr.toNat default) (l.getD k default))),.el (0:Int) inC (last.set (l.getD k default).to_.toNat (k:Int))] [0,1,4,19,20,21] ?_ (hp:=(by simp only[AllP,bb,toN,loI,hiI,Nat.zero_add];repeat' first|exact Nat.le_refl _|exact (putD_all (cs:=csC) (by omega) rfl (by rfl)).symm|exact (putD_all (cs:=inC) (by first|omega|(simp only[List.length_set];omega)) rfl (by rfl)).symm|exact trivial|exact EntL.refl _|exact BEntL.refl _|exact rfl|omega|apply And.intro|intro _|(simp only[List.length_set];omega)|(simp;done)))
    refine gk_region env false [] [0,1,4,19,20,21] ?_ (hp:=(by simp only[AllP,bb,toN,loI,hiI];repeat' first|exact trivial|exact EntL.refl _|exact BEntL.refl _|exact rfl|omega|apply And.intro|intro _))
    refine gk_round (((best.set (l.getD k default).to_.toNat (onwC (best.getD (l.getD k default).fr.toNat default) (l.getD k default))),(last.set (l.getD k default).to_.toNat (k:Int)),true,k+1)) ?_ (hp:=by (try simp only[AllP,Nat.zero_add]);repeat' first|exact trivial|exact rfl|exact EntL.refl _|exact BEntL.refl _|omega|apply And.intro|(simp;done)|(simp[*];done)) (hm:=by dsimp only;omega)
    refine ⟨hk2,hrx.1,he.trans ?_⟩
    rw[roundF,if_pos hk2,relaxF,if_pos (show algC.less (algC.onw (getV algC.dflt best (l.getD k default).fr) (l.getD k default)) (getV algC.dflt best (l.getD k default).to_)=true from c3)];rfl
   ·try simp only[bb,toN]at c3
    refine gk_region env false [] [0,1,4,19,20,21] ?_ (hp:=(by simp only[AllP,bb,toN,loI,hiI];repeat' first|exact trivial|exact EntL.refl _|exact BEntL.refl _|exact rfl|omega|apply And.intro|intro _))
    refine gk_round ((best,last,ch,k+1)) ?_ (hp:=by (try simp only[AllP,Nat.zero_add]);repeat' first|exact trivial|exact rfl|exact EntL.refl _|exact BEntL.refl _|omega|apply And.intro|(simp;done)|(simp[*];done)) (hm:=by dsimp only;omega)
    refine ⟨hk2,hI,he.trans ?_⟩
    rw[roundF,if_pos hk2,relaxF,if_neg (show ¬(algC.less (algC.onw (getV algC.dflt best (l.getD k default).fr) (l.getD k default)) (getV algC.dflt best (l.getD k default).to_)=true)from by intro h;rw[show algC.less (algC.onw (getV algC.dflt best (l.getD k default).fr) (l.getD k default)) (getV algC.dflt best (l.getD k default).to_)=_ from c3]at h;cases h)]
  ·try simp only[toN]at c2
   refine gk_round ((best,last,ch,j-1)) ?_ (hp:=by (try simp only[AllP,Nat.zero_add]);repeat' first|exact trivial|exact rfl|exact EntL.refl _|exact BEntL.refl _|omega|apply And.intro|(simp;done)|(simp[*];done)) (hm:=by have hj:=hmA c1;dsimp only;rw[if_pos c1];split<;>omega)
   have hr:roundF algC l (bestA,lastA,false) 0=(best,last,ch):=by rw[he,roundF,if_neg (by omega)]
   have hj:=hmA c1
   obtain ⟨j',rfl⟩:∃j',j=j'+1:=⟨j-1,by omega⟩
   rw[if_pos c1,runF,hr]at heA
   refine ⟨hI,heA,fun hc=> ?_⟩
   have h4:=(round_BI algC_ok hl hp hn _ (bestA,lastA,false) 0 rfl hA).2.2.2 rfl
   rw[hr]at h4
   rcases h4 with ⟨h5,_⟩|⟨_,h5⟩
   ·rw[show ch=false from congrArg (·.2.2) h5]at hc;cases hc
   ·dsimp only at h5 hc⊢;omega
 ·try simp only[bb,toN]at c1
  refine gk_endX env [] (hp:= ?_)
  rw[if_neg (by rw[c1];decide)]at heA
  simp only[AllP,heA]
  repeat' first|exact trivial|exact rfl|omega|apply And.intro
theorem runI_ok (n:Nat) (l:List Stp) (π:Int→Int) (S:Int→Prop) (best0:List Int) (hn1:1≤n) (hn:n≤40) (hl:StepsIn n l) (hll:l.length≤1000) (hp:Pot π l) (h0:BI algI n l S best0 (List.replicate n (-1))) (hmu:mu algI best0<fuelB):GM Tryz.prog 67 [.ptr 0 0 0 0,.d (.row default spC l)] [.box [.sl 1 1 0 best0.length,.d (.sc (.slice none 0 0)),.d (.sc (.func (.func 65) #[] #[])),.d (.sc (.func (.func 66) #[] #[]))],.row 3 1 (0:Int) inC best0 0] (.tup []) [some (.box [.sl 1 1 0 (runF algI l fuelB (best0,List.replicate n (-1))).1.length,.sl 2 1 0 (runF algI l fuelB (best0,List.replicate n (-1))).2.length,.d (.sc (.func (.func 65) #[] #[])),.d (.sc (.func (.func 66) #[] #[]))]),some (.row 3 1 (0:Int) inC (runF algI l fuelB (best0,List.replicate n (-1))).1 0),some (.row 3 1 (0:Int) inC (runF algI l fuelB (best0,List.replicate n (-1))).2 0)]:=by
 have hlen0:=h0.len
 refine gm_of_gk Tryz.func67 ?_
 refine gk_region env false [.el (0:Int) inC [-1],.callm [] (repeat_ok n hn1 (by omega))] [0,1] ?_ (hp:=(by simp only[AllP,bb,toN,loI,hiI,hlen0];repeat' first|exact trivial|exact EntL.refl _|exact BEntL.refl _|exact rfl|omega|apply And.intro|intro _))
 refine gk_region env false [] [0,1,4] ?_
 refine gk_loop (α:=List Int×List Int×Bool×Nat) (fun x=>BI algI n l S x.1 x.2.1∧(runF algI l fuelB (best0,List.replicate n (-1)))=(if x.2.2.1=true then runF algI l x.2.2.2 (x.1,x.2.1)else (x.1,x.2.1))∧(x.2.2.1=true→mu algI x.1<x.2.2.2)) (fun x=>[(4,bG x.2.2.1)]) (fun x=>[(0,some (.box [.sl 1 1 0 x.1.length,.sl 3 1 0 x.2.1.length,.d (.sc (.func (.func 65) #[] #[])),.d (.sc (.func (.func 66) #[] #[]))])),(1,some (.row 3 1 (0:Int) inC x.1 0)),(3,some (.row 3 1 (0:Int) inC x.2.1 0))]) (fun x=>if x.2.2.1=true then x.2.2.2 else 0) (best0,List.replicate n (-1),true,fuelB) ⟨h0,(if_pos rfl).symm,fun _=>hmu⟩ ?_ (hp:=by (try simp only[AllP,hlen0,List.length_replicate]);repeat' first|exact trivial|exact rfl|exact EntL.refl _|exact BEntL.refl _|omega|apply And.intro|(simp;done))
 rintro ⟨bestA,lastA,chA,j⟩ ⟨hA,heA,hmA⟩
 dsimp only at*
 refine gk_region env false [] [0,1,4,18] ?_
 refine gk_if (fun c1=> ?_) (fun c1=> ?_)
 ·try simp only[bb,toN]at c1
  refine gk_region env false [] [0,1,4] ?_
  refine gk_region env false [] [0,1,4,19,20,21] ?_
  refine gk_loop (α:=List Int×List Int×Bool×Nat) (fun x=>x.2.2.2≤l.length∧BI algI n l S x.1 x.2.1∧roundF algI l (bestA,lastA,false) 0=roundF algI l (x.1,x.2.1,x.2.2.1) x.2.2.2) (fun x=>[(4,bG x.2.2.1),(21,iG x.2.2.2)]) (fun x=>[(0,some (.box [.sl 1 1 0 x.1.length,.sl 3 1 0 x.2.1.length,.d (.sc (.func (.func 65) #[] #[])),.d (.sc (.func (.func 66) #[] #[]))])),(1,some (.row 3 1 (0:Int) inC x.1 0)),(3,some (.row 3 1 (0:Int) inC x.2.1 0))]) (fun x=>l.length-x.2.2.2) (bestA,lastA,false,0) ⟨Nat.zero_le _,hA,rfl⟩ ?_ (hp:=by (try simp only[AllP,Nat.zero_add]);repeat' first|exact trivial|exact rfl|exact EntL.refl _|exact BEntL.refl _|omega|apply And.intro|(simp;done)|(simp[*];done))
  rintro ⟨best,last,ch,k⟩ ⟨hk,hI,he⟩
  dsimp only at*
  refine gk_region env false [] [0,1,4,19,20,21,22] ?_
  refine gk_ifd (fun c2=> ?_) (fun c2=> ?_)
  ·try simp only[toN]at c2
   have hk2:k<l.length:=by omega
   have hm:=mem_of hk2
   have hfr:=hl.fr _ hm
   have hto:=hl.to_ _ hm
   have hcost:=hl.cost _ hm
   have hlb:=hI.len
   have hll2:=hI.lenl
   have hb1:=int_bound hl hI hn hfr.1 hfr.2
   refine gk_region env false [] [0,1,4,5,6,19,20,21] ?_ (hp:=(by simp only[AllP,bb,toN,loI,hiI];repeat' first|exact trivial|exact EntL.refl _|exact BEntL.refl _|exact rfl|omega|apply And.intro|intro _))
   refine gk_region env false [.call (onwI_ok (best.getD (l.getD k default).fr.toNat 0) (l.getD k default) hb1 hcost)] [0,1,4,5,6,7,19,20,21] ?_ (hp:=(by simp only[AllP,bb,toN,loI,hiI];repeat' first|exact trivial|exact EntL.refl _|exact BEntL.refl _|exact rfl|omega|apply And.intro|intro _))
   refine gk_region env false [.call (lessI_ok (best.getD (l.getD k default).fr.toNat 0+(l.getD k default).cost) (best.getD (l.getD k default).to_.toNat 0))] [0,1,4,5,6,7,19,20,21,53] ?_ (hp:=(by simp only[AllP,bb,toN,loI,hiI];repeat' first|exact trivial|exact EntL.refl _|exact BEntL.refl _|exact rfl|omega|apply And.intro|intro _))
   refine gk_if (fun c3=> ?_) (fun c3=> ?_)
   ·try simp only[bb,toN]at c3
    have hrx:=relax_BI algI_ok hl hp hn (st:=((best,last,ch):SrS Int)) hk2 hI
    rw[relaxF,if_pos (show algI.less (algI.onw (getV algI.dflt best (l.getD k default).fr) (l.getD k default)) (getV algI.dflt best (l.getD k default).to_)=true from decide_eq_true c3)]at hrx
    refine gk_region env false [.el (0:Int) inC (best.set (l.getD k default).to_.toNat (best.getD (l.getD k default).fr.toNat 0+(l.getD k default).cost)),.el (0:Int) inC (last.set (l.getD k default).to_.toNat (k:Int))] [0,1,4,19,20,21] ?_ (hp:=(by simp only[AllP,bb,toN,loI,hiI,Nat.zero_add];repeat' first|exact Nat.le_refl _|exact (putD_all (cs:=inC) (by omega) rfl (by rfl)).symm|exact (putD_all (cs:=inC) (by first|omega|(simp only[List.length_set];omega)) rfl (by rfl)).symm|exact trivial|exact EntL.refl _|exact BEntL.refl _|exact rfl|omega|apply And.intro|intro _|(simp only[List.length_set];omega)|(simp;done)))
    refine gk_region env false [] [0,1,4,19,20,21] ?_ (hp:=(by simp only[AllP,bb,toN,loI,hiI];repeat' first|exact trivial|exact EntL.refl _|exact BEntL.refl _|exact rfl|omega|apply And.intro|intro _))
    refine gk_round (((best.set (l.getD k default).to_.toNat (best.getD (l.getD k default).fr.toNat 0+(l.getD k default).cost)),(last.set (l.getD k default).to_.toNat (k:Int)),true,k+1)) ?_ (hp:=by (try simp only[AllP,Nat.zero_add]);repeat' first|exact trivial|exact rfl|exact EntL.refl _|exact BEntL.refl _|omega|apply And.intro|(simp;done)|(simp[*];done)) (hm:=by dsimp only;omega)
    refine ⟨hk2,hrx.1,he.trans ?_⟩
    rw[roundF,if_pos hk2,relaxF,if_pos (show algI.less (algI.onw (getV algI.dflt best (l.getD k default).fr) (l.getD k default)) (getV algI.dflt best (l.getD k default).to_)=true from decide_eq_true c3)];rfl
   ·try simp only[bb,toN]at c3
    refine gk_region env false [] [0,1,4,19,20,21] ?_ (hp:=(by simp only[AllP,bb,toN,loI,hiI];repeat' first|exact trivial|exact EntL.refl _|exact BEntL.refl _|exact rfl|omega|apply And.intro|intro _))
    refine gk_round ((best,last,ch,k+1)) ?_ (hp:=by (try simp only[AllP,Nat.zero_add]);repeat' first|exact trivial|exact rfl|exact EntL.refl _|exact BEntL.refl _|omega|apply And.intro|(simp;done)|(simp[*];done)) (hm:=by dsimp only;omega)
    refine ⟨hk2,hI,he.trans ?_⟩
    rw[roundF,if_pos hk2,relaxF,if_neg (show ¬(algI.less (algI.onw (getV algI.dflt best (l.getD k default).fr) (l.getD k default)) (getV algI.dflt best (l.getD k default).to_)=true)from fun h=>absurd (of_decide_eq_true h) (Int.not_lt.2 c3))]
  ·try simp only[toN]at c2
   refine gk_round ((best,last,ch,j-1)) ?_ (hp:=by (try simp only[AllP,Nat.zero_add]);repeat' first|exact trivial|exact rfl|exact EntL.refl _|exact BEntL.refl _|omega|apply And.intro|(simp;done)|(simp[*];done)) (hm:=by have hj:=hmA c1;dsimp only;rw[if_pos c1];split<;>omega)
   have hr:roundF algI l (bestA,lastA,false) 0=(best,last,ch):=by rw[he,roundF,if_neg (by omega)]
   have hj:=hmA c1
   obtain ⟨j',rfl⟩:∃j',j=j'+1:=⟨j-1,by omega⟩
   rw[if_pos c1,runF,hr]at heA
   refine ⟨hI,heA,fun hc=> ?_⟩
   have h4:=(round_BI algI_ok hl hp hn _ (bestA,lastA,false) 0 rfl hA).2.2.2 rfl
   rw[hr]at h4
   rcases h4 with ⟨h5,_⟩|⟨_,h5⟩
   ·rw[show ch=false from congrArg (·.2.2) h5]at hc;cases hc
   ·dsimp only at h5 hc⊢;omega
 ·try simp only[bb,toN]at c1
  refine gk_endX env [] (hp:= ?_)
  rw[if_neg (by rw[c1];decide)]at heA
  simp only[AllP,heA]
  repeat' first|exact trivial|exact rfl|omega|apply And.intro
theorem putD_cs2 {l:List Cst} {i:Nat} {b:Bool} (hi:i<l.length):putD (rowL csC l) i 2 [.sc (.bool b)]=rowL csC (l.set i {l.getD i default with fine:=b}):=by
 have e:(rowL csC l).getD i []=csC (l.getD i default):=by
  simp[rowL,List.getD_eq_getElem?_getD,List.getElem?_eq_getElem hi]
 rw[putD,e]
 simp only[rowL,List.map_set]
 rfl
def bestK (too:List Int) (k:Nat):List Cst:=(too.take k).map (fun t=>⟨0,0,decide (0<t)⟩)++List.replicate (too.length-k) default
theorem bestK_len (too:List Int) (k:Nat):(bestK too k).length=too.length:=by simp[bestK];omega
theorem bestK_0 (too:List Int):bestK too 0=List.replicate too.length default:=by simp[bestK]
theorem bestK_n (too:List Int):bestK too too.length=best0 too:=by simp[bestK,best0]
theorem bestK_s (too:List Int) {k:Nat} (h:k<too.length):(bestK too k).set k {(bestK too k).getD k default with fine:=decide (0<too.getD k 0)} =bestK too (k+1):=by
 have hl:((too.take k).map (fun t=>(⟨0,0,decide (0<t)⟩:Cst))).length=k:=by simp;omega
 have hg:(bestK too k).getD k default=default:=by
  unfold bestK
  rw[List.getD_eq_getElem?_getD,List.getElem?_append_right (by omega),hl,Nat.sub_self,show too.length-k=(too.length-(k+1))+1 by omega,List.replicate_succ];rfl
 rw[hg]
 unfold bestK
 rw[List.set_append_right _ _ (by omega),hl,Nat.sub_self,show too.length-k=(too.length-(k+1))+1 by omega,List.replicate_succ,List.set_cons_zero,take_getD h,List.map_append,List.append_assoc]
 rfl
theorem cheap_ok (n:Nat) (l:List Stp) (π:Int→Int) (too:List Int) (hn1:1≤n) (hn:n≤40) (hl:StepsIn n l) (hll:l.length≤1000) (hp:Pot π l) (ht:too.length=n):GM Tryz.prog 62 [iG n,.d (.row default spC l),.sl 0 1 0 too.length] [.row 3 1 (0:Int) inC too 0] (.tup [.d (.row (default:Cst) csC (cheapF l too).1),.d (.row (0:Int) inC (cheapF l too).2)]) [some (.row 3 1 (0:Int) inC too 0)]:=by
 subst ht
 refine gm_of_gk Tryz.func62 ?_
 refine gk_region env false [] [0,1,2,6,7] ?_
 refine gk_region env false [.el (default:Cst) csC (List.replicate too.length default)] [0,1,2,6,7,8] ?_ (hp:=(by simp only[AllP,bb,toN,loI,hiI];repeat' first|exact trivial|exact EntL.refl _|exact BEntL.refl _|exact rfl|(rw[rowL,List.map_replicate];rfl)|omega|apply And.intro|intro _|(simp;done)))
 refine gk_region env false [] [1,2,6,7,8,13,14] ?_
 refine gk_loop (α:=Nat) (fun k=>k≤too.length) (fun k=>[(14,iG k)]) (fun k=>[(1,some (.row 137 3 (default:Cst) csC (bestK too k) 0))]) (fun k=>too.length-k) 0 (Nat.zero_le _) ?_ (hp:=by simp only[AllP,bestK_0,List.length_replicate];repeat' first|exact trivial|exact rfl|omega|apply And.intro)
 rintro k hk
 refine gk_region env false [] [1,2,6,7,8,13,14,15] ?_
 refine gk_ifd (fun c1=> ?_) (fun c1=> ?_)
 ·try simp only[toN]at c1
  have hk2:k<too.length:=by omega
  refine gk_region env false [] [1,2,6,7,8,9,13,14] ?_
  refine gk_region env false [.el (default:Cst) csC ((bestK too k).set k {(bestK too k).getD k default with fine:=decide (0<too.getD k 0)})] [1,2,6,7,8,13,14] ?_ (hp:=(by simp only[AllP,bb,toN,loI,hiI,Nat.zero_add,bestK_len];repeat' first|exact Nat.le_refl _|exact (putD_cs2 (by rw[bestK_len];omega)).symm|exact trivial|exact EntL.refl _|exact BEntL.refl _|exact rfl|omega|apply And.intro|intro _|(simp;done)))
  refine gk_region env false [] [1,2,6,7,8,13,14] ?_
  refine gk_round (k+1) ?_ (hp:=by simp only[AllP,←bestK_s too hk2];repeat' first|exact trivial|exact rfl|omega|apply And.intro)
  exact hk2
 ·try simp only[toN]at c1
  obtain rfl:k=too.length:=by omega
  simp only[bestK_n]
  have hrun:=runC_ok too.length l π (fun v=>0<getV 0 too v) (best0 too) hn1 hn hl hll hp (cheap0 rfl) (cheap_mu rfl hn)
  rw[show (best0 too).length=too.length by simp[best0]]at hrun
  refine gk_region env false [.callm [2,1] hrun] [6,7,8] ?_ (hp:=(by simp only[AllP,bb,toN,bestK_len];repeat' first|exact trivial|exact EntL.refl _|exact BEntL.refl _|exact rfl|(simp[best0];done)|omega|apply And.intro|intro _))
  refine gk_row 1 ?_
  refine gk_row 3 ?_
  refine gk_region env false [] [6,7] ?_
  refine gk_retX env [.d (.row (default:Cst) csC (cheapF l too).1),.d (.row (0:Int) inC (cheapF l too).2)] (hp:= ?_)
  simp only[AllP]
  repeat' first|exact trivial|exact rfl|omega|apply And.intro
theorem pot_ok (n:Nat) (dues:List Du) (sums:List Int) (π:Int→Int) (h:DuesR n dues) (hc:Caps dues sums) (hp:Pot π (stepsV dues sums)):GM Tryz.prog 36 [iG n,.d (.row default duC dues),.sl 0 1 0 sums.length] [.row 3 1 (0:Int) inC sums 0] (.d (.row (0:Int) inC (potF n (stepsV dues sums)))) [some (.row 3 1 (0:Int) inC sums 0)]:=by
 have hst:=steps_ok dues sums hc.len h.l100 (fun i hi=>h.hb hc i hi)
 have hll:(stepsV dues sums).length≤1000:=by have h1:=stepsL_len dues sums dues.length;have h2:=h.l100;have h3:stepsV dues sums=stepsL dues sums dues.length:=rfl;rw[h3];omega
 have hrun:=runI_ok n (stepsV dues sums) π (fun _=>True) (List.replicate n 0) h.n1 h.n40 (stepsIn h.in_ sums) hll hp pot0 (pot_mu h.n40)
 have hn40:=h.n40
 rw[List.length_replicate]at hrun
 refine gm_of_gk Tryz.func36 ?_
 refine gk_region env false [] [0,1,2,6] ?_
 refine gk_region env false [.el (0:Int) inC (List.replicate n 0)] [1,2,6,7] ?_ (hp:=(by simp only[AllP,bb,toN,loI,hiI];repeat' first|exact trivial|exact EntL.refl _|exact BEntL.refl _|exact rfl|(rw[rowL,List.map_replicate];rfl)|omega|apply And.intro|intro _|(simp;done)))
 refine gk_region env false [.callm [0] hst,.callm [2,1] hrun] [6,7] ?_ (hp:=(by simp only[AllP,bb,toN,loI,hiI];repeat' first|exact trivial|exact EntL.refl _|exact BEntL.refl _|exact rfl|omega|apply And.intro|intro _))
 refine gk_row 1 ?_
 refine gk_region env false [] [6] ?_
 refine gk_retX env [.d (.row (0:Int) inC (potF n (stepsV dues sums)))] (hp:= ?_)
 simp only[AllP]
 repeat' first|exact trivial|exact rfl|omega|apply And.intro
end Go.Gh
