/- Walks by the logic of calls, and plain laws. -/
import Derived.Test.YtjnjegclenjlbaaGreatDoorM18
import Derived.Test.YtjnjegclenjlbaaGreatDoorM17
namespace Go.Gh
open Go Go.Proofs
set_option maxRecDepth 1000000
set_option maxHeartbeats 2000000
set_option linter.unusedSimpArgs false
set_option linter.unusedVariables false
set_option linter.unnecessarySimpa false
open Go.RowKit Go.Proofs
theorem fit_nx {n rooms cl no:Int} {l:List Fe} (h:fitV n rooms cl (nxL l no)=true):fitV n rooms cl l=true:=by
 have h2:=nxL_len l no
 unfold fitV at h⊢
 simp only[bb]at h⊢
 exact ⟨h.1,by omega⟩
theorem clg_nil (l:List Fe):clgV l []= -1:=by
 unfold clgV
 rw[clgVL,if_neg (by simp only[bb];simp)]
def actK (κ:Int→Int) (offers:List Fe) (sm:List Nat) (G g:Nat):List Int:=(List.range g).map (actT κ offers sm)++List.replicate (G-g) 0
theorem actK_len (κ:Int→Int) (offers:List Fe) (sm:List Nat) {G g:Nat} (h:g≤G):(actK κ offers sm G g).length=G:=by simp[actK];omega
theorem actK_0 (κ:Int→Int) (offers:List Fe) (sm:List Nat) (G:Nat):actK κ offers sm G 0=List.replicate G 0:=by simp[actK]
theorem actK_s (κ:Int→Int) (offers:List Fe) (sm:List Nat) {G g:Nat} (h:g<G):(actK κ offers sm G g).set g (actT κ offers sm g)=actK κ offers sm G (g+1):=by
 have hl:((List.range g).map (actT κ offers sm)).length=g:=by simp
 unfold actK
 rw[List.set_append_right _ _ (by omega),hl,Nat.sub_self,show G-g=(G-(g+1))+1 by omega,List.replicate_succ,List.set_cons_zero,List.range_succ,List.map_append,List.append_assoc]
 rfl
theorem actK_at (κ:Int→Int) (offers:List Fe) (sm:List Nat) {G g:Nat} (h:g<G):(actK κ offers sm G G).getD g default=actT κ offers sm g:=by
 unfold actK
 rw[Nat.sub_self,List.replicate_zero,List.append_nil,List.getD_eq_getElem?_getD,List.getElem?_map,List.getElem?_range h];rfl
def ownG (j0:Nat) (g:Nat):Int:=if g=0 then-1 else j0
def lnJ (P:Nat→Bool):Nat→Bool
 |0=>false
 |j+1=>bif lnJ P j then true else P j
theorem lnJ_iff (P:Nat→Bool):∀k:Nat,lnJ P k=true↔∃j,j<k∧P j=true:=by
 intro k
 induction k with
 |zero=>exact ⟨fun h=>(by cases h),fun ⟨j,h,_⟩=>(by omega)⟩
 |succ k ih=>
  rw[lnJ]
  constructor
  ·intro h
   simp only[bb,Bool.or_eq_true]at h
   rcases h with h|h
   ·obtain ⟨j,h1,h2⟩:=ih.1 h
    exact ⟨j,by omega,h2⟩
   ·exact ⟨k,by omega,h⟩
  ·rintro ⟨j,h1,h2⟩
   simp only[bb,Bool.or_eq_true]
   by_cases e:j=k
   ·subst e;exact .inr h2
   ·exact .inl (ih.2 ⟨j,by omega,h2⟩)
theorem law_ok (n0 rooms cl:Int) (l:List Fe) (no:Int) (hs:∀e,e∈l→In64 e.sum):GC Tryz.prog 3 [iG n0,iG rooms,iG cl,.d (.row (default:Fe) feC l),iG no] (bG true):=by
 refine gc_of_gk Tryz.func3 ?_
 refine gk_region env false [] [0,1,2,3,4,10] ?_ (hp:=(by simp only[AllP,bb,toN,loI,hiI];repeat' first|exact trivial|exact EntL.refl _|exact BEntL.refl _|exact rfl|omega|apply And.intro|intro _))
 refine gk_region env false [.call live_ok] [0,1,2,3,4,10,11] ?_ (hp:=(by simp only[AllP,bb,toN,loI,hiI];repeat' first|exact trivial|exact EntL.refl _|exact BEntL.refl _|exact rfl|omega|apply And.intro|intro _))
 refine gk_region env false [] [0,1,2,3,4,10,11,50] ?_ (hp:=(by simp only[AllP,bb,toN,loI,hiI];repeat' first|exact trivial|exact EntL.refl _|exact BEntL.refl _|exact rfl|omega|apply And.intro|intro _))
 refine gk_if (fun c1=> ?_) (fun c1=> ?_)
 ·refine gk_region env false [] [10] ?_
  refine gk_ret env ?_
  rfl
 simp only[bb]at c1
 obtain ⟨n,rfl⟩:∃n:Nat,n0=n:=⟨n0.toNat,by omega⟩
 have hl40:l.length≤40:=by omega
 have h1:1≤n:=by omega
 have h40:n≤40:=by omega
 clear c1
 have hnl:=nxL_len l no
 refine gk_region env false [.el (default:Fe) feC [],.el (default:Fe) feC l,.el (default:Fe) feC [reE no],.el (default:Fe) feC (nxL l no)] [0,1,2,3,4,10,11,12] ?_ (hp:=(by simp only[AllP,bb,toN,loI,hiI,Int.toNat_natCast];repeat' first|exact trivial|exact EntL.refl _|exact BEntL.refl _|exact rfl|exact rowL_app _ _ _|omega|apply And.intro|intro _|(simp[rowL];done)|(simp only[List.length_append,List.length_cons,List.length_nil];omega)|(simp[*];done)))
 refine gk_row 3 ?_ (hps:=by simp only[AllP];repeat' first|exact trivial|(rw[hnl];rfl)|omega|apply And.intro)
 have hok:RunOK n rooms cl (nxL l no):=run_ok_all h1 h40 (by omega) fun e he=>by
  rcases List.mem_append.1 he with h|h
  ·exact hs e h
  ·rw[List.mem_singleton.1 h];exact ⟨show (-9223372036854775808:Int)≤0 by decide,show (0:Int)≤9223372036854775807 by decide⟩
 cases hf:fitV n rooms cl (nxL l no)with
 |false=>
  refine gk_region env false [.call (Run_no n rooms cl (nxL l no) hf)] [0,1,2,3,4,10,11,12,14] ?_ (hp:=(by simp only[AllP,bb,toN,loI,hiI];repeat' first|exact trivial|exact EntL.refl _|exact BEntL.refl _|exact rfl|omega|apply And.intro|intro _))
  refine gk_region env false [.call (clg_ok (nxL l no) [] (by omega) (by decide))] [0,1,2,3,4,10,11,12,14,15] ?_ (hp:=(by simp only[AllP,bb,toN,loI,hiI];repeat' first|exact trivial|exact EntL.refl _|exact BEntL.refl _|exact rfl|omega|apply And.intro|intro _))
  rw[clg_nil]
  refine gk_region env false [] [0,1,2,3,4,10,11,78] ?_ (hp:=(by simp only[AllP,bb,toN,loI,hiI];repeat' first|exact trivial|exact EntL.refl _|exact BEntL.refl _|exact rfl|omega|apply And.intro|intro _))
  refine gk_if (fun c2=> ?_) (fun c2=> ?_)
  ·refine gk_region env false [] [10] ?_
   refine gk_ret env ?_
   rfl
  ·simp only[bb]at c2
   exact absurd c2.1 (by decide)
 |true=>
  have hfl:=fit_nx hf
  have hel:=runS_elen (n:=n) (rooms:=rooms) (cl:=cl) (nxL l no) (nxL l no).length
  refine gk_region env false [.call (Run_ok n rooms cl (nxL l no) (by omega) hf hok)] [0,1,2,3,4,10,11,12,14] ?_ (hp:=(by simp only[AllP,bb,toN,loI,hiI];repeat' first|exact trivial|exact EntL.refl _|exact BEntL.refl _|exact rfl|omega|apply And.intro|intro _))
  obtain ⟨es,hes⟩:∃es,es=(runS n rooms cl (nxL l no) (nxL l no).length).errs:=⟨_,rfl⟩
  rw[←hes]at hel⊢
  refine gk_region env false [.call (clg_ok (nxL l no) es (by omega) (by omega))] [0,1,2,3,4,10,11,12,14,15] ?_ (hp:=(by simp only[AllP,bb,toN,loI,hiI];repeat' first|exact trivial|exact EntL.refl _|exact BEntL.refl _|exact rfl|omega|apply And.intro|intro _))
  refine gk_region env false [] [0,1,2,3,4,10,11,12,14,15,78] ?_ (hp:=(by simp only[AllP,bb,toN,loI,hiI];repeat' first|exact trivial|exact EntL.refl _|exact BEntL.refl _|exact rfl|omega|apply And.intro|intro _))
  refine gk_if (fun c2=> ?_) (fun c2=> ?_)
  ·refine gk_region env false [] [10] ?_
   refine gk_ret env ?_
   rfl
  simp only[bb]at c2
  have hcp:0≤clgV (nxL l no) es:=by omega
  clear c2
  refine gk_region env false [] [0,1,2,3,4,10,11,12,14,15,86] ?_ (hp:=(by simp only[AllP,bb,toN,loI,hiI];repeat' first|exact trivial|exact EntL.refl _|exact BEntL.refl _|exact rfl|omega|apply And.intro|intro _))
  refine gk_ifn (fun c3=> ?_) (fun c3=> ?_)
  ·refine gk_region env false [] [10] ?_
   refine gk_ret env ?_
   rfl
  have he0:es.getD l.length default=0:=by rw[←c3];congr 1;omega
  clear c3
  subst hes
  obtain ⟨c,offers,m0,i0,hc,RX⟩:=runX h1 h40 hl40 hs hcp he0
  rw[hc]
  clear hcp he0 hc
  have X:=RX.law
  have hlt:=RX.lt
  refine gk_region env false [.call (counting_ok n rooms cl ((nxL l no).take c) (by rw[List.length_take];omega) (fun e he=>ev_no he))] [0,1,2,3,4,10,11,12,16] ?_ (hp:=(by simp only[AllP,bb,toN,loI,hiI];repeat' first|exact trivial|exact EntL.refl _|exact BEntL.refl _|exact rfl|omega|apply And.intro|intro _))
  rw[RX.cnt]
  refine gk_region env false [.call (Cleared_ok n rooms cl l (by omega) hfl (run_ok_all h1 h40 (by omega) hs) RX.cd0)] [0,1,2,3,4,10,11,12,16,17] ?_ (hp:=(by simp only[AllP,bb,toN,loI,hiI];repeat' first|exact trivial|exact EntL.refl _|exact BEntL.refl _|exact rfl|omega|apply And.intro|intro _))
  rw[RX.of0,RX.m0_]
  refine gk_region env false [.call (Cleared_ok n rooms cl (nxL l no) (by omega) hf hok RX.cd1)] [0,4,10,11,16,17,18] ?_ (hp:=(by simp only[AllP,bb,toN,loI,hiI];repeat' first|exact trivial|exact EntL.refl _|exact BEntL.refl _|exact rfl|omega|apply And.intro|intro _))
  rw[RX.of1,RX.m1_]
  have hgone:=RX.gone
  have hno:=RX.no_
  clear RX hok hf hfl hel hlt hnl
  have hN:=X.l100
  have ho1:=outV_len offers m0
  have ho2:=outV_len offers (reM n no offers m0)
  refine gk_region env false [] [0,4,10,11,16,17,18,19] ?_ (hp:=(by simp only[AllP,bb,toN,loI,hiI];repeat' first|exact trivial|exact EntL.refl _|exact BEntL.refl _|exact rfl|omega|apply And.intro|intro _))
  refine gk_region env false [] [0,4,10,11,16,17,18,19,20] ?_ (hp:=(by simp only[AllP,bb,toN,loI,hiI];repeat' first|exact trivial|exact EntL.refl _|exact BEntL.refl _|exact rfl|omega|apply And.intro|intro _))
  refine gk_region env false [] [0,4,10,11,16,17,18,19,20,21] ?_ (hp:=(by simp only[AllP,bb,toN,loI,hiI];repeat' first|exact trivial|exact EntL.refl _|exact BEntL.refl _|exact rfl|omega|apply And.intro|intro _))
  refine gk_region env false [] [0,4,10,11,16,17,18,19,20,21,22] ?_ (hp:=(by simp only[AllP,bb,toN,loI,hiI];repeat' first|exact trivial|exact EntL.refl _|exact BEntL.refl _|exact rfl|omega|apply And.intro|intro _))
  refine gk_loop (α:=Nat) (fun k=>k≤offers.length) (fun k=>[(21,iG (goneF offers no k)),(22,iG k)]) (fun _=>[]) (fun k=>offers.length-k) 0 (Nat.zero_le _) ?_ (hp:=by (try simp only[AllP,Nat.zero_add]);repeat' first|exact trivial|exact rfl|exact EntL.refl _|exact BEntL.refl _|omega|apply And.intro|(simp;done)|(simp[*];done))
  rintro k hk
  refine gk_region env false [] [0,4,10,11,16,17,18,19,20,21,22,108] ?_ (hp:=(by simp only[AllP,bb,toN,loI,hiI];repeat' first|exact trivial|exact EntL.refl _|exact BEntL.refl _|exact rfl|omega|apply And.intro|intro _))
  refine gk_ifd (fun c4=> ?_) (fun c4=> ?_)
  ·have hk2:k<offers.length:=by omega
   refine gk_region env false [] [0,4,10,11,16,17,18,19,20,21,22,117] ?_ (hp:=(by simp only[AllP,bb,toN,loI,hiI];repeat' first|exact trivial|exact EntL.refl _|exact BEntL.refl _|exact rfl|omega|apply And.intro|intro _))
   refine gk_ifd (fun c5=> ?_) (fun c5=> ?_)
   ·have c5:(offers.getD k default).no=no:=c5
    have hg:goneF offers no (k+1)=k:=by rw[goneF,if_pos c5]
    refine gk_region env false [] [0,4,10,11,16,17,18,19,20,21,22] ?_ (hp:=(by simp only[AllP,bb,toN,loI,hiI];repeat' first|exact trivial|exact EntL.refl _|exact BEntL.refl _|exact rfl|omega|apply And.intro|intro _))
    refine gk_region env false [] [0,4,10,11,16,17,18,19,20,21,22] ?_ (hp:=(by simp only[AllP,bb,toN,loI,hiI];repeat' first|exact trivial|exact EntL.refl _|exact BEntL.refl _|exact rfl|omega|apply And.intro|intro _))
    exact gk_round (k+1) hk2 (hp:=by rw[hg];(try simp only[AllP,Nat.zero_add]);repeat' first|exact trivial|exact rfl|exact EntL.refl _|exact BEntL.refl _|omega|apply And.intro)
   ·have c5:¬(offers.getD k default).no=no:=c5
    have hg:goneF offers no (k+1)=goneF offers no k:=by rw[goneF,if_neg c5]
    refine gk_region env false [] [0,4,10,11,16,17,18,19,20,21,22] ?_ (hp:=(by simp only[AllP,bb,toN,loI,hiI];repeat' first|exact trivial|exact EntL.refl _|exact BEntL.refl _|exact rfl|omega|apply And.intro|intro _))
    exact gk_round (k+1) hk2 (hp:=by rw[hg];(try simp only[AllP,Nat.zero_add]);repeat' first|exact trivial|exact rfl|exact EntL.refl _|exact BEntL.refl _|omega|apply And.intro)
  ·obtain rfl:k=offers.length:=by omega
   rw[hgone]
   refine gk_region env false [] [0,4,10,11,16,17,18,19,20,21,120] ?_ (hp:=(by simp only[AllP,bb,toN,loI,hiI];repeat' first|exact trivial|exact EntL.refl _|exact BEntL.refl _|exact rfl|omega|apply And.intro|intro _))
   refine gk_ifd (fun c5=> ?_) (fun c5=> ?_)
   ·exfalso;omega
   clear c4 c5 hk hgone
   refine gk_region env false [] [0,10,11,16,17,18,19,20,21,23] ?_ (hp:=(by simp only[AllP,bb,toN,loI,hiI];repeat' first|exact trivial|exact EntL.refl _|exact BEntL.refl _|exact rfl|omega|apply And.intro|intro _))
   refine gk_nil 19 37 2 (default:Int×Int) edC (by rfl) (by rfl) ?_
   refine gk_nil 20 3 1 (0:Int) inC (by rfl) (by rfl) ?_
   have hi0:=X.hi
   refine gk_loop (α:=Nat) (fun k=>k≤offers.length) (fun k=>[(19,.sl 4 2 0 ((samK offers (outV offers m0) i0 k).map (edgE offers)).length),(20,.sl 5 1 0 ((samK offers (outV offers m0) i0 k).map fun (y:Nat)=>(y:Int)).length),(23,iG k)]) (fun k=>[(4,some (.row 37 2 (default:Int×Int) edC ((samK offers (outV offers m0) i0 k).map (edgE offers)) 0)),(5,some (.row 3 1 (0:Int) inC ((samK offers (outV offers m0) i0 k).map fun (y:Nat)=>(y:Int)) 0))]) (fun k=>offers.length-k) 0 (Nat.zero_le _) ?_ (hp:=by (try simp only[AllP,Nat.zero_add]);repeat' first|exact trivial|exact rfl|exact EntL.refl _|exact BEntL.refl _|omega|apply And.intro|(simp;done)|(simp[*];done))
   rintro k hk
   have hsl:=samK_len offers (outV offers m0) i0 k
   refine gk_region env false [] [0,10,11,16,17,18,19,20,21,23,124] ?_ (hp:=(by simp only[AllP,bb,toN,loI,hiI];repeat' first|exact trivial|exact EntL.refl _|exact BEntL.refl _|exact rfl|omega|apply And.intro|intro _))
   refine gk_ifd (fun c4=> ?_) (fun c4=> ?_)
   ·have hk2:k<offers.length:=by omega
    refine gk_region env false [.call (sumO_ok (outV offers m0) (offers.getD k default).no (by omega))] [0,10,11,16,17,18,19,20,21,23,160] ?_ (hp:=(by simp only[AllP,bb,toN,loI,hiI];repeat' first|exact trivial|exact EntL.refl _|exact BEntL.refl _|exact rfl|omega|apply And.intro|intro _))
    refine gk_if (fun c5=> ?_) (fun c5=> ?_)
    ·have hs2:samK offers (outV offers m0) i0 (k+1)=samK offers (outV offers m0) i0 k++ [k]:=by rw[samK_s,if_pos (show inS offers (outV offers m0) i0 k=true from c5)]
     refine gk_region env false [.el (0:Int) inC [(k:Int)],.el (0:Int) inC (((samK offers (outV offers m0) i0 k).map fun (y:Nat)=>(y:Int))++ [(k:Int)])] [0,10,11,16,17,18,19,20,21,23] ?_ (hp:=(by simp only[AllP,bb,toN,loI,hiI,Int.toNat_natCast];repeat' first|exact trivial|exact EntL.refl _|exact BEntL.refl _|exact rfl|omega|(simp only[List.length_map,List.length_append,List.length_cons,List.length_nil];omega)|apply And.intro|intro _|(simp[rowL];done)|(simp only[List.length_append,List.length_cons,List.length_nil];omega)|(simp[*];done)))
     refine gk_region env false [.el (default:Int×Int) edC [edgE offers k],.el (default:Int×Int) edC (((samK offers (outV offers m0) i0 k).map (edgE offers))++ [edgE offers k])] [0,10,11,16,17,18,19,20,21,23] ?_ (hp:=(by simp only[AllP,bb,toN,loI,hiI,Int.toNat_natCast];repeat' first|exact trivial|exact EntL.refl _|exact BEntL.refl _|exact rfl|omega|(simp only[List.length_map,List.length_append,List.length_cons,List.length_nil];omega)|apply And.intro|intro _|(simp[rowL];done)|(simp only[List.length_append,List.length_cons,List.length_nil];omega)|(simp[*];done)))
     refine gk_region env false [] [0,10,11,16,17,18,19,20,21,23] ?_ (hp:=(by simp only[AllP,bb,toN,loI,hiI];repeat' first|exact trivial|exact EntL.refl _|exact BEntL.refl _|exact rfl|omega|apply And.intro|intro _))
     exact gk_round (k+1) hk2 (hp:=by rw[hs2,List.map_append,List.map_append];(try simp only[AllP,List.length_append,List.length_map,List.length_cons,List.length_nil]);repeat' first|exact trivial|exact rfl|omega|apply And.intro)
    ·have hs2:samK offers (outV offers m0) i0 (k+1)=samK offers (outV offers m0) i0 k:=by rw[samK_s,if_neg (show ¬inS offers (outV offers m0) i0 k=true by rw[show inS offers (outV offers m0) i0 k=false from c5];decide),List.append_nil]
     refine gk_region env false [] [0,10,11,16,17,18,19,20,21,23] ?_ (hp:=(by simp only[AllP,bb,toN,loI,hiI];repeat' first|exact trivial|exact EntL.refl _|exact BEntL.refl _|exact rfl|omega|apply And.intro|intro _))
     exact gk_round (k+1) hk2 (hp:=by rw[hs2];(try simp only[AllP,Nat.zero_add]);repeat' first|exact trivial|exact rfl|exact EntL.refl _|exact BEntL.refl _|omega|apply And.intro)
   ·obtain rfl:k=offers.length:=by omega
    clear c4 hk hsl
    obtain ⟨sm,hsm⟩:∃s,s=smT offers m0 i0:=⟨_,rfl⟩
    have hsm0:samK offers (outV offers m0) i0 offers.length=sm:=hsm.symm
    rw[hsm0]
    have hed:sm.map (edgE offers)=edT offers m0 i0:=by rw[hsm];rfl
    rw[hed]
    obtain ⟨smi,hsmi⟩:∃s,s=sm.map fun (y:Nat)=>(y:Int):=⟨_,rfl⟩
    rw[←hsmi]
    have hsl:smi.length=sm.length:=by rw[hsmi,List.length_map]
    have hsa:∀j,j<sm.length→smi.getD j 0=((sm.getD j 0:Nat):Int):=fun j hj=>by
     rw[hsmi,List.getD_eq_getElem?_getD,List.getElem?_map,List.getD_eq_getElem?_getD,List.getElem?_eq_getElem hj];rfl
    clear hsmi hed hsm0
    have hgr:groupsT (nxtV n (edT offers m0 i0))=grT n offers m0 i0:=rfl
    refine gk_row 4 ?_
    refine gk_row 5 ?_
    refine gk_region env false [.call (groups0_ok n (edT offers m0 i0) (by omega) X.ed_len X.right X.ed_in X.to_in X.sub)] [0,10,11,16,17,18,20,21,24] ?_ (hp:=(by simp only[AllP,bb,toN,loI,hiI];repeat' first|exact trivial|exact EntL.refl _|exact BEntL.refl _|exact rfl|omega|apply And.intro|intro _))
    rw[hgr]
    clear hgr
    have hgl:=X.gr_len
    have hgp:=X.gr_pos
    have hge:=X.gr_each
    have hkp:=fun {v:Int} (h0:0≤v) (h1:v<n)=>X.kp_in h0 h1
    obtain ⟨j0,hj0,hje⟩:=X.own
    obtain ⟨g0,hg0,hge0⟩:=X.g0
    have hstr:=fun h=>X.strike (j0:=j0) (g0:=g0) h
    have hat:=fun {j:Nat} =>X.sm_at (j:=j)
    have heach:=fun {i:Nat} =>X.each (i:=i)
    have hsmf:=fun {i:Nat} (h:i<offers.length)=>X.sm_iff h
    have hlean:=fun {i:Nat} =>X.lean hge0 (i:=i)
    have hsups:=X.sups
    rw[←hsm]at hj0 hje hstr hat hsmf hlean hsups
    have hsn:sm.Nodup:=by rw[hsm];exact samK_nodup _ _ _ _
    clear hsm
    obtain ⟨gr,hgr⟩:∃g,g=grT n offers m0 i0:=⟨_,rfl⟩
    rw[←hgr]at hgl hgp hge hkp hg0 hstr⊢
    obtain ⟨κ,hκ⟩:∃g,g=kpT n offers m0 i0:=⟨_,rfl⟩
    have hkap:=X.kappa
    have hgo:∀v,grpO gr v=κ v:=fun v=>by rw[hgr,hκ];rfl
    rw[←hκ]at hkp hge0 hstr heach hlean hsups hkap
    clear hgr hκ
    refine gk_region env false [] [0,10,11,16,17,18,20,21,24,189] ?_ (hp:=(by simp only[AllP,bb,toN,loI,hiI];repeat' first|exact trivial|exact EntL.refl _|exact BEntL.refl _|exact rfl|omega|apply And.intro|intro _))
    refine gk_if (fun c6=> ?_) (fun c6=> ?_)
    ·refine gk_region env false [] [10] ?_
     refine gk_ret env ?_
     have:decide ((0:Int)<(gr.length:Int))=true:=by simpa using hgp
     show bG (decide ((0:Int)<(gr.length:Int)))=bG true
     rw[this]
    simp only[bb]at c6
    have hs20:sm.length≤20:=by omega
    clear c6
    obtain ⟨sup,hsup⟩:∃s,s=supT κ offers sm:=⟨_,rfl⟩
    have hl0:lnsT sm.length (supsK sup 0)=List.replicate sm.length none:=by simp[lnsT,supsK]
    refine gk_region env false [.el (none:Option (List Int)) lnC (List.replicate sm.length none)] [0,10,11,16,17,18,20,21,24,25] ?_ (hp:=by rw[hsl];exact (by simp only[AllP,bb,toN,loI,hiI];repeat' first|exact trivial|exact EntL.refl _|exact BEntL.refl _|exact rfl|(rw[rowL,List.map_replicate];rfl)|omega|apply And.intro|intro _|(simp;done)))
    refine gk_region env false [.el (0:Int) inC (List.replicate gr.length 0)] [0,10,11,16,17,18,20,21,24,25,26] ?_ (hp:=by exact (by simp only[AllP,bb,toN,loI,hiI];repeat' first|exact trivial|exact EntL.refl _|exact BEntL.refl _|exact rfl|(rw[rowL,List.map_replicate];rfl)|omega|apply And.intro|intro _|(simp;done)))
    refine gk_region env false [] [0,10,11,16,17,18,20,21,24,25,26,27] ?_ (hp:=(by simp only[AllP,bb,toN,loI,hiI];repeat' first|exact trivial|exact EntL.refl _|exact BEntL.refl _|exact rfl|omega|apply And.intro|intro _))
    refine gk_region env false [] [0,10,11,16,17,18,20,21,24,25,26,27,28] ?_ (hp:=(by simp only[AllP,bb,toN,loI,hiI];repeat' first|exact trivial|exact EntL.refl _|exact BEntL.refl _|exact rfl|omega|apply And.intro|intro _))
    refine gk_loop (α:=Nat) (fun g=>g≤gr.length) (fun g=>[(25,.sl 6 1 0 (lnsT sm.length (supsK sup g)).length),(26,.sl 7 1 0 (actK κ offers sm gr.length g).length),(27,iG (ownG j0 g)),(28,iG g)]) (fun g=>[(6,some (.row 43 1 (none:Option (List Int)) lnC (lnsT sm.length (supsK sup g)) 0)),(7,some (.row 3 1 (0:Int) inC (actK κ offers sm gr.length g) 0))]) (fun g=>gr.length-g) 0 (Nat.zero_le _) ?_ (hp:=by rw[hl0,actK_0];(try simp only[AllP,hsl,List.length_replicate]);repeat' first|exact trivial|exact rfl|omega|apply And.intro)
    rintro g hg
    have hal:=actK_len κ offers sm hg
    have hal2:=fun (h:g<gr.length)=>actK_len κ offers sm (show g+1≤gr.length from h)
    have hll:=lnsT_len sm.length (supsK sup g)
    have hsk:=supsK_len sup g
    refine gk_region env false [] [0,10,11,16,17,18,20,21,24,25,26,27,28,205] ?_ (hp:=(by simp only[AllP,bb,toN,loI,hiI];repeat' first|exact trivial|exact EntL.refl _|exact BEntL.refl _|exact rfl|omega|apply And.intro|intro _))
    refine gk_ifd (fun c4=> ?_) (fun c4=> ?_)
    ·have hg2:g<gr.length:=by omega
     have hal2:=hal2 hg2
     refine gk_region env false [] [0,10,11,16,17,18,20,21,24,25,26,27,28,29] ?_ (hp:=(by simp only[AllP,bb,toN,loI,hiI];repeat' first|exact trivial|exact EntL.refl _|exact BEntL.refl _|exact rfl|omega|apply And.intro|intro _))
     refine gk_region env false [] [0,10,11,16,17,18,20,21,24,25,26,27,28,29,30] ?_ (hp:=(by simp only[AllP,bb,toN,loI,hiI];repeat' first|exact trivial|exact EntL.refl _|exact BEntL.refl _|exact rfl|omega|apply And.intro|intro _))
     refine gk_nil 29 3 1 (0:Int) inC (by rfl) (by rfl) ?_
     refine gk_loop (α:=Nat) (fun j=>j≤sm.length) (fun j=>[(27,iG (ownJ sm i0 (ownG j0 g) j)),(29,.sl 8 1 0 (supJ κ offers sm g j).length),(30,iG j)]) (fun j=>[(8,some (.row 3 1 (0:Int) inC (supJ κ offers sm g j) 0))]) (fun j=>sm.length-j) 0 (Nat.zero_le _) ?_ (hp:=by (try simp only[AllP,Nat.zero_add]);repeat' first|exact trivial|exact rfl|exact EntL.refl _|exact BEntL.refl _|omega|apply And.intro|(simp;done)|(simp[*];done))
     rintro j hj
     have hjl:=supJ_len κ offers sm g j
     refine gk_region env false [] [0,10,11,16,17,18,20,21,24,25,26,27,28,29,30,211] ?_ (hp:=(by simp only[AllP,bb,toN,loI,hiI];repeat' first|exact trivial|exact EntL.refl _|exact BEntL.refl _|exact rfl|omega|apply And.intro|intro _))
     rw[hsl]
     refine gk_ifd (fun c5=> ?_) (fun c5=> ?_)
     ·have hj2:j<sm.length:=by omega
      have hxj:=hsa j hj2
      have hx2:=hat hj2
      have hmem:sm.getD j 0∈sm:=memD hj2
      have hX:offers.getD (smi.getD j 0).toNat default=offers.getD (sm.getD j 0) default:=by rw[hxj,Int.toNat_natCast]
      have hE:κ (offers.getD (smi.getD j 0).toNat default).fr=κ (offers.getD (smi.getD j 0).toNat default).to_:=by rw[hX];exact heach hx2 ((hsmf hx2).1 hmem).1 ((hsmf hx2).1 hmem).2
      refine gk_region env false [.call (grpO_ok gr (offers.getD (smi.getD j 0).toNat default).fr (by omega) hge),.call (grpO_ok gr (offers.getD (smi.getD j 0).toNat default).to_ (by omega) hge)] [0,10,11,16,17,18,20,21,24,25,26,27,28,29,30,234] ?_ (hp:=(by simp only[AllP,bb,toN,loI,hiI,hxj];repeat' first|exact trivial|exact EntL.refl _|exact BEntL.refl _|exact rfl|omega|apply And.intro|intro _))
      refine gk_ifn (fun c6=> ?_) (fun c6=> ?_)
      ·exact absurd (by rw[hgo,hgo];exact hE) c6
      clear c6
      refine gk_region env false [.call (grpO_ok gr (offers.getD (smi.getD j 0).toNat default).fr (by omega) hge)] [0,10,11,16,17,18,20,21,24,25,26,27,28,29,30,246] ?_ (hp:=(by simp only[AllP,bb,toN,loI,hiI,hxj];repeat' first|exact trivial|exact EntL.refl _|exact BEntL.refl _|exact rfl|omega|apply And.intro|intro _))
      refine gk_ifd (fun c7=> ?_) (fun c7=> ?_)
      ·have c7:κ (offers.getD (sm.getD j 0) default).fr=g:=by rw[←hX,←hgo];exact c7
       refine gk_region env false [.el (0:Int) inC [(j:Int)],.el (0:Int) inC (supJ κ offers sm g j++ [(j:Int)])] [0,10,11,16,17,18,20,21,24,25,26,27,28,29,30] ?_ (hp:=(by simp only[AllP,bb,toN,loI,hiI,Int.toNat_natCast];repeat' first|exact trivial|exact EntL.refl _|exact BEntL.refl _|exact rfl|omega|(simp only[List.length_map,List.length_append,List.length_cons,List.length_nil];omega)|apply And.intro|intro _|(simp[rowL];done)|(simp only[List.length_append,List.length_cons,List.length_nil];omega)|(simp[*];done)))
       refine gk_region env false [] [0,10,11,16,17,18,20,21,24,25,26,27,28,29,30,256] ?_ (hp:=(by simp only[AllP,bb,toN,loI,hiI,hxj];repeat' first|exact trivial|exact EntL.refl _|exact BEntL.refl _|exact rfl|omega|apply And.intro|intro _))
       refine gk_ifd (fun c8=> ?_) (fun c8=> ?_)
       ·have c8:smi.getD j 0=(i0:Int):=c8
        refine gk_region env false [] [0,10,11,16,17,18,20,21,24,25,26,27,28,29,30] ?_ (hp:=(by simp only[AllP,bb,toN,loI,hiI];repeat' first|exact trivial|exact EntL.refl _|exact BEntL.refl _|exact rfl|omega|apply And.intro|intro _))
        have hr1:supJ κ offers sm g (j+1)=supJ κ offers sm g j++ [(j:Int)]:=by rw[supJ_s,if_pos c7]
        have hr2:ownJ sm i0 (ownG j0 g) (j+1)=(j:Int):=by rw[ownJ,if_pos (by omega)]
        refine gk_region env false [] [0,10,11,16,17,18,20,21,24,25,26,27,28,29,30] ?_ (hp:=(by simp only[AllP,bb,toN,loI,hiI];repeat' first|exact trivial|exact EntL.refl _|exact BEntL.refl _|exact rfl|omega|apply And.intro|intro _))
        exact gk_round (j+1) hj2 (hp:=by rw[hr1,hr2];(try simp only[AllP,List.length_append,List.length_cons,List.length_nil]);repeat' first|exact trivial|exact rfl|omega|apply And.intro)
       ·have c8:¬smi.getD j 0=(i0:Int):=c8
        have hr1:supJ κ offers sm g (j+1)=supJ κ offers sm g j++ [(j:Int)]:=by rw[supJ_s,if_pos c7]
        have hr2:ownJ sm i0 (ownG j0 g) (j+1)=ownJ sm i0 (ownG j0 g) j:=by rw[ownJ,if_neg (by omega)]
        refine gk_region env false [] [0,10,11,16,17,18,20,21,24,25,26,27,28,29,30] ?_ (hp:=(by simp only[AllP,bb,toN,loI,hiI];repeat' first|exact trivial|exact EntL.refl _|exact BEntL.refl _|exact rfl|omega|apply And.intro|intro _))
        exact gk_round (j+1) hj2 (hp:=by rw[hr1,hr2];(try simp only[AllP,List.length_append,List.length_cons,List.length_nil]);repeat' first|exact trivial|exact rfl|omega|apply And.intro)
      ·have c7:¬κ (offers.getD (sm.getD j 0) default).fr=g:=by rw[←hX,←hgo];exact c7
       refine gk_region env false [] [0,10,11,16,17,18,20,21,24,25,26,27,28,29,30,256] ?_ (hp:=(by simp only[AllP,bb,toN,loI,hiI,hxj];repeat' first|exact trivial|exact EntL.refl _|exact BEntL.refl _|exact rfl|omega|apply And.intro|intro _))
       refine gk_ifd (fun c8=> ?_) (fun c8=> ?_)
       ·have c8:smi.getD j 0=(i0:Int):=c8
        refine gk_region env false [] [0,10,11,16,17,18,20,21,24,25,26,27,28,29,30] ?_ (hp:=(by simp only[AllP,bb,toN,loI,hiI];repeat' first|exact trivial|exact EntL.refl _|exact BEntL.refl _|exact rfl|omega|apply And.intro|intro _))
        have hr1:supJ κ offers sm g (j+1)=supJ κ offers sm g j:=by rw[supJ_s,if_neg c7,List.append_nil]
        have hr2:ownJ sm i0 (ownG j0 g) (j+1)=(j:Int):=by rw[ownJ,if_pos (by omega)]
        refine gk_region env false [] [0,10,11,16,17,18,20,21,24,25,26,27,28,29,30] ?_ (hp:=(by simp only[AllP,bb,toN,loI,hiI];repeat' first|exact trivial|exact EntL.refl _|exact BEntL.refl _|exact rfl|omega|apply And.intro|intro _))
        exact gk_round (j+1) hj2 (hp:=by rw[hr1,hr2];(try simp only[AllP,List.length_append,List.length_cons,List.length_nil]);repeat' first|exact trivial|exact rfl|omega|apply And.intro)
       ·have c8:¬smi.getD j 0=(i0:Int):=c8
        have hr1:supJ κ offers sm g (j+1)=supJ κ offers sm g j:=by rw[supJ_s,if_neg c7,List.append_nil]
        have hr2:ownJ sm i0 (ownG j0 g) (j+1)=ownJ sm i0 (ownG j0 g) j:=by rw[ownJ,if_neg (by omega)]
        refine gk_region env false [] [0,10,11,16,17,18,20,21,24,25,26,27,28,29,30] ?_ (hp:=(by simp only[AllP,bb,toN,loI,hiI];repeat' first|exact trivial|exact EntL.refl _|exact BEntL.refl _|exact rfl|omega|apply And.intro|intro _))
        exact gk_round (j+1) hj2 (hp:=by rw[hr1,hr2];(try simp only[AllP,List.length_append,List.length_cons,List.length_nil]);repeat' first|exact trivial|exact rfl|omega|apply And.intro)
     ·obtain rfl:j=sm.length:=by omega
      have e1:supJ κ offers sm g sm.length=sup g:=by rw[hsup];rfl
      have e2:ownJ sm i0 (ownG j0 g) sm.length=ownG j0 (g+1):=by rw[ownJ_ok hsn hj0 hje _ _ (Nat.le_refl _),if_pos hj0];rfl
      rw[e1,e2]
      rw[e1]at hjl
      clear e1 e2 c5 hj
      refine gk_region env false [.el (0:Int) inC ((actK κ offers sm gr.length g).set g (-1))] [0,10,11,16,17,18,20,21,24,25,26,27,28,29] ?_ (hp:=(by simp only[AllP,bb,toN,loI,hiI,Nat.zero_add];repeat' first|exact Nat.le_refl _|exact (putD_all (cs:=inC) (by omega) rfl (by rfl)).symm|exact trivial|exact EntL.refl _|exact BEntL.refl _|exact rfl|omega|apply And.intro|intro _|(simp only[List.length_set];omega)|(simp;done)))
      refine gk_region env false [] [0,10,11,16,17,18,20,21,24,25,26,27,28,29,263] ?_ (hp:=(by simp only[AllP,bb,toN,loI,hiI];repeat' first|exact trivial|exact EntL.refl _|exact BEntL.refl _|exact rfl|omega|apply And.intro|intro _))
      refine gk_ifd (fun c5=> ?_) (fun c5=> ?_)
      ·have hne:sup g≠ []:=fun e=>by rw[e]at c5;exact absurd c5 (by decide)
       have hs1:supsK sup (g+1)=supsK sup g++ [sup g]:=by rw[supsK,if_neg hne]
       have ha:((actK κ offers sm gr.length g).set g (-1)).set g ((lnsT sm.length (supsK sup g)).length:Int)=actK κ offers sm gr.length (g+1):=by
        rw[List.set_set,←actK_s κ offers sm hg2]
        congr 1
        rw[hll,actT,←hsup,if_neg hne]
       have hln:lnsT sm.length (supsK sup (g+1))=lnsT sm.length (supsK sup g)++ [some (sup g)]:=by rw[hs1];simp[lnsT]
       refine gk_region env false [.el (0:Int) inC (((actK κ offers sm gr.length g).set g (-1)).set g ((lnsT sm.length (supsK sup g)).length:Int))] [0,10,11,16,17,18,20,21,24,25,26,27,28,29] ?_ (hp:=(by simp only[AllP,bb,toN,loI,hiI,Nat.zero_add];repeat' first|exact Nat.le_refl _|exact (putD_all (cs:=inC) (by simp only[List.length_set];omega) rfl (by rfl)).symm|exact trivial|exact EntL.refl _|exact BEntL.refl _|exact rfl|omega|apply And.intro|intro _|(simp only[List.length_set];omega)|(simp;done)))
       rw[ha]
       refine gk_region env false [.fz,.el (default:List Int) row_inC [sup g],.fz,.el (none:Option (List Int)) lnC [some (sup g)],.el (none:Option (List Int)) lnC (lnsT sm.length (supsK sup g)++ [some (sup g)])] [0,10,11,16,17,18,20,21,24,25,26,27,28] ?_ (hp:=(by simp only[AllP,bb,toN,loI,hiI,Int.toNat_natCast];repeat' first|exact trivial|exact EntL.refl _|exact BEntL.refl _|exact rfl|omega|(simp only[List.length_map,List.length_append,List.length_cons,List.length_nil];omega)|apply And.intro|intro _|(simp[rowL];done)|(simp only[List.length_append,List.length_cons,List.length_nil];omega)|(simp[*];done)|(cases‹Option (List Int)›<;>rfl)))
       refine gk_region env false [] [0,10,11,16,17,18,20,21,24,25,26,27,28] ?_ (hp:=(by simp only[AllP,bb,toN,loI,hiI];repeat' first|exact trivial|exact EntL.refl _|exact BEntL.refl _|exact rfl|omega|apply And.intro|intro _))
       exact gk_round (g+1) hg2 (hp:=by rw[hln];(try simp only[AllP,List.length_append,List.length_cons,List.length_nil]);repeat' first|exact trivial|exact rfl|omega|apply And.intro)
      ·have hne:sup g= []:=List.eq_nil_of_length_eq_zero (by omega)
       have hs1:supsK sup (g+1)=supsK sup g:=by rw[supsK,if_pos hne,List.append_nil]
       have ha:(actK κ offers sm gr.length g).set g (-1)=actK κ offers sm gr.length (g+1):=by
        rw[←actK_s κ offers sm hg2]
        congr 1
        rw[actT,←hsup,if_pos hne]
       rw[ha]
       refine gk_region env false [] [0,10,11,16,17,18,20,21,24,25,26,27,28] ?_ (hp:=(by simp only[AllP,bb,toN,loI,hiI];repeat' first|exact trivial|exact EntL.refl _|exact BEntL.refl _|exact rfl|omega|apply And.intro|intro _))
       exact gk_round (g+1) hg2 (hp:=by rw[hs1];(try simp only[AllP,Nat.zero_add]);repeat' first|exact trivial|exact rfl|exact EntL.refl _|exact BEntL.refl _|omega|apply And.intro)
    ·obtain rfl:g=gr.length:=by omega
     have how:ownG j0 gr.length=j0:=by unfold ownG;rw[if_neg (by omega)]
     rw[how]
     obtain ⟨a0,ha0⟩:∃a,a=actT κ offers sm g0:=⟨_,rfl⟩
     have hst:GC Tryz.prog 12 [.d (.row (default:Lea) leC ((lnsT sm.length (supsK sup gr.length)).map lnV)),.d (.row (default:Bool) boC (List.replicate (lnsT sm.length (supsK sup gr.length)).length false)),.d (.row (default:Int) inC [(j0:Int)])] (.d (.row (default:Int) inC [(j0:Int),a0])):=by
      have h:=strike_ok ((lnsT sm.length (supsK sup gr.length)).map lnV) (List.replicate (lnsT sm.length (supsK sup gr.length)).length false) [(j0:Int)] (hl_lns (by omega) fun s h=>by rw[hsup]at h;have:=(hsups hs20 _ s h).2.1;omega) (right_lns (by omega) fun s h=>by rw[hsup]at h;exact hsups hs20 _ s h) (by simp) (fun h=>by have:=congrArg List.length h;rw[List.length_replicate,List.length_nil]at this;omega) (by simp) (fun k hk=>by rw[List.mem_singleton.1 hk,List.length_map];omega)
      rw[hll,hsup,hstr hj0 hje hg0 hge0,←ha0,←hsup]at h
      rw[hll]
      exact h
     clear hstr hsups how hg c4
     refine gk_region env false [.el (default:Bool) boC (List.replicate (lnsT sm.length (supsK sup gr.length)).length false),.el (0:Int) inC [(j0:Int)],.call hst] [0,10,11,16,17,18,20,21,24,26,27,31] ?_ (hp:=(by simp only[AllP,bb,toN,loI,hiI];repeat' first|exact trivial|exact ln_ent _|exact EntL.refl _|exact BEntL.refl _|exact rfl|(rw[rowL,List.map_replicate];rfl)|omega|apply And.intro|intro _|(simp;done)))
     refine gk_region env false [] [0,10,11,16,17,18,20,21,24,26,27,31,288] ?_ (hp:=(by simp only[AllP,bb,toN,loI,hiI];repeat' first|exact trivial|exact EntL.refl _|exact BEntL.refl _|exact rfl|omega|apply And.intro|intro _))
     refine gk_if (fun c5=> ?_) (fun c5=> ?_)
     ·exfalso
      simp only[bb]at c5
      rcases c5 with c5|c5
      ·omega
      ·exact c5 rfl
     clear c5
     refine gk_row 7 ?_
     obtain ⟨H,hH⟩:∃h,h=leanH m0 (reM n no offers m0) κ (offers.getD i0 default):=⟨_,rfl⟩
     have he0:offers.getD i0 default∈offers:=memD hi0
     refine gk_region env false [.el (0:Int) inC (List.replicate n 0)] [0,10,11,16,17,18,20,21,24,26,27,31,32] ?_ (hp:=by exact (by simp only[AllP,bb,toN,loI,hiI];repeat' first|exact trivial|exact EntL.refl _|exact BEntL.refl _|exact rfl|(rw[rowL,List.map_replicate];rfl)|omega|apply And.intro|intro _|(simp;done)))
     refine gk_region env false [] [0,10,11,16,17,18,20,21,24,26,27,31,32,33] ?_ (hp:=(by simp only[AllP,bb,toN,loI,hiI];repeat' first|exact trivial|exact EntL.refl _|exact BEntL.refl _|exact rfl|omega|apply And.intro|intro _))
     refine gk_loop (α:=Nat) (fun k=>k≤offers.length) (fun k=>[(32,.sl 10 1 0 (netR n H (offers.take k)).length),(33,iG k)]) (fun k=>[(10,some (.row 3 1 (0:Int) inC (netR n H (offers.take k)) 0))]) (fun k=>offers.length-k) 0 (Nat.zero_le _) ?_ (hp:=by rw[List.take_zero,netR_nil];(try simp only[AllP,List.length_replicate]);repeat' first|exact trivial|exact rfl|omega|apply And.intro)
     rintro k hk
     have hnl:=netR_len n H (offers.take k)
     refine gk_region env false [] [0,10,11,16,17,18,20,21,24,26,27,31,32,33,294] ?_ (hp:=(by simp only[AllP,bb,toN,loI,hiI];repeat' first|exact trivial|exact EntL.refl _|exact BEntL.refl _|exact rfl|omega|apply And.intro|intro _))
     refine gk_ifd (fun c5=> ?_) (fun c5=> ?_)
     ·have hk2:k<offers.length:=by omega
      have hm:(offers.getD k default)∈offers:=memD hk2
      have hok:=X.at_ hk2
      have hb0:=X.fi.bnd _ hm
      have hle:=reo_le X.fi h1 h40 X.l100 he0 hno hm
      have hsu1:=sumO_out X.fi hm
      have hsu2:=sumO_out (fi_re (no:=no) X.fi h1 h40 X.l100) hm
      have hkk:=hkp hok.1.1 hok.1.2
      have hgk:=hgo (offers.getD k default).fr
      refine gk_region env false [.call (sumO_ok (outV offers m0) (offers.getD k default).no (by omega))] [0,10,11,16,17,18,20,21,24,26,27,31,32,33,34] ?_ (hp:=(by simp only[AllP,bb,toN,loI,hiI];repeat' first|exact trivial|exact EntL.refl _|exact BEntL.refl _|exact rfl|omega|apply And.intro|intro _))
      rw[hsu1]
      refine gk_region env false [.call (sumO_ok (outV offers (reM n no offers m0)) (offers.getD k default).no (by omega))] [0,10,11,16,17,18,20,21,24,26,27,31,32,33,34,35] ?_ (hp:=(by simp only[AllP,bb,toN,loI,hiI];repeat' first|exact trivial|exact EntL.refl _|exact BEntL.refl _|exact rfl|omega|apply And.intro|intro _))
      rw[hsu2]
      refine gk_region env false [] [0,10,11,16,17,18,20,21,24,26,27,31,32,33,34,35,36] ?_ (hp:=(by simp only[AllP,bb,toN,loI,hiI];repeat' first|exact trivial|exact EntL.refl _|exact BEntL.refl _|exact rfl|omega|apply And.intro|intro _))
      refine gk_region env false [] [0,10,11,16,17,18,20,21,24,26,27,31,32,33,34,35,36,37] ?_ (hp:=(by simp only[AllP,bb,toN,loI,hiI];repeat' first|exact trivial|exact EntL.refl _|exact BEntL.refl _|exact rfl|omega|apply And.intro|intro _))
      refine gk_loop (α:=Nat) (fun j=>j≤sm.length) (fun j=>[(36,bG (lnJ (fun j=>bif decide (smi.getD j 0=(k:Int))then decide ((actK κ offers sm gr.length gr.length).getD (grpO gr (offers.getD k default).fr).toNat 0=a0)else false) j)),(37,iG j)]) (fun _=>[]) (fun j=>sm.length-j) 0 (Nat.zero_le _) ?_ (hp:=by (try simp only[AllP,Nat.zero_add]);repeat' first|exact trivial|exact rfl|exact EntL.refl _|exact BEntL.refl _|omega|apply And.intro|(simp;done)|(simp[*];done))
      rintro j hj
      refine gk_region env false [] [0,10,11,16,17,18,20,21,24,26,27,31,32,33,34,35,36,37,314] ?_ (hp:=(by simp only[AllP,bb,toN,loI,hiI];repeat' first|exact trivial|exact EntL.refl _|exact BEntL.refl _|exact rfl|omega|apply And.intro|intro _))
      rw[hsl]
      refine gk_ifd (fun c6=> ?_) (fun c6=> ?_)
      ·have hj2:j<sm.length:=by omega
       refine gk_region env false [.call (grpO_ok gr (offers.getD k default).fr (by omega) hge)] [0,10,11,16,17,18,20,21,24,26,27,31,32,33,34,35,36,37] ?_ (hp:=(by simp only[AllP,bb,toN,loI,hiI,hgk,hal];repeat' first|exact trivial|exact (show (1:Int)<((2:Nat):Int)by decide)|exact (show (0:Int)<((2:Nat):Int)by decide)|exact EntL.refl _|exact BEntL.refl _|exact rfl|omega|apply And.intro|intro _))
       refine gk_region env false [] [0,10,11,16,17,18,20,21,24,26,27,31,32,33,34,35,36,37] ?_ (hp:=(by simp only[AllP,bb,toN,loI,hiI];repeat' first|exact trivial|exact EntL.refl _|exact BEntL.refl _|exact rfl|omega|apply And.intro|intro _))
       exact gk_round (j+1) hj2 (hp:=by (try simp only[AllP,Nat.zero_add]);repeat' first|exact trivial|exact rfl|exact EntL.refl _|exact BEntL.refl _|omega|apply And.intro)
      ·obtain rfl:j=sm.length:=by omega
       clear c6 hj
       have hLN:lnJ (fun j=>bif decide (smi.getD j 0=(k:Int))then decide ((actK κ offers sm gr.length gr.length).getD (grpO gr (offers.getD k default).fr).toNat 0=a0)else false) sm.length=decide (leanP m0 κ (offers.getD i0 default) (offers.getD k default)):=by
        rw[Bool.eq_iff_iff,lnJ_iff,decide_eq_true_eq,hlean hk2]
        have hact:(actK κ offers sm gr.length gr.length).getD (grpO gr (offers.getD k default).fr).toNat 0=actT κ offers sm (κ (offers.getD k default).fr).toNat:=by
         rw[hgk]
         exact actK_at κ offers sm (by omega)
        rw[hact,←ha0]
        constructor
        ·rintro ⟨j,h2,h3⟩
         simp only[bb]at h3
         have h4:=hsa j h2
         have h5:sm.getD j 0=k:=by omega
         exact ⟨h5▸memD h2,h3.2⟩
        ·rintro ⟨h2,h3⟩
         obtain ⟨j,h4,h5⟩:=List.mem_iff_getElem.1 h2
         refine ⟨j,h4,?_⟩
         simp only[bb]
         have h6:=hsa j h4
         rw[List.getD_eq_getElem?_getD (l:=sm),List.getElem?_eq_getElem h4,Option.getD_some,h5]at h6
         exact ⟨h6,h3⟩
       rw[hLN]
       clear hLN
       have f2:k=i0→gI (offers.getD k default).no (reM n no offers m0)=0:=fun h=>by rw[h];exact reo_zero X.fi h1 h40 X.l100 he0 hno
       have f3:¬leanP m0 κ (offers.getD i0 default) (offers.getD k default)→gI (offers.getD k default).no (reM n no offers m0)=gI (offers.getD k default).no m0:=fun h=>reo_same X.fi h1 h40 X.l100 he0 hno hkap hm X.pos h
       refine gk_region env false [] [0,10,11,16,17,18,20,21,24,26,27,31,32,33,35,36,366] ?_ (hp:=(by simp only[AllP,bb,toN,loI,hiI];repeat' first|exact trivial|exact EntL.refl _|exact BEntL.refl _|exact rfl|omega|apply And.intro|intro _))
       refine gk_if (fun c6=> ?_) (fun c6=> ?_)
       ·exfalso
        simp only[bb]at c6
        rcases c6 with ((c6|c6)|⟨c6,c7⟩)|⟨c6,c7⟩
        ·omega
        ·omega
        ·exact c7 (f2 (by omega))
        ·exact c7 (f3 c6).symm
       clear c6 f2 f3
       refine gk_region env false [] [0,10,11,16,17,18,20,21,24,26,27,31,32,33,35,367] ?_ (hp:=(by simp only[AllP,bb,toN,loI,hiI];repeat' first|exact trivial|exact EntL.refl _|exact BEntL.refl _|exact rfl|omega|apply And.intro|intro _))
       have hsn:netR n H (offers.take (k+1))=netR n H (offers.take k++ [(offers.getD k default)]):=by rw[take_getD hk2]
       refine gk_ifd (fun c6=> ?_) (fun c6=> ?_)
       ·have hHe:H (offers.getD k default)=gI (offers.getD k default).no (reM n no offers m0):=by rw[hH,leanH,if_pos c6]
        have hst1:1099511627776*((offers.take k).length:Int)≤109951162777600:=by rw[List.length_take];omega
        have hHb:∀e,e∈offers.take k→0≤H e∧H e≤1099511627776:=fun e he=>by
         have hem:=List.mem_of_mem_take he
         have h2:=reo_le X.fi h1 h40 X.l100 he0 hno hem
         have h3:=X.fi.bnd _ hem
         have h4:=X.fi.in_ _ hem
         unfold okF at h4
         rw[hH,leanH]
         split<;>omega
        have hB1:=netE_bound (hh:=H) (B:=1099511627776) (offers.getD k default).fr (offers.take k) hHb
        have hB2:=netE_bound (hh:=H) (B:=1099511627776) (offers.getD k default).to_ (offers.take k) hHb
        have hg1:=netR_get (n:=n) (hh:=H) (l:=offers.take k) hok.1.1 hok.1.2
        have hg2:=netR_get (n:=n) (hh:=H) (l:=offers.take k) hok.2.1.1 hok.2.1.2
        rw[←hg1]at hB1
        rw[←hg2]at hB2
        have hfr:=hok.1
        have hto:=hok.2.1
        have hne:=hok.2.2.1
        have hsu:=hok.2.2.2
        have hg3:((netR n H (offers.take k)).set (offers.getD k default).fr.toNat ((netR n H (offers.take k)).getD (offers.getD k default).fr.toNat 0-gI (offers.getD k default).no (reM n no offers m0))).getD (offers.getD k default).to_.toNat 0=(netR n H (offers.take k)).getD (offers.getD k default).to_.toNat 0:=by
         rw[getD_setL (by omega),if_neg (by omega)]
        have hrs:=netR_s (n:=n) (hh:=H) (l:=offers.take k) hok.1 hok.2.1 hok.2.2.1 hHe
        clear hHb hg1 hg2 hok
        refine gk_region env false [.el (0:Int) inC ((netR n H (offers.take k)).set (offers.getD k default).fr.toNat ((netR n H (offers.take k)).getD (offers.getD k default).fr.toNat 0-gI (offers.getD k default).no (reM n no offers m0)))] [0,10,11,16,17,18,20,21,24,26,27,31,32,33,35] ?_ (hp:=(by simp only[AllP,bb,toN,loI,hiI,Nat.zero_add];repeat' first|exact Nat.le_refl _|exact (putD_all (cs:=inC) (by omega) rfl (by rfl)).symm|exact trivial|exact EntL.refl _|exact BEntL.refl _|exact rfl|omega|apply And.intro|intro _|(simp only[List.length_set];omega)|(simp;done)))
        refine gk_region env false [.el (0:Int) inC (((netR n H (offers.take k)).set (offers.getD k default).fr.toNat ((netR n H (offers.take k)).getD (offers.getD k default).fr.toNat 0-gI (offers.getD k default).no (reM n no offers m0))).set (offers.getD k default).to_.toNat (((netR n H (offers.take k)).set (offers.getD k default).fr.toNat ((netR n H (offers.take k)).getD (offers.getD k default).fr.toNat 0-gI (offers.getD k default).no (reM n no offers m0))).getD (offers.getD k default).to_.toNat 0+gI (offers.getD k default).no (reM n no offers m0)))] [0,10,11,16,17,18,20,21,24,26,27,31,32,33] ?_ (hp:=(by simp only[AllP,bb,toN,loI,hiI,Nat.zero_add];repeat' first|exact Nat.le_refl _|exact (putD_all (cs:=inC) (by simp only[List.length_set];omega) rfl (by rfl)).symm|exact trivial|exact EntL.refl _|exact BEntL.refl _|exact rfl|omega|(simp only[List.length_set];omega)|(rw[hg3];omega)|apply And.intro|intro _|(simp only[List.length_set];omega)|(simp;done)))
        rw[hrs,←hsn]
        refine gk_region env false [] [0,10,11,16,17,18,20,21,24,26,27,31,32,33] ?_ (hp:=(by simp only[AllP,bb,toN,loI,hiI];repeat' first|exact trivial|exact EntL.refl _|exact BEntL.refl _|exact rfl|omega|apply And.intro|intro _))
        exact gk_round (k+1) hk2 (hp:=by simp only[AllP,netR_len];repeat' first|exact trivial|exact rfl|omega|apply And.intro)
       ·have hHe:H (offers.getD k default)=0:=by rw[hH,leanH,if_neg c6]
        rw[netR_skip hHe]at hsn
        refine gk_region env false [] [0,10,11,16,17,18,20,21,24,26,27,31,32,33] ?_ (hp:=(by simp only[AllP,bb,toN,loI,hiI];repeat' first|exact trivial|exact EntL.refl _|exact BEntL.refl _|exact rfl|omega|apply And.intro|intro _))
        exact gk_round (k+1) hk2 (hp:=by rw[hsn];(try simp only[AllP,Nat.zero_add]);repeat' first|exact trivial|exact rfl|exact EntL.refl _|exact BEntL.refl _|omega|apply And.intro)
     ·obtain rfl:k=offers.length:=by omega
      clear c5 hk
      rw[List.take_length]
      rw[List.take_length]at hnl
      have hz:∀i:Nat,i<n→(netR n H offers).getD i 0=0:=fun i hi=>by
       have:=netR_get (n:=n) (hh:=H) (l:=offers) (v:=(i:Int)) (by omega) (by omega)
       rw[Int.toNat_natCast]at this
       rw[this,hH]
       exact reo_net X.fi h1 h40 X.l100 he0 hno hkap (by omega) (by omega)
      refine gk_region env false [] [0,10,11,16,17,18,20,21,24,26,27,31,32,38] ?_ (hp:=(by simp only[AllP,bb,toN,loI,hiI];repeat' first|exact trivial|exact EntL.refl _|exact BEntL.refl _|exact rfl|omega|apply And.intro|intro _))
      refine gk_loop (α:=Nat) (fun i=>i≤n) (fun i=>[(38,iG i)]) (fun _=>[]) (fun i=>n-i) 0 (Nat.zero_le _) ?_ (hp:=by (try simp only[AllP,Nat.zero_add]);repeat' first|exact trivial|exact rfl|exact EntL.refl _|exact BEntL.refl _|omega|apply And.intro|(simp;done)|(simp[*];done))
      rintro i hi
      refine gk_region env false [] [0,10,11,16,17,18,20,21,24,26,27,31,32,38,404] ?_ (hp:=(by simp only[AllP,bb,toN,loI,hiI];repeat' first|exact trivial|exact EntL.refl _|exact BEntL.refl _|exact rfl|omega|apply And.intro|intro _))
      refine gk_ifd (fun c5=> ?_) (fun c5=> ?_)
      ·have hi2:i<n:=by omega
       have hzi:(netR n H offers).getD (0+(i:Int).toNat) 0=0:=by rw[Nat.zero_add];exact hz i hi2
       refine gk_region env false [] [0,10,11,16,17,18,20,21,24,26,27,31,32,38,411] ?_ (hp:=(by simp only[AllP,bb,toN,loI,hiI,hnl];repeat' first|exact trivial|exact EntL.refl _|exact BEntL.refl _|exact rfl|omega|apply And.intro|intro _))
       refine gk_ifn (fun c6=> ?_) (fun c6=> ?_)
       ·exact absurd hzi c6
       refine gk_region env false [] [0,10,11,16,17,18,20,21,24,26,27,31,32,38] ?_ (hp:=(by simp only[AllP,bb,toN,loI,hiI];repeat' first|exact trivial|exact EntL.refl _|exact BEntL.refl _|exact rfl|omega|apply And.intro|intro _))
       exact gk_round (i+1) hi2 (hp:=by (try simp only[AllP,Nat.zero_add]);repeat' first|exact trivial|exact rfl|exact EntL.refl _|exact BEntL.refl _|omega|apply And.intro)
      ·have hok:=X.at_ hi0
       have hkk:=hkp hok.1.1 hok.1.2
       have hgk:=hgo (offers.getD i0 default).fr
       refine gk_region env false [.call (grpO_ok gr (offers.getD i0 default).fr (by omega) hge)] [10] ?_ (hp:=(by simp only[AllP,bb,toN,loI,hiI,hgk,hal];repeat' first|exact trivial|exact (show (1:Int)<((2:Nat):Int)by decide)|exact (show (0:Int)<((2:Nat):Int)by decide)|exact EntL.refl _|exact BEntL.refl _|exact rfl|omega|apply And.intro|intro _))
       refine gk_ret env ?_
       have hact:(actK κ offers sm gr.length gr.length).getD (grpO gr (offers.getD i0 default).fr).toNat 0=a0:=by
        rw[hgk,hge0,Int.toNat_natCast,ha0]
        exact actK_at κ offers sm hg0
       show bG (bif decide ((j0:Int)=(j0:Int))then decide (a0=(actK κ offers sm gr.length gr.length).getD (grpO gr (offers.getD i0 default).fr).toNat 0)else false)=bG true
       rw[hact,decide_eq_true rfl,decide_eq_true rfl];rfl
end Go.Gh
