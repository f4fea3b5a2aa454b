/- Walks by the logic of calls, and plain laws (several texts in one). -/
import Derived.Test.YtjnjegclenjlbaaGreatDoorGFaA
namespace Go.Gh
open Go Go.Proofs
set_option maxRecDepth 1000000
set_option maxHeartbeats 2000000
set_option linter.unusedSimpArgs false
set_option linter.unusedVariables false
set_option linter.unnecessarySimpa false
open Go.RowKit
theorem onw_ok (a:Cst) (s:Stp) (h1: -1000≤a.c∧a.c≤1000) (h2: -1000≤a.steps∧a.steps≤1000) (h3: -1≤s.cost∧s.cost≤1):GC Tryz.prog 103 [csG a,spG s] (csG (onwC a s)):=by
 refine gc_of_gk Tryz.func103 ?_
 refine gk_region env false [] [2,3,4] ?_
 refine gk_region env false [] [4] ?_
 refine gk_ret env ?_
 rfl
def lessA (a:Cst) (b:Cst):Bool:=(bif a.fine then (bif (bif (!b.fine)then true else decide (a.c<b.c))then true else (bif decide (a.c=b.c)then decide (a.steps<b.steps)else false))else false)
theorem lessA_ok (a:Cst) (b:Cst):GC Tryz.prog 63 [csG a,csG b] (bG (lessA a b)):=by
 refine gc_of_gk Tryz.func63 ?_
 refine gk_region env false [] [2,3,4] ?_
 refine gk_region env false [] [4] ?_
 refine gk_ret env ?_
 rw[lessA];rfl
theorem lessA_eq (a b:Cst):lessA a b=lessC a b:=by
 unfold lessA lessC
 cases a.fine<;>cases b.fine<;>simp
theorem less_ok (a b:Cst):GC Tryz.prog 63 [csG a,csG b] (bG (lessC a b)):=lessA_eq a b▸lessA_ok a b
def rightDL (n:Int) (dues:List Du) (k1:Nat):Bool:=if k1<dues.length then if (bif (bif (bif (bif (bif (bif decide (((dues.getD k1 default).fr)<0)then true else decide (n≤((dues.getD k1 default).fr)))then true else decide (((dues.getD k1 default).to_)<0))then true else decide (n≤((dues.getD k1 default).to_)))then true else decide (((dues.getD k1 default).fr)=((dues.getD k1 default).to_)))then true else decide (((dues.getD k1 default).sum)<1))then true else decide (1099511627776<((dues.getD k1 default).sum)))=true then false else rightDL n dues (k1+1)else true
termination_by dues.length-k1
def rightD (n:Int) (dues:List Du):Bool:=if (bif (bif decide (n<0)then true else decide (40<n))then true else decide (100<(dues.length:Int)))=true then false else rightDL n dues 0
theorem right_ok (n:Int) (dues:List Du) (hl:dues.length≤1000):GC Tryz.prog 34 [iG n,.d (.row default duC dues)] (bG (rightD n dues)):=by
 refine gc_of_gk Tryz.func34 ?_
 refine gk_region env false [] [0,1,4] ?_
 refine gk_region env false [] [0,1,4,17] ?_
 refine gk_if (fun c1=> ?_) (fun c1=> ?_)
 ·try simp only[bb,toN]at c1
  refine gk_region env false [] [0,1,4] ?_
  refine gk_ret env ?_
  rw[rightD,if_pos (by (try simp only[bb,toN]);exact c1)];rfl
 ·try simp only[bb,toN]at c1
  refine gk_region env false [] [0,4,18,19,20] ?_
  refine gk_loop (α:=Nat) (fun x=>x≤dues.length∧rightDL n dues 0=rightDL n dues x) (fun x=>[(20,iG x)]) (fun x=>[]) (fun x=>dues.length-x) 0 ⟨by (try simp only[]);omega,rfl⟩ ?_ (hp:=by simp[AllP]<;>rfl)
  rintro k1 ⟨hi1,he⟩
  refine gk_region env false [] [0,4,18,19,20,21] ?_
  refine gk_ifd (fun c2=> ?_) (fun c2=> ?_)
  ·try simp only[toN]at c2
   refine gk_region env false [] [0,4,6,18,19,20] ?_
   refine gk_region env false [] [0,4,18,19,20,60] ?_
   refine gk_if (fun c3=> ?_) (fun c3=> ?_)
   ·try simp only[bb,toN]at c3
    refine gk_region env false [] [0,4,18,19,20] ?_
    refine gk_ret env ?_
    rw[rightD,if_neg (by rw[Bool.not_eq_true];(try simp only[bb,toN]);exact c1),he,rightDL,if_pos (by omega),if_pos (by (try simp only[bb,toN]);exact c3)];rfl
   ·try simp only[bb,toN]at c3
    refine gk_region env false [] [0,4,18,19,20] ?_
    refine gk_round (k1+1) ?_ (hp:=by simp[AllP]<;>rfl)
    refine ⟨by (try simp only[]);omega,he.trans ?_⟩
    rw[rightDL,if_pos (by omega),if_neg (by rw[Bool.not_eq_true];(try simp only[bb,toN]);exact c3)]
    try rfl
  ·try simp only[toN]at c2
   refine gk_region env false [] [4] ?_
   refine gk_ret env ?_
   rw[rightD,if_neg (by rw[Bool.not_eq_true];(try simp only[bb,toN]);exact c1),he,rightDL,if_neg (by omega)];rfl
def stepsL (dues:List Du) (sums:List Int) (k:Nat):List Stp:=(List.range k).flatMap fun i=>stepsD i (dues.getD i default) (sums.getD i 0)
theorem stepsL_s (dues:List Du) (sums:List Int) (k:Nat):stepsL dues sums (k+1)=stepsL dues sums k++stepsD k (dues.getD k default) (sums.getD k 0):=by
 unfold stepsL;rw[List.range_succ,List.flatMap_append];simp
theorem stepsL_len (dues:List Du) (sums:List Int):∀k,(stepsL dues sums k).length≤2*k:=by
 intro k
 induction k with
 |zero=>simp[stepsL]
 |succ k ih=>
  rw[stepsL_s,List.length_append]
  have:(stepsD k (dues.getD k default) (sums.getD k 0)).length≤2:=by unfold stepsD;split<;>split<;>simp
  omega
theorem steps_ok (dues:List Du) (sums:List Int) (hl:sums.length=dues.length) (h100:dues.length≤100) (hb:∀i,i<dues.length→0≤sums.getD i 0∧sums.getD i 0≤1099511627776∧0≤(dues.getD i default).sum∧(dues.getD i default).sum≤1099511627776):GM Tryz.prog 61 [.d (.row default duC dues),.sl 0 1 0 sums.length] [.row 3 1 (0:Int) inC sums 0] (.d (.row default spC (stepsV dues sums))) [some (.row 3 1 (0:Int) inC sums 0)]:=by
 refine gm_of_gk Tryz.func61 ?_
 refine gk_region env false [] [0,1,4] ?_
 refine gk_region env false [] [0,1,4,5] ?_
 refine gk_region env false [] [1,4,5,8,9,10] ?_
 refine gk_nil 5 140 6 (default:Stp) spC (by rfl) (by rfl) ?_
 refine gk_loop (α:=Nat) (fun k=>k≤dues.length) (fun k=>[(5,.sl 1 6 0 (stepsL dues sums k).length),(10,iG k)]) (fun k=>[(1,some (.row 140 6 (default:Stp) spC (stepsL dues sums k) 0))]) (fun k=>dues.length-k) 0 (Nat.zero_le _) ?_ (hp:=by (try simp only[AllP,Nat.zero_add]);repeat' first|exact trivial|exact rfl|exact EntL.refl _|exact BEntL.refl _|omega|apply And.intro|(simp;done)|(simp[*];done))
 rintro k hk
 have hsl:=stepsL_len dues sums k
 refine gk_region env false [] [1,4,5,8,9,10,11] ?_
 refine gk_ifd (fun c1=> ?_) (fun c1=> ?_)
 ·try simp only[toN]at c1
  have hk2:k<dues.length:=by omega
  have hbk:=hb k hk2
  refine gk_region env false [] [1,4,5,6,7,8,9,10] ?_ (hp:=(by simp only[AllP,bb,toN,loI,hiI];repeat' first|exact trivial|exact EntL.refl _|exact BEntL.refl _|exact rfl|omega|apply And.intro|intro _))
  refine gk_region env false [] [1,4,5,6,7,8,9,10,21] ?_ (hp:=(by simp only[AllP,bb,toN,loI,hiI];repeat' first|exact trivial|exact EntL.refl _|exact BEntL.refl _|exact rfl|omega|apply And.intro|intro _))
  refine gk_ifd (fun c2=> ?_) (fun c2=> ?_)
  ·try simp only[toN]at c2
   refine gk_region env false [.el default spC [⟨(k:Int),(dues.getD k default).fr,(dues.getD k default).to_,-1,(dues.getD k default).sum-(sums.getD k 0),false⟩],.el default spC ((stepsL dues sums k)++ [⟨(k:Int),(dues.getD k default).fr,(dues.getD k default).to_,-1,(dues.getD k default).sum-(sums.getD k 0),false⟩])] [1,4,5,6,7,8,9,10] ?_ (hp:=(by simp only[AllP,bb,toN,loI,hiI,Int.toNat_natCast];repeat' first|exact trivial|exact EntL.refl _|exact BEntL.refl _|exact rfl|omega|apply And.intro|intro _|(simp[rowL];done)|(simp only[List.length_append,List.length_cons,List.length_nil];omega)|(simp[*];done)))
   refine gk_region env false [] [1,4,5,6,7,8,9,10,42] ?_ (hp:=(by simp only[AllP,bb,toN,loI,hiI];repeat' first|exact trivial|exact EntL.refl _|exact BEntL.refl _|exact rfl|omega|apply And.intro|intro _))
   refine gk_ifd (fun c3=> ?_) (fun c3=> ?_)
   ·try simp only[toN]at c3
    refine gk_region env false [.el default spC [⟨(k:Int),(dues.getD k default).to_,(dues.getD k default).fr,1,(sums.getD k 0),true⟩],.el default spC ((stepsL dues sums k)++ [⟨(k:Int),(dues.getD k default).fr,(dues.getD k default).to_,-1,(dues.getD k default).sum-(sums.getD k 0),false⟩]++ [⟨(k:Int),(dues.getD k default).to_,(dues.getD k default).fr,1,(sums.getD k 0),true⟩])] [1,4,5,8,9,10] ?_ (hp:=(by simp only[AllP,bb,toN,loI,hiI,Int.toNat_natCast];repeat' first|exact trivial|exact EntL.refl _|exact BEntL.refl _|exact rfl|omega|apply And.intro|intro _|(simp[rowL];done)|(simp only[List.length_append,List.length_cons,List.length_nil];omega)|(simp[*];done)))
    refine gk_region env false [] [1,4,5,8,9,10] ?_ (hp:=(by simp only[AllP,bb,toN,loI,hiI];repeat' first|exact trivial|exact EntL.refl _|exact BEntL.refl _|exact rfl|omega|apply And.intro|intro _))
    refine gk_round (k+1) ?_ (hp:= ?_)
    exact hk2
    rw[show stepsL dues sums (k+1)=(stepsL dues sums k)++ [⟨(k:Int),(dues.getD k default).fr,(dues.getD k default).to_,-1,(dues.getD k default).sum-(sums.getD k 0),false⟩]++ [⟨(k:Int),(dues.getD k default).to_,(dues.getD k default).fr,1,(sums.getD k 0),true⟩]by rw[stepsL_s,stepsD,if_pos c2,if_pos c3];simp]
    (try simp only[AllP,Nat.zero_add]);repeat' first|exact trivial|exact rfl|exact EntL.refl _|exact BEntL.refl _|omega|apply And.intro|(simp;done)|(simp[*];done)
   ·try simp only[toN]at c3
    refine gk_region env false [] [1,4,5,8,9,10] ?_ (hp:=(by simp only[AllP,bb,toN,loI,hiI];repeat' first|exact trivial|exact EntL.refl _|exact BEntL.refl _|exact rfl|omega|apply And.intro|intro _))
    refine gk_round (k+1) ?_ (hp:= ?_)
    exact hk2
    rw[show stepsL dues sums (k+1)=(stepsL dues sums k)++ [⟨(k:Int),(dues.getD k default).fr,(dues.getD k default).to_,-1,(dues.getD k default).sum-(sums.getD k 0),false⟩]by rw[stepsL_s,stepsD,if_pos c2,if_neg c3];simp]
    (try simp only[AllP,Nat.zero_add]);repeat' first|exact trivial|exact rfl|exact EntL.refl _|exact BEntL.refl _|omega|apply And.intro|(simp;done)|(simp[*];done)
  ·try simp only[toN]at c2
   refine gk_region env false [] [1,4,5,6,7,8,9,10,42] ?_ (hp:=(by simp only[AllP,bb,toN,loI,hiI];repeat' first|exact trivial|exact EntL.refl _|exact BEntL.refl _|exact rfl|omega|apply And.intro|intro _))
   refine gk_ifd (fun c4=> ?_) (fun c4=> ?_)
   ·try simp only[toN]at c4
    refine gk_region env false [.el default spC [⟨(k:Int),(dues.getD k default).to_,(dues.getD k default).fr,1,(sums.getD k 0),true⟩],.el default spC ((stepsL dues sums k)++ [⟨(k:Int),(dues.getD k default).to_,(dues.getD k default).fr,1,(sums.getD k 0),true⟩])] [1,4,5,8,9,10] ?_ (hp:=(by simp only[AllP,bb,toN,loI,hiI,Int.toNat_natCast];repeat' first|exact trivial|exact EntL.refl _|exact BEntL.refl _|exact rfl|omega|apply And.intro|intro _|(simp[rowL];done)|(simp only[List.length_append,List.length_cons,List.length_nil];omega)|(simp[*];done)))
    refine gk_region env false [] [1,4,5,8,9,10] ?_ (hp:=(by simp only[AllP,bb,toN,loI,hiI];repeat' first|exact trivial|exact EntL.refl _|exact BEntL.refl _|exact rfl|omega|apply And.intro|intro _))
    refine gk_round (k+1) ?_ (hp:= ?_)
    exact hk2
    rw[show stepsL dues sums (k+1)=(stepsL dues sums k)++ [⟨(k:Int),(dues.getD k default).to_,(dues.getD k default).fr,1,(sums.getD k 0),true⟩]by rw[stepsL_s,stepsD,if_neg c2,if_pos c4];simp]
    (try simp only[AllP,Nat.zero_add]);repeat' first|exact trivial|exact rfl|exact EntL.refl _|exact BEntL.refl _|omega|apply And.intro|(simp;done)|(simp[*];done)
   ·try simp only[toN]at c4
    refine gk_region env false [] [1,4,5,8,9,10] ?_ (hp:=(by simp only[AllP,bb,toN,loI,hiI];repeat' first|exact trivial|exact EntL.refl _|exact BEntL.refl _|exact rfl|omega|apply And.intro|intro _))
    refine gk_round (k+1) ?_ (hp:= ?_)
    exact hk2
    rw[show stepsL dues sums (k+1)=(stepsL dues sums k)by rw[stepsL_s,stepsD,if_neg c2,if_neg c4];simp]
    (try simp only[AllP,Nat.zero_add]);repeat' first|exact trivial|exact rfl|exact EntL.refl _|exact BEntL.refl _|omega|apply And.intro|(simp;done)|(simp[*];done)
 ·try simp only[toN]at c1
  obtain rfl:k=dues.length:=by omega
  refine gk_row 1 ?_
  refine gk_region env false [] [4] ?_
  refine gk_retM env [.d (.row default spC (stepsV dues sums))] (hp:= ?_)
  simp only[AllP]
  repeat' first|exact trivial|exact rfl|apply And.intro
end Go.Gh
