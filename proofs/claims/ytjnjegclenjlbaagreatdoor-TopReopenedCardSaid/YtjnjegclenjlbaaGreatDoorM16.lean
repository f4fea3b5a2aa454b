/- Walks by the logic of calls, and plain laws (several texts in one). -/
import Derived.Test.YtjnjegclenjlbaaGreatDoorM12
namespace Go.Gh
open Go Go.Proofs
set_option maxRecDepth 1000000
set_option maxHeartbeats 2000000
set_option linter.unusedSimpArgs false
set_option linter.unusedVariables false
set_option linter.unnecessarySimpa false
open Go.RowKit
structure Lea where
 sup:List (List Int)
instance :Inhabited Lea:=⟨⟨[]⟩⟩
def leC (x:Lea):List D:=[.row default row_inC x.sup]
abbrev leG (x:Lea):G:= .agg [.d (.row default row_inC x.sup)]
def insK (l:List Int) (k:Int):List Int:=if k∈l then l else l++ [k]
def encT (k:Int):Value×Value:=(.int .i64 k,.bool true)
theorem mput_T (k:Int):∀l:List Int,mput (.int .i64 k) (.bool true) (l.map encT)=some ((insK l k).map encT):=by
 intro l
 induction l with
 |nil=>rfl
 |cons a l ih=>
  show (match some (decide (k=a))with|some true=>_|some false=>_|none=>_)=_
  by_cases e:k=a
  ·subst e
   rw[decide_eq_true rfl]
   simp[insK,encT]
  ·rw[decide_eq_false e]
   show (match mput (.int .i64 k) (.bool true) (l.map encT)with|some l'=>some (encT a::l')|none=>none)=_
   rw[ih]
   simp only[insK,List.mem_cons,e,false_or]
   split<;>rfl
theorem mget_T (k:Int):∀l:List Int,mget (.int .i64 k) (l.map encT)=some (if k∈l then some (.bool true)else none):=by
 intro l
 induction l with
 |nil=>rfl
 |cons a l ih=>
  show (match some (decide (k=a))with|some true=>_|some false=>_|none=>_)=_
  by_cases e:k=a
  ·subst e
   rw[decide_eq_true rfl]
   simp[encT]
  ·rw[decide_eq_false e]
   show mget (.int .i64 k) (l.map encT)=_
   rw[ih]
   simp[e]
theorem look_T (k:Int) (l:List Int):lookP (.int .i64 k) (l.map encT) (.bool false) (.bool (decide (k∈l))) (decide (k∈l)):=by
 by_cases h:k∈l
 ·exact .inl ⟨decide_eq_true h,by rw[mget_T,if_pos h,decide_eq_true h]⟩
 ·exact .inr ⟨decide_eq_false h,by rw[decide_eq_false h],by rw[mget_T,if_neg h]⟩
def riseVL (l:List Int) (n:Int) (k1:Nat):Bool:=if k1<l.length then if (bif (bif decide ((l.getD k1 default)<0)then true else decide (n≤(l.getD k1 default)))then true else (bif decide (0<(k1:Int))then decide ((l.getD k1 default)≤(l.getD (((k1:Int)-1).toNat) default))else false))=true then false else riseVL l n (k1+1)else true
termination_by l.length-k1
def riseV (l:List Int) (n:Int):Bool:=riseVL l n 0
theorem rise_ok (l:List Int) (n:Int) (hl:l.length≤1000000):GC Tryz.prog 98 [.d (.row default inC l),iG n] (bG (riseV l n)):=by
 refine gc_of_gk Tryz.func98 ?_
 refine gk_region env false [] [0,1,4] ?_
 refine gk_region env false [] [0,1,4,7,8,9] ?_
 refine gk_loop (α:=Nat) (fun x=>x≤l.length∧riseVL l n 0=riseVL l n x) (fun x=>[(9,iG x)]) (fun x=>[]) (fun x=>l.length-x) 0 ⟨by (try simp only[]);omega,rfl⟩ ?_ (hp:=by simp[AllP]<;>rfl)
 rintro k1 ⟨hi1,he⟩
 refine gk_region env false [] [0,1,4,7,8,9,10] ?_
 refine gk_ifd (fun c1=> ?_) (fun c1=> ?_)
 ·try simp only[toN]at c1
  refine gk_region env false [] [0,1,4,5,6,7,8,9] ?_
  refine gk_region env false [] [0,1,4,7,8,9,33] ?_
  refine gk_if (fun c2=> ?_) (fun c2=> ?_)
  ·try simp only[bb,toN]at c2
   refine gk_region env false [] [0,1,4,7,8,9] ?_
   refine gk_ret env ?_
   rw[riseV,he,riseVL,if_pos (by omega),if_pos (by (try simp only[bb,toN]);exact c2)];rfl
  ·try simp only[bb,toN]at c2
   refine gk_region env false [] [0,1,4,7,8,9] ?_
   refine gk_round (k1+1) ?_ (hp:=by simp[AllP]<;>rfl)
   refine ⟨by (try simp only[]);omega,he.trans ?_⟩
   rw[riseVL,if_pos (by omega),if_neg (by rw[Bool.not_eq_true];(try simp only[bb,toN]);exact c2)]
   try rfl
 ·try simp only[toN]at c1
  refine gk_region env false [] [4] ?_
  refine gk_ret env ?_
  rw[riseV,he,riseVL,if_neg (by omega)];rfl
structure HL (l:List Lea):Prop where
 len:l.length≤300
 sup:∀x,x∈l→x.sup.length≤1000∧∀s,s∈x.sup→s.length≤1000
theorem HL.sup_ {l:List Lea} (h:HL l) (k:Nat):(l.getD k default).sup.length≤1000:=by
 rw[List.getD_eq_getElem?_getD]
 cases e:l[k]? with
 |none=>exact Nat.zero_le _
 |some x=>exact (h.sup x (List.mem_of_getElem? e)).1
theorem HL.at_ {l:List Lea} (h:HL l) (k j:Nat):((l.getD k default).sup.getD j default).length≤1000:=by
 rw[List.getD_eq_getElem?_getD,List.getD_eq_getElem?_getD]
 cases e:l[k]? with
 |none=>exact Nat.zero_le _
 |some x=>
  show ((x.sup)[j]?.getD default).length≤1000
  cases e2:x.sup[j]? with
  |none=>exact Nat.zero_le _
  |some s=>exact (h.sup x (List.mem_of_getElem? e)).2 s (List.mem_of_getElem? e2)
def rightUL2 (l:List Lea) (k1:Nat) (k2:Nat):Sum Bool Unit:=if k2<((l.getD k1 default).sup).length then if (bif (bif decide (((((l.getD k1 default).sup).getD k2 default).length:Int)<1)then true else decide (20<((((l.getD k1 default).sup).getD k2 default).length:Int)))then true else (!(riseV (((l.getD k1 default).sup).getD k2 default) (k1:Int))))=true then .inl false else rightUL2 l k1 (k2+1)else .inr ()
termination_by ((l.getD k1 default).sup).length-k2
decreasing_by all_goals first|omega|(simp only[bb]at*;omega)
def rightUL (l:List Lea) (k1:Nat):Bool:=if k1<l.length then if 20<(((l.getD k1 default).sup).length:Int)then false else (match rightUL2 l k1 0 with| .inl r=>r| .inr ⟨⟩=>rightUL l (k1+1))else true
termination_by l.length-k1
def rightU (l:List Lea):Bool:=if 300<(l.length:Int)then false else rightUL l 0
theorem rightU_ok (l:List Lea) (hl:HL l):GC Tryz.prog 54 [.d (.row default leC l)] (bG (rightU l)):=by
 refine gc_of_gk Tryz.func54 ?_
 refine gk_region env false [] [0,2] ?_
 refine gk_region env false [] [0,2,9] ?_
 refine gk_ifd (fun c1=> ?_) (fun c1=> ?_)
 ·try simp only[toN]at c1
  refine gk_region env false [] [0,2] ?_
  refine gk_ret env ?_
  rw[rightU,if_pos c1];rfl
 ·try simp only[toN]at c1
  refine gk_region env false [] [2,10,11,12] ?_
  refine gk_loop (α:=Nat) (fun x=>x≤l.length∧rightUL l 0=rightUL l x) (fun x=>[(12,iG x)]) (fun x=>[]) (fun x=>l.length-x) 0 ⟨by (try simp only[]);omega,rfl⟩ ?_ (hp:=by simp[AllP]<;>rfl)
  rintro k1 ⟨hi1,he⟩
  refine gk_region env false [] [2,10,11,12,13] ?_
  refine gk_ifd (fun c2=> ?_) (fun c2=> ?_)
  ·try simp only[toN]at c2
   refine gk_region env false [] [2,3,4,10,11,12] ?_
   refine gk_region env false [] [2,3,4,10,11,12,20] ?_
   refine gk_ifd (fun c3=> ?_) (fun c3=> ?_)
   ·try simp only[toN]at c3
    refine gk_region env false [] [2,3,4,10,11,12] ?_
    refine gk_ret env ?_
    rw[rightU,if_neg c1,he,rightUL,if_pos (by omega),if_pos c3];rfl
   ·try simp only[toN]at c3
    refine gk_region env false [] [2,3,10,11,12,22,23,24] ?_
    refine gk_loop (α:=Nat) (fun x=>x≤((l.getD k1 default).sup).length∧rightUL2 l k1 0=rightUL2 l k1 x) (fun x=>[(24,iG x)]) (fun x=>[]) (fun x=>((l.getD k1 default).sup).length-x) 0 ⟨by (try simp only[]);omega,rfl⟩ ?_ (hp:=by simp[AllP]<;>rfl)
    rintro k2 ⟨hi2,he2⟩
    refine gk_region env false [] [2,3,10,11,12,22,23,24,25] ?_
    refine gk_ifd (fun c4=> ?_) (fun c4=> ?_)
    ·try simp only[toN]at c4
     refine gk_region env false [] [2,3,6,10,11,12,22,23,24] ?_
     refine gk_region env false [.call (rise_ok (((l.getD k1 default).sup).getD k2 default) (k1:Int) (Nat.le_trans (hl.at_ _ _) (by decide)))] [2,3,10,11,12,22,23,24,41] ?_
     refine gk_if (fun c5=> ?_) (fun c5=> ?_)
     ·try simp only[bb,toN]at c5
      refine gk_region env false [] [2,3,10,11,12,22,23,24] ?_
      refine gk_ret env ?_
      rw[rightU,if_neg c1,he,rightUL,if_pos (by omega),if_neg c3,he2,rightUL2,if_pos (by omega),if_pos (by (try simp only[bb,toN]);exact c5)];rfl
     ·try simp only[bb,toN]at c5
      refine gk_region env false [] [2,3,10,11,12,22,23,24] ?_
      refine gk_round (k2+1) ?_ (hp:=by simp[AllP]<;>rfl)
      refine ⟨by (try simp only[]);omega,he2.trans ?_⟩
      rw[rightUL2,if_pos (by omega),if_neg (by rw[Bool.not_eq_true];(try simp only[bb,toN]);exact c5)]
      try rfl
    ·try simp only[toN]at c4
     refine gk_region env false [] [2,10,11,12] ?_
     refine gk_round (k1+1) ?_ (hp:=by simp[AllP]<;>rfl)
     refine ⟨by (try simp only[]);omega,he.trans ?_⟩
     rw[rightUL,if_pos (by omega),if_neg c3,he2,rightUL2,if_neg (by omega)]
     try rfl
  ·try simp only[toN]at c2
   refine gk_region env false [] [2] ?_
   refine gk_ret env ?_
   rw[rightU,if_neg c1,he,rightUL,if_neg (by omega)];rfl
def inB (S:List Int) (k:Int):Bool:=decide (k∈S)
def wholeB (S:List Int) (s:List Int):Bool:= !(s.any fun k=> !inB S k)
def heldB (S:List Int) (x:Lea):Bool:=bif decide ((x.sup.length:Int)=0)then true else x.sup.any (wholeB S)
theorem whole1_ok (S:List Int) (k:Int):GM Tryz.prog 183 [iG k,.ptr 0 0 0 0] [.box [.mp 1],.mp (S.map encT)] (bG (!inB S k)) [some (.box [.mp 1]),some (.mp (S.map encT))]:=by
 refine gm_of_gk Tryz.func183 ?_
 refine gk_region env false [] [0,1,3] ?_
 refine gk_region env false [.bx (.mp 1),.look (.bool (decide (k∈S))) (decide (k∈S))] [3] ?_ (hp:=(by simp only[AllP,bb,toN];repeat' first|exact trivial|exact look_T _ _|exact mput_T _ _|exact EntL.refl _|exact BEntL.refl _|exact rfl|omega|apply And.intro|intro _))
 refine gk_retX env [bG (!inB S k)] (hp:= ?_)
 (try simp only[AllP,Nat.zero_add]);repeat' first|exact trivial|exact rfl|exact EntL.refl _|exact BEntL.refl _|omega|apply And.intro|(simp;done)|(simp[*];done)
theorem idx_whole1_ok (S:List Int) (l:List Int) (hl:l.length≤1000000):GM Tryz.prog 99 [.d (.row (default:Int) inC l),.fn (.func 183) [] [.ptr 0 0 0 0]] [.box [.mp 1],.mp (S.map encT)] (iG (findI (fun k=> !inB S k) l 0)) [some (.box [.mp 1]),some (.mp (S.map encT))]:=by
 refine gm_of_gk Tryz.func99 ?_
 refine gk_region env false [] [0,1,4] ?_
 refine gk_region env false [] [0,1,4,7,8] ?_
 refine gk_loop (α:=Nat) (fun i=>i≤l.length∧findI (fun k=> !inB S k) l 0=findI (fun k=> !inB S k) (l.drop i) i) (fun i=>[(8,iG i)]) (fun i=>[]) (fun i=>l.length-i) 0 ⟨Nat.zero_le _,rfl⟩ ?_ (hp:=by (try simp only[AllP,Nat.zero_add]);repeat' first|exact trivial|exact rfl|exact EntL.refl _|exact BEntL.refl _|omega|apply And.intro|(simp;done)|(simp[*];done))
 rintro i ⟨hi,he⟩
 refine gk_region env false [] [0,1,4,7,8,9] ?_
 refine gk_ifd (fun c1=> ?_) (fun c1=> ?_)
 ·try simp only[toN]at c1
  refine gk_region env false [] [0,1,4,5,7,8] ?_
  refine gk_region env false [.callm [0,1] (whole1_ok S (l.getD i default))] [0,1,4,5,7,8,16] ?_ (hp:=(by simp only[AllP,bb,toN,loI,hiI];repeat' first|exact trivial|exact EntL.refl _|exact BEntL.refl _|exact rfl|omega|apply And.intro|intro _))
  refine gk_if (fun c2=> ?_) (fun c2=> ?_)
  ·try simp only[bb,toN]at c2
   refine gk_region env false [] [0,1,4,7,8] ?_
   refine gk_retX env [iG (findI (fun k=> !inB S k) l 0)] (hp:= ?_)
   rw[he,dropC (by omega),findI,if_pos (by (try simp only[bb,toN]);exact c2)]
   (try simp only[AllP,Nat.zero_add]);repeat' first|exact trivial|exact rfl|exact EntL.refl _|exact BEntL.refl _|omega|apply And.intro|(simp;done)|(simp[*];done)
  ·try simp only[bb,toN]at c2
   refine gk_region env false [] [0,1,4,7,8] ?_
   refine gk_round (i+1) ?_ (hp:=by (try simp only[AllP,Nat.zero_add]);repeat' first|exact trivial|exact rfl|exact EntL.refl _|exact BEntL.refl _|omega|apply And.intro|(simp;done)|(simp[*];done))
   refine ⟨by omega,he.trans ?_⟩
   rw[dropC (by omega),findI,if_neg (by rw[Bool.not_eq_true];(try simp only[bb,toN]);exact c2)]
 ·try simp only[toN]at c1
  refine gk_region env false [] [4] ?_
  refine gk_retX env [iG (findI (fun k=> !inB S k) l 0)] (hp:= ?_)
  rw[he,dropN (by omega)]
  (try simp only[AllP,Nat.zero_add]);repeat' first|exact trivial|exact rfl|exact EntL.refl _|exact BEntL.refl _|omega|apply And.intro|(simp;done)|(simp[*];done)
theorem has_whole1_ok (S:List Int) (l:List Int) (hl:l.length≤1000000):GM Tryz.prog 55 [.d (.row (default:Int) inC l),.fn (.func 183) [] [.ptr 0 0 0 0]] [.box [.mp 1],.mp (S.map encT)] (bG (l.any (fun k=> !inB S k))) [some (.box [.mp 1]),some (.mp (S.map encT))]:=by
 refine gm_of_gk Tryz.func55 ?_
 refine gk_region env false [] [0,1,4] ?_
 refine gk_region env false [.callm [0,1] (idx_whole1_ok S l hl)] [4] ?_ (hp:=(by simp only[AllP,bb,toN,loI,hiI];repeat' first|exact trivial|exact EntL.refl _|exact BEntL.refl _|exact rfl|omega|apply And.intro|intro _))
 refine gk_retX env [bG (l.any (fun k=> !inB S k))] (hp:= ?_)
 rw[←findI_any]
 (try simp only[AllP,Nat.zero_add]);repeat' first|exact trivial|exact rfl|exact EntL.refl _|exact BEntL.refl _|omega|apply And.intro|(simp;done)|(simp[*];done)
theorem whole_ok (S s:List Int) (hl:s.length≤1000000):GM Tryz.prog 149 [.d (.row (default:Int) inC s),.mp 0] [.mp (S.map encT)] (bG (wholeB S s)) [some (.mp (S.map encT))]:=by
 refine gm_of_gk Tryz.func149 ?_
 refine gk_region env false [] [0,3,4] ?_
 refine gk_region env false [.callm [1,0] (has_whole1_ok S s hl)] [4] ?_ (hp:=(by simp only[AllP,bb,toN,loI,hiI];repeat' first|exact trivial|exact EntL.refl _|exact BEntL.refl _|exact rfl|omega|apply And.intro|intro _))
 refine gk_retX env [bG (wholeB S s)] (hp:= ?_)
 (try simp only[AllP,Nat.zero_add]);repeat' first|exact trivial|exact rfl|exact EntL.refl _|exact BEntL.refl _|omega|apply And.intro|(simp;done)|(simp[*];done)
theorem len_at {L:List (List Int)} {m:Nat} (h:∀s,s∈L→s.length≤m) (k:Nat):(L.getD k default).length≤m:=by
 rw[List.getD_eq_getElem?_getD]
 cases e:L[k]? with
 |none=>exact Nat.zero_le _
 |some x=>exact h x (List.mem_of_getElem? e)
theorem held1_ok (S s:List Int) (hl:s.length≤1000000):GM Tryz.prog 148 [.d (.row (default:Int) inC s),.ptr 0 0 0 0] [.box [.mp 1],.mp (S.map encT)] (bG (wholeB S s)) [some (.box [.mp 1]),some (.mp (S.map encT))]:=by
 refine gm_of_gk Tryz.func148 ?_
 refine gk_region env false [] [0,1,3] ?_
 refine gk_region env false [.bx (.mp 1),.callm [1] (whole_ok S s hl)] [3] ?_ (hp:=(by simp only[AllP,bb,toN];repeat' first|exact trivial|exact look_T _ _|exact mput_T _ _|exact EntL.refl _|exact BEntL.refl _|exact rfl|omega|apply And.intro|intro _))
 refine gk_retX env [bG (wholeB S s)] (hp:= ?_)
 (try simp only[AllP,Nat.zero_add]);repeat' first|exact trivial|exact rfl|exact EntL.refl _|exact BEntL.refl _|omega|apply And.intro|(simp;done)|(simp[*];done)
theorem idx_held1_ok (S:List Int) (l:List (List Int)) (hl:l.length≤1000000) (hs:∀s,s∈l→s.length≤1000000):GM Tryz.prog 182 [.d (.row default row_inC l),.fn (.func 148) [] [.ptr 0 0 0 0]] [.box [.mp 1],.mp (S.map encT)] (iG (findI (wholeB S) l 0)) [some (.box [.mp 1]),some (.mp (S.map encT))]:=by
 refine gm_of_gk Tryz.func182 ?_
 refine gk_region env false [] [0,1,4] ?_
 refine gk_region env false [] [0,1,4,7,8] ?_
 refine gk_loop (α:=Nat) (fun i=>i≤l.length∧findI (wholeB S) l 0=findI (wholeB S) (l.drop i) i) (fun i=>[(8,iG i)]) (fun i=>[]) (fun i=>l.length-i) 0 ⟨Nat.zero_le _,rfl⟩ ?_ (hp:=by (try simp only[AllP,Nat.zero_add]);repeat' first|exact trivial|exact rfl|exact EntL.refl _|exact BEntL.refl _|omega|apply And.intro|(simp;done)|(simp[*];done))
 rintro i ⟨hi,he⟩
 refine gk_region env false [] [0,1,4,7,8,9] ?_
 refine gk_ifd (fun c1=> ?_) (fun c1=> ?_)
 ·try simp only[toN]at c1
  refine gk_region env false [] [0,1,4,5,7,8] ?_
  refine gk_region env false [.callm [0,1] (held1_ok S (l.getD i default) (len_at hs i))] [0,1,4,5,7,8,16] ?_ (hp:=(by simp only[AllP,bb,toN,loI,hiI];repeat' first|exact trivial|exact EntL.refl _|exact BEntL.refl _|exact rfl|omega|apply And.intro|intro _))
  refine gk_if (fun c2=> ?_) (fun c2=> ?_)
  ·try simp only[bb,toN]at c2
   refine gk_region env false [] [0,1,4,7,8] ?_
   refine gk_retX env [iG (findI (wholeB S) l 0)] (hp:= ?_)
   rw[he,dropC (by omega),findI,if_pos (by (try simp only[bb,toN]);exact c2)]
   (try simp only[AllP,Nat.zero_add]);repeat' first|exact trivial|exact rfl|exact EntL.refl _|exact BEntL.refl _|omega|apply And.intro|(simp;done)|(simp[*];done)
  ·try simp only[bb,toN]at c2
   refine gk_region env false [] [0,1,4,7,8] ?_
   refine gk_round (i+1) ?_ (hp:=by (try simp only[AllP,Nat.zero_add]);repeat' first|exact trivial|exact rfl|exact EntL.refl _|exact BEntL.refl _|omega|apply And.intro|(simp;done)|(simp[*];done))
   refine ⟨by omega,he.trans ?_⟩
   rw[dropC (by omega),findI,if_neg (by rw[Bool.not_eq_true];(try simp only[bb,toN]);exact c2)]
 ·try simp only[toN]at c1
  refine gk_region env false [] [4] ?_
  refine gk_retX env [iG (findI (wholeB S) l 0)] (hp:= ?_)
  rw[he,dropN (by omega)]
  (try simp only[AllP,Nat.zero_add]);repeat' first|exact trivial|exact rfl|exact EntL.refl _|exact BEntL.refl _|omega|apply And.intro|(simp;done)|(simp[*];done)
theorem has_held1_ok (S:List Int) (l:List (List Int)) (hl:l.length≤1000000) (hs:∀s,s∈l→s.length≤1000000):GM Tryz.prog 147 [.d (.row default row_inC l),.fn (.func 148) [] [.ptr 0 0 0 0]] [.box [.mp 1],.mp (S.map encT)] (bG (l.any (wholeB S))) [some (.box [.mp 1]),some (.mp (S.map encT))]:=by
 refine gm_of_gk Tryz.func147 ?_
 refine gk_region env false [] [0,1,4] ?_
 refine gk_region env false [.callm [0,1] (idx_held1_ok S l hl hs)] [4] ?_ (hp:=(by simp only[AllP,bb,toN,loI,hiI];repeat' first|exact trivial|exact EntL.refl _|exact BEntL.refl _|exact rfl|omega|apply And.intro|intro _))
 refine gk_retX env [bG (l.any (wholeB S))] (hp:= ?_)
 rw[←findI_any]
 (try simp only[AllP,Nat.zero_add]);repeat' first|exact trivial|exact rfl|exact EntL.refl _|exact BEntL.refl _|omega|apply And.intro|(simp;done)|(simp[*];done)
theorem held_ok (S:List Int) (x:Lea) (h1:x.sup.length≤1000000) (h2:∀s,s∈x.sup→s.length≤1000000):GM Tryz.prog 100 [leG x,.mp 0] [.mp (S.map encT)] (bG (heldB S x)) [some (.mp (S.map encT))]:=by
 refine gm_of_gk Tryz.func100 ?_
 refine gk_region env false [] [2,3,4] ?_
 refine gk_ops ?_
 refine gwo_chunk env false 5 [.bx (.d (.row default row_inC x.sup))] ?_
 cases hc:decide ((x.sup.length:Int)=0)with
 |true=>
  refine gwo_chunk env false 6 [.no,.nu] ?_
  refine gwo_end [4] ?_
  refine gk_retX env [bG (heldB S x)] (hp:= ?_)
  rw[heldB,hc]
  (try simp only[AllP,Nat.zero_add]);repeat' first|exact trivial|exact rfl|exact EntL.refl _|exact BEntL.refl _|omega|apply And.intro|(simp;done)|(simp[*];done)
 |false=>
  refine gwo_chunk env false 6 [.bx (.d (.row default row_inC x.sup)),.callm [2,0] (has_held1_ok S x.sup h1 h2)] ?_ (hp:=(by simp only[AllP,bb,toN,loI,hiI];repeat' first|exact trivial|exact EntL.refl _|exact BEntL.refl _|exact rfl|omega|apply And.intro|intro _))
  refine gwo_end [4] ?_
  refine gk_retX env [bG (heldB S x)] (hp:= ?_)
  rw[heldB,hc]
  (try simp only[AllP,Nat.zero_add]);repeat' first|exact trivial|exact rfl|exact EntL.refl _|exact BEntL.refl _|omega|apply And.intro|(simp;done)|(simp[*];done)
theorem HL.all_ {l:List Lea} (h:HL l) (k:Nat):∀s,s∈(l.getD k default).sup→s.length≤1000:=by
 rw[List.getD_eq_getElem?_getD]
 cases e:l[k]? with
 |none=>intro s hs;cases hs
 |some x=>exact (h.sup x (List.mem_of_getElem? e)).2
def stdF (l:List Lea) (st:List Bool) (S:List Int) (k:Nat):List Int:=if (bif !(st.getD k default)then heldB S (l.getD k default)else false)=true then insK S k else S
def standS (l:List Lea) (st:List Bool):List Int:=(List.range l.length).foldl (stdF l st) []
theorem range_foldl {β:Type} (g:β→Nat→β) (z:β) (k:Nat):(List.range (k+1)).foldl g z=g ((List.range k).foldl g z) k:=by rw[List.range_succ,List.foldl_append];rfl
theorem stand_ok (l:List Lea) (st:List Bool) (hl:HL l) (hs:st.length=l.length):GM Tryz.prog 58 [.d (.row default leC l),.d (.row default boC st)] [] (.mp 0) [some (.mp ((standS l st).map encT))]:=by
 have hll:=hl.len
 refine gm_of_gk Tryz.func58 ?_
 refine gk_region env false [] [0,1,4] ?_
 refine gk_region env false [] [0,1,4,5] ?_
 refine gk_region env false [] [0,1,4,5,9,10,11] ?_
 refine gk_loop (α:=List Int×Nat) (fun x=>x.2≤l.length∧x.1=(List.range x.2).foldl (stdF l st) []) (fun x=>[(11,iG x.2)]) (fun x=>[(0,some (.mp (x.1.map encT)))]) (fun x=>l.length-x.2) ([],0) ⟨Nat.zero_le _,rfl⟩ ?_ (hp:=by (try simp only[AllP,Nat.zero_add]);repeat' first|exact trivial|exact rfl|exact EntL.refl _|exact BEntL.refl _|omega|apply And.intro|(simp;done)|(simp[*];done))
 rintro ⟨S,k⟩ ⟨hk,hS⟩
 dsimp only at hk hS⊢
 refine gk_region env false [] [0,1,4,5,9,10,11,12] ?_
 refine gk_ifd (fun c1=> ?_) (fun c1=> ?_)
 ·have hk2:k<l.length:=by omega
  refine gk_region env false [] [0,1,4,5,6,7,9,10,11] ?_ (hp:=(by simp only[AllP,bb,toN,loI,hiI];repeat' first|exact trivial|exact EntL.refl _|exact BEntL.refl _|exact rfl|omega|apply And.intro|intro _))
  refine gk_ops ?_
  refine gwo_chunk env false 6 [] ?_ (hp:=(by simp only[AllP,bb,toN,loI,hiI];repeat' first|exact trivial|exact EntL.refl _|exact BEntL.refl _|exact rfl|omega|apply And.intro|intro _))
  simp only[Int.toNat_natCast]
  have hst:stdF l st S k=if (bif !(st.getD k default)then heldB S (l.getD k default)else false)=true then insK S k else S:=rfl
  cases hc:st.getD k default with
  |false=>
   rw[hc]at hst
   refine gwo_chunk env false 4 [.callm [0] (held_ok S (l.getD k default) (by have:=hl.sup_ k;omega) (fun s hs=>Nat.le_trans (hl.all_ k s hs) (by decide)))] ?_ (hp:=(by simp only[AllP,bb,toN,loI,hiI];repeat' first|exact trivial|exact EntL.refl _|exact BEntL.refl _|exact rfl|omega|apply And.intro|intro _))
   refine gwo_end [0,1,4,5,6,9,10,11,25] ?_
   refine gk_if (fun c2=> ?_) (fun c2=> ?_)
   ·simp only[bb]at c2
    refine gk_region env false [.mp ((insK S k).map encT)] [0,1,4,5,9,10,11] ?_ (hp:=(by simp only[AllP,bb,toN,loI,hiI];repeat' first|exact trivial|exact look_T _ _|exact mput_T _ _|exact EntL.refl _|exact BEntL.refl _|exact rfl|omega|apply And.intro|intro _))
    refine gk_region env false [] [0,1,4,5,9,10,11] ?_ (hp:=(by simp only[AllP,bb,toN,loI,hiI];repeat' first|exact trivial|exact EntL.refl _|exact BEntL.refl _|exact rfl|omega|apply And.intro|intro _))
    refine gk_round (insK S k,k+1) ⟨hk2,by dsimp only;rw[range_foldl,←hS,hst];exact (if_pos (by simpa using c2)).symm⟩ (hp:=by (try simp only[AllP,Nat.zero_add]);repeat' first|exact trivial|exact rfl|exact EntL.refl _|exact BEntL.refl _|omega|apply And.intro|(simp;done)|(simp[*];done)) (hm:=by dsimp only;omega)
   ·simp only[bb]at c2
    refine gk_region env false [] [0,1,4,5,9,10,11] ?_ (hp:=(by simp only[AllP,bb,toN,loI,hiI];repeat' first|exact trivial|exact EntL.refl _|exact BEntL.refl _|exact rfl|omega|apply And.intro|intro _))
    refine gk_round (S,k+1) ⟨hk2,by dsimp only;rw[range_foldl,←hS,hst];exact (if_neg (by rw[Bool.not_eq_true];simpa using c2)).symm⟩ (hp:=by (try simp only[AllP,Nat.zero_add]);repeat' first|exact trivial|exact rfl|exact EntL.refl _|exact BEntL.refl _|omega|apply And.intro|(simp;done)|(simp[*];done)) (hm:=by dsimp only;omega)
  |true=>
   rw[hc]at hst
   refine gwo_chunk env false 4 [.no,.no,.nu] ?_ (hp:=(by simp only[AllP,bb,toN,loI,hiI];repeat' first|exact trivial|exact EntL.refl _|exact BEntL.refl _|exact rfl|omega|apply And.intro|intro _))
   refine gwo_end [0,1,4,5,6,9,10,11,25] ?_
   refine gk_if (fun c2=> ?_) (fun c2=> ?_)
   ·cases c2
   ·refine gk_region env false [] [0,1,4,5,9,10,11] ?_ (hp:=(by simp only[AllP,bb,toN,loI,hiI];repeat' first|exact trivial|exact EntL.refl _|exact BEntL.refl _|exact rfl|omega|apply And.intro|intro _))
    refine gk_round (S,k+1) ⟨hk2,by dsimp only;rw[range_foldl,←hS,hst];rfl⟩ (hp:=by (try simp only[AllP,Nat.zero_add]);repeat' first|exact trivial|exact rfl|exact EntL.refl _|exact BEntL.refl _|omega|apply And.intro|(simp;done)|(simp[*];done)) (hm:=by dsimp only;omega)
 ·have e:k=l.length:=by omega
  refine gk_region env false [] [4] ?_
  refine gk_retM env [.mp 0] (hp:= ?_)
  subst e
  rw[standS,←hS]
  (try simp only[AllP,Nat.zero_add]);repeat' first|exact trivial|exact rfl|exact EntL.refl _|exact BEntL.refl _|omega|apply And.intro|(simp;done)|(simp[*];done)
def mrkB (k:Int) (ls:List Lea):Bool:=(bif decide (k<0)then true else decide ((ls.length:Int)≤k))
theorem mrk_ok (k:Int) (ls:List Lea):GC Tryz.prog 56 [iG k,.ep [.row default leC ls]] (bG (mrkB k ls)):=by
 refine gc_of_gk Tryz.func56 ?_
 refine gk_region env false [] [0,1,3] ?_
 refine gk_region env false [] [3] ?_
 refine gk_ret env ?_
 rw[mrkB];rfl
theorem idx_mrk_ok (l:List Int) (hl:l.length≤9223372036854775807) (ls:List Lea):GC Tryz.prog 99 [.d (.row default inC l),.fn (.func 56) [] [.ep [.row default leC ls]]] (iG (findI (fun y=>mrkB y ls) l 0)):=by
 refine gc_of_gk Tryz.func99 ?_
 refine gk_region env false [] [0,1,4] ?_
 refine gk_region env false [] [0,1,4,7,8] ?_
 refine gk_loop (α:=Nat) (fun i=>i≤l.length∧findI (fun y=>mrkB y ls) l 0=findI (fun y=>mrkB y ls) (l.drop i) i) (fun i=>[(8,iG i)]) (fun _=>[]) (fun i=>l.length-i) 0 ⟨by omega,rfl⟩ ?_ (hp:=by simp[AllP]<;>rfl)
 rintro i ⟨hi,he⟩
 refine gk_region env false [] [0,1,4,7,8,9] ?_
 refine gk_ifd (fun c1=> ?_) (fun c1=> ?_)
 ·try simp only[toN]at c1
  refine gk_region env false [] [0,1,4,5,7,8] ?_
  refine gk_region env false [.call (mrk_ok (l.getD i default) ls)] [0,1,4,5,7,8,16] ?_
  refine gk_if (fun c2=> ?_) (fun c2=> ?_)
  ·try simp only[bb,toN]at c2
   refine gk_region env false [] [0,1,4,7,8] ?_
   refine gk_ret env ?_
   rw[he,dropC (by omega),findI,if_pos (by exact c2)];rfl
  ·try simp only[bb,toN]at c2
   refine gk_region env false [] [0,1,4,7,8] ?_
   refine gk_round (i+1) ?_ (hp:=by simp[AllP]<;>rfl)
   refine ⟨by omega,he.trans ?_⟩
   rw[dropC (by omega),findI,if_neg (by rw[Bool.not_eq_true];exact c2)]
 ·try simp only[toN]at c1
  refine gk_region env false [] [4] ?_
  refine gk_ret env ?_
  rw[he,dropN (by omega)];rfl
theorem has_mrk_ok (l:List Int) (hl:l.length≤9223372036854775807) (ls:List Lea):GC Tryz.prog 55 [.d (.row default inC l),.fn (.func 56) [] [.ep [.row default leC ls]]] (bG (l.any (fun y=>mrkB y ls))):=by
 refine gc_of_gk Tryz.func55 ?_
 refine gk_region env false [] [0,1,4] ?_
 refine gk_region env false [.call (idx_mrk_ok l hl ls)] [4] ?_
 refine gk_ret env ?_
 rw[←findI_any];rfl
theorem cloneB_ok (st:List Bool) (h0:st≠ []) (hl:st.length≤1000):GM Tryz.prog 57 [.d (.row (default:Bool) boC st)] [] (.sl 0 1 0 st.length) [some (.row 4 1 (default:Bool) boC st 0)]:=by
 refine gm_of_gk Tryz.func57 ?_
 refine gk_region env false [] [0,2] ?_
 refine gk_isnil env (fun q hq=> ?_)
 refine gk_if (fun c1=> ?_) (fun c1=> ?_)
 ·exact absurd (hq c1) h0
 ·refine gk_region env false [.el default boC ([]:List Bool),.el default boC st] [2] ?_ (hp:=(by simp only[AllP,Int.toNat_natCast];repeat' first|exact trivial|exact EntL.refl _|exact BEntL.refl _|exact rfl|omega|apply And.intro|intro _|(simp[rowL];done)|(simp only[List.length_append,List.length_cons,List.length_nil];omega)|(simp[*];done)))
  refine gk_retX env [.sl 0 1 0 st.length] (hp:= ?_)
  (try simp only[AllP,Nat.zero_add]);repeat' first|exact trivial|exact rfl|exact EntL.refl _|exact BEntL.refl _|omega|apply And.intro|(simp;done)|(simp[*];done)
def markF (st:List Bool) (k:Int):List Bool:=st.set k.toNat true
theorem take_foldlD {α β:Type} [Inhabited α] (g:β→α→β) (z:β) (l:List α) (k:Nat) (hk:k<l.length):(l.take (k+1)).foldl g z=g ((l.take k).foldl g z) (l.getD k default):=by
 rw[List.take_succ_eq_append_getElem hk,List.foldl_append]
 simp[List.getD_eq_getElem?_getD,List.getElem?_eq_getElem hk]
theorem putB (l:List Bool) (i:Nat) (v:Bool):putD (rowL boC l) i 0 [.sc (.bool v)]=rowL boC (l.set i v):=by
 by_cases h:i<l.length
 ·have e:(rowL boC l).getD i []=boC (l.getD i default):=by
   simp[rowL,List.getD_eq_getElem?_getD,List.getElem?_eq_getElem h]
  rw[putD,e]
  simp only[rowL,List.map_set]
  rfl
 ·rw[putD,List.set_eq_of_length_le (by simp[rowL];omega),List.set_eq_of_length_le (by omega)]
theorem marked_ok (l:List Lea) (st:List Bool) (list:List Int) (hl:HL l) (hr:rightU l=true) (hs:st.length=l.length) (h0:st≠ []) (hll:list.length≤1000) (hin:∀k,k∈list→0≤k∧k<l.length):GM Tryz.prog 32 [.d (.row default leC l),.d (.row (default:Bool) boC st),.d (.row default inC list),bG true] [] (.tup [.mp 0,.mp 1,bG true]) [some (.mp ((standS l st).map encT)),some (.mp ((standS l (list.foldl markF st)).map encT))]:=by
 have hlen:=hl.len
 have hR:GC Tryz.prog 54 [.d (.row default leC l)] (bG true):=hr▸rightU_ok l hl
 have hA:(list.any fun y=>mrkB y l)=false:=by
  rw[List.any_eq_false]
  intro k hk
  obtain ⟨h1,h2⟩:=hin k hk
  rw[mrkB,decide_eq_false (by omega),decide_eq_false (by omega)]
  decide
 have hC:GC Tryz.prog 55 [.d (.row default inC list),.fn (.func 56) [] [.ep [.row default leC l]]] (bG false):=hA▸has_mrk_ok list (by omega) l
 refine gm_of_gk Tryz.func32 ?_
 refine gk_region env false [] [1,2,3,4,8,9,10] ?_
 refine gk_box 0 ?_
 refine gk_ops ?_
 refine gwo_chunk env false 10 [.call hR] ?_
 refine gwo_lit 23 (b':=false) ?_ ?_
 ·simp[hs]
 refine gwo_chunk env false 5 [.call hC] ?_
 refine gwo_end [1,2,3,4,8,9,10,28] ?_
 refine gk_if (fun c1=> ?_) (fun c1=> ?_)
 ·cases c1
 refine gk_region env false [.callm [] (cloneB_ok st h0 (by omega))] [1,2,3,4,8,9,10,11] ?_ (hp:=(by simp only[AllP,bb,toN,loI,hiI];repeat' first|exact trivial|exact EntL.refl _|exact BEntL.refl _|exact rfl|omega|apply And.intro|intro _))
 refine gk_region env false [] [1,3,4,8,9,10,11,31,32,33] ?_
 refine gk_loop (α:=List Bool×Nat) (fun x=>x.2≤list.length∧x.1.length=st.length∧x.1=(list.take x.2).foldl markF st) (fun x=>[(33,iG x.2)]) (fun x=>[(1,some (.row 4 1 (default:Bool) boC x.1 0))]) (fun x=>list.length-x.2) (st,0) ⟨Nat.zero_le _,rfl,rfl⟩ ?_ (hp:=by (try simp only[AllP,Nat.zero_add]);repeat' first|exact trivial|exact rfl|exact EntL.refl _|exact BEntL.refl _|omega|apply And.intro|(simp;done)|(simp[*];done))
 rintro ⟨L,k⟩ ⟨hk,hLl,hL⟩
 dsimp only at hk hLl hL⊢
 refine gk_region env false [] [1,3,4,8,9,10,11,31,32,33,34] ?_
 refine gk_ifd (fun c2=> ?_) (fun c2=> ?_)
 ·have hk2:k<list.length:=by omega
  obtain ⟨i1,i2⟩:=hin (list.getD k default) (by rw[List.getD_eq_getElem?_getD,List.getElem?_eq_getElem hk2];exact List.getElem_mem hk2)
  refine gk_region env false [] [1,3,4,8,9,10,11,13,31,32,33] ?_ (hp:=(by simp only[AllP,bb,toN,loI,hiI];repeat' first|exact trivial|exact EntL.refl _|exact BEntL.refl _|exact rfl|omega|apply And.intro|intro _))
  simp only[Int.toNat_natCast]
  generalize hz:list.getD k default=z at*
  refine gk_region env false [.el default boC (L.set z.toNat true)] [1,3,4,8,9,10,11,31,32,33] ?_ (hp:=by simp only[AllP,bb,toN];repeat' first|exact (putB _ _ _).symm|exact Nat.le_refl 1|exact trivial|exact EntL.refl _|exact BEntL.refl _|exact rfl|omega|apply And.intro|intro _)
  refine gk_region env false [] [1,3,4,8,9,10,11,31,32,33] ?_ (hp:=(by simp only[AllP,bb,toN,loI,hiI];repeat' first|exact trivial|exact EntL.refl _|exact BEntL.refl _|exact rfl|omega|apply And.intro|intro _))
  refine gk_round (L.set z.toNat true,k+1) ⟨hk2,by simp[hLl],by dsimp only;rw[take_foldlD _ _ _ _ hk2,←hL,hz];rfl⟩ (hp:=by (try simp only[AllP,Nat.zero_add]);repeat' first|exact trivial|exact rfl|exact EntL.refl _|exact BEntL.refl _|omega|apply And.intro|(simp;done)|(simp[*];done)) (hm:=by dsimp only;omega)
 ·have e:k=list.length:=by omega
  subst e
  rw[List.take_length]at hL
  refine gk_row 1 ?_ (hps:=by simp only[AllP];repeat' first|exact hLl.symm|exact trivial|exact rfl|apply And.intro)
  refine gk_region env false [.callm [] (stand_ok l st hl hs),.callm [] (stand_ok l L hl (by omega))] [8,9,10] ?_ (hp:=(by simp only[AllP,bb,toN,loI,hiI];repeat' first|exact trivial|exact EntL.refl _|exact BEntL.refl _|exact rfl|omega|apply And.intro|intro _))
  rw[hL]
  refine gk_retX env [.mp 0,.mp 1,bG true] (hp:= ?_)
  (try simp only[AllP,Nat.zero_add]);repeat' first|exact trivial|exact rfl|exact EntL.refl _|exact BEntL.refl _|omega|apply And.intro|(simp;done)|(simp[*];done)
end Go.Gh
