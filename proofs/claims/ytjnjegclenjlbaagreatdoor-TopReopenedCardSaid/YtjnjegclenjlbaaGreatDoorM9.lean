/- Walks by the logic of calls, and plain laws (several texts in one). -/
import Derived.Test.YtjnjegclenjlbaaGreatDoorM8
namespace Go.Gh
open Go Go.Proofs
set_option maxRecDepth 1000000
set_option maxHeartbeats 2000000
set_option linter.unusedSimpArgs false
set_option linter.unusedVariables false
set_option linter.unnecessarySimpa false
open Go.RowKit
def bfM (m:List (Int×Int)):List Fe→List (Int×Int)→List (Int×Int)
 | [],M=>M
 |e::l,M=>bfM m l (putI e.no (gI e.no m) M)
def grF (no:Int):List Fe→Grp→Grp
 | [],g=>g
 |e::l,g=>grF no l (if e.no=no then ofV e else g)
def reM (n:Nat) (no:Int) (offers:List Fe) (m:List (Int×Int)):List (Int×Int):=
 settleV n (reF no (bfM m offers [])) (fun e=>eqb_Grp (ofV e) (grF no offers ⟨0,0⟩)) offers m
def roN (M m:List (Int×Int)) (e:Fe):Int:=IntKind.i64.wrap (gI e.no M-gI e.no m)
def roK (offers:List Fe) (M m:List (Int×Int)) (k:Nat):List Fo:=((offers.take k).filter fun e=>decide (0<roN M m e)).map fun e=>⟨5,e.room,e.no,roN M m e⟩
def roV (n:Nat) (no:Int) (offers:List Fe) (m:List (Int×Int)):List Fo:=roK offers (bfM m offers []) (reM n no offers m) offers.length
theorem roK_s (offers:List Fe) (M m:List (Int×Int)) {k:Nat} (h:k<offers.length):roK offers M m (k+1)=roK offers M m k++(if 0<roN M m (offers.getD k default)then [⟨5,(offers.getD k default).room,(offers.getD k default).no,roN M m (offers.getD k default)⟩]else []):=by
 unfold roK
 rw[take_getD h,List.filter_append,List.map_append,List.filter_cons]
 by_cases hc:0<roN M m (offers.getD k default)
 ·rw[if_pos hc,if_pos (decide_eq_true hc)];rfl
 ·rw[if_neg hc,if_neg (by simpa using hc)];rfl
theorem roK_len (offers:List Fe) (M m:List (Int×Int)) (k:Nat):(roK offers M m k).length≤k:=by
 unfold roK
 rw[List.length_map]
 exact Nat.le_trans (List.length_filter_le _ _) (by rw[List.length_take];omega)
theorem reopen_ok (n:Nat) (rooms cl:Int) (offers:List Fe) (m0:List (Int×Int)) (no:Int) (ho:offers.length≤1000) (hX:DuesX n (stlF (reF no (bfM m0 offers [])) (fun e=>eqb_Grp (ofV e) (grF no offers ⟨0,0⟩)) offers ([],[],m0)).1):GM Tryz.prog 86 [.ptr 0 0 0 0,iG no] [.box [iG n,iG rooms,iG cl,bG true,.d (.row default feC offers),.mp 1],.mp (m0.map encI)] (.d (.row default foC (roV n no offers m0))) [some (.box [iG n,iG rooms,iG cl,bG true,.d (.row default feC offers),.mp 1]),some (.mp ((reM n no offers m0).map encI))]:=by
 obtain ⟨MB,hMB⟩:∃t,t=bfM m0 offers []:=⟨_,rfl⟩
 obtain ⟨GB,hGB⟩:∃t,t=grF no offers ⟨0,0⟩:=⟨_,rfl⟩
 obtain ⟨m1,hm1⟩:∃t,t=reM n no offers m0:=⟨_,rfl⟩
 have hro:roV n no offers m0=roK offers MB m1 offers.length:=by rw[hMB,hm1];rfl
 rw[hro,←hm1]
 rw[←hMB,←hGB]at hX
 have hm1b:m1=settleV n (reF no MB) (fun e=>eqb_Grp (ofV e) GB) offers m0:=by rw[hm1,hMB,hGB];rfl
 refine gm_of_gk Tryz.func86 ?_
 refine gk_region env false [] [0,3,4] ?_
 refine gk_region env false [] [0,3,4,5] ?_
 refine gk_region env false [] [0,3,4,5,6] ?_
 refine gk_box 2 ?_
 refine gk_region env false [] [0,3,4,5,6,17,18,19] ?_
 refine gk_loop (α:=List (Int×Int)×Grp×Nat) (fun x=>x.2.2≤offers.length∧MB=bfM m0 (offers.drop x.2.2) x.1∧GB=grF no (offers.drop x.2.2) x.2.1) (fun x=>[(19,iG x.2.2)]) (fun x=>[(3,some (.mp (x.1.map encI))),(5,some (.box [iG x.2.1.cur,iG x.2.1.due]))]) (fun x=>offers.length-x.2.2) ([],⟨0,0⟩,0) ⟨Nat.zero_le _,hMB,hGB⟩ ?_ (hp:=by (try simp only[AllP,Nat.zero_add]);repeat' first|exact trivial|exact rfl|exact EntL.refl _|exact BEntL.refl _|omega|apply And.intro|(simp;done)|(simp[*];done))
 rintro ⟨M,g,k⟩ ⟨hk,he,hg⟩
 dsimp only at*
 refine gk_region env false [] [0,3,4,5,6,17,18,19,20] ?_
 refine gk_ifd (fun c1=> ?_) (fun c1=> ?_)
 ·try simp only[toN]at c1
  have hk2:k<offers.length:=by omega
  refine gk_region env false [] [0,3,4,5,6,8,17,18,19] ?_ (hp:=(by simp only[AllP,bb,toN,loI,hiI];repeat' first|exact trivial|exact EntL.refl _|exact BEntL.refl _|exact rfl|exact look_I _ _|exact mput_I _ _ _|omega|apply And.intro|intro _))
  refine gk_region env false [.look (.int .i64 (gI (offers.getD k default).no m0)) (getI (offers.getD k default).no m0).isSome,.mp ((putI (offers.getD k default).no (gI (offers.getD k default).no m0) M).map encI)] [0,3,4,5,6,8,17,18,19] ?_ (hp:=(by simp only[AllP,bb,toN,loI,hiI];repeat' first|exact trivial|exact EntL.refl _|exact BEntL.refl _|exact rfl|exact look_I _ _|exact mput_I _ _ _|omega|apply And.intro|intro _))
  refine gk_region env false [] [0,3,4,5,6,8,17,18,19,36] ?_ (hp:=(by simp only[AllP,bb,toN,loI,hiI];repeat' first|exact trivial|exact EntL.refl _|exact BEntL.refl _|exact rfl|exact look_I _ _|exact mput_I _ _ _|omega|apply And.intro|intro _))
  refine gk_ifd (fun c2=> ?_) (fun c2=> ?_)
  ·try simp only[toN]at c2
   refine gk_region env false [.call (of_ok (offers.getD k default))] [0,3,4,5,6,17,18,19] ?_ (hp:=(by simp only[AllP,bb,toN,loI,hiI];repeat' first|exact trivial|exact EntL.refl _|exact BEntL.refl _|exact rfl|exact look_I _ _|exact mput_I _ _ _|omega|apply And.intro|intro _))
   refine gk_region env false [] [0,3,4,5,6,17,18,19] ?_ (hp:=(by simp only[AllP,bb,toN,loI,hiI];repeat' first|exact trivial|exact EntL.refl _|exact BEntL.refl _|exact rfl|exact look_I _ _|exact mput_I _ _ _|omega|apply And.intro|intro _))
   refine gk_round ((putI (offers.getD k default).no (gI (offers.getD k default).no m0) M,ofV (offers.getD k default),k+1)) ?_ (hp:=by (try simp only[AllP,Nat.zero_add]);repeat' first|exact trivial|exact rfl|exact EntL.refl _|exact BEntL.refl _|omega|apply And.intro|(simp;done)|(simp[*];done)) (hm:=by dsimp only;omega)
   rw[dropC hk2,bfM]at he
   rw[dropC hk2,grF,if_pos c2]at hg
   exact ⟨hk2,he,hg⟩
  ·try simp only[toN]at c2
   refine gk_region env false [] [0,3,4,5,6,17,18,19] ?_ (hp:=(by simp only[AllP,bb,toN,loI,hiI];repeat' first|exact trivial|exact EntL.refl _|exact BEntL.refl _|exact rfl|exact look_I _ _|exact mput_I _ _ _|omega|apply And.intro|intro _))
   refine gk_round ((putI (offers.getD k default).no (gI (offers.getD k default).no m0) M,g,k+1)) ?_ (hp:=by (try simp only[AllP,Nat.zero_add]);repeat' first|exact trivial|exact rfl|exact EntL.refl _|exact BEntL.refl _|omega|apply And.intro|(simp;done)|(simp[*];done)) (hm:=by dsimp only;omega)
   rw[dropC hk2,bfM]at he
   rw[dropC hk2,grF,if_neg c2]at hg
   exact ⟨hk2,he,hg⟩
 ·try simp only[toN]at c1
  have hke:k=offers.length:=by omega
  subst hke
  rw[List.drop_length,bfM]at he
  rw[List.drop_length,grF]at hg
  rw[←he,←hg]
  have hset:=settle2_ok n rooms cl true offers m0 GB no MB ho hX
  rw[←hm1b]at hset
  refine gk_region env false [.callm [0,1,4,3] hset] [0,4,5] ?_ (hp:=(by simp only[AllP,bb,toN,loI,hiI];repeat' first|exact trivial|exact EntL.refl _|exact BEntL.refl _|exact rfl|exact look_I _ _|exact mput_I _ _ _|omega|apply And.intro|intro _))
  refine gk_region env false [] [0,4,5,9] ?_
  refine gk_region env false [] [0,4,5,9,47,48,49] ?_
  refine gk_nil 9 82 4 (default:Fo) foC (by rfl) (by rfl) ?_
  refine gk_loop (α:=Nat) (fun k=>k≤offers.length) (fun k=>[(9,.sl 6 4 0 (roK offers MB m1 k).length),(49,iG k)]) (fun k=>[(6,some (.row 82 4 (default:Fo) foC (roK offers MB m1 k) 0))]) (fun k=>offers.length-k) 0 (Nat.zero_le _) ?_ (hp:=by (try simp only[AllP,Nat.zero_add]);repeat' first|exact trivial|exact rfl|exact EntL.refl _|exact BEntL.refl _|omega|apply And.intro|(simp;done)|(simp[*];done))
  rintro k hk
  refine gk_region env false [] [0,4,5,9,47,48,49,50] ?_
  refine gk_ifd (fun c3=> ?_) (fun c3=> ?_)
  ·try simp only[toN]at c3
   have hk2:k<offers.length:=by omega
   have hs:=roK_s offers MB m1 hk2
   have hol:=roK_len offers MB m1 k
   refine gk_region env false [] [0,4,5,9,11,47,48,49] ?_ (hp:=(by simp only[AllP,bb,toN,loI,hiI];repeat' first|exact trivial|exact EntL.refl _|exact BEntL.refl _|exact rfl|exact look_I _ _|exact mput_I _ _ _|omega|apply And.intro|intro _))
   refine gk_region env true [.look (.int .i64 (gI (offers.getD k default).no MB)) (getI (offers.getD k default).no MB).isSome,.look (.int .i64 (gI (offers.getD k default).no m1)) (getI (offers.getD k default).no m1).isSome] [0,4,5,9,11,12,47,48,49] ?_ (hp:=(by simp only[AllP,bb,toN,loI,hiI];repeat' first|exact trivial|exact EntL.refl _|exact BEntL.refl _|exact rfl|exact look_I _ _|exact mput_I _ _ _|omega|apply And.intro|intro _))
   refine gk_region env false [] [0,4,5,9,11,12,47,48,49,66] ?_
   refine gk_ifd (fun c4=> ?_) (fun c4=> ?_)
   ·try simp only[toN]at c4
    refine gk_region env false [.el (default:Fo) foC [⟨5,(offers.getD k default).room,(offers.getD k default).no,roN MB m1 (offers.getD k default)⟩],.el (default:Fo) foC (roK offers MB m1 k++ [⟨5,(offers.getD k default).room,(offers.getD k default).no,roN MB m1 (offers.getD k default)⟩])] [0,4,5,9,47,48,49] ?_ (hp:=(by simp only[AllP,bb,toN,loI,hiI,Int.toNat_natCast];repeat' first|exact trivial|exact EntL.refl _|exact BEntL.refl _|exact rfl|omega|apply And.intro|intro _|(simp[rowL];done)|(simp only[List.length_append,List.length_cons,List.length_nil];omega)|(simp[*];done)))
    refine gk_region env false [] [0,4,5,9,47,48,49] ?_ (hp:=(by simp only[AllP,bb,toN,loI,hiI];repeat' first|exact trivial|exact EntL.refl _|exact BEntL.refl _|exact rfl|exact look_I _ _|exact mput_I _ _ _|omega|apply And.intro|intro _))
    refine gk_round (k+1) ?_ (hp:=by rw[if_pos (show 0<roN MB m1 (offers.getD k default)from c4)]at hs;simp only[AllP,hs];repeat' first|exact trivial|exact rfl|omega|apply And.intro|(simp;done))
    exact hk2
   ·try simp only[toN]at c4
    refine gk_region env false [] [0,4,5,9,47,48,49] ?_ (hp:=(by simp only[AllP,bb,toN,loI,hiI];repeat' first|exact trivial|exact EntL.refl _|exact BEntL.refl _|exact rfl|exact look_I _ _|exact mput_I _ _ _|omega|apply And.intro|intro _))
    refine gk_round (k+1) ?_ (hp:=by rw[if_neg (show ¬0<roN MB m1 (offers.getD k default)from c4),List.append_nil]at hs;simp only[AllP,hs];repeat' first|exact trivial|exact rfl|omega|apply And.intro)
    exact hk2
  ·try simp only[toN]at c3
   have hke:k=offers.length:=by omega
   subst hke
   refine gk_row 6 ?_
   refine gk_region env false [] [4] ?_
   refine gk_retX env [.d (.row default foC (roK offers MB m1 offers.length))] (hp:= ?_)
   (try simp only[AllP,Nat.zero_add]);repeat' first|exact trivial|exact rfl|exact EntL.refl _|exact BEntL.refl _|omega|apply And.intro|(simp;done)|(simp[*];done)
def errV (n rooms cl:Int) (cd:Bool) (m:List (Int×Int)) (e:Fe):Int:=
 if chkV n rooms e=0 then
  if e.kind=4 then (if cd=true then 7 else if e.day<cl then 13 else 0)
  else if e.kind=5 then (if cd=false then 7 else if gI e.no m=0 then 4 else 0)
  else if cd=true∨cl<e.day then 16 else 0
 else 1
def clsB (n rooms cl:Int) (e:Fe):Prop:=chkV n rooms e=0∧e.kind=4∧¬e.day<cl
def reoB (n rooms:Int) (m:List (Int×Int)) (e:Fe):Prop:=chkV n rooms e=0∧e.kind=5∧¬gI e.no m=0
theorem take_open_ok (n:Nat) (rooms cl:Int) (e:Fe) (l:List Fe) (hnc:¬clsB n rooms cl e):GM Tryz.prog 45 [.ptr 0 0 0 0,feG e,.d (.row default feC l)] [.box [iG n,iG rooms,iG cl,bG false,.d (.sc (.slice none 0 0)),.d (.sc (.map none))]] (.tup [.d (.sc (.slice none 0 0)),iG (errV n rooms cl false [] e)]) [some (.box [iG n,iG rooms,iG cl,bG false,.d (.sc (.slice none 0 0)),.d (.sc (.map none))])]:=by
 refine gm_of_gk Tryz.func45 ?_
 refine gk_region env false [] [0,2,4,6,7] ?_
 refine gk_region env false [.call (chk_ok n rooms e)] [0,2,4,6,7,18] ?_
 refine gk_ifn (fun c1=> ?_) (fun c1=> ?_)
 ·try simp only[toN]at c1
  refine gk_region env false [] [0,2,4,6,7] ?_
  refine gk_retX env [.d (.sc (.slice none 0 0)),iG (errV n rooms cl false [] e)] (hp:= ?_)
  have hE:errV n rooms cl false [] e=1:=by unfold errV;first|(simp[*];done)|simp_all
  simp only[AllP,hE]
  repeat' first|exact trivial|exact rfl|apply And.intro
 ·try simp only[toN]at c1
  refine gk_region env false [] [0,2,4,6,7,20] ?_
  refine gk_region env false [] [0,2,4,6,7,20,21] ?_
  refine gk_ifd (fun c2=> ?_) (fun c2=> ?_)
  ·try simp only[toN]at c2
   refine gk_region env false [] [0,2,4,6,7,23] ?_
   refine gk_if (fun c3=> ?_) (fun c3=> ?_)
   ·try simp only[bb,toN]at c3
    cases c3
   ·try simp only[bb,toN]at c3
    refine gk_region env false [] [0,2,4,6,7,28] ?_
    refine gk_ifd (fun c4=> ?_) (fun c4=> ?_)
    ·try simp only[toN]at c4
     refine gk_region env false [] [0,2,4,6,7] ?_
     refine gk_retX env [.d (.sc (.slice none 0 0)),iG (errV n rooms cl false [] e)] (hp:= ?_)
     have hE:errV n rooms cl false [] e=13:=by unfold errV;first|(simp[*];done)|simp_all
     simp only[AllP,hE]
     repeat' first|exact trivial|exact rfl|apply And.intro
    ·try simp only[toN]at c4
     exact absurd ⟨c1,c2,c4⟩ hnc
  ·try simp only[toN]at c2
   refine gk_region env false [] [0,4,6,7,41] ?_
   refine gk_ifd (fun c5=> ?_) (fun c5=> ?_)
   ·try simp only[toN]at c5
    refine gk_region env false [] [0,4,6,7,43] ?_
    refine gk_if (fun c6=> ?_) (fun c6=> ?_)
    ·try simp only[bb,toN]at c6
     refine gk_region env false [] [0,4,6,7] ?_
     refine gk_retX env [.d (.sc (.slice none 0 0)),iG (errV n rooms cl false [] e)] (hp:= ?_)
     have hE:errV n rooms cl false [] e=7:=by unfold errV;first|(simp[*];done)|simp_all
     simp only[AllP,hE]
     repeat' first|exact trivial|exact rfl|apply And.intro
    ·try simp only[bb,toN]at c6
     cases c6
   ·try simp only[toN]at c5
    refine gk_region env false [] [6,7,74] ?_
    refine gk_if (fun c7=> ?_) (fun c7=> ?_)
    ·try simp only[bb,toN]at c7
     refine gk_region env false [] [6,7] ?_
     refine gk_retX env [.d (.sc (.slice none 0 0)),iG (errV n rooms cl false [] e)] (hp:= ?_)
     have hE:errV n rooms cl false [] e=16:=by unfold errV;first|(simp[*];done)|simp_all
     simp only[AllP,hE]
     repeat' first|exact trivial|exact rfl|apply And.intro
    ·try simp only[bb,toN]at c7
     refine gk_region env false [] [6,7] ?_
     refine gk_retX env [.d (.sc (.slice none 0 0)),iG (errV n rooms cl false [] e)] (hp:= ?_)
     have hE:errV n rooms cl false [] e=0:=by unfold errV;first|(simp[*];done)|simp_all
     simp only[AllP,hE]
     repeat' first|exact trivial|exact rfl|apply And.intro
theorem take_close_ok (n:Nat) (rooms cl:Int) (e:Fe) (l:List Fe) (hc:clsB n rooms cl e) (hl:l.length≤100) (hno:∀e,e∈evT n rooms cl l→0≤e.no∧e.no<1000) (hX:∀g m0,DuesX n (stlF Fe.sum (fun e=>eqb_Grp (ofV e) g) (cntV n rooms cl l) ([],[],m0)).1) (hlc:(cntV n rooms cl l).length≤100):GM Tryz.prog 45 [.ptr 0 0 0 0,feG e,.d (.row default feC l)] [.box [iG n,iG rooms,iG cl,bG false,.d (.sc (.slice none 0 0)),.d (.sc (.map none))]] (.tup [.d (.row default foC (outV (cntV n rooms cl l) (clsF n (cntV n rooms cl l) (cntV n rooms cl l) [] []))),iG 0]) [some (.box [iG n,iG rooms,iG cl,bG true,.d (.row default feC (cntV n rooms cl l)),.mp 1]),some (.mp ((clsF n (cntV n rooms cl l) (cntV n rooms cl l) [] []).map encI))]:=by
 refine gm_of_gk Tryz.func45 ?_
 refine gk_region env false [] [0,2,4,6,7] ?_
 refine gk_region env false [.call (chk_ok n rooms e)] [0,2,4,6,7,18] ?_
 refine gk_ifn (fun c1=> ?_) (fun c1=> ?_)
 ·try simp only[toN]at c1
  exact absurd hc.1 c1
 ·try simp only[toN]at c1
  refine gk_region env false [] [0,2,4,6,7,20] ?_
  refine gk_region env false [] [0,2,4,6,7,20,21] ?_
  refine gk_ifd (fun c2=> ?_) (fun c2=> ?_)
  ·try simp only[toN]at c2
   refine gk_region env false [] [0,2,4,6,7,23] ?_
   refine gk_if (fun c3=> ?_) (fun c3=> ?_)
   ·try simp only[bb,toN]at c3
    cases c3
   ·try simp only[bb,toN]at c3
    refine gk_region env false [] [0,2,4,6,7,28] ?_
    refine gk_ifd (fun c4=> ?_) (fun c4=> ?_)
    ·try simp only[toN]at c4
     exact absurd c4 hc.2.2
    ·try simp only[toN]at c4
     refine gk_region env false [.callm [0] (close_ok n rooms cl l hl hno hX hlc)] [0,4,6,7] ?_ (hp:=(by simp only[AllP,bb,toN,loI,hiI];repeat' first|exact trivial|exact EntL.refl _|exact BEntL.refl _|exact rfl|exact look_I _ _|exact mput_I _ _ _|omega|apply And.intro|intro _))
     refine gk_retX env [.d (.row default foC (outV (cntV n rooms cl l) (clsF n (cntV n rooms cl l) (cntV n rooms cl l) [] []))),iG 0] (hp:= ?_)
     simp only[AllP]
     repeat' first|exact trivial|exact rfl|apply And.intro
  ·try simp only[toN]at c2
   exact absurd hc.2.1 c2
theorem take_shut_ok (n:Nat) (rooms cl:Int) (e:Fe) (l offers:List Fe) (m0:List (Int×Int)) (hnr:¬reoB n rooms m0 e):GM Tryz.prog 45 [.ptr 0 0 0 0,feG e,.d (.row default feC l)] [.box [iG n,iG rooms,iG cl,bG true,.d (.row default feC offers),.mp 1],.mp (m0.map encI)] (.tup [.d (.sc (.slice none 0 0)),iG (errV n rooms cl true m0 e)]) [some (.box [iG n,iG rooms,iG cl,bG true,.d (.row default feC offers),.mp 1]),some (.mp (m0.map encI))]:=by
 refine gm_of_gk Tryz.func45 ?_
 refine gk_region env false [] [0,2,4,6,7] ?_
 refine gk_region env false [.call (chk_ok n rooms e)] [0,2,4,6,7,18] ?_
 refine gk_ifn (fun c1=> ?_) (fun c1=> ?_)
 ·try simp only[toN]at c1
  refine gk_region env false [] [0,2,4,6,7] ?_
  refine gk_retX env [.d (.sc (.slice none 0 0)),iG (errV n rooms cl true m0 e)] (hp:= ?_)
  have hE:errV n rooms cl true m0 e=1:=by unfold errV;first|(simp[*];done)|simp_all
  simp only[AllP,hE]
  repeat' first|exact trivial|exact rfl|apply And.intro
 ·try simp only[toN]at c1
  refine gk_region env false [] [0,2,4,6,7,20] ?_
  refine gk_region env false [] [0,2,4,6,7,20,21] ?_
  refine gk_ifd (fun c2=> ?_) (fun c2=> ?_)
  ·try simp only[toN]at c2
   refine gk_region env false [] [0,2,4,6,7,23] ?_
   refine gk_if (fun c3=> ?_) (fun c3=> ?_)
   ·try simp only[bb,toN]at c3
    refine gk_region env false [] [0,2,4,6,7] ?_
    refine gk_retX env [.d (.sc (.slice none 0 0)),iG (errV n rooms cl true m0 e)] (hp:= ?_)
    have hE:errV n rooms cl true m0 e=7:=by unfold errV;first|(simp[*];done)|simp_all
    simp only[AllP,hE]
    repeat' first|exact trivial|exact rfl|apply And.intro
   ·try simp only[bb,toN]at c3
    cases c3
  ·try simp only[toN]at c2
   refine gk_region env false [] [0,4,6,7,41] ?_
   refine gk_ifd (fun c4=> ?_) (fun c4=> ?_)
   ·try simp only[toN]at c4
    refine gk_region env false [] [0,4,6,7,43] ?_
    refine gk_if (fun c5=> ?_) (fun c5=> ?_)
    ·try simp only[bb,toN]at c5
     cases c5
    ·try simp only[bb,toN]at c5
     refine gk_region env false [.look (.int .i64 (gI e.no m0)) (getI e.no m0).isSome] [0,4,6,7,49] ?_ (hp:=(by simp only[AllP,bb,toN,loI,hiI];repeat' first|exact trivial|exact EntL.refl _|exact BEntL.refl _|exact rfl|exact look_I _ _|exact mput_I _ _ _|omega|apply And.intro|intro _))
     refine gk_ifd (fun c6=> ?_) (fun c6=> ?_)
     ·try simp only[toN]at c6
      refine gk_region env false [] [0,4,6,7] ?_
      refine gk_retX env [.d (.sc (.slice none 0 0)),iG (errV n rooms cl true m0 e)] (hp:= ?_)
      have hE:errV n rooms cl true m0 e=4:=by unfold errV;first|(simp[*];done)|simp_all
      simp only[AllP,hE]
      repeat' first|exact trivial|exact rfl|apply And.intro
     ·try simp only[toN]at c6
      exact absurd ⟨c1,c4,c6⟩ hnr
   ·try simp only[toN]at c4
    refine gk_region env false [] [6,7,74] ?_
    refine gk_if (fun c7=> ?_) (fun c7=> ?_)
    ·try simp only[bb,toN]at c7
     refine gk_region env false [] [6,7] ?_
     refine gk_retX env [.d (.sc (.slice none 0 0)),iG (errV n rooms cl true m0 e)] (hp:= ?_)
     have hE:errV n rooms cl true m0 e=16:=by unfold errV;first|(simp[*];done)|simp_all
     simp only[AllP,hE]
     repeat' first|exact trivial|exact rfl|apply And.intro
    ·try simp only[bb,toN]at c7
     refine gk_region env false [] [6,7] ?_
     refine gk_retX env [.d (.sc (.slice none 0 0)),iG (errV n rooms cl true m0 e)] (hp:= ?_)
     have hE:errV n rooms cl true m0 e=0:=by unfold errV;first|(simp[*];done)|simp_all
     simp only[AllP,hE]
     repeat' first|exact trivial|exact rfl|apply And.intro
theorem take_reopen_ok (n:Nat) (rooms cl:Int) (e:Fe) (l offers:List Fe) (m0:List (Int×Int)) (hr:reoB n rooms m0 e) (ho:offers.length≤1000) (hX:DuesX n (stlF (reF e.no (bfM m0 offers [])) (fun x=>eqb_Grp (ofV x) (grF e.no offers ⟨0,0⟩)) offers ([],[],m0)).1):GM Tryz.prog 45 [.ptr 0 0 0 0,feG e,.d (.row default feC l)] [.box [iG n,iG rooms,iG cl,bG true,.d (.row default feC offers),.mp 1],.mp (m0.map encI)] (.tup [.d (.row default foC (roV n e.no offers m0)),iG 0]) [some (.box [iG n,iG rooms,iG cl,bG true,.d (.row default feC offers),.mp 1]),some (.mp ((reM n e.no offers m0).map encI))]:=by
 refine gm_of_gk Tryz.func45 ?_
 refine gk_region env false [] [0,2,4,6,7] ?_
 refine gk_region env false [.call (chk_ok n rooms e)] [0,2,4,6,7,18] ?_
 refine gk_ifn (fun c1=> ?_) (fun c1=> ?_)
 ·try simp only[toN]at c1
  exact absurd hr.1 c1
 ·try simp only[toN]at c1
  refine gk_region env false [] [0,2,4,6,7,20] ?_
  refine gk_region env false [] [0,2,4,6,7,20,21] ?_
  refine gk_ifd (fun c2=> ?_) (fun c2=> ?_)
  ·try simp only[toN]at c2
   exact absurd (c2.symm.trans hr.2.1) (by decide)
  ·try simp only[toN]at c2
   refine gk_region env false [] [0,4,6,7,41] ?_
   refine gk_ifd (fun c3=> ?_) (fun c3=> ?_)
   ·try simp only[toN]at c3
    refine gk_region env false [] [0,4,6,7,43] ?_
    refine gk_if (fun c4=> ?_) (fun c4=> ?_)
    ·try simp only[bb,toN]at c4
     cases c4
    ·try simp only[bb,toN]at c4
     refine gk_region env false [.look (.int .i64 (gI e.no m0)) (getI e.no m0).isSome] [0,4,6,7,49] ?_ (hp:=(by simp only[AllP,bb,toN,loI,hiI];repeat' first|exact trivial|exact EntL.refl _|exact BEntL.refl _|exact rfl|exact look_I _ _|exact mput_I _ _ _|omega|apply And.intro|intro _))
     refine gk_ifd (fun c5=> ?_) (fun c5=> ?_)
     ·try simp only[toN]at c5
      exact absurd c5 hr.2.2
     ·try simp only[toN]at c5
      refine gk_region env false [.callm [0,1] (reopen_ok n rooms cl offers m0 e.no ho hX)] [0,4,6,7] ?_ (hp:=(by simp only[AllP,bb,toN,loI,hiI];repeat' first|exact trivial|exact EntL.refl _|exact BEntL.refl _|exact rfl|exact look_I _ _|exact mput_I _ _ _|omega|apply And.intro|intro _))
      refine gk_retX env [.d (.row default foC (roV n e.no offers m0)),iG 0] (hp:= ?_)
      simp only[AllP]
      repeat' first|exact trivial|exact rfl|apply And.intro
   ·try simp only[toN]at c3
    exact absurd hr.2.1 c3
end Go.Gh
