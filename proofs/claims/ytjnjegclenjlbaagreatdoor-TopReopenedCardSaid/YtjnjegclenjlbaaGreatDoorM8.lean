/- Walks by the logic of calls, and plain laws (several texts in one). -/
import Derived.Test.YtjnjegclenjlbaaGreatDoorM7
import Derived.Test.YtjnjegclenjlbaaGreatDoorGh4
namespace Go.Gh
open Go Go.Proofs
set_option maxRecDepth 1000000
set_option maxHeartbeats 2000000
set_option linter.unusedSimpArgs false
set_option linter.unusedVariables false
set_option linter.unnecessarySimpa false
open Go.RowKit
structure Grp where
 cur:Int
 due:Int
deriving DecidableEq
instance :Inhabited Grp:=⟨⟨0,0⟩⟩
def encI (e:Int×Int):Value×Value:=(.int .i64 e.1,.int .i64 e.2)
def putI (k v:Int):List (Int×Int)→List (Int×Int)
 | []=>[(k,v)]
 |e::l=>if k=e.1 then (k,v)::l else e::putI k v l
def getI (k:Int):List (Int×Int)→Option Int
 | []=>none
 |e::l=>if k=e.1 then some e.2 else getI k l
def gI (k:Int) (l:List (Int×Int)):Int:=(getI k l).getD 0
theorem mput_I (k v:Int):∀l:List (Int×Int),mput (.int .i64 k) (.int .i64 v) (l.map encI)=some ((putI k v l).map encI):=by
 intro l
 induction l with
 |nil=>rfl
 |cons a l ih=>
  show (match some (decide (k=a.1))with|some true=>_|some false=>_|none=>_)=_
  by_cases e:k=a.1
  ·rw[decide_eq_true e,putI,if_pos e,List.map_cons]
   simp[encI,e]
  ·rw[decide_eq_false e]
   show (match mput (.int .i64 k) (.int .i64 v) (l.map encI)with|some l'=>some (encI a::l')|none=>none)=_
   rw[ih,putI,if_neg e];rfl
theorem mget_I (k:Int):∀l:List (Int×Int),mget (.int .i64 k) (l.map encI)=some ((getI k l).map fun v=> .int .i64 v):=by
 intro l
 induction l with
 |nil=>rfl
 |cons a l ih=>
  show (match some (decide (k=a.1))with|some true=>_|some false=>_|none=>_)=_
  by_cases e:k=a.1
  ·rw[decide_eq_true e,getI,if_pos e];rfl
  ·rw[decide_eq_false e]
   show mget (.int .i64 k) (l.map encI)=_
   rw[ih,getI,if_neg e]
theorem look_I (k:Int) (l:List (Int×Int)):lookP (.int .i64 k) (l.map encI) (.int .i64 0) (.int .i64 (gI k l)) (getI k l).isSome:=by
 unfold lookP gI
 rw[mget_I]
 cases getI k l with
 |none=>exact .inr ⟨rfl,rfl,rfl⟩
 |some v=>exact .inl ⟨rfl,rfl⟩
theorem gI_put (k v j:Int):∀l:List (Int×Int),gI j (putI k v l)=if j=k then v else gI j l:=by
 intro l
 unfold gI
 induction l with
 |nil=>
  simp only[putI,getI]
  split<;>rfl
 |cons a l ih=>
  rw[putI]
  split
  ·rename_i e
   simp only[getI]
   by_cases h:j=k
   ·rw[if_pos h,if_pos h];rfl
   ·rw[if_neg h,if_neg h,if_neg (by rw[←e];exact h)]
  ·rename_i e
   simp only[getI]
   by_cases h:j=a.1
   ·rw[if_pos h,if_pos h,if_neg (by rw[h];exact fun x=>e x.symm)]
   ·rw[if_neg h,if_neg h];exact ih
def stlF (f:Fe→Int) (ofv:Fe→Bool):List Fe→List Du×List Int×List (Int×Int)→List Du×List Int×List (Int×Int)
 | [],a=>a
 |e::l,a=>stlF f ofv l (if ofv e=true then ((if 0<f e then a.1++ [⟨e.fr,e.to_,f e⟩]else a.1),(if 0<f e then a.2.1++ [e.no]else a.2.1),putI e.no 0 a.2.2)else a)
def putZ:List Int→List Int→List (Int×Int)→List (Int×Int)
 |n::ns,s::ss,m=>putZ ns ss (putI n s m)
 |_,_,m=>m
def settleV (n:Nat) (f:Fe→Int) (ofv:Fe→Bool) (offers:List Fe) (cl:List (Int×Int)):List (Int×Int):=
 putZ (stlF f ofv offers ([],[],cl)).2.1 (clrF n (stlF f ofv offers ([],[],cl)).1) (stlF f ofv offers ([],[],cl)).2.2
theorem stlF_len (f:Fe→Int) (ofv:Fe→Bool):∀(l:List Fe) (a:List Du×List Int×List (Int×Int)),a.1.length=a.2.1.length→(stlF f ofv l a).1.length=(stlF f ofv l a).2.1.length∧(stlF f ofv l a).1.length≤a.1.length+l.length:=by
 intro l
 induction l with
 |nil=>intro a h;exact ⟨h,Nat.le_refl _⟩
 |cons e l ih=>
  intro a h
  rw[stlF]
  split
  ·obtain ⟨h1,h2⟩:=ih ((if 0<f e then a.1++ [⟨e.fr,e.to_,f e⟩]else a.1),(if 0<f e then a.2.1++ [e.no]else a.2.1),putI e.no 0 a.2.2) (by dsimp only;split<;>simp[h])
   refine ⟨h1,Nat.le_trans h2 ?_⟩
   dsimp only
   split<;>simp<;>omega
  ·obtain ⟨h1,h2⟩:=ih a h
   exact ⟨h1,by simp only[List.length_cons];omega⟩
theorem putZ_drop (ns ss:List Int):∀(m k:Nat) (c:List (Int×Int)),ss.length-k=m→ns.length=ss.length→k<ss.length→putZ (ns.drop k) (ss.drop k) c=putZ (ns.drop (k+1)) (ss.drop (k+1)) (putI (ns.getD k 0) (ss.getD k 0) c):=by
 intro m k c hm hl hk
 rw[List.drop_eq_getElem_cons hk,List.drop_eq_getElem_cons (show k<ns.length by omega),putZ,List.getD_eq_getElem?_getD,List.getD_eq_getElem?_getD,List.getElem?_eq_getElem hk,List.getElem?_eq_getElem (show k<ns.length by omega)]
 rfl
theorem putZ_end (ns ss:List Int) (c:List (Int×Int)):putZ (ns.drop ss.length) (ss.drop ss.length) c=c:=by
 rw[List.drop_length]
 cases ns.drop ss.length<;>rfl
abbrev gpG (x:Grp):G:= .agg [iG x.cur,iG x.due]
def eqb_Grp (a b:Grp):Bool:=decide (a.cur=b.cur)&&(decide (a.due=b.due)&&(true))
theorem eqc_Grp (a b:Grp):EqC Tryz.prog 226 [.int .i64 a.cur,.int .i64 a.due] [.int .i64 b.cur,.int .i64 b.due] (eqb_Grp a b):=EqC.of tab_ok rfl rfl (by kernel_rfl) (by kernel_rfl) (.int tab_ok rfl rfl rfl rfl (.int tab_ok rfl rfl rfl rfl .nil))
def ofV (e:Fe):Grp:=⟨e.cur,e.due⟩
theorem of_ok (e:Fe):GC Tryz.prog 130 [feG e] (gpG (ofV e)):=by
 refine gc_of_gk Tryz.func130 ?_
 refine gk_region env false [] [1,2] ?_
 refine gk_region env false [] [2] ?_
 refine gk_ret env ?_
 rw[ofV];rfl
theorem clo1_ok (e:Fe):GC Tryz.prog 132 [feG e] (iG e.sum):=by
 refine gc_of_gk Tryz.func132 ?_
 refine gk_region env false [] [1,2] ?_
 refine gk_region env false [] [2] ?_
 refine gk_ret env ?_
 rfl
def reF (no:Int) (M:List (Int×Int)) (e:Fe):Int:=if e.no=no then 0 else gI e.no M
theorem clo2_ok (e:Fe) (no:Int) (M:List (Int×Int)):GM Tryz.prog 133 [feG e,.ep [.sc (.int .i64 no)],.ptr 0 0 0 0] [.box [.mp 1],.mp (M.map encI)] (iG (reF no M e)) [some (.box [.mp 1]),some (.mp (M.map encI))]:=by
 refine gm_of_gk Tryz.func133 ?_
 refine gk_region env false [] [1,2,3,4] ?_
 refine gk_region env false [] [2,3,4,8] ?_
 refine gk_ifd (fun c1=> ?_) (fun c1=> ?_)
 ·try simp only[toN]at c1
  refine gk_region env false [] [2,3,4] ?_
  refine gk_retX env [iG (reF no M e)] (hp:= ?_)
  rw[reF,if_pos c1]
  (try simp only[AllP,Nat.zero_add]);repeat' first|exact trivial|exact rfl|exact EntL.refl _|exact BEntL.refl _|omega|apply And.intro|(simp;done)|(simp[*];done)
 ·try simp only[toN]at c1
  refine gk_region env false [.look (.int .i64 (gI e.no M)) (getI e.no M).isSome] [4] ?_ (hp:=(by simp only[AllP,bb,toN,loI,hiI];repeat' first|exact trivial|exact EntL.refl _|exact BEntL.refl _|exact rfl|exact look_I _ _|exact mput_I _ _ _|omega|apply And.intro|intro _))
  refine gk_retX env [iG (reF no M e)] (hp:= ?_)
  rw[reF,if_neg c1]
  (try simp only[AllP,Nat.zero_add]);repeat' first|exact trivial|exact rfl|exact EntL.refl _|exact BEntL.refl _|omega|apply And.intro|(simp;done)|(simp[*];done)
theorem settle1_ok (n:Nat) (rooms cl:Int) (cd:Bool) (offers:List Fe) (m0:List (Int×Int)) (g:Grp) (ho:offers.length≤1000) (hX:DuesX n (stlF Fe.sum (fun e=>eqb_Grp (ofV e) g) offers ([],[],m0)).1):GM Tryz.prog 131 [.ptr 0 0 0 0,gpG g,.d (.sc (.func (.func 132) #[] #[]))] [.box [iG n,iG rooms,iG cl,bG cd,.d (.row default feC offers),.mp 1],.mp (m0.map encI)] (.tup []) [some (.box [iG n,iG rooms,iG cl,bG cd,.d (.row default feC offers),.mp 1]),some (.mp ((settleV n Fe.sum (fun e=>eqb_Grp (ofV e) g) offers m0).map encI))]:=by
 obtain ⟨TT,hTT⟩:∃t,t=(stlF Fe.sum (fun e=>eqb_Grp (ofV e) g) offers ([],[],m0)):=⟨_,rfl⟩
 have hTl:=stlF_len Fe.sum (fun e=>eqb_Grp (ofV e) g) offers ([],[],m0) rfl
 have hsv:settleV n Fe.sum (fun e=>eqb_Grp (ofV e) g) offers m0=putZ TT.2.1 (clrF n TT.1) TT.2.2:=by rw[hTT];rfl
 rw[hsv]
 rw[←hTT]at hX hTl
 have hcl:(clrF n TT.1).length=TT.1.length:=(clr_ok hX.toDuesOK).caps.len
 have hd100:=hX.l100
 refine gm_of_gk Tryz.func131 ?_
 refine gk_region env false [] [0,2,4] ?_
 refine gk_region env false [] [0,2,4,6] ?_
 refine gk_region env false [] [0,2,4,6,7] ?_
 refine gk_region env false [] [0,2,4,6,7,19,20,21] ?_
 refine gk_nil 6 50 3 (default:Du) duC (by rfl) (by rfl) ?_
 refine gk_nil 7 3 1 (0:Int) inC (by rfl) (by rfl) ?_
 refine gk_loop (α:=List Du×List Int×List (Int×Int)×Nat) (fun x=>x.2.2.2≤offers.length∧TT=stlF Fe.sum (fun e=>eqb_Grp (ofV e) g) (offers.drop x.2.2.2) (x.1,x.2.1,x.2.2.1)∧x.1.length≤x.2.2.2∧x.2.1.length=x.1.length) (fun x=>[(6,.sl 3 3 0 x.1.length),(7,.sl 4 1 0 x.2.1.length),(21,iG x.2.2.2)]) (fun x=>[(3,some (.row 50 3 (default:Du) duC x.1 0)),(4,some (.row 3 1 (0:Int) inC x.2.1 0)),(1,some (.mp (x.2.2.1.map encI)))]) (fun x=>offers.length-x.2.2.2) ([],[],m0,0) ⟨Nat.zero_le _,hTT,Nat.le_refl _,rfl⟩ ?_ (hp:=by (try simp only[AllP,Nat.zero_add]);repeat' first|exact trivial|exact rfl|exact EntL.refl _|exact BEntL.refl _|omega|apply And.intro|(simp;done)|(simp[*];done))
 rintro ⟨d,ns,m,k⟩ ⟨hk,he,hdl,hnl⟩
 dsimp only at*
 refine gk_region env false [] [0,2,4,6,7,19,20,21,22] ?_
 refine gk_ifd (fun c1=> ?_) (fun c1=> ?_)
 ·try simp only[toN]at c1
  have hk2:k<offers.length:=by omega
  refine gk_region env false [] [0,2,4,6,7,9,19,20,21] ?_ (hp:=(by simp only[AllP,bb,toN,loI,hiI];repeat' first|exact trivial|exact EntL.refl _|exact BEntL.refl _|exact rfl|exact look_I _ _|exact mput_I _ _ _|omega|apply And.intro|intro _))
  refine gk_region env false [.call (of_ok (offers.getD k default)),.eq (eqc_Grp (ofV (offers.getD k default)) g)] [0,2,4,6,7,9,19,20,21,28] ?_ (hp:=(by simp only[AllP,bb,toN,loI,hiI];repeat' first|exact trivial|exact EntL.refl _|exact BEntL.refl _|exact rfl|exact look_I _ _|exact mput_I _ _ _|omega|apply And.intro|intro _))
  refine gk_if (fun c2=> ?_) (fun c2=> ?_)
  ·try simp only[bb,toN]at c2
   refine gk_region env false [] [0,2,4,6,7,19,20,21] ?_ (hp:=(by simp only[AllP,bb,toN,loI,hiI];repeat' first|exact trivial|exact EntL.refl _|exact BEntL.refl _|exact rfl|exact look_I _ _|exact mput_I _ _ _|omega|apply And.intro|intro _))
   refine gk_round ((d,ns,m,k+1)) ?_ (hp:=by (try simp only[AllP,Nat.zero_add,List.length_append,List.length_cons,List.length_nil]);repeat' first|exact trivial|exact rfl|omega|apply And.intro) (hm:=by dsimp only;omega)
   refine ⟨hk2,?_,by dsimp only;omega,hnl⟩
   rw[he,dropC hk2,stlF,if_neg (by rw[show eqb_Grp (ofV (offers.getD k default)) g=false from c2];decide)]
  ·try simp only[bb,toN]at c2
   refine gk_region env false [.call (clo1_ok (offers.getD k default))] [0,2,4,6,7,9,10,19,20,21] ?_ (hp:=(by simp only[AllP,bb,toN,loI,hiI];repeat' first|exact trivial|exact EntL.refl _|exact BEntL.refl _|exact rfl|exact look_I _ _|exact mput_I _ _ _|omega|apply And.intro|intro _))
   refine gk_region env false [] [0,2,4,6,7,9,10,19,20,21,33] ?_
   refine gk_ifd (fun c3=> ?_) (fun c3=> ?_)
   ·try simp only[toN]at c3
    refine gk_region env false [.el (default:Du) duC [⟨(offers.getD k default).fr,(offers.getD k default).to_,Fe.sum (offers.getD k default)⟩],.el (default:Du) duC (d++ [⟨(offers.getD k default).fr,(offers.getD k default).to_,Fe.sum (offers.getD k default)⟩]),.el (0:Int) inC [(offers.getD k default).no],.el (0:Int) inC (ns++ [(offers.getD k default).no])] [0,2,4,6,7,9,19,20,21] ?_ (hp:=(by simp only[AllP,bb,toN,loI,hiI,Int.toNat_natCast];repeat' first|exact trivial|exact EntL.refl _|exact BEntL.refl _|exact rfl|omega|apply And.intro|intro _|(simp[rowL];done)|(simp only[List.length_append,List.length_cons,List.length_nil];omega)|(simp[*];done)))
    refine gk_region env false [.mp ((putI (offers.getD k default).no 0 m).map encI)] [0,2,4,6,7,19,20,21] ?_ (hp:=(by simp only[AllP,bb,toN,loI,hiI];repeat' first|exact trivial|exact EntL.refl _|exact BEntL.refl _|exact rfl|exact look_I _ _|exact mput_I _ _ _|omega|apply And.intro|intro _))
    refine gk_region env false [] [0,2,4,6,7,19,20,21] ?_ (hp:=(by simp only[AllP,bb,toN,loI,hiI];repeat' first|exact trivial|exact EntL.refl _|exact BEntL.refl _|exact rfl|exact look_I _ _|exact mput_I _ _ _|omega|apply And.intro|intro _))
    refine gk_round ((d++ [⟨(offers.getD k default).fr,(offers.getD k default).to_,Fe.sum (offers.getD k default)⟩],ns++ [(offers.getD k default).no],putI (offers.getD k default).no 0 m,k+1)) ?_ (hp:=by (try simp only[AllP,Nat.zero_add,List.length_append,List.length_cons,List.length_nil]);repeat' first|exact trivial|exact rfl|omega|apply And.intro) (hm:=by dsimp only;omega)
    refine ⟨hk2,?_,by simp;omega,by simp[hnl]⟩
    rw[he,dropC hk2,stlF,if_pos (show eqb_Grp (ofV (offers.getD k default)) g=true from c2)]
    dsimp only
    rw[if_pos c3,if_pos c3]
   ·try simp only[toN]at c3
    refine gk_region env false [.mp ((putI (offers.getD k default).no 0 m).map encI)] [0,2,4,6,7,19,20,21] ?_ (hp:=(by simp only[AllP,bb,toN,loI,hiI];repeat' first|exact trivial|exact EntL.refl _|exact BEntL.refl _|exact rfl|exact look_I _ _|exact mput_I _ _ _|omega|apply And.intro|intro _))
    refine gk_region env false [] [0,2,4,6,7,19,20,21] ?_ (hp:=(by simp only[AllP,bb,toN,loI,hiI];repeat' first|exact trivial|exact EntL.refl _|exact BEntL.refl _|exact rfl|exact look_I _ _|exact mput_I _ _ _|omega|apply And.intro|intro _))
    refine gk_round ((d,ns,putI (offers.getD k default).no 0 m,k+1)) ?_ (hp:=by (try simp only[AllP,Nat.zero_add,List.length_append,List.length_cons,List.length_nil]);repeat' first|exact trivial|exact rfl|omega|apply And.intro) (hm:=by dsimp only;omega)
    refine ⟨hk2,?_,by dsimp only;omega,hnl⟩
    rw[he,dropC hk2,stlF,if_pos (show eqb_Grp (ofV (offers.getD k default)) g=true from c2)]
    dsimp only
    rw[if_neg c3,if_neg c3]
 ·try simp only[toN]at c1
  have hke:k=offers.length:=by omega
  subst hke
  rw[List.drop_length,stlF]at he
  obtain ⟨rfl,rfl,rfl⟩:d=TT.1∧ns=TT.2.1∧m=TT.2.2:=by rw[he];exact ⟨rfl,rfl,rfl⟩
  refine gk_region env false [.call (clear_ok n TT.1 hX)] [0,7,11] ?_ (hp:=(by simp only[AllP,bb,toN,loI,hiI];repeat' first|exact trivial|exact EntL.refl _|exact BEntL.refl _|exact rfl|exact look_I _ _|exact mput_I _ _ _|omega|apply And.intro|intro _))
  refine gk_region env false [] [0,7,65,66,67] ?_
  refine gk_loop (α:=List (Int×Int)×Nat) (fun x=>x.2≤TT.1.length∧putZ TT.2.1 (clrF n TT.1) TT.2.2=putZ (TT.2.1.drop x.2) ((clrF n TT.1).drop x.2) x.1) (fun x=>[(67,iG x.2)]) (fun x=>[(1,some (.mp (x.1.map encI)))]) (fun x=>TT.1.length-x.2) (TT.2.2,0) ⟨Nat.zero_le _,rfl⟩ ?_ (hp:=by (try simp only[AllP,Nat.zero_add]);repeat' first|exact trivial|exact rfl|exact EntL.refl _|exact BEntL.refl _|omega|apply And.intro|(simp;done)|(simp[*];done))
  rintro ⟨m,k⟩ ⟨hk,he⟩
  dsimp only at*
  refine gk_region env false [] [0,7,65,66,67,68] ?_
  refine gk_ifd (fun c4=> ?_) (fun c4=> ?_)
  ·try simp only[toN]at c4
   have hk2:k<TT.1.length:=by omega
   refine gk_region env false [] [0,7,14,15,65,66,67] ?_ (hp:=(by simp only[AllP,bb,toN,loI,hiI];repeat' first|exact trivial|exact EntL.refl _|exact BEntL.refl _|exact rfl|exact look_I _ _|exact mput_I _ _ _|omega|apply And.intro|intro _))
   refine gk_region env false [.mp ((putI (TT.2.1.getD k 0) ((clrF n TT.1).getD k 0) m).map encI)] [0,7,65,66,67] ?_ (hp:=(by simp only[AllP,bb,toN,loI,hiI];repeat' first|exact trivial|exact EntL.refl _|exact BEntL.refl _|exact rfl|exact look_I _ _|exact mput_I _ _ _|omega|apply And.intro|intro _))
   refine gk_region env false [] [0,7,65,66,67] ?_ (hp:=(by simp only[AllP,bb,toN,loI,hiI];repeat' first|exact trivial|exact EntL.refl _|exact BEntL.refl _|exact rfl|exact look_I _ _|exact mput_I _ _ _|omega|apply And.intro|intro _))
   refine gk_round ((putI (TT.2.1.getD k 0) ((clrF n TT.1).getD k 0) m,k+1)) ?_ (hp:=by (try simp only[AllP,Nat.zero_add]);repeat' first|exact trivial|exact rfl|exact EntL.refl _|exact BEntL.refl _|omega|apply And.intro|(simp;done)|(simp[*];done)) (hm:=by dsimp only;omega)
   refine ⟨hk2,he.trans ?_⟩
   exact putZ_drop _ _ _ _ _ rfl (by omega) (by omega)
  ·try simp only[toN]at c4
   refine gk_endX env [] (hp:= ?_)
   have hke:k=(clrF n TT.1).length:=by omega
   subst hke
   rw[putZ_end]at he
   rw[he]
   (try simp only[AllP,Nat.zero_add]);repeat' first|exact trivial|exact rfl|exact EntL.refl _|exact BEntL.refl _|omega|apply And.intro|(simp;done)|(simp[*];done)
theorem settle2_ok (n:Nat) (rooms cl:Int) (cd:Bool) (offers:List Fe) (m0:List (Int×Int)) (g:Grp) (no:Int) (M:List (Int×Int)) (ho:offers.length≤1000) (hX:DuesX n (stlF (reF no M) (fun e=>eqb_Grp (ofV e) g) offers ([],[],m0)).1):GM Tryz.prog 131 [.ptr 0 0 0 0,gpG g,.fn (.func 133) [] [.ep [.sc (.int .i64 no)],.ptr 2 0 0 0]] [.box [iG n,iG rooms,iG cl,bG cd,.d (.row default feC offers),.mp 1],.mp (m0.map encI),.box [.mp 3],.mp (M.map encI)] (.tup []) [some (.box [iG n,iG rooms,iG cl,bG cd,.d (.row default feC offers),.mp 1]),some (.mp ((settleV n (reF no M) (fun e=>eqb_Grp (ofV e) g) offers m0).map encI)),some (.box [.mp 3]),some (.mp (M.map encI))]:=by
 obtain ⟨TT,hTT⟩:∃t,t=(stlF (reF no M) (fun e=>eqb_Grp (ofV e) g) offers ([],[],m0)):=⟨_,rfl⟩
 have hTl:=stlF_len (reF no M) (fun e=>eqb_Grp (ofV e) g) offers ([],[],m0) rfl
 have hsv:settleV n (reF no M) (fun e=>eqb_Grp (ofV e) g) offers m0=putZ TT.2.1 (clrF n TT.1) TT.2.2:=by rw[hTT];rfl
 rw[hsv]
 rw[←hTT]at hX hTl
 have hcl:(clrF n TT.1).length=TT.1.length:=(clr_ok hX.toDuesOK).caps.len
 have hd100:=hX.l100
 refine gm_of_gk Tryz.func131 ?_
 refine gk_region env false [] [0,2,4] ?_
 refine gk_region env false [] [0,2,4,6] ?_
 refine gk_region env false [] [0,2,4,6,7] ?_
 refine gk_region env false [] [0,2,4,6,7,19,20,21] ?_
 refine gk_nil 6 50 3 (default:Du) duC (by rfl) (by rfl) ?_
 refine gk_nil 7 3 1 (0:Int) inC (by rfl) (by rfl) ?_
 refine gk_loop (α:=List Du×List Int×List (Int×Int)×Nat) (fun x=>x.2.2.2≤offers.length∧TT=stlF (reF no M) (fun e=>eqb_Grp (ofV e) g) (offers.drop x.2.2.2) (x.1,x.2.1,x.2.2.1)∧x.1.length≤x.2.2.2∧x.2.1.length=x.1.length) (fun x=>[(6,.sl 5 3 0 x.1.length),(7,.sl 6 1 0 x.2.1.length),(21,iG x.2.2.2)]) (fun x=>[(5,some (.row 50 3 (default:Du) duC x.1 0)),(6,some (.row 3 1 (0:Int) inC x.2.1 0)),(1,some (.mp (x.2.2.1.map encI)))]) (fun x=>offers.length-x.2.2.2) ([],[],m0,0) ⟨Nat.zero_le _,hTT,Nat.le_refl _,rfl⟩ ?_ (hp:=by (try simp only[AllP,Nat.zero_add]);repeat' first|exact trivial|exact rfl|exact EntL.refl _|exact BEntL.refl _|omega|apply And.intro|(simp;done)|(simp[*];done))
 rintro ⟨d,ns,m,k⟩ ⟨hk,he,hdl,hnl⟩
 dsimp only at*
 refine gk_region env false [] [0,2,4,6,7,19,20,21,22] ?_
 refine gk_ifd (fun c1=> ?_) (fun c1=> ?_)
 ·try simp only[toN]at c1
  have hk2:k<offers.length:=by omega
  refine gk_region env false [] [0,2,4,6,7,9,19,20,21] ?_ (hp:=(by simp only[AllP,bb,toN,loI,hiI];repeat' first|exact trivial|exact EntL.refl _|exact BEntL.refl _|exact rfl|exact look_I _ _|exact mput_I _ _ _|omega|apply And.intro|intro _))
  refine gk_region env false [.call (of_ok (offers.getD k default)),.eq (eqc_Grp (ofV (offers.getD k default)) g)] [0,2,4,6,7,9,19,20,21,28] ?_ (hp:=(by simp only[AllP,bb,toN,loI,hiI];repeat' first|exact trivial|exact EntL.refl _|exact BEntL.refl _|exact rfl|exact look_I _ _|exact mput_I _ _ _|omega|apply And.intro|intro _))
  refine gk_if (fun c2=> ?_) (fun c2=> ?_)
  ·try simp only[bb,toN]at c2
   refine gk_region env false [] [0,2,4,6,7,19,20,21] ?_ (hp:=(by simp only[AllP,bb,toN,loI,hiI];repeat' first|exact trivial|exact EntL.refl _|exact BEntL.refl _|exact rfl|exact look_I _ _|exact mput_I _ _ _|omega|apply And.intro|intro _))
   refine gk_round ((d,ns,m,k+1)) ?_ (hp:=by (try simp only[AllP,Nat.zero_add,List.length_append,List.length_cons,List.length_nil]);repeat' first|exact trivial|exact rfl|omega|apply And.intro) (hm:=by dsimp only;omega)
   refine ⟨hk2,?_,by dsimp only;omega,hnl⟩
   rw[he,dropC hk2,stlF,if_neg (by rw[show eqb_Grp (ofV (offers.getD k default)) g=false from c2];decide)]
  ·try simp only[bb,toN]at c2
   refine gk_region env false [.callm [2,3] (clo2_ok (offers.getD k default) no M)] [0,2,4,6,7,9,10,19,20,21] ?_ (hp:=(by simp only[AllP,bb,toN,loI,hiI];repeat' first|exact trivial|exact EntL.refl _|exact BEntL.refl _|exact rfl|exact look_I _ _|exact mput_I _ _ _|omega|apply And.intro|intro _))
   refine gk_region env false [] [0,2,4,6,7,9,10,19,20,21,33] ?_
   refine gk_ifd (fun c3=> ?_) (fun c3=> ?_)
   ·try simp only[toN]at c3
    refine gk_region env false [.el (default:Du) duC [⟨(offers.getD k default).fr,(offers.getD k default).to_,(reF no M) (offers.getD k default)⟩],.el (default:Du) duC (d++ [⟨(offers.getD k default).fr,(offers.getD k default).to_,(reF no M) (offers.getD k default)⟩]),.el (0:Int) inC [(offers.getD k default).no],.el (0:Int) inC (ns++ [(offers.getD k default).no])] [0,2,4,6,7,9,19,20,21] ?_ (hp:=(by simp only[AllP,bb,toN,loI,hiI,Int.toNat_natCast];repeat' first|exact trivial|exact EntL.refl _|exact BEntL.refl _|exact rfl|omega|apply And.intro|intro _|(simp[rowL];done)|(simp only[List.length_append,List.length_cons,List.length_nil];omega)|(simp[*];done)))
    refine gk_region env false [.mp ((putI (offers.getD k default).no 0 m).map encI)] [0,2,4,6,7,19,20,21] ?_ (hp:=(by simp only[AllP,bb,toN,loI,hiI];repeat' first|exact trivial|exact EntL.refl _|exact BEntL.refl _|exact rfl|exact look_I _ _|exact mput_I _ _ _|omega|apply And.intro|intro _))
    refine gk_region env false [] [0,2,4,6,7,19,20,21] ?_ (hp:=(by simp only[AllP,bb,toN,loI,hiI];repeat' first|exact trivial|exact EntL.refl _|exact BEntL.refl _|exact rfl|exact look_I _ _|exact mput_I _ _ _|omega|apply And.intro|intro _))
    refine gk_round ((d++ [⟨(offers.getD k default).fr,(offers.getD k default).to_,(reF no M) (offers.getD k default)⟩],ns++ [(offers.getD k default).no],putI (offers.getD k default).no 0 m,k+1)) ?_ (hp:=by (try simp only[AllP,Nat.zero_add,List.length_append,List.length_cons,List.length_nil]);repeat' first|exact trivial|exact rfl|omega|apply And.intro) (hm:=by dsimp only;omega)
    refine ⟨hk2,?_,by simp;omega,by simp[hnl]⟩
    rw[he,dropC hk2,stlF,if_pos (show eqb_Grp (ofV (offers.getD k default)) g=true from c2)]
    dsimp only
    rw[if_pos c3,if_pos c3]
   ·try simp only[toN]at c3
    refine gk_region env false [.mp ((putI (offers.getD k default).no 0 m).map encI)] [0,2,4,6,7,19,20,21] ?_ (hp:=(by simp only[AllP,bb,toN,loI,hiI];repeat' first|exact trivial|exact EntL.refl _|exact BEntL.refl _|exact rfl|exact look_I _ _|exact mput_I _ _ _|omega|apply And.intro|intro _))
    refine gk_region env false [] [0,2,4,6,7,19,20,21] ?_ (hp:=(by simp only[AllP,bb,toN,loI,hiI];repeat' first|exact trivial|exact EntL.refl _|exact BEntL.refl _|exact rfl|exact look_I _ _|exact mput_I _ _ _|omega|apply And.intro|intro _))
    refine gk_round ((d,ns,putI (offers.getD k default).no 0 m,k+1)) ?_ (hp:=by (try simp only[AllP,Nat.zero_add,List.length_append,List.length_cons,List.length_nil]);repeat' first|exact trivial|exact rfl|omega|apply And.intro) (hm:=by dsimp only;omega)
    refine ⟨hk2,?_,by dsimp only;omega,hnl⟩
    rw[he,dropC hk2,stlF,if_pos (show eqb_Grp (ofV (offers.getD k default)) g=true from c2)]
    dsimp only
    rw[if_neg c3,if_neg c3]
 ·try simp only[toN]at c1
  have hke:k=offers.length:=by omega
  subst hke
  rw[List.drop_length,stlF]at he
  obtain ⟨rfl,rfl,rfl⟩:d=TT.1∧ns=TT.2.1∧m=TT.2.2:=by rw[he];exact ⟨rfl,rfl,rfl⟩
  refine gk_region env false [.call (clear_ok n TT.1 hX)] [0,7,11] ?_ (hp:=(by simp only[AllP,bb,toN,loI,hiI];repeat' first|exact trivial|exact EntL.refl _|exact BEntL.refl _|exact rfl|exact look_I _ _|exact mput_I _ _ _|omega|apply And.intro|intro _))
  refine gk_region env false [] [0,7,65,66,67] ?_
  refine gk_loop (α:=List (Int×Int)×Nat) (fun x=>x.2≤TT.1.length∧putZ TT.2.1 (clrF n TT.1) TT.2.2=putZ (TT.2.1.drop x.2) ((clrF n TT.1).drop x.2) x.1) (fun x=>[(67,iG x.2)]) (fun x=>[(1,some (.mp (x.1.map encI)))]) (fun x=>TT.1.length-x.2) (TT.2.2,0) ⟨Nat.zero_le _,rfl⟩ ?_ (hp:=by (try simp only[AllP,Nat.zero_add]);repeat' first|exact trivial|exact rfl|exact EntL.refl _|exact BEntL.refl _|omega|apply And.intro|(simp;done)|(simp[*];done))
  rintro ⟨m,k⟩ ⟨hk,he⟩
  dsimp only at*
  refine gk_region env false [] [0,7,65,66,67,68] ?_
  refine gk_ifd (fun c4=> ?_) (fun c4=> ?_)
  ·try simp only[toN]at c4
   have hk2:k<TT.1.length:=by omega
   refine gk_region env false [] [0,7,14,15,65,66,67] ?_ (hp:=(by simp only[AllP,bb,toN,loI,hiI];repeat' first|exact trivial|exact EntL.refl _|exact BEntL.refl _|exact rfl|exact look_I _ _|exact mput_I _ _ _|omega|apply And.intro|intro _))
   refine gk_region env false [.mp ((putI (TT.2.1.getD k 0) ((clrF n TT.1).getD k 0) m).map encI)] [0,7,65,66,67] ?_ (hp:=(by simp only[AllP,bb,toN,loI,hiI];repeat' first|exact trivial|exact EntL.refl _|exact BEntL.refl _|exact rfl|exact look_I _ _|exact mput_I _ _ _|omega|apply And.intro|intro _))
   refine gk_region env false [] [0,7,65,66,67] ?_ (hp:=(by simp only[AllP,bb,toN,loI,hiI];repeat' first|exact trivial|exact EntL.refl _|exact BEntL.refl _|exact rfl|exact look_I _ _|exact mput_I _ _ _|omega|apply And.intro|intro _))
   refine gk_round ((putI (TT.2.1.getD k 0) ((clrF n TT.1).getD k 0) m,k+1)) ?_ (hp:=by (try simp only[AllP,Nat.zero_add]);repeat' first|exact trivial|exact rfl|exact EntL.refl _|exact BEntL.refl _|omega|apply And.intro|(simp;done)|(simp[*];done)) (hm:=by dsimp only;omega)
   refine ⟨hk2,he.trans ?_⟩
   exact putZ_drop _ _ _ _ _ rfl (by omega) (by omega)
  ·try simp only[toN]at c4
   refine gk_endX env [] (hp:= ?_)
   have hke:k=(clrF n TT.1).length:=by omega
   subst hke
   rw[putZ_end]at he
   rw[he]
   (try simp only[AllP,Nat.zero_add]);repeat' first|exact trivial|exact rfl|exact EntL.refl _|exact BEntL.refl _|omega|apply And.intro|(simp;done)|(simp[*];done)
structure Fo where
 kind:Int
 room:Int
 no:Int
 sum:Int
deriving DecidableEq
instance :Inhabited Fo:=⟨⟨0,0,0,0⟩⟩
def foC (x:Fo):List D:=[.sc (.int .i64 x.kind),.sc (.int .i64 x.room),.sc (.int .i64 x.no),.sc (.int .i64 x.sum)]
def outB (m:List (Int×Int)) (e:Fe):Bool:=decide (0<gI e.no m)
def outE (m:List (Int×Int)) (e:Fe):Fo:=⟨4,e.room,e.no,gI e.no m⟩
def outV (offers:List Fe) (m:List (Int×Int)):List Fo:=(offers.filter (outB m)).map (outE m)
def outK (offers:List Fe) (m:List (Int×Int)) (k:Nat):List Fo:=((offers.take k).filter (outB m)).map (outE m)
theorem outK_s (offers:List Fe) (m:List (Int×Int)) {k:Nat} (h:k<offers.length):outK offers m (k+1)=outK offers m k++(if 0<gI (offers.getD k default).no m then [outE m (offers.getD k default)]else []):=by
 unfold outK
 rw[take_getD h,List.filter_append,List.map_append,List.filter_cons]
 unfold outB
 by_cases hc:0<gI (offers.getD k default).no m
 ·rw[if_pos hc,if_pos (decide_eq_true hc)];rfl
 ·rw[if_neg hc,if_neg (by simpa using hc)];rfl
theorem outK_len (offers:List Fe) (m:List (Int×Int)) (k:Nat):(outK offers m k).length≤k:=by
 unfold outK
 rw[List.length_map]
 exact Nat.le_trans (List.length_filter_le _ _) (by rw[List.length_take];omega)
theorem outs_ok (n:Nat) (rooms cl:Int) (cd:Bool) (offers:List Fe) (m0:List (Int×Int)) (ho:offers.length≤1000):GM Tryz.prog 28 [.ptr 0 0 0 0] [.box [iG n,iG rooms,iG cl,bG cd,.d (.row default feC offers),.mp 1],.mp (m0.map encI)] (.d (.row default foC (outV offers m0))) [some (.box [iG n,iG rooms,iG cl,bG cd,.d (.row default feC offers),.mp 1]),some (.mp (m0.map encI))]:=by
 refine gm_of_gk Tryz.func28 ?_
 refine gk_region env false [] [0,2] ?_
 refine gk_region env false [] [0,2,3] ?_
 refine gk_region env false [] [0,2,3,10,11,12] ?_
 refine gk_nil 3 82 4 (default:Fo) foC (by rfl) (by rfl) ?_
 refine gk_loop (α:=Nat) (fun k=>k≤offers.length) (fun k=>[(3,.sl 2 4 0 (outK offers m0 k).length),(12,iG k)]) (fun k=>[(2,some (.row 82 4 (default:Fo) foC (outK offers m0 k) 0))]) (fun k=>offers.length-k) 0 (Nat.zero_le _) ?_ (hp:=by (try simp only[AllP,Nat.zero_add]);repeat' first|exact trivial|exact rfl|exact EntL.refl _|exact BEntL.refl _|omega|apply And.intro|(simp;done)|(simp[*];done))
 rintro k hk
 refine gk_region env false [] [0,2,3,10,11,12,13] ?_
 refine gk_ifd (fun c1=> ?_) (fun c1=> ?_)
 ·try simp only[toN]at c1
  have hk2:k<offers.length:=by omega
  have hs:=outK_s offers m0 hk2
  have hol:=outK_len offers m0 k
  refine gk_region env false [] [0,2,3,5,10,11,12] ?_ (hp:=(by simp only[AllP,bb,toN,loI,hiI];repeat' first|exact trivial|exact EntL.refl _|exact BEntL.refl _|exact rfl|exact look_I _ _|exact mput_I _ _ _|omega|apply And.intro|intro _))
  refine gk_region env false [.look (.int .i64 (gI (offers.getD k default).no m0)) (getI (offers.getD k default).no m0).isSome] [0,2,3,5,6,10,11,12] ?_ (hp:=(by simp only[AllP,bb,toN,loI,hiI];repeat' first|exact trivial|exact EntL.refl _|exact BEntL.refl _|exact rfl|exact look_I _ _|exact mput_I _ _ _|omega|apply And.intro|intro _))
  refine gk_region env false [] [0,2,3,5,6,10,11,12,24] ?_
  refine gk_ifd (fun c2=> ?_) (fun c2=> ?_)
  ·try simp only[toN]at c2
   refine gk_region env false [.el (default:Fo) foC [outE m0 (offers.getD k default)],.el (default:Fo) foC (outK offers m0 k++ [outE m0 (offers.getD k default)])] [0,2,3,10,11,12] ?_ (hp:=(by simp only[AllP,bb,toN,loI,hiI,Int.toNat_natCast];repeat' first|exact trivial|exact EntL.refl _|exact BEntL.refl _|exact rfl|omega|apply And.intro|intro _|(simp[rowL];done)|(simp only[List.length_append,List.length_cons,List.length_nil];omega)|(simp[*];done)))
   refine gk_region env false [] [0,2,3,10,11,12] ?_ (hp:=(by simp only[AllP,bb,toN,loI,hiI];repeat' first|exact trivial|exact EntL.refl _|exact BEntL.refl _|exact rfl|exact look_I _ _|exact mput_I _ _ _|omega|apply And.intro|intro _))
   refine gk_round (k+1) ?_ (hp:=by rw[if_pos c2]at hs;simp only[AllP,hs];repeat' first|exact trivial|exact rfl|omega|apply And.intro|(simp;done))
   exact hk2
  ·try simp only[toN]at c2
   refine gk_region env false [] [0,2,3,10,11,12] ?_ (hp:=(by simp only[AllP,bb,toN,loI,hiI];repeat' first|exact trivial|exact EntL.refl _|exact BEntL.refl _|exact rfl|exact look_I _ _|exact mput_I _ _ _|omega|apply And.intro|intro _))
   refine gk_round (k+1) ?_ (hp:=by rw[if_neg c2,List.append_nil]at hs;simp only[AllP,hs];repeat' first|exact trivial|exact rfl|omega|apply And.intro)
   exact hk2
 ·try simp only[toN]at c1
  have hke:k=offers.length:=by omega
  subst hke
  refine gk_row 2 ?_
  refine gk_region env false [] [2] ?_
  refine gk_retX env [.d (.row default foC (outV offers m0))] (hp:= ?_)
  have ho2:outK offers m0 offers.length=outV offers m0:=by unfold outK outV;rw[List.take_length]
  rw[ho2]
  (try simp only[AllP,Nat.zero_add]);repeat' first|exact trivial|exact rfl|exact EntL.refl _|exact BEntL.refl _|omega|apply And.intro|(simp;done)|(simp[*];done)
def encG (g:Grp):Value×Value:=(.agg #[.int .i64 g.cur,.int .i64 g.due],.bool true)
def gEq (g:Grp) (v:Value):Bool:=match v with
 | .agg #[.int .i64 a,.int .i64 b]=>eqb_Grp g ⟨a,b⟩
 |_=>false
theorem seen_keys (g:Grp) (l:List Grp):KeysS Tryz.prog 226 [.int .i64 g.cur,.int .i64 g.due] (gEq g) (l.map encG):=fun x hx=>by
 obtain ⟨h,_,rfl⟩:=List.mem_map.1 hx
 exact ⟨[.int .i64 h.cur,.int .i64 h.due],rfl,eqc_Grp g h⟩
theorem eqb_Grp_iff (a b:Grp):eqb_Grp a b=true↔a=b:=by
 cases a;cases b
 simp[eqb_Grp]
theorem seen_look (g:Grp):∀l:List Grp,lookS (gEq g) (l.map encG)=if g∈l then some (.bool true)else none:=by
 intro l
 induction l with
 |nil=>rfl
 |cons a l ih=>
  unfold lookS at ih⊢
  rw[List.map_cons,List.find?_cons]
  have h:gEq g (encG a).1=eqb_Grp g a:=rfl
  rw[h]
  cases hb:eqb_Grp g a with
  |true=>
   rw[if_pos (by rw[(eqb_Grp_iff _ _).1 hb];exact List.mem_cons_self)];rfl
  |false=>
   have hne:g≠a:=fun e=>by rw[(eqb_Grp_iff _ _).2 e]at hb;cases hb
   rw[ih]
   simp[hne]
def clsF (n:Nat) (offers:List Fe):List Fe→List Grp→List (Int×Int)→List (Int×Int)
 | [],_,m=>m
 |e::l,seen,m=>if ofV e∈seen then clsF n offers l seen m else clsF n offers l (seen++ [ofV e]) (settleV n Fe.sum (fun x=>eqb_Grp (ofV x) (ofV e)) offers m)
theorem ck_grp (a b:Int) (e:Bool) (w:World):(Instr.checkKey e 10000 226 (.agg [.int .i64 a,.int .i64 b].toArray)).run Tryz.prog w= .ok () w:=by
 kernel_rfl
theorem close_ok (n:Nat) (rooms cl:Int) (l:List Fe) (hl:l.length≤100) (hno:∀e,e∈evT n rooms cl l→0≤e.no∧e.no<1000) (hX:∀g m0,DuesX n (stlF Fe.sum (fun e=>eqb_Grp (ofV e) g) (cntV n rooms cl l) ([],[],m0)).1) (hlc:(cntV n rooms cl l).length≤100):
 GM Tryz.prog 85 [.ptr 0 0 0 0,.d (.row default feC l)] [.box [iG n,iG rooms,iG cl,bG false,.d (.sc (.slice none 0 0)),.d (.sc (.map none))]] (.tup [.d (.row default foC (outV (cntV n rooms cl l) (clsF n (cntV n rooms cl l) (cntV n rooms cl l) [] []))),iG 0])
  [some (.box [iG n,iG rooms,iG cl,bG true,.d (.row default feC (cntV n rooms cl l)),.mp 1]),some (.mp ((clsF n (cntV n rooms cl l) (cntV n rooms cl l) [] []).map encI))]:=by
 refine gm_of_gk Tryz.func85 ?_
 refine gk_region env false [] [0,1,4,5] ?_
 refine gk_region env false [.call (counting_ok n rooms cl l (by omega) hno)] [0,1,4,5,6] ?_
 obtain ⟨offers,hof⟩:∃o,o=cntV n rooms cl l:=⟨_,rfl⟩
 rw[←hof]at hX hlc⊢
 refine gk_region env false [] [0,4,5,6,27] ?_
 refine gk_ifd (fun c1=> ?_) (fun c1=> ?_)
 ·exfalso;omega
 refine gk_region env false [] [0,4,5,6] ?_
 refine gk_region env false [] [0,4,5,6,7] ?_
 refine gk_region env false [] [0,4,5,7,40,41,42] ?_
 obtain ⟨TG,hTG⟩:∃t,t=clsF n offers offers [] []:=⟨_,rfl⟩
 rw[←hTG]
 refine gk_loop (α:=List Grp×List (Int×Int)×Nat) (fun x=>x.2.2≤offers.length∧TG=clsF n offers (offers.drop x.2.2) x.1 x.2.1) (fun x=>[(42,iG x.2.2)]) (fun x=>[(1,some (.mp (x.2.1.map encI))),(2,some (.mp (x.1.map encG)))]) (fun x=>offers.length-x.2.2) ([],[],0) ⟨Nat.zero_le _,hTG⟩ ?_ (hp:=by (try simp only[AllP,Nat.zero_add]);repeat' first|exact trivial|exact rfl|exact EntL.refl _|exact BEntL.refl _|omega|apply And.intro|(simp;done)|(simp[*];done))
 rintro ⟨seen,m,k⟩ ⟨hk,he⟩
 dsimp only at hk he⊢
 refine gk_region env false [] [0,4,5,7,40,41,42,43] ?_
 refine gk_ifd (fun c2=> ?_) (fun c2=> ?_)
 ·have hk2:k<offers.length:=by omega
  rw[dropC hk2,clsF]at he
  refine gk_region env false [] [0,4,5,7,40,41,42,9] ?_ (hp:=(by simp only[AllP,bb,toN,loI,hiI];repeat' first|exact trivial|exact EntL.refl _|exact BEntL.refl _|exact rfl|exact look_I _ _|exact mput_I _ _ _|omega|apply And.intro|intro _))
  simp only[Int.toNat_natCast]
  generalize hz:offers.getD k default=z at*
  refine gk_region env false [.call (of_ok z)] [0,4,5,7,40,41,42,9,10] ?_ (hp:=(by simp only[AllP,bb,toN,loI,hiI];repeat' first|exact trivial|exact EntL.refl _|exact BEntL.refl _|exact rfl|exact look_I _ _|exact mput_I _ _ _|omega|apply And.intro|intro _))
  refine gk_ops ?_
  refine gwo_chunk env false 2 [] ?_
  refine gwo_lop {g:= .d (.sc (.bool (decide ((ofV z)∈seen)))),fp:=[2]} (lop_lookupS (kt:=226) (et:=4) (z:= .bool false) (gs:=[iG (ofV z).cur,iG (ofV z).due]) (us:=[.int .i64 (ofV z).cur,.int .i64 (ofV z).due]) (L:=seen.map encG) (eqf:=gEq (ofV z)) (v:= .bool (decide ((ofV z)∈seen))) rfl (tab_ok 224 _ rfl).1 (tab_ok 226 _ rfl).1 (fun w=>(tab_ok 4 _ rfl).zeroV w) rfl rfl rfl rfl (ck_grp _ _) (seen_keys _ _) (by rw[seen_look];split<;>simp_all) rfl) ?_
  refine gwo_chunk env false 1 [] ?_
  refine gwo_end [0,4,5,7,40,41,42,9,10,51] ?_
  refine gk_if (fun c3=> ?_) (fun c3=> ?_)
  ·simp only[bb]at c3
   rw[if_neg c3]at he
   refine gk_ops ?_
   refine gwo_chunk env false 2 [] ?_
   refine gwo_lop {g:= .junk,upd:=[(2,some (.mp (seen.map encG++ [encG (ofV z)])))],fp:=[2]} (lop_mapAddS (kt:=226) (et:=4) (gs:=[iG (ofV z).cur,iG (ofV z).due]) (us:=[.int .i64 (ofV z).cur,.int .i64 (ofV z).due]) (L:=seen.map encG) (eqf:=gEq (ofV z)) (v:= .bool true) rfl (tab_ok 224 _ rfl).1 (tab_ok 226 _ rfl).1 rfl rfl rfl rfl rfl (ck_grp _ _) (seen_keys _ _) (by rw[seen_look,if_neg c3])) ?_
   refine gwo_end [0,4,5,7,40,41,42,9,10] ?_
   refine gk_region env false [.callm [0,1] (settle1_ok n rooms cl true offers m (ofV z) (by omega) (hX (ofV z) m))] [0,4,5,7,40,41,42] ?_ (hp:=(by simp only[AllP,bb,toN,loI,hiI];repeat' first|exact trivial|exact EntL.refl _|exact BEntL.refl _|exact rfl|exact look_I _ _|exact mput_I _ _ _|omega|apply And.intro|intro _))
   refine gk_region env false [] [0,4,5,7,40,41,42] ?_ (hp:=(by simp only[AllP,bb,toN,loI,hiI];repeat' first|exact trivial|exact EntL.refl _|exact BEntL.refl _|exact rfl|exact look_I _ _|exact mput_I _ _ _|omega|apply And.intro|intro _))
   refine gk_round (seen++ [(ofV z)],settleV n Fe.sum (fun e=>eqb_Grp (ofV e) (ofV z)) offers m,k+1) ⟨hk2,he⟩ (hp:=by (try simp only[AllP,List.map_append]);repeat' first|exact trivial|exact rfl|omega|apply And.intro) (hm:=by dsimp only;omega)
  ·simp only[bb]at c3
   rw[if_pos c3]at he
   refine gk_region env false [] [0,4,5,7,40,41,42] ?_ (hp:=(by simp only[AllP,bb,toN,loI,hiI];repeat' first|exact trivial|exact EntL.refl _|exact BEntL.refl _|exact rfl|exact look_I _ _|exact mput_I _ _ _|omega|apply And.intro|intro _))
   refine gk_round (seen,m,k+1) ⟨hk2,he⟩ (hp:=by (try simp only[AllP,Nat.zero_add]);repeat' first|exact trivial|exact rfl|exact EntL.refl _|exact BEntL.refl _|omega|apply And.intro|(simp;done)|(simp[*];done)) (hm:=by dsimp only;omega)
 ·have hke:k=offers.length:=by omega
  subst hke
  rw[List.drop_length,clsF]at he
  rw[he]
  refine gk_region env false [.callm [0,1] (outs_ok n rooms cl true offers m (by omega))] [4,5] ?_ (hp:=(by simp only[AllP,bb,toN,loI,hiI];repeat' first|exact trivial|exact EntL.refl _|exact BEntL.refl _|exact rfl|exact look_I _ _|exact mput_I _ _ _|omega|apply And.intro|intro _))
  refine gk_retX env [.d (.row default foC (outV offers m)),iG 0] (hp:= ?_)
  (try simp only[AllP,Nat.zero_add]);repeat' first|exact trivial|exact rfl|exact EntL.refl _|exact BEntL.refl _|omega|apply And.intro|(simp;done)|(simp[*];done)
end Go.Gh
