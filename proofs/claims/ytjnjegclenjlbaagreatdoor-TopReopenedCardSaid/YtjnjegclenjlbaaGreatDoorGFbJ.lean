/- Walks by the logic of calls, and plain laws. -/
import Derived.Test.YtjnjegclenjlbaaGreatDoorM9
namespace Go.Gh
open Go Go.Proofs
set_option maxRecDepth 1000000
set_option maxHeartbeats 2000000
set_option linter.unusedSimpArgs false
set_option linter.unusedVariables false
set_option linter.unnecessarySimpa false
open Go.RowKit
structure Fst where
 cd:Bool
 offers:List Fe
 m:List (Int×Int)
 out:List Fo
 errs:List Int
open Classical in
noncomputable def stepR (n:Nat) (rooms cl:Int) (s:Fst) (e:Fe) (before:List Fe):Fst:=
 if s.cd=true then
  if reoB n rooms s.m e then ⟨true,s.offers,reM n e.no s.offers s.m,s.out++roV n e.no s.offers s.m,s.errs++ [0]⟩else ⟨true,s.offers,s.m,s.out,s.errs++ [errV n rooms cl true s.m e]⟩
 else if clsB n rooms cl e then ⟨true,cntV n rooms cl before,clsF n (cntV n rooms cl before) (cntV n rooms cl before) [] [],s.out++outV (cntV n rooms cl before) (clsF n (cntV n rooms cl before) (cntV n rooms cl before) [] []),s.errs++ [0]⟩
 else ⟨false,[],[],s.out,s.errs++ [errV n rooms cl false [] e]⟩
noncomputable def runS (n:Nat) (rooms cl:Int) (l:List Fe):Nat→Fst
 |0=>⟨false,[],[],[],[]⟩
 |k+1=>stepR n rooms cl (runS n rooms cl l k) (l.getD k default) (l.take k)
structure RunOK (n:Nat) (rooms cl:Int) (l:List Fe):Prop where
 cls:∀k,k<l.length→(runS n rooms cl l k).cd=false→clsB n rooms cl (l.getD k default)→(∀e,e∈evT n rooms cl (l.take k)→0≤e.no∧e.no<1000)∧(∀g m0,DuesX n (stlF Fe.sum (fun e=>eqb_Grp (ofV e) g) (cntV n rooms cl (l.take k)) ([],[],m0)).1)∧(cntV n rooms cl (l.take k)).length≤100
 reo:∀k,k<l.length→(runS n rooms cl l k).cd=true→reoB n rooms (runS n rooms cl l k).m (l.getD k default)→
  DuesX n (stlF (reF (l.getD k default).no (bfM (runS n rooms cl l k).m (runS n rooms cl l k).offers [])) (fun x=>eqb_Grp (ofV x) (grF (l.getD k default).no (runS n rooms cl l k).offers ⟨0,0⟩)) (runS n rooms cl l k).offers ([],[],(runS n rooms cl l k).m)).1
 len:∀k,k≤l.length→(runS n rooms cl l k).offers.length≤100
theorem outV_len (offers:List Fe) (m:List (Int×Int)):(outV offers m).length≤offers.length:=by
 unfold outV
 rw[List.length_map];exact List.length_filter_le _ _
theorem run0_ok (n:Nat) (rooms cl:Int) (l:List Fe) (hl:l.length≤100) (hok:RunOK n rooms cl l) (hcd:(runS n rooms cl l l.length).cd=false):GM Tryz.prog 18 [iG n,iG rooms,iG cl,.d (.row default feC l)] [] (.tup [.ptr 0 0 0 0,(.d (.row default foC (runS n rooms cl l l.length).out)),(.d (.row (0:Int) inC (runS n rooms cl l l.length).errs))]) [some (.box [iG n,iG rooms,iG cl,bG false,.d (.sc (.slice none 0 0)),.d (.sc (.map none))])]:=by
 refine gm_of_gk Tryz.func18 ?_
 refine gk_region env false [] [0,1,2,3,8,9,10] ?_
 refine gk_region env false [] [0,1,2,3,8,9,10,11] ?_
 refine gk_region env false [] [0,1,2,3,8,9,10,11,12] ?_
 refine gk_region env false [] [0,1,2,3,8,9,10,11,12,13] ?_
 refine gk_region env false [] [0,1,2,3,8,9,10,11,12,13,23,24,25] ?_
 refine gk_nil 9 3 1 (0:Int) inC (by rfl) (by rfl) ?_
 refine gk_set [(8,.junk),(9,.junk),(10,.junk)] [] ?_
 refine gk_nil 12 82 4 (default:Fo) foC (by rfl) (by rfl) ?_
 refine gk_nil 13 31 1 (0:Int) inC (by rfl) (by rfl) ?_
 refine gk_loop (α:=Fst×Nat) (fun x=>x.2≤l.length∧x.1=runS n rooms cl l x.2∧x.1.out.length≤x.2*100∧x.1.errs.length≤x.2) (fun x=>[(12,.sl 2 4 0 x.1.out.length),(13,.sl 3 1 0 x.1.errs.length),(25,iG x.2)]) (fun x=>[(0,some (.box [iG n,iG rooms,iG cl,bG x.1.cd,bif x.1.cd then .d (.row default feC x.1.offers)else .d (.sc (.slice none 0 0)),bif x.1.cd then .mp 1 else .d (.sc (.map none))])),(1,some (bif x.1.cd then .mp (x.1.m.map encI)else .row 3 1 (0:Int) inC [] 0)),(2,some (.row 82 4 (default:Fo) foC x.1.out 0)),(3,some (.row 31 1 (0:Int) inC x.1.errs 0))]) (fun x=>l.length-x.2) (⟨false,[],[],[],[]⟩,0) ⟨Nat.zero_le _,rfl,Nat.le_refl _,Nat.le_refl _⟩ ?_ (hp:=by (try simp only[AllP,Nat.zero_add]);repeat' first|exact trivial|exact rfl|exact EntL.refl _|exact BEntL.refl _|omega|apply And.intro|(simp;done)|(simp[*];done))
 rintro ⟨⟨cd,offers,m,out,errs⟩,k⟩ ⟨hk,he,hol,hel⟩
 dsimp only at hk he hol hel⊢
 refine gk_region env false [] [0,1,2,3,11,12,13,23,24,25,26] ?_
 refine gk_ifd (fun c1=> ?_) (fun c1=> ?_)
 ·have hk2:k<l.length:=by omega
  have hr1:runS n rooms cl l (k+1)=stepR n rooms cl ⟨cd,offers,m,out,errs⟩ (l.getD k default) (l.take k):=by rw[he];rfl
  have hc:=hok.cls k hk2
  have hr:=hok.reo k hk2
  have hn:=hok.len k (by omega)
  rw[←he]at hc hr hn
  dsimp only at hc hr hn
  have htk:(l.take k).length≤100:=by rw[List.length_take];omega
  refine gk_region env false [] [0,1,2,3,11,12,13,23,24,25,14,15] ?_ (hp:=(by simp only[AllP,bb,toN,loI,hiI];repeat' first|exact trivial|exact EntL.refl _|exact BEntL.refl _|exact rfl|exact look_I _ _|exact mput_I _ _ _|omega|apply And.intro|intro _))
  simp only[Int.toNat_natCast]
  generalize hz:l.getD k default=z at*
  cases cd with
  |true=>
   simp only[cond_true]
   by_cases hb:reoB n rooms m z
   ·have hrl:=roK_len offers (bfM m offers []) (reM n z.no offers m) offers.length
    have hrl2:(roV n z.no offers m).length≤offers.length:=hrl
    refine gk_region env false [.callm [0,1] (take_reopen_ok n rooms cl z (l.take k) offers m hb (by omega) (hr rfl hb))] [0,1,2,3,11,12,13,23,24,25,16,17] ?_ (hp:=(by simp only[AllP,bb,toN,loI,hiI];repeat' first|exact trivial|exact EntL.refl _|exact BEntL.refl _|exact rfl|exact look_I _ _|exact mput_I _ _ _|omega|apply And.intro|intro _))
    refine gk_region env false [.el (default:Fo) foC (out++roV n z.no offers m),.el (0:Int) inC [0],.el (0:Int) inC (errs++ [0])] [0,1,2,3,11,12,13,23,24,25] ?_ (hp:=(by simp only[AllP,bb,toN,loI,hiI,Int.toNat_natCast];repeat' first|exact trivial|exact EntL.refl _|exact BEntL.refl _|exact rfl|omega|apply And.intro|intro _|(simp[rowL];done)|(simp only[List.length_append,List.length_cons,List.length_nil];omega)|(simp[*];done)))
    refine gk_region env false [] [0,1,2,3,11,12,13,23,24,25] ?_ (hp:=(by simp only[AllP,bb,toN,loI,hiI];repeat' first|exact trivial|exact EntL.refl _|exact BEntL.refl _|exact rfl|exact look_I _ _|exact mput_I _ _ _|omega|apply And.intro|intro _))
    refine gk_round (⟨true,offers,reM n z.no offers m,out++roV n z.no offers m,errs++ [0]⟩,k+1) ⟨hk2,?_,?_,?_⟩ (hp:=by (try simp only[AllP,List.length_append,List.length_cons,List.length_nil,cond_true,cond_false]);repeat' first|exact trivial|exact rfl|omega|apply And.intro) (hm:=by dsimp only;omega)
    ·dsimp only;rw[hr1,stepR,if_pos rfl,if_pos hb]
    ·dsimp only;first|omega|(simp only[List.length_append];omega)
    ·simp;omega
   ·skip
    refine gk_region env false [.callm [0,1] (take_shut_ok n rooms cl z (l.take k) offers m hb)] [0,1,2,3,11,12,13,23,24,25,16,17] ?_ (hp:=(by simp only[AllP,bb,toN,loI,hiI];repeat' first|exact trivial|exact EntL.refl _|exact BEntL.refl _|exact rfl|exact look_I _ _|exact mput_I _ _ _|omega|apply And.intro|intro _))
    refine gk_region env false [.el (default:Fo) foC (out),.el (0:Int) inC [errV n rooms cl true m z],.el (0:Int) inC (errs++ [errV n rooms cl true m z])] [0,1,2,3,11,12,13,23,24,25] ?_ (hp:=(by simp only[AllP,bb,toN,loI,hiI,Int.toNat_natCast];repeat' first|exact trivial|exact EntL.refl _|exact BEntL.refl _|exact rfl|omega|apply And.intro|intro _|(simp[rowL];done)|(simp only[List.length_append,List.length_cons,List.length_nil];omega)|(simp[*];done)))
    refine gk_region env false [] [0,1,2,3,11,12,13,23,24,25] ?_ (hp:=(by simp only[AllP,bb,toN,loI,hiI];repeat' first|exact trivial|exact EntL.refl _|exact BEntL.refl _|exact rfl|exact look_I _ _|exact mput_I _ _ _|omega|apply And.intro|intro _))
    refine gk_round (⟨true,offers,m,out,errs++ [errV n rooms cl true m z]⟩,k+1) ⟨hk2,?_,?_,?_⟩ (hp:=by (try simp only[AllP,List.length_append,List.length_cons,List.length_nil,cond_true,cond_false]);repeat' first|exact trivial|exact rfl|omega|apply And.intro) (hm:=by dsimp only;omega)
    ·dsimp only;rw[hr1,stepR,if_pos rfl,if_neg hb]
    ·dsimp only;first|omega|(simp only[List.length_append];omega)
    ·simp;omega
  |false=>
   simp only[cond_false]
   by_cases hb:clsB n rooms cl z
   ·obtain ⟨h1,h2,h3⟩:=hc rfl hb
    have hrl2:=outV_len (cntV n rooms cl (l.take k)) (clsF n (cntV n rooms cl (l.take k)) (cntV n rooms cl (l.take k)) [] [])
    refine gk_region env false [.callm [0] (take_close_ok n rooms cl z (l.take k) hb htk h1 h2 h3)] [0,1,2,3,11,12,13,23,24,25,16,17] ?_ (hp:=(by simp only[AllP,bb,toN,loI,hiI];repeat' first|exact trivial|exact EntL.refl _|exact BEntL.refl _|exact rfl|exact look_I _ _|exact mput_I _ _ _|omega|apply And.intro|intro _))
    refine gk_region env false [.el (default:Fo) foC (out++outV (cntV n rooms cl (l.take k)) (clsF n (cntV n rooms cl (l.take k)) (cntV n rooms cl (l.take k)) [] [])),.el (0:Int) inC [0],.el (0:Int) inC (errs++ [0])] [0,1,2,3,11,12,13,23,24,25] ?_ (hp:=(by simp only[AllP,bb,toN,loI,hiI,Int.toNat_natCast];repeat' first|exact trivial|exact EntL.refl _|exact BEntL.refl _|exact rfl|omega|apply And.intro|intro _|(simp[rowL];done)|(simp only[List.length_append,List.length_cons,List.length_nil];omega)|(simp[*];done)))
    refine gk_region env false [] [0,1,2,3,11,12,13,23,24,25] ?_ (hp:=(by simp only[AllP,bb,toN,loI,hiI];repeat' first|exact trivial|exact EntL.refl _|exact BEntL.refl _|exact rfl|exact look_I _ _|exact mput_I _ _ _|omega|apply And.intro|intro _))
    refine gk_round (⟨true,cntV n rooms cl (l.take k),clsF n (cntV n rooms cl (l.take k)) (cntV n rooms cl (l.take k)) [] [],out++outV (cntV n rooms cl (l.take k)) (clsF n (cntV n rooms cl (l.take k)) (cntV n rooms cl (l.take k)) [] []),errs++ [0]⟩,k+1) ⟨hk2,?_,?_,?_⟩ (hp:=by (try simp only[AllP,List.length_append,List.length_cons,List.length_nil,cond_true,cond_false]);repeat' first|exact trivial|exact rfl|omega|apply And.intro) (hm:=by dsimp only;omega)
    ·dsimp only;rw[hr1,stepR,if_neg (by simp),if_pos hb]
    ·dsimp only;first|omega|(simp only[List.length_append];omega)
    ·simp;omega
   ·skip
    refine gk_region env false [.callm [0] (take_open_ok n rooms cl z (l.take k) hb)] [0,1,2,3,11,12,13,23,24,25,16,17] ?_ (hp:=(by simp only[AllP,bb,toN,loI,hiI];repeat' first|exact trivial|exact EntL.refl _|exact BEntL.refl _|exact rfl|exact look_I _ _|exact mput_I _ _ _|omega|apply And.intro|intro _))
    refine gk_region env false [.el (default:Fo) foC (out),.el (0:Int) inC [errV n rooms cl false [] z],.el (0:Int) inC (errs++ [errV n rooms cl false [] z])] [0,1,2,3,11,12,13,23,24,25] ?_ (hp:=(by simp only[AllP,bb,toN,loI,hiI,Int.toNat_natCast];repeat' first|exact trivial|exact EntL.refl _|exact BEntL.refl _|exact rfl|omega|apply And.intro|intro _|(simp[rowL];done)|(simp only[List.length_append,List.length_cons,List.length_nil];omega)|(simp[*];done)))
    refine gk_region env false [] [0,1,2,3,11,12,13,23,24,25] ?_ (hp:=(by simp only[AllP,bb,toN,loI,hiI];repeat' first|exact trivial|exact EntL.refl _|exact BEntL.refl _|exact rfl|exact look_I _ _|exact mput_I _ _ _|omega|apply And.intro|intro _))
    refine gk_round (⟨false,[],[],out,errs++ [errV n rooms cl false [] z]⟩,k+1) ⟨hk2,?_,?_,?_⟩ (hp:=by (try simp only[AllP,List.length_append,List.length_cons,List.length_nil,cond_true,cond_false]);repeat' first|exact trivial|exact rfl|omega|apply And.intro) (hm:=by dsimp only;omega)
    ·dsimp only;rw[hr1,stepR,if_neg (by simp),if_neg hb]
    ·dsimp only;first|omega|(simp only[List.length_append];omega)
    ·simp;omega
 ·have hke:k=l.length:=by omega
  subst hke
  rw[←he]at hcd⊢
  dsimp only at hcd⊢
  subst hcd
  simp only[cond_false]
  refine gk_row 2 ?_
  refine gk_row 3 ?_
  refine gk_region env false [] [8,9,10] ?_ (hp:=(by simp only[AllP,bb,toN,loI,hiI];repeat' first|exact trivial|exact EntL.refl _|exact BEntL.refl _|exact rfl|exact look_I _ _|exact mput_I _ _ _|omega|apply And.intro|intro _))
  refine gk_retX env [.ptr 0 0 0 0,.d (.row default foC out),.d (.row (0:Int) inC errs)] (hp:= ?_)
  (try simp only[AllP,Nat.zero_add]);repeat' first|exact trivial|exact rfl|exact EntL.refl _|exact BEntL.refl _|omega|apply And.intro|(simp;done)|(simp[*];done)
theorem run1_ok (n:Nat) (rooms cl:Int) (l:List Fe) (hl:l.length≤100) (hok:RunOK n rooms cl l) (hcd:(runS n rooms cl l l.length).cd=true):GM Tryz.prog 18 [iG n,iG rooms,iG cl,.d (.row default feC l)] [] (.tup [.ptr 0 0 0 0,(.d (.row default foC (runS n rooms cl l l.length).out)),(.d (.row (0:Int) inC (runS n rooms cl l l.length).errs))]) [some (.box [iG n,iG rooms,iG cl,bG true,.d (.row default feC (runS n rooms cl l l.length).offers),.mp 1]),some (.mp ((runS n rooms cl l l.length).m.map encI))]:=by
 refine gm_of_gk Tryz.func18 ?_
 refine gk_region env false [] [0,1,2,3,8,9,10] ?_
 refine gk_region env false [] [0,1,2,3,8,9,10,11] ?_
 refine gk_region env false [] [0,1,2,3,8,9,10,11,12] ?_
 refine gk_region env false [] [0,1,2,3,8,9,10,11,12,13] ?_
 refine gk_region env false [] [0,1,2,3,8,9,10,11,12,13,23,24,25] ?_
 refine gk_nil 9 3 1 (0:Int) inC (by rfl) (by rfl) ?_
 refine gk_set [(8,.junk),(9,.junk),(10,.junk)] [] ?_
 refine gk_nil 12 82 4 (default:Fo) foC (by rfl) (by rfl) ?_
 refine gk_nil 13 31 1 (0:Int) inC (by rfl) (by rfl) ?_
 refine gk_loop (α:=Fst×Nat) (fun x=>x.2≤l.length∧x.1=runS n rooms cl l x.2∧x.1.out.length≤x.2*100∧x.1.errs.length≤x.2) (fun x=>[(12,.sl 2 4 0 x.1.out.length),(13,.sl 3 1 0 x.1.errs.length),(25,iG x.2)]) (fun x=>[(0,some (.box [iG n,iG rooms,iG cl,bG x.1.cd,bif x.1.cd then .d (.row default feC x.1.offers)else .d (.sc (.slice none 0 0)),bif x.1.cd then .mp 1 else .d (.sc (.map none))])),(1,some (bif x.1.cd then .mp (x.1.m.map encI)else .row 3 1 (0:Int) inC [] 0)),(2,some (.row 82 4 (default:Fo) foC x.1.out 0)),(3,some (.row 31 1 (0:Int) inC x.1.errs 0))]) (fun x=>l.length-x.2) (⟨false,[],[],[],[]⟩,0) ⟨Nat.zero_le _,rfl,Nat.le_refl _,Nat.le_refl _⟩ ?_ (hp:=by (try simp only[AllP,Nat.zero_add]);repeat' first|exact trivial|exact rfl|exact EntL.refl _|exact BEntL.refl _|omega|apply And.intro|(simp;done)|(simp[*];done))
 rintro ⟨⟨cd,offers,m,out,errs⟩,k⟩ ⟨hk,he,hol,hel⟩
 dsimp only at hk he hol hel⊢
 refine gk_region env false [] [0,1,2,3,11,12,13,23,24,25,26] ?_
 refine gk_ifd (fun c1=> ?_) (fun c1=> ?_)
 ·have hk2:k<l.length:=by omega
  have hr1:runS n rooms cl l (k+1)=stepR n rooms cl ⟨cd,offers,m,out,errs⟩ (l.getD k default) (l.take k):=by rw[he];rfl
  have hc:=hok.cls k hk2
  have hr:=hok.reo k hk2
  have hn:=hok.len k (by omega)
  rw[←he]at hc hr hn
  dsimp only at hc hr hn
  have htk:(l.take k).length≤100:=by rw[List.length_take];omega
  refine gk_region env false [] [0,1,2,3,11,12,13,23,24,25,14,15] ?_ (hp:=(by simp only[AllP,bb,toN,loI,hiI];repeat' first|exact trivial|exact EntL.refl _|exact BEntL.refl _|exact rfl|exact look_I _ _|exact mput_I _ _ _|omega|apply And.intro|intro _))
  simp only[Int.toNat_natCast]
  generalize hz:l.getD k default=z at*
  cases cd with
  |true=>
   simp only[cond_true]
   by_cases hb:reoB n rooms m z
   ·have hrl:=roK_len offers (bfM m offers []) (reM n z.no offers m) offers.length
    have hrl2:(roV n z.no offers m).length≤offers.length:=hrl
    refine gk_region env false [.callm [0,1] (take_reopen_ok n rooms cl z (l.take k) offers m hb (by omega) (hr rfl hb))] [0,1,2,3,11,12,13,23,24,25,16,17] ?_ (hp:=(by simp only[AllP,bb,toN,loI,hiI];repeat' first|exact trivial|exact EntL.refl _|exact BEntL.refl _|exact rfl|exact look_I _ _|exact mput_I _ _ _|omega|apply And.intro|intro _))
    refine gk_region env false [.el (default:Fo) foC (out++roV n z.no offers m),.el (0:Int) inC [0],.el (0:Int) inC (errs++ [0])] [0,1,2,3,11,12,13,23,24,25] ?_ (hp:=(by simp only[AllP,bb,toN,loI,hiI,Int.toNat_natCast];repeat' first|exact trivial|exact EntL.refl _|exact BEntL.refl _|exact rfl|omega|apply And.intro|intro _|(simp[rowL];done)|(simp only[List.length_append,List.length_cons,List.length_nil];omega)|(simp[*];done)))
    refine gk_region env false [] [0,1,2,3,11,12,13,23,24,25] ?_ (hp:=(by simp only[AllP,bb,toN,loI,hiI];repeat' first|exact trivial|exact EntL.refl _|exact BEntL.refl _|exact rfl|exact look_I _ _|exact mput_I _ _ _|omega|apply And.intro|intro _))
    refine gk_round (⟨true,offers,reM n z.no offers m,out++roV n z.no offers m,errs++ [0]⟩,k+1) ⟨hk2,?_,?_,?_⟩ (hp:=by (try simp only[AllP,List.length_append,List.length_cons,List.length_nil,cond_true,cond_false]);repeat' first|exact trivial|exact rfl|omega|apply And.intro) (hm:=by dsimp only;omega)
    ·dsimp only;rw[hr1,stepR,if_pos rfl,if_pos hb]
    ·dsimp only;first|omega|(simp only[List.length_append];omega)
    ·simp;omega
   ·skip
    refine gk_region env false [.callm [0,1] (take_shut_ok n rooms cl z (l.take k) offers m hb)] [0,1,2,3,11,12,13,23,24,25,16,17] ?_ (hp:=(by simp only[AllP,bb,toN,loI,hiI];repeat' first|exact trivial|exact EntL.refl _|exact BEntL.refl _|exact rfl|exact look_I _ _|exact mput_I _ _ _|omega|apply And.intro|intro _))
    refine gk_region env false [.el (default:Fo) foC (out),.el (0:Int) inC [errV n rooms cl true m z],.el (0:Int) inC (errs++ [errV n rooms cl true m z])] [0,1,2,3,11,12,13,23,24,25] ?_ (hp:=(by simp only[AllP,bb,toN,loI,hiI,Int.toNat_natCast];repeat' first|exact trivial|exact EntL.refl _|exact BEntL.refl _|exact rfl|omega|apply And.intro|intro _|(simp[rowL];done)|(simp only[List.length_append,List.length_cons,List.length_nil];omega)|(simp[*];done)))
    refine gk_region env false [] [0,1,2,3,11,12,13,23,24,25] ?_ (hp:=(by simp only[AllP,bb,toN,loI,hiI];repeat' first|exact trivial|exact EntL.refl _|exact BEntL.refl _|exact rfl|exact look_I _ _|exact mput_I _ _ _|omega|apply And.intro|intro _))
    refine gk_round (⟨true,offers,m,out,errs++ [errV n rooms cl true m z]⟩,k+1) ⟨hk2,?_,?_,?_⟩ (hp:=by (try simp only[AllP,List.length_append,List.length_cons,List.length_nil,cond_true,cond_false]);repeat' first|exact trivial|exact rfl|omega|apply And.intro) (hm:=by dsimp only;omega)
    ·dsimp only;rw[hr1,stepR,if_pos rfl,if_neg hb]
    ·dsimp only;first|omega|(simp only[List.length_append];omega)
    ·simp;omega
  |false=>
   simp only[cond_false]
   by_cases hb:clsB n rooms cl z
   ·obtain ⟨h1,h2,h3⟩:=hc rfl hb
    have hrl2:=outV_len (cntV n rooms cl (l.take k)) (clsF n (cntV n rooms cl (l.take k)) (cntV n rooms cl (l.take k)) [] [])
    refine gk_region env false [.callm [0] (take_close_ok n rooms cl z (l.take k) hb htk h1 h2 h3)] [0,1,2,3,11,12,13,23,24,25,16,17] ?_ (hp:=(by simp only[AllP,bb,toN,loI,hiI];repeat' first|exact trivial|exact EntL.refl _|exact BEntL.refl _|exact rfl|exact look_I _ _|exact mput_I _ _ _|omega|apply And.intro|intro _))
    refine gk_region env false [.el (default:Fo) foC (out++outV (cntV n rooms cl (l.take k)) (clsF n (cntV n rooms cl (l.take k)) (cntV n rooms cl (l.take k)) [] [])),.el (0:Int) inC [0],.el (0:Int) inC (errs++ [0])] [0,1,2,3,11,12,13,23,24,25] ?_ (hp:=(by simp only[AllP,bb,toN,loI,hiI,Int.toNat_natCast];repeat' first|exact trivial|exact EntL.refl _|exact BEntL.refl _|exact rfl|omega|apply And.intro|intro _|(simp[rowL];done)|(simp only[List.length_append,List.length_cons,List.length_nil];omega)|(simp[*];done)))
    refine gk_region env false [] [0,1,2,3,11,12,13,23,24,25] ?_ (hp:=(by simp only[AllP,bb,toN,loI,hiI];repeat' first|exact trivial|exact EntL.refl _|exact BEntL.refl _|exact rfl|exact look_I _ _|exact mput_I _ _ _|omega|apply And.intro|intro _))
    refine gk_round (⟨true,cntV n rooms cl (l.take k),clsF n (cntV n rooms cl (l.take k)) (cntV n rooms cl (l.take k)) [] [],out++outV (cntV n rooms cl (l.take k)) (clsF n (cntV n rooms cl (l.take k)) (cntV n rooms cl (l.take k)) [] []),errs++ [0]⟩,k+1) ⟨hk2,?_,?_,?_⟩ (hp:=by (try simp only[AllP,List.length_append,List.length_cons,List.length_nil,cond_true,cond_false]);repeat' first|exact trivial|exact rfl|omega|apply And.intro) (hm:=by dsimp only;omega)
    ·dsimp only;rw[hr1,stepR,if_neg (by simp),if_pos hb]
    ·dsimp only;first|omega|(simp only[List.length_append];omega)
    ·simp;omega
   ·skip
    refine gk_region env false [.callm [0] (take_open_ok n rooms cl z (l.take k) hb)] [0,1,2,3,11,12,13,23,24,25,16,17] ?_ (hp:=(by simp only[AllP,bb,toN,loI,hiI];repeat' first|exact trivial|exact EntL.refl _|exact BEntL.refl _|exact rfl|exact look_I _ _|exact mput_I _ _ _|omega|apply And.intro|intro _))
    refine gk_region env false [.el (default:Fo) foC (out),.el (0:Int) inC [errV n rooms cl false [] z],.el (0:Int) inC (errs++ [errV n rooms cl false [] z])] [0,1,2,3,11,12,13,23,24,25] ?_ (hp:=(by simp only[AllP,bb,toN,loI,hiI,Int.toNat_natCast];repeat' first|exact trivial|exact EntL.refl _|exact BEntL.refl _|exact rfl|omega|apply And.intro|intro _|(simp[rowL];done)|(simp only[List.length_append,List.length_cons,List.length_nil];omega)|(simp[*];done)))
    refine gk_region env false [] [0,1,2,3,11,12,13,23,24,25] ?_ (hp:=(by simp only[AllP,bb,toN,loI,hiI];repeat' first|exact trivial|exact EntL.refl _|exact BEntL.refl _|exact rfl|exact look_I _ _|exact mput_I _ _ _|omega|apply And.intro|intro _))
    refine gk_round (⟨false,[],[],out,errs++ [errV n rooms cl false [] z]⟩,k+1) ⟨hk2,?_,?_,?_⟩ (hp:=by (try simp only[AllP,List.length_append,List.length_cons,List.length_nil,cond_true,cond_false]);repeat' first|exact trivial|exact rfl|omega|apply And.intro) (hm:=by dsimp only;omega)
    ·dsimp only;rw[hr1,stepR,if_neg (by simp),if_neg hb]
    ·dsimp only;first|omega|(simp only[List.length_append];omega)
    ·simp;omega
 ·have hke:k=l.length:=by omega
  subst hke
  rw[←he]at hcd⊢
  dsimp only at hcd⊢
  subst hcd
  simp only[cond_true]
  refine gk_row 2 ?_
  refine gk_row 3 ?_
  refine gk_region env false [] [8,9,10] ?_ (hp:=(by simp only[AllP,bb,toN,loI,hiI];repeat' first|exact trivial|exact EntL.refl _|exact BEntL.refl _|exact rfl|exact look_I _ _|exact mput_I _ _ _|omega|apply And.intro|intro _))
  refine gk_retX env [.ptr 0 0 0 0,.d (.row default foC out),.d (.row (0:Int) inC errs)] (hp:= ?_)
  (try simp only[AllP,Nat.zero_add]);repeat' first|exact trivial|exact rfl|exact EntL.refl _|exact BEntL.refl _|omega|apply And.intro|(simp;done)|(simp[*];done)
end Go.Gh
