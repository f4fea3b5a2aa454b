/- Walks by the logic of calls, and plain laws (several texts in one). -/
import Derived.Test.YtjnjegclenjlbaaGreatDoorM5
namespace Go.Gh
open Go Go.Proofs
set_option maxRecDepth 1000000
set_option maxHeartbeats 2000000
set_option linter.unusedSimpArgs false
set_option linter.unusedVariables false
set_option linter.unnecessarySimpa false
open Go.RowKit
structure DuesX (n:Nat) (dues:List Du):Prop extends DuesR n dues where
 diff:∀d,d∈dues→d.fr≠d.to_
 pos:∀d,d∈dues→1≤d.sum
theorem rightL_true {n:Nat} {dues:List Du} (h:DuesX n dues):∀(m k:Nat),dues.length-k=m→rightDL n dues k=true:=by
 intro m
 induction m with
 |zero=>intro k hm;rw[rightDL,if_neg (by omega)]
 |succ m ih=>
  intro k hm
  have hk:k<dues.length:=by omega
  have hd:=memD (d:=default) hk
  have h1:=h.in_.fr' _ hd
  have h2:=h.in_.to' _ hd
  have h3:=h.diff _ hd
  have h4:=h.pos _ hd
  have h5:=h.top _ hd
  rw[rightDL,if_pos (by omega),if_neg (by simp only[Bool.not_eq_true];simp only[bb];omega),ih (k+1) (by omega)]
theorem right_true {n:Nat} {dues:List Du} (h:DuesX n dues):rightD n dues=true:=by
 have h1:=h.n40
 have h2:=h.l100
 unfold rightD
 rw[if_neg (by simp only[Bool.not_eq_true];simp only[bb];omega)]
 exact rightL_true h _ 0 rfl
def sumK (dues:List Du) (k:Nat):List Int:=(dues.take k).map Du.sum++List.replicate (dues.length-k) 0
theorem sumK_len (dues:List Du) (k:Nat):(sumK dues k).length=dues.length:=by simp[sumK];omega
theorem sumK_0 (dues:List Du):sumK dues 0=List.replicate dues.length 0:=by simp[sumK]
theorem sumK_n (dues:List Du):sumK dues dues.length=dues.map Du.sum:=by simp[sumK]
theorem sumK_s (dues:List Du) {k:Nat} (h:k<dues.length):(sumK dues k).set k (dues.getD k default).sum=sumK dues (k+1):=by
 have hl:((dues.take k).map Du.sum).length=k:=by simp;omega
 unfold sumK
 rw[List.set_append_right _ _ (by omega),hl,Nat.sub_self,show dues.length-k=(dues.length-(k+1))+1 by omega,List.replicate_succ,List.set_cons_zero,take_getD h,List.map_append,List.append_assoc]
 rfl
theorem clear_ok (n:Nat) (dues:List Du) (h:DuesX n dues):GC Tryz.prog 13 [iG n,.d (.row default duC dues)] (.tup [.d (.row (0:Int) inC (clrF n dues)),.d (.row (0:Int) inC (potF n (stepsV dues (clrF n dues)))),iG 0]):=by
 have h100:=h.l100
 have hb0:=balS_ok h.toDuesOK
 have hbp:=pot_BI (stepsIn h.in_ (balS n dues)) hb0.pot h.n40
 have hc:=clr_ok h.toDuesOK
 have hn40:=h.n40
 have hpb:∀v:Int,0≤v→v<n→-1000≤(potF n (stepsV dues (balS n dues))).getD v.toNat 0∧(potF n (stepsV dues (balS n dues))).getD v.toNat 0≤1000:=fun v h0 h1=>(by have h2: -(n:Int)≤(potF n (stepsV dues (balS n dues))).getD v.toNat 0∧(potF n (stepsV dues (balS n dues))).getD v.toNat 0≤n:=hbp.2.2 v h0 h1;omega)
 have hcl:=hc.caps.len
 have hbl:=hb0.caps.len
 refine gc_of_gk Tryz.func13 ?_
 refine gk_region env false [] [0,1,4,5,6] ?_
 refine gk_region env false [.call (right_ok n dues (by omega))] [0,1,4,5,6,14] ?_ (hp:=(by simp only[AllP,bb,toN,loI,hiI];repeat' first|exact trivial|exact EntL.refl _|exact BEntL.refl _|exact rfl|omega|apply And.intro|intro _))
 refine gk_if (fun c1=> ?_) (fun c1=> ?_)
 ·try simp only[bb,toN]at c1
  exact absurd (right_true h) (by rw[c1];decide)
 ·try simp only[bb,toN]at c1
  refine gk_region env false [.el (0:Int) inC (List.replicate dues.length 0)] [0,1,4,5,6] ?_ (hp:=(by simp only[AllP,bb,toN,loI,hiI];repeat' first|exact trivial|exact EntL.refl _|exact BEntL.refl _|exact rfl|(rw[rowL,List.map_replicate];rfl)|omega|apply And.intro|intro _|(simp;done)))
  refine gk_region env false [] [0,1,4,5,6,18,19,20] ?_
  refine gk_loop (α:=Nat) (fun k=>k≤dues.length) (fun k=>[(20,iG k)]) (fun k=>[(0,some (.row 3 1 (0:Int) inC (sumK dues k) 0))]) (fun k=>dues.length-k) 0 (Nat.zero_le _) ?_ (hp:=by simp only[AllP,sumK_0];repeat' first|exact trivial|exact rfl|omega|apply And.intro|(simp;done))
  rintro k hk
  refine gk_region env false [] [0,1,4,5,6,18,19,20,21] ?_
  refine gk_ifd (fun c2=> ?_) (fun c2=> ?_)
  ·try simp only[toN]at c2
   have hk2:k<dues.length:=by omega
   refine gk_region env false [] [0,1,4,5,6,7,8,18,19,20] ?_ (hp:=(by simp only[AllP,bb,toN,loI,hiI];repeat' first|exact trivial|exact EntL.refl _|exact BEntL.refl _|exact rfl|omega|apply And.intro|intro _))
   refine gk_region env false [.el (0:Int) inC ((sumK dues k).set k (dues.getD k default).sum)] [0,1,4,5,6,18,19,20] ?_ (hp:=(by simp only[AllP,bb,toN,loI,hiI,Nat.zero_add];repeat' first|exact Nat.le_refl _|exact (putD_all (cs:=inC) (by first|omega|(rw[sumK_len];omega)) rfl (by rfl)).symm|exact trivial|exact EntL.refl _|exact BEntL.refl _|exact rfl|omega|apply And.intro|intro _|(rw[sumK_len];omega)|(simp;done)))
   refine gk_region env false [] [0,1,4,5,6,18,19,20] ?_
   refine gk_round (k+1) ?_ (hp:=by simp only[AllP,sumK_s dues hk2];repeat' first|exact trivial|exact rfl|omega|apply And.intro)
   exact hk2
  ·try simp only[toN]at c2
   have hke:k=dues.length:=by omega
   subst hke
   rw[sumK_n]
   have hbal:=bal_ok n dues h.toDuesR
   rw[show (dues.map Du.sum).length=dues.length by simp]at hbal
   refine gk_region env false [.callm [0] hbal] [0,1,4,5,6] ?_ (hp:=(by simp only[AllP,bb,toN,loI,hiI];repeat' first|exact trivial|exact EntL.refl _|exact BEntL.refl _|exact rfl|omega|apply And.intro|intro _))
   rw[←hbl]
   refine gk_region env false [.callm [0] (pot_ok n dues (balS n dues) _ h.toDuesR hb0.caps hb0.pot)] [0,1,4,5,6,9] ?_ (hp:=(by simp only[AllP,bb,toN,loI,hiI];repeat' first|exact trivial|exact EntL.refl _|exact BEntL.refl _|exact rfl|omega|apply And.intro|intro _))
   refine gk_region env false [] [0,1,4,5,6,9,40,41] ?_
   refine gk_loop (α:=List Int×Nat) (fun x=>x.2≤dues.length∧Ris n dues x.1 (potF n (stepsV dues (balS n dues)))∧clrF n dues=raises n dues (potF n (stepsV dues (balS n dues))) x.1 x.2) (fun x=>[(4,.sl 0 1 0 x.1.length),(41,iG x.2)]) (fun x=>[(0,some (.row 3 1 (0:Int) inC x.1 0))]) (fun x=>dues.length-x.2) (balS n dues,0) ⟨Nat.zero_le _,hb0,rfl⟩ ?_ (hp:=by (try simp only[AllP,Nat.zero_add]);repeat' first|exact trivial|exact rfl|exact EntL.refl _|exact BEntL.refl _|omega|apply And.intro|(simp;done)|(simp[*];done))
   rintro ⟨sums,k⟩ ⟨hk,hS,he⟩
   dsimp only at*
   refine gk_region env false [] [0,1,4,5,6,9,40,41,42] ?_
   refine gk_ifd (fun c3=> ?_) (fun c3=> ?_)
   ·try simp only[toN]at c3
    have hk2:k<dues.length:=by omega
    have hkl:=hS.caps.len
    have hrs:Ris n dues (raise1 n dues (potF n (stepsV dues (balS n dues))) sums k) (potF n (stepsV dues (balS n dues))):=by
     unfold raise1
     split
     ·rename_i htt;exact raise_all h.in_ h.n40 hk2 htt _ _ (by omega) hS
     ·exact hS
    have hrl:=hrs.caps.len
    refine gk_region env false [] [0,1,4,5,6,9,10,40,41] ?_ (hp:=(by simp only[AllP,bb,toN,loI,hiI];repeat' first|exact trivial|exact EntL.refl _|exact BEntL.refl _|exact rfl|omega|apply And.intro|intro _))
    refine gk_region env false [.callm [0] (raise_ok n dues sums (potF n (stepsV dues (balS n dues))) k h.toDuesR hk2 hS hbp.1 hpb)] [0,1,4,5,6,9,40,41] ?_ (hp:=(by simp only[AllP,bb,toN,loI,hiI];repeat' first|exact trivial|exact EntL.refl _|exact BEntL.refl _|exact rfl|omega|apply And.intro|intro _))
    refine gk_region env false [] [0,1,4,5,6,9,40,41] ?_
    refine gk_round ((raise1 n dues (potF n (stepsV dues (balS n dues))) sums k,k+1)) ?_ (hp:=by (try simp only[AllP,Nat.zero_add]);repeat' first|exact trivial|exact rfl|exact EntL.refl _|exact BEntL.refl _|omega|apply And.intro|(simp;done)|(simp[*];done)) (hm:=by dsimp only;omega)
    refine ⟨hk2,hrs,he.trans ?_⟩
    rw[raises,if_pos hk2]
   ·try simp only[toN]at c3
    rw[raises,if_neg (by omega)]at he
    rw[←he]
    refine gk_region env false [.callm [0] (pot_ok n dues (clrF n dues) _ h.toDuesR hc.caps hc.pot)] [4,5,6] ?_ (hp:=(by simp only[AllP,bb,toN,loI,hiI];repeat' first|exact trivial|exact EntL.refl _|exact BEntL.refl _|exact rfl|omega|apply And.intro|intro _))
    refine gk_ret env ?_
    rfl
structure Fe where
 kind:Int
 room:Int
 day:Int
 no:Int
 fr:Int
 to_:Int
 cur:Int
 due:Int
 sum:Int
deriving DecidableEq
instance :Inhabited Fe:=⟨⟨0,0,0,0,0,0,0,0,0⟩⟩
def feC (x:Fe):List D:=[.sc (.int .i64 x.kind),.sc (.int .i64 x.room),.sc (.int .i64 x.day),.sc (.int .i64 x.no),.sc (.int .i64 x.fr),.sc (.int .i64 x.to_),.sc (.int .i64 x.cur),.sc (.int .i64 x.due),.sc (.int .i64 x.sum)]
abbrev feG (x:Fe):G:= .agg [iG x.kind,iG x.room,iG x.day,iG x.no,iG x.fr,iG x.to_,iG x.cur,iG x.due,iG x.sum]
def eqb_Fe (a b:Fe):Bool:=decide (a.kind=b.kind)&&(decide (a.room=b.room)&&(decide (a.day=b.day)&&(decide (a.no=b.no)&&(decide (a.fr=b.fr)&&(decide (a.to_=b.to_)&&(decide (a.cur=b.cur)&&(decide (a.due=b.due)&&(decide (a.sum=b.sum)&&(true)))))))))
theorem eqc_Fe (a b:Fe):EqC Tryz.prog 25 [.int .i64 a.kind,.int .i64 a.room,.int .i64 a.day,.int .i64 a.no,.int .i64 a.fr,.int .i64 a.to_,.int .i64 a.cur,.int .i64 a.due,.int .i64 a.sum] [.int .i64 b.kind,.int .i64 b.room,.int .i64 b.day,.int .i64 b.no,.int .i64 b.fr,.int .i64 b.to_,.int .i64 b.cur,.int .i64 b.due,.int .i64 b.sum] (eqb_Fe a b):=EqC.of tab_ok rfl rfl (by kernel_rfl) (by kernel_rfl) (.int tab_ok rfl rfl rfl rfl (.int tab_ok rfl rfl rfl rfl (.int tab_ok rfl rfl rfl rfl (.int tab_ok rfl rfl rfl rfl (.int tab_ok rfl rfl rfl rfl (.int tab_ok rfl rfl rfl rfl (.int tab_ok rfl rfl rfl rfl (.int tab_ok rfl rfl rfl rfl (.int tab_ok rfl rfl rfl rfl .nil)))))))))
def withV (i:Int) (n:Int):Bool:=(bif decide (0≤i)then decide (i<n)else false)
theorem with_ok (i:Int) (n:Int):GC Tryz.prog 44 [iG i,iG n] (bG (withV i n)):=by
 refine gc_of_gk Tryz.func44 ?_
 refine gk_region env false [] [0,1,4] ?_
 refine gk_region env false [] [4] ?_
 refine gk_ret env ?_
 rw[withV];rfl
def chkVKc1 (n:Int) (rooms:Int) (e:Fe) (j8_1:Bool) (jb_1_1:Fe) (jb_1_1_1:Int) (jb_1_3_1:Int) (jb_1_4_1:Int) (jb_1_7_1:Int):Int:=if (bif (bif (bif (!j8_1)then true else (!(eqb_Fe (⟨jb_1_1.kind,jb_1_1_1,jb_1_1.day,jb_1_3_1,jb_1_4_1,jb_1_1.to_,jb_1_1.cur,jb_1_7_1,jb_1_1.sum⟩:Fe) e)))then true else (!(withV e.room rooms)))then true else (!(withV e.no 1000)))=true then 1 else 0
def chkVKc2 (n:Int) (rooms:Int) (e:Fe) (j68_2:Bool):Int:=if j68_2=true then chkVKc1 n rooms e (bif (bif (bif (withV (IntKind.i64.wrap (n-1)) 40)then (withV (IntKind.i64.wrap (rooms-1)) 8)else false)then (withV e.day 100001)else false)then (withV e.fr n)else false) (⟨e.kind,e.room,e.day,e.no,e.fr,0,0,0,0⟩:Fe) e.room e.no e.fr 0 else if e.kind=3 then chkVKc1 n rooms e (bif (bif (bif (bif (withV (IntKind.i64.wrap (n-1)) 40)then (withV (IntKind.i64.wrap (rooms-1)) 8)else false)then (withV e.day 100001)else false)then decide (e.day≤e.due)else false)then decide (e.due≤100000)else false) (⟨e.kind,e.room,e.day,0,0,0,0,e.due,0⟩:Fe) e.room 0 0 e.due else if e.kind=5 then chkVKc1 n rooms e (bif (bif (withV (IntKind.i64.wrap (n-1)) 40)then (withV (IntKind.i64.wrap (rooms-1)) 8)else false)then (withV e.day 100001)else false) (⟨e.kind,0,e.day,e.no,0,0,0,0,0⟩:Fe) 0 e.no 0 0 else if e.kind=4 then chkVKc1 n rooms e (bif (bif (withV (IntKind.i64.wrap (n-1)) 40)then (withV (IntKind.i64.wrap (rooms-1)) 8)else false)then (withV e.day 100001)else false) (⟨e.kind,0,e.day,0,0,0,0,0,0⟩:Fe) 0 0 0 0 else chkVKc1 n rooms e false (⟨e.kind,0,e.day,0,0,0,0,0,0⟩:Fe) 0 0 0 0
def chkV (n:Int) (rooms:Int) (e:Fe):Int:=if e.kind=0 then chkVKc1 n rooms e (bif (bif (bif (bif (bif (bif (bif (bif (withV (IntKind.i64.wrap (n-1)) 40)then (withV (IntKind.i64.wrap (rooms-1)) 8)else false)then (withV e.day 100001)else false)then (withV e.fr n)else false)then (withV e.to_ n)else false)then (!decide (e.fr=e.to_))else false)then (withV e.cur 8)else false)then (withV e.due 100001)else false)then (withV (IntKind.i64.wrap (e.sum-1)) 1099511627776)else false) e e.room e.no e.fr e.due else if e.kind=1 then chkVKc2 n rooms e (decide (e.kind=1))else chkVKc2 n rooms e (decide (e.kind=2))
theorem chk_ok (n:Int) (rooms:Int) (e:Fe):GC Tryz.prog 46 [iG n,iG rooms,feG e] (iG (chkV n rooms e)):=by
 refine gc_of_gk Tryz.func46 ?_
 refine gk_region env false [] [0,1,5,6] ?_
 refine gk_region env false [] [0,1,5,6,7] ?_
 refine gk_region env true [.call (with_ok (IntKind.i64.wrap (n-1)) 40),.call (with_ok (IntKind.i64.wrap (rooms-1)) 8),.call (with_ok e.day 100001)] [0,1,5,6,7,8] ?_
 refine gk_region env false [] [0,1,5,6,7,8,28] ?_
 refine gk_region env false [] [0,1,5,6,7,8,28,29] ?_
 refine gk_join (α:=Bool×Fe×Int×Int×Int×Int) (fun x=>chkV n rooms e=chkVKc1 n rooms e x.1 x.2.1 x.2.2.1 x.2.2.2.1 x.2.2.2.2.1 x.2.2.2.2.2) (fun x=>⟨[(1,iG rooms),(5,.ptr 0 0 0 0),(6,iG 0),(7,.ptr 1 0 0 0),(8,bG x.1)],[(0,some (.box [iG e.kind,iG e.room,iG e.day,iG e.no,iG e.fr,iG e.to_,iG e.cur,iG e.due,iG e.sum])),(1,some (.box [iG x.2.1.kind,iG x.2.2.1,iG x.2.1.day,iG x.2.2.2.1,iG x.2.2.2.2.1,iG x.2.1.to_,iG x.2.1.cur,iG x.2.2.2.2.2,iG x.2.1.sum]))],2⟩) ?_ ?_
 ·rintro ⟨j8_1,jb_1_1,jb_1_1_1,jb_1_3_1,jb_1_4_1,jb_1_7_1⟩ hjc1
  dsimp only at*
  refine gk_region env false [.eq (eqc_Fe (⟨jb_1_1.kind,jb_1_1_1,jb_1_1.day,jb_1_3_1,jb_1_4_1,jb_1_1.to_,jb_1_1.cur,jb_1_7_1,jb_1_1.sum⟩:Fe) e),.call (with_ok e.room rooms),.call (with_ok e.no 1000)] [6,134] ?_
  refine gk_if (fun c1=> ?_) (fun c1=> ?_)
  ·try simp only[bb,toN]at c1
   refine gk_region env false [] [6] ?_
   refine gk_ret env ?_
   rw[hjc1,chkVKc1,if_pos (by (try simp only[bb,toN]);exact c1)];rfl
  ·try simp only[bb,toN]at c1
   refine gk_region env false [] [6] ?_
   refine gk_ret env ?_
   rw[hjc1,chkVKc1,if_neg (by rw[Bool.not_eq_true];(try simp only[bb,toN]);exact c1)];rfl
 refine gk_ifd (fun c2=> ?_) (fun c2=> ?_)
 ·try simp only[toN]at c2
  refine gk_region env false [] [0,1,5,6,7,8] ?_
  refine gk_region env true [.call (with_ok e.fr n),.call (with_ok e.to_ n),.call (with_ok e.cur 8),.call (with_ok e.due 100001),.call (with_ok (IntKind.i64.wrap (e.sum-1)) 1099511627776)] [1,5,6,7,8] ?_
  refine gk_goal (((bif (bif (bif (bif (bif (bif (bif (bif (withV (IntKind.i64.wrap (n-1)) 40)then (withV (IntKind.i64.wrap (rooms-1)) 8)else false)then (withV e.day 100001)else false)then (withV e.fr n)else false)then (withV e.to_ n)else false)then (!decide (e.fr=e.to_))else false)then (withV e.cur 8)else false)then (withV e.due 100001)else false)then (withV (IntKind.i64.wrap (e.sum-1)) 1099511627776)else false),e,e.room,e.no,e.fr,e.due)) ?_ (hp:=by simp[AllP]<;>rfl)
  exact by rw[chkV,if_pos c2]
 ·try simp only[toN]at c2
  refine gk_region env false [] [0,1,5,6,7,8,28,68] ?_
  refine gk_join (α:=Bool) (fun x=>chkV n rooms e=chkVKc2 n rooms e x) (fun x=>⟨[(0,iG n),(1,iG rooms),(5,.ptr 0 0 0 0),(6,iG 0),(7,.ptr 1 0 0 0),(8,bG (bif (bif (withV (IntKind.i64.wrap (n-1)) 40)then (withV (IntKind.i64.wrap (rooms-1)) 8)else false)then (withV e.day 100001)else false)),(28,iG e.kind),(68,bG x)],[(0,some (.box [iG e.kind,iG e.room,iG e.day,iG e.no,iG e.fr,iG e.to_,iG e.cur,iG e.due,iG e.sum])),(1,some (.box [iG e.kind,iG 0,iG e.day,iG 0,iG 0,iG 0,iG 0,iG 0,iG 0]))],2⟩) ?_ ?_
  ·rintro j68_2 hjc2
   refine gk_if (fun c3=> ?_) (fun c3=> ?_)
   ·try simp only[bb,toN]at c3
    refine gk_region env false [] [0,1,5,6,7,8] ?_
    refine gk_region env false [.call (with_ok e.fr n)] [1,5,6,7,8] ?_
    refine gk_goal (((bif (bif (bif (withV (IntKind.i64.wrap (n-1)) 40)then (withV (IntKind.i64.wrap (rooms-1)) 8)else false)then (withV e.day 100001)else false)then (withV e.fr n)else false),(⟨e.kind,e.room,e.day,e.no,e.fr,0,0,0,0⟩:Fe),e.room,e.no,e.fr,0)) ?_ (hp:=by simp[AllP]<;>rfl)
    exact by rw[hjc2,chkVKc2,if_pos (by (try simp only[bb,toN]);exact c3)]
   ·try simp only[bb,toN]at c3
    refine gk_region env false [] [1,5,6,7,8,28,87] ?_
    refine gk_ifd (fun c4=> ?_) (fun c4=> ?_)
    ·try simp only[toN]at c4
     refine gk_region env false [] [1,5,6,7,8] ?_
     refine gk_region env false [] [1,5,6,7,8] ?_
     refine gk_goal (((bif (bif (bif (bif (withV (IntKind.i64.wrap (n-1)) 40)then (withV (IntKind.i64.wrap (rooms-1)) 8)else false)then (withV e.day 100001)else false)then decide (e.day≤e.due)else false)then decide (e.due≤100000)else false),(⟨e.kind,e.room,e.day,0,0,0,0,e.due,0⟩:Fe),e.room,0,0,e.due)) ?_ (hp:=by simp[AllP]<;>rfl)
     exact by rw[hjc2,chkVKc2,if_neg (by rw[Bool.not_eq_true];(try simp only[bb,toN]);exact c3),if_pos c4]
    ·try simp only[toN]at c4
     refine gk_region env false [] [1,5,6,7,8,28,108] ?_
     refine gk_ifd (fun c5=> ?_) (fun c5=> ?_)
     ·try simp only[toN]at c5
      refine gk_region env false [] [1,5,6,7,8] ?_
      refine gk_goal (((bif (bif (withV (IntKind.i64.wrap (n-1)) 40)then (withV (IntKind.i64.wrap (rooms-1)) 8)else false)then (withV e.day 100001)else false),(⟨e.kind,0,e.day,e.no,0,0,0,0,0⟩:Fe),0,e.no,0,0)) ?_ (hp:=by simp[AllP]<;>rfl)
      exact by rw[hjc2,chkVKc2,if_neg (by rw[Bool.not_eq_true];(try simp only[bb,toN]);exact c3),if_neg c4,if_pos c5]
     ·try simp only[toN]at c5
      refine gk_region env false [] [1,5,6,7,8,113] ?_
      refine gk_ifd (fun c6=> ?_) (fun c6=> ?_)
      ·try simp only[toN]at c6
       refine gk_goal (((bif (bif (withV (IntKind.i64.wrap (n-1)) 40)then (withV (IntKind.i64.wrap (rooms-1)) 8)else false)then (withV e.day 100001)else false),(⟨e.kind,0,e.day,0,0,0,0,0,0⟩:Fe),0,0,0,0)) ?_ (hp:=by simp[AllP]<;>rfl)
       exact by rw[hjc2,chkVKc2,if_neg (by rw[Bool.not_eq_true];(try simp only[bb,toN]);exact c3),if_neg c4,if_neg c5,if_pos c6]
      ·try simp only[toN]at c6
       refine gk_region env false [] [1,5,6,7,8] ?_
       refine gk_goal ((false,(⟨e.kind,0,e.day,0,0,0,0,0,0⟩:Fe),0,0,0,0)) ?_ (hp:=by simp[AllP]<;>rfl)
       exact by rw[hjc2,chkVKc2,if_neg (by rw[Bool.not_eq_true];(try simp only[bb,toN]);exact c3),if_neg c4,if_neg c5,if_neg c6]
  refine gk_ifd (fun c7=> ?_) (fun c7=> ?_)
  ·try simp only[toN]at c7
   refine gk_goal (decide (e.kind=1)) ?_ (hp:=by simp[AllP]<;>rfl)
   exact by rw[chkV,if_neg c2,if_pos c7]
  ·try simp only[toN]at c7
   refine gk_region env false [] [0,1,5,6,7,8,28,68] ?_
   refine gk_goal (decide (e.kind=2)) ?_ (hp:=by simp[AllP]<;>rfl)
   exact by rw[chkV,if_neg c2,if_neg c7]
def lsdB (e:Fe) (room:Int) (day:Int):Bool:=(bif (bif (bif decide (e.kind=3)then decide (e.room=room)else false)then decide (e.day≤day)else false)then decide (day≤e.due)else false)
theorem lsdB_ok (e:Fe) (room:Int) (day:Int):GC Tryz.prog 49 [feG e,.ep [.sc (.int .i64 room)],.ep [.sc (.int .i64 day)]] (bG (lsdB e room day)):=by
 refine gc_of_gk Tryz.func49 ?_
 refine gk_region env false [] [1,2,3,4] ?_
 refine gk_region env false [] [4] ?_
 refine gk_ret env ?_
 rw[lsdB];rfl
theorem idx_lsdB_ok (l:List Fe) (hl:l.length≤9223372036854775807) (room:Int) (day:Int):GC Tryz.prog 47 [.d (.row default feC l),.fn (.func 49) [] [.ep [.sc (.int .i64 room)],.ep [.sc (.int .i64 day)]]] (iG (findI (fun y=>lsdB y room day) l 0)):=by
 refine gc_of_gk Tryz.func47 ?_
 refine gk_region env false [] [0,1,4] ?_
 refine gk_region env false [] [0,1,4,7,8] ?_
 refine gk_loop (α:=Nat) (fun i=>i≤l.length∧findI (fun y=>lsdB y room day) l 0=findI (fun y=>lsdB y room day) (l.drop i) i) (fun i=>[(8,iG i)]) (fun _=>[]) (fun i=>l.length-i) 0 ⟨by omega,rfl⟩ ?_ (hp:=by simp[AllP]<;>rfl)
 rintro i ⟨hi,he⟩
 refine gk_region env false [] [0,1,4,7,8,9] ?_
 refine gk_ifd (fun c1=> ?_) (fun c1=> ?_)
 ·try simp only[toN]at c1
  refine gk_region env false [] [0,1,4,5,7,8] ?_
  refine gk_region env false [.call (lsdB_ok (l.getD i default) room day)] [0,1,4,5,7,8,16] ?_
  refine gk_if (fun c2=> ?_) (fun c2=> ?_)
  ·try simp only[bb,toN]at c2
   refine gk_region env false [] [0,1,4,7,8] ?_
   refine gk_ret env ?_
   rw[he,dropC (by omega),findI,if_pos (by exact c2)];rfl
  ·try simp only[bb,toN]at c2
   refine gk_region env false [] [0,1,4,7,8] ?_
   refine gk_round (i+1) ?_ (hp:=by simp[AllP]<;>rfl)
   refine ⟨by omega,he.trans ?_⟩
   rw[dropC (by omega),findI,if_neg (by rw[Bool.not_eq_true];exact c2)]
 ·try simp only[toN]at c1
  refine gk_region env false [] [4] ?_
  refine gk_ret env ?_
  rw[he,dropN (by omega)];rfl
theorem has_lsdB_ok (l:List Fe) (hl:l.length≤9223372036854775807) (room:Int) (day:Int):GC Tryz.prog 21 [.d (.row default feC l),.fn (.func 49) [] [.ep [.sc (.int .i64 room)],.ep [.sc (.int .i64 day)]]] (bG (l.any (fun y=>lsdB y room day))):=by
 refine gc_of_gk Tryz.func21 ?_
 refine gk_region env false [] [0,1,4] ?_
 refine gk_region env false [.call (idx_lsdB_ok l hl room day)] [4] ?_
 refine gk_ret env ?_
 rw[←findI_any];rfl
def lsdV (l:List Fe) (room:Int) (day:Int):Bool:=(l.any (fun y=>lsdB y room day))
theorem lsd_ok (l:List Fe) (room:Int) (day:Int) (hl:l.length≤1000000):GC Tryz.prog 25 [.d (.row default feC l),iG room,iG day] (bG (lsdV l room day)):=by
 refine gc_of_gk Tryz.func25 ?_
 refine gk_region env false [] [0,4,5,6] ?_
 refine gk_box 0 ?_
 refine gk_box 1 ?_
 refine gk_region env false [.call (has_lsdB_ok l (by omega) room day)] [6] ?_
 refine gk_ret env ?_
 rw[lsdV];rfl
def valVL2 (n:Int) (rooms:Int) (cl:Int) (l:List Fe) (a9_1:List Fe) (k1:Nat) (a8_2:List Fe) (k2:Nat):(List Fe)×(List Fe):=if k2<l.length then if (bif (bif (bif decide ((chkV n rooms (l.getD k2 default))=0)then decide (((l.getD k2 default).kind)≤2)else false)then decide (((l.getD k2 default).day)≤cl)else false)then (lsdV a9_1 ((l.getD k2 default).room) ((l.getD k2 default).day))else false)=true then valVL2 n rooms cl l a9_1 k1 (a8_2++ [(l.getD k2 default)]) (k2+1)else valVL2 n rooms cl l a9_1 k1 a8_2 (k2+1)else (a8_2,a9_1)
termination_by l.length-k2
def valVL (n:Int) (rooms:Int) (cl:Int) (l:List Fe) (a9_1:List Fe) (k1:Nat):(List Fe)×(List Fe):=if k1<l.length then if (bif (bif decide ((chkV n rooms (l.getD k1 default))=0)then decide (((l.getD k1 default).kind)=3)else false)then decide (((l.getD k1 default).day)≤cl)else false)=true then valVL n rooms cl l (a9_1++ [(l.getD k1 default)]) (k1+1)else valVL n rooms cl l a9_1 (k1+1)else valVL2 n rooms cl l a9_1 k1 [] 0
termination_by l.length-k1
def valV (n:Int) (rooms:Int) (cl:Int) (l:List Fe):(List Fe)×(List Fe):=valVL n rooms cl l [] 0
theorem val_ok (n:Int) (rooms:Int) (cl:Int) (l:List Fe) (hl:l.length≤1000):GC Tryz.prog 19 [iG n,iG rooms,iG cl,.d (.row default feC l)] (.tup [.d (.row default feC ((valV n rooms cl l).1)),.d (.row default feC ((valV n rooms cl l).2))]):=by
 refine gc_of_gk Tryz.func19 ?_
 refine gk_region env false [] [0,1,2,3,8,9] ?_
 refine gk_region env false [] [0,1,2,3,8,9,14,15,16] ?_
 refine gk_nil 9 25 9 (default:Fe) feC (by rfl) (by rfl) ?_
 refine gk_loop (α:=List Fe×Nat) (fun x=>x.2≤l.length∧valVL n rooms cl l [] 0=valVL n rooms cl l x.1 x.2∧x.1.length≤x.2) (fun x=>[(9,.sl 0 9 0 x.1.length),(16,iG x.2)]) (fun x=>[(0,some (.row 25 9 default feC x.1 0))]) (fun x=>l.length-x.2) ([],0) ⟨by (try simp only[]);omega,rfl,by first|omega|(simp;done)|(simp only[List.length_append,List.length_cons,List.length_nil,List.length_set,List.length_replicate];omega)⟩ ?_ (hp:=by simp[AllP]<;>rfl)
 rintro ⟨a9_1,k1⟩ ⟨hi1,he,hl_a9_1⟩
 dsimp only at*
 refine gk_region env false [] [0,1,2,3,8,9,14,15,16,17] ?_
 refine gk_ifd (fun c1=> ?_) (fun c1=> ?_)
 ·try simp only[toN]at c1
  refine gk_region env false [] [0,1,2,3,8,9,11,14,15,16] ?_
  refine gk_region env false [.call (chk_ok n rooms (l.getD k1 default))] [0,1,2,3,8,9,11,14,15,16,35] ?_
  refine gk_if (fun c2=> ?_) (fun c2=> ?_)
  ·try simp only[bb,toN]at c2
   refine gk_region env false [.el default feC ([(l.getD k1 default)]:List Fe),.el default feC (a9_1++ [(l.getD k1 default)])] [0,1,2,3,8,9,14,15,16] ?_ (hp:=(by simp only[AllP,Int.toNat_natCast];repeat' first|exact trivial|exact EntL.refl _|exact BEntL.refl _|exact rfl|omega|apply And.intro|intro _|(simp[rowL];done)|(simp only[List.length_append,List.length_cons,List.length_nil];omega)|(simp[*];done)))
   refine gk_region env false [] [0,1,2,3,8,9,14,15,16] ?_
   refine gk_round ((a9_1++ [(l.getD k1 default)],k1+1)) ?_ (hp:=by simp[AllP]<;>rfl) (hm:=by dsimp only;omega)
   refine ⟨by (try simp only[]);omega,he.trans ?_,by first|omega|(simp;done)|(simp only[List.length_append,List.length_cons,List.length_nil,List.length_set,List.length_replicate];omega)⟩
   rw[valVL,if_pos (by omega),if_pos (by (try simp only[bb,toN]);exact c2)]
   try rfl
  ·try simp only[bb,toN]at c2
   refine gk_region env false [] [0,1,2,3,8,9,14,15,16] ?_
   refine gk_round ((a9_1,k1+1)) ?_ (hp:=by simp[AllP]<;>rfl) (hm:=by dsimp only;omega)
   refine ⟨by (try simp only[]);omega,he.trans ?_,by first|omega|(simp;done)|(simp only[List.length_append,List.length_cons,List.length_nil,List.length_set,List.length_replicate];omega)⟩
   rw[valVL,if_pos (by omega),if_neg (by rw[Bool.not_eq_true];(try simp only[bb,toN]);exact c2)]
   try rfl
 ·try simp only[toN]at c1
  refine gk_row 0 ?_
  refine gk_region env false [] [0,1,2,8,9,41,42,43] ?_
  refine gk_nil 8 25 9 (default:Fe) feC (by rfl) (by rfl) ?_
  refine gk_loop (α:=List Fe×Nat) (fun x=>x.2≤l.length∧valVL2 n rooms cl l a9_1 k1 [] 0=valVL2 n rooms cl l a9_1 k1 x.1 x.2∧x.1.length≤x.2) (fun x=>[(8,.sl 1 9 0 x.1.length),(43,iG x.2)]) (fun x=>[(1,some (.row 25 9 default feC x.1 0))]) (fun x=>l.length-x.2) ([],0) ⟨by (try simp only[]);omega,rfl,by first|omega|(simp;done)|(simp only[List.length_append,List.length_cons,List.length_nil,List.length_set,List.length_replicate];omega)⟩ ?_ (hp:=by simp[AllP]<;>rfl)
  rintro ⟨a8_2,k2⟩ ⟨hi2,he2,hl_a8_2⟩
  dsimp only at*
  refine gk_region env false [] [0,1,2,8,9,41,42,43,44] ?_
  refine gk_ifd (fun c3=> ?_) (fun c3=> ?_)
  ·try simp only[toN]at c3
   refine gk_region env false [] [0,1,2,8,9,13,41,42,43] ?_
   refine gk_region env false [.call (chk_ok n rooms (l.getD k2 default)),.call (lsd_ok a9_1 ((l.getD k2 default).room) ((l.getD k2 default).day) (by omega))] [0,1,2,8,9,13,41,42,43,70] ?_
   refine gk_if (fun c4=> ?_) (fun c4=> ?_)
   ·try simp only[bb,toN]at c4
    refine gk_region env false [.el default feC ([(l.getD k2 default)]:List Fe),.el default feC (a8_2++ [(l.getD k2 default)])] [0,1,2,8,9,41,42,43] ?_ (hp:=(by simp only[AllP,Int.toNat_natCast];repeat' first|exact trivial|exact EntL.refl _|exact BEntL.refl _|exact rfl|omega|apply And.intro|intro _|(simp[rowL];done)|(simp only[List.length_append,List.length_cons,List.length_nil];omega)|(simp[*];done)))
    refine gk_region env false [] [0,1,2,8,9,41,42,43] ?_
    refine gk_round ((a8_2++ [(l.getD k2 default)],k2+1)) ?_ (hp:=by simp[AllP]<;>rfl) (hm:=by dsimp only;omega)
    refine ⟨by (try simp only[]);omega,he2.trans ?_,by first|omega|(simp;done)|(simp only[List.length_append,List.length_cons,List.length_nil,List.length_set,List.length_replicate];omega)⟩
    rw[valVL2,if_pos (by omega),if_pos (by (try simp only[bb,toN]);exact c4)]
    try rfl
   ·try simp only[bb,toN]at c4
    refine gk_region env false [] [0,1,2,8,9,41,42,43] ?_
    refine gk_round ((a8_2,k2+1)) ?_ (hp:=by simp[AllP]<;>rfl) (hm:=by dsimp only;omega)
    refine ⟨by (try simp only[]);omega,he2.trans ?_,by first|omega|(simp;done)|(simp only[List.length_append,List.length_cons,List.length_nil,List.length_set,List.length_replicate];omega)⟩
    rw[valVL2,if_pos (by omega),if_neg (by rw[Bool.not_eq_true];(try simp only[bb,toN]);exact c4)]
    try rfl
  ·try simp only[toN]at c3
   refine gk_region env false [] [8,9] ?_
   refine gk_ret env ?_
   rw[valV,he,valVL,if_neg (by omega),he2,valVL2,if_neg (by omega)];rfl
def fitV (n:Int) (rooms:Int) (cl:Int) (l:List Fe):Bool:=(bif (bif (bif (withV (IntKind.i64.wrap (n-1)) 40)then (withV (IntKind.i64.wrap (rooms-1)) 8)else false)then (withV cl 100001)else false)then decide ((l.length:Int)≤400)else false)
theorem fit_ok (n:Int) (rooms:Int) (cl:Int) (l:List Fe):GC Tryz.prog 17 [iG n,iG rooms,iG cl,.d (.row default feC l)] (bG (fitV n rooms cl l)):=by
 refine gc_of_gk Tryz.func17 ?_
 refine gk_region env false [] [0,1,2,3,8] ?_
 refine gk_region env true [.call (with_ok (IntKind.i64.wrap (n-1)) 40),.call (with_ok (IntKind.i64.wrap (rooms-1)) 8),.call (with_ok cl 100001)] [8] ?_
 refine gk_ret env ?_
 rw[fitV];rfl
def sayB (e:Fe) (kind:Int) (no:Int) (fr:Int):Bool:=(bif (bif decide (e.kind=kind)then decide (e.no=no)else false)then decide (e.fr=fr)else false)
theorem sayB_ok (e:Fe) (kind:Int) (no:Int) (fr:Int):GC Tryz.prog 22 [feG e,.ep [.sc (.int .i64 kind)],.ep [.sc (.int .i64 no)],.ep [.sc (.int .i64 fr)]] (bG (sayB e kind no fr)):=by
 refine gc_of_gk Tryz.func22 ?_
 refine gk_region env false [] [1,2,3,4,5] ?_
 refine gk_region env false [] [5] ?_
 refine gk_ret env ?_
 rw[sayB];rfl
theorem idx_sayB_ok (l:List Fe) (hl:l.length≤9223372036854775807) (kind:Int) (no:Int) (fr:Int):GC Tryz.prog 47 [.d (.row default feC l),.fn (.func 22) [] [.ep [.sc (.int .i64 kind)],.ep [.sc (.int .i64 no)],.ep [.sc (.int .i64 fr)]]] (iG (findI (fun y=>sayB y kind no fr) l 0)):=by
 refine gc_of_gk Tryz.func47 ?_
 refine gk_region env false [] [0,1,4] ?_
 refine gk_region env false [] [0,1,4,7,8] ?_
 refine gk_loop (α:=Nat) (fun i=>i≤l.length∧findI (fun y=>sayB y kind no fr) l 0=findI (fun y=>sayB y kind no fr) (l.drop i) i) (fun i=>[(8,iG i)]) (fun _=>[]) (fun i=>l.length-i) 0 ⟨by omega,rfl⟩ ?_ (hp:=by simp[AllP]<;>rfl)
 rintro i ⟨hi,he⟩
 refine gk_region env false [] [0,1,4,7,8,9] ?_
 refine gk_ifd (fun c1=> ?_) (fun c1=> ?_)
 ·try simp only[toN]at c1
  refine gk_region env false [] [0,1,4,5,7,8] ?_
  refine gk_region env false [.call (sayB_ok (l.getD i default) kind no fr)] [0,1,4,5,7,8,16] ?_
  refine gk_if (fun c2=> ?_) (fun c2=> ?_)
  ·try simp only[bb,toN]at c2
   refine gk_region env false [] [0,1,4,7,8] ?_
   refine gk_ret env ?_
   rw[he,dropC (by omega),findI,if_pos (by exact c2)];rfl
  ·try simp only[bb,toN]at c2
   refine gk_region env false [] [0,1,4,7,8] ?_
   refine gk_round (i+1) ?_ (hp:=by simp[AllP]<;>rfl)
   refine ⟨by omega,he.trans ?_⟩
   rw[dropC (by omega),findI,if_neg (by rw[Bool.not_eq_true];exact c2)]
 ·try simp only[toN]at c1
  refine gk_region env false [] [4] ?_
  refine gk_ret env ?_
  rw[he,dropN (by omega)];rfl
theorem has_sayB_ok (l:List Fe) (hl:l.length≤9223372036854775807) (kind:Int) (no:Int) (fr:Int):GC Tryz.prog 21 [.d (.row default feC l),.fn (.func 22) [] [.ep [.sc (.int .i64 kind)],.ep [.sc (.int .i64 no)],.ep [.sc (.int .i64 fr)]]] (bG (l.any (fun y=>sayB y kind no fr))):=by
 refine gc_of_gk Tryz.func21 ?_
 refine gk_region env false [] [0,1,4] ?_
 refine gk_region env false [.call (idx_sayB_ok l hl kind no fr)] [4] ?_
 refine gk_ret env ?_
 rw[←findI_any];rfl
def othB (e:Fe) (z:Fe):Bool:=(bif (bif decide (e.kind=0)then decide (e.no=z.no)else false)then (!(eqb_Fe e z))else false)
theorem othB_ok (e:Fe) (z:Fe):GC Tryz.prog 23 [feG e,.ep (feC z)] (bG (othB e z)):=by
 refine gc_of_gk Tryz.func23 ?_
 refine gk_region env false [] [1,2,3] ?_
 refine gk_region env false [.eq (eqc_Fe e z)] [3] ?_
 refine gk_ret env ?_
 rw[othB];rfl
theorem idx_othB_ok (l:List Fe) (hl:l.length≤9223372036854775807) (z:Fe):GC Tryz.prog 47 [.d (.row default feC l),.fn (.func 23) [] [.ep (feC z)]] (iG (findI (fun y=>othB y z) l 0)):=by
 refine gc_of_gk Tryz.func47 ?_
 refine gk_region env false [] [0,1,4] ?_
 refine gk_region env false [] [0,1,4,7,8] ?_
 refine gk_loop (α:=Nat) (fun i=>i≤l.length∧findI (fun y=>othB y z) l 0=findI (fun y=>othB y z) (l.drop i) i) (fun i=>[(8,iG i)]) (fun _=>[]) (fun i=>l.length-i) 0 ⟨by omega,rfl⟩ ?_ (hp:=by simp[AllP]<;>rfl)
 rintro i ⟨hi,he⟩
 refine gk_region env false [] [0,1,4,7,8,9] ?_
 refine gk_ifd (fun c1=> ?_) (fun c1=> ?_)
 ·try simp only[toN]at c1
  refine gk_region env false [] [0,1,4,5,7,8] ?_
  refine gk_region env false [.call (othB_ok (l.getD i default) z)] [0,1,4,5,7,8,16] ?_
  refine gk_if (fun c2=> ?_) (fun c2=> ?_)
  ·try simp only[bb,toN]at c2
   refine gk_region env false [] [0,1,4,7,8] ?_
   refine gk_ret env ?_
   rw[he,dropC (by omega),findI,if_pos (by exact c2)];rfl
  ·try simp only[bb,toN]at c2
   refine gk_region env false [] [0,1,4,7,8] ?_
   refine gk_round (i+1) ?_ (hp:=by simp[AllP]<;>rfl)
   refine ⟨by omega,he.trans ?_⟩
   rw[dropC (by omega),findI,if_neg (by rw[Bool.not_eq_true];exact c2)]
 ·try simp only[toN]at c1
  refine gk_region env false [] [4] ?_
  refine gk_ret env ?_
  rw[he,dropN (by omega)];rfl
theorem has_othB_ok (l:List Fe) (hl:l.length≤9223372036854775807) (z:Fe):GC Tryz.prog 21 [.d (.row default feC l),.fn (.func 23) [] [.ep (feC z)]] (bG (l.any (fun y=>othB y z))):=by
 refine gc_of_gk Tryz.func21 ?_
 refine gk_region env false [] [0,1,4] ?_
 refine gk_region env false [.call (idx_othB_ok l hl z)] [4] ?_
 refine gk_ret env ?_
 rw[←findI_any];rfl
def sayV (kind:Int) (no:Int) (fr:Int) (ev:List Fe):Bool:=(ev.any (fun y=>sayB y kind no fr))
theorem say_ok (kind:Int) (no:Int) (fr:Int) (ev:List Fe) (hl:ev.length≤1000000):GC Tryz.prog 20 [iG kind,iG no,iG fr,.ep [.row default feC ev]] (bG (sayV kind no fr ev)):=by
 refine gc_of_gk Tryz.func20 ?_
 refine gk_region env false [] [3,4,5,6,7] ?_
 refine gk_box 0 ?_
 refine gk_box 1 ?_
 refine gk_box 2 ?_
 refine gk_region env false [.call (has_sayB_ok ev (by omega) kind no fr)] [7] ?_
 refine gk_ret env ?_
 rw[sayV];rfl
def idxFeL (l:List Fe) (z:Fe) (k1:Nat):Int:=if k1<l.length then if (eqb_Fe z (l.getD k1 default))=true then (k1:Int)else idxFeL l z (k1+1)else (-1)
termination_by l.length-k1
def idxFe (l:List Fe) (z:Fe):Int:=idxFeL l z 0
def hasFe (l:List Fe) (z:Fe):Bool:=decide (0≤(idxFe l z))
end Go.Gh
