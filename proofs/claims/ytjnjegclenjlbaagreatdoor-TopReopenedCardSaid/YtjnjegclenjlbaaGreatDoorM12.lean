/- Walks by the logic of calls, and plain laws (several texts in one). -/
import Derived.Test.YtjnjegclenjlbaaGreatDoorM11
import Derived.Test.YtjnjegclenjlbaaGreatDoorM10
namespace Go.Gh
open Go Go.Proofs
set_option maxRecDepth 1000000
set_option maxHeartbeats 2000000
set_option linter.unusedSimpArgs false
set_option linter.unusedVariables false
set_option linter.unnecessarySimpa false
open Go.RowKit Go.Proofs Go.Sort
theorem arr2 {us:Array Value} (h:us.size=2):∃u v,us= #[u,v]:=by
 obtain ⟨l⟩:=us
 match l,h with
 | [u,v],_=>exact ⟨u,v,rfl⟩
theorem own_dr {w:World} {base tI:Nat} {v:Value} {l:List Int} {B0:Nat} (h:w.ownsRow base tI 1 v l.length (l.map (Value.int .i64))) (hb:B0≤base):DR (fun b o=>B0≤b∧(w.cell? ⟨b,o,none⟩).isSome=true) w (.row (default:Int) inC l) v:=by
 rcases h.2 with ⟨rfl,h0⟩|⟨g,cap,cur,rfl,hbg,hg,r1,r2,r3,r4⟩
 ·have hl0:l= []:=List.eq_nil_of_length_eq_zero h0
  subst hl0
  exact .row default inC [] none 0 0 0 0 (fun _ _=>undef) (fun h=>absurd rfl h) (Nat.zero_le _) (fun e he=>(by cases he)) (fun i e j x a=>(by simp at a)) (fun i e j x a=>(by simp at a)) (fun i e j x a=>(by simp at a))
 ·have hcell:∀(i:Nat) (e:Int),l[i]? =some e→w.cell? ⟨g,0+i*1+0,none⟩=some (.int .i64 e):=fun i e hi=>by
   rw[blk_cell hg]
   have hlt:=(List.getElem?_eq_some_iff.1 hi).1
   have h1:(cur.toList.take (l.length*1))[i]? =some (Value.int .i64 e):=by rw[r4,List.getElem?_map,hi];rfl
   rw[List.getElem?_take,if_pos (by omega)]at h1
   simpa using h1
  have hj:∀(e:Int) (j:Nat) (x:D),(inC e)[j]? =some x→j=0∧x= .sc (.int .i64 e):=fun e j x hx=>by
   cases j with
   |zero=>simp[inC]at hx;exact ⟨rfl,hx.symm⟩
   |succ j=>simp[inC]at hx
  refine .row default inC l (some ⟨g,0,none⟩) cap g 0 1 (fun i _=> .int .i64 (l.getD i 0)) (fun _=>rfl) r1 (fun e _=>rfl) (fun i e j x h1 h2=> ?_) (fun i e j x h1 h2=> ?_) (fun i e j x h1 h2=> ?_)<;>obtain ⟨rfl,rfl⟩:=hj e j x h2<;>have hd:l.getD i 0=e:=by rw[List.getD_eq_getElem?_getD,h1];rfl
  ·rw[hd];exact hcell i e h1
  ·exact ⟨Nat.le_trans hb hbg,by rw[hcell i e h1];rfl⟩
  ·rw[hd];exact .sc _ rfl
theorem next_ok (n:Nat) (es:List (Int×Int)) (hn:n≤300) (hl:es.length≤100) (he:∀e,e∈es→(0≤e.1∧e.1<n)∧0≤e.2∧e.2<n):GC Tryz.prog 30 [iG n,.d (.row default edC es)] (.d (.row default row_inC (nxtV n es))):=by
 refine gc_of_vrs Tryz.func30 rfl rfl rfl fun F w us hg hF hv=> ?_
 obtain ⟨u,v,rfl⟩:=arr2 hv.1
 have h0:=(hv.2 0 (iG n) u rfl rfl).sc_eq.1
 have h1:=hv.2 1 _ v rfl rfl
 subst h0
 cases h1 with
 |d h1=>cases h1 with
  |row _ _ _ A c b off es' val hA hc hl' hw hF' hd=>
   have hsz:es≠ []→es'=2:=fun hne=>by
    obtain ⟨e,l,rfl⟩:=List.exists_cons_of_ne_nil hne
    have:=hl' e List.mem_cons_self
    exact this.symm
   have hcell:∀(k:Nat) (e:Int×Int),es[k]? =some e→w.cell? ⟨b,off+k*2,none⟩=some (.int .i64 e.1)∧w.cell? ⟨b,off+k*2+1,none⟩=some (.int .i64 e.2):=fun k e hk=>by
    have h2:=hsz (fun h=>by rw[h]at hk;cases hk)
    subst h2
    have a0:=hw k e 0 _ hk rfl
    have a1:=hw k e 1 _ hk rfl
    have d0:=hd k e 0 _ hk rfl
    have d1:=hd k e 1 _ hk rfl
    generalize val k 0=z0 at a0 d0
    generalize val k 1=z1 at a1 d1
    cases d0;cases d1
    exact ⟨a0,a1⟩
   refine (next_run n hn es hl he A b off c w hA (fun hne=> ?_) (Lib.hid hcell)).mono ?_
   ·obtain ⟨e,l,rfl⟩:=List.exists_cons_of_ne_nil hne
    exact hF b _ (hF' 0 e 0 _ rfl rfl)
   ·rintro e w' ⟨vals,rfl,hR⟩
    have hlen:=nxtV_len n es
    refine ⟨_,fun b o=>w.heap.size≤b∧(w'.cell? ⟨b,o,none⟩).isSome=true,rfl,hR.below,fun b o h=>h,?_⟩
    have hvl:∀(i:Nat) l,(nxtV n es)[i]? =some l→∃v,vals[i]? =some v:=fun i l hi=>by
     have:=(List.getElem?_eq_some_iff.1 hi).1
     exact ⟨_,List.getElem?_eq_getElem (by rw[hR.len];exact this)⟩
    have hj:∀(e:List Int) (j:Nat) (x:D),(row_inC e)[j]? =some x→j=0∧x= .row default inC e:=fun e j x hx=>by
     cases j with
     |zero=>simp[row_inC]at hx;exact ⟨rfl,hx.symm⟩
     |succ j=>simp[row_inC]at hx
    have hcl:∀(i:Nat) l v,(nxtV n es)[i]? =some l→vals[i]? =some v→w'.cell? ⟨w.heap.size,0+i*1+0,none⟩=some v:=fun i l v _ h2=>by
     rw[blk_cell hR.blk];simpa using h2
    have hgo:=DR.row (F:=fun b o=>w.heap.size≤b∧(w'.cell? ⟨b,o,none⟩).isSome=true) (w:=w') (default:List Int) row_inC (nxtV n es) (some ⟨w.heap.size,0,none⟩) n w.heap.size 0 1 (fun i _=>vals.getD i undef) (fun _=>rfl) (by rw[hlen];exact Nat.le_refl _) (fun e _=>rfl) (fun i l j x h1 h2=> ?_) (fun i l j x h1 h2=> ?_) (fun i l j x h1 h2=> ?_)
    ·rw[hlen]at hgo
     exact .d hgo
    all_goals
     obtain ⟨rfl,rfl⟩:=hj l j x h2
     obtain ⟨v,h3⟩:=hvl i l h1
     have hd:vals.getD i undef=v:=by rw[List.getD_eq_getElem?_getD,h3];rfl
    ·rw[hd];exact hcl i l v h1 h3
    ·exact ⟨Nat.le_refl _,by rw[hcl i l v h1 h3];rfl⟩
    ·rw[hd];exact own_dr (hR.own i v l h3 h1) (Nat.le_succ _)
open Go.RowKit
def nlB:Option (List Bool)→List D
 |none=>[.sc (.slice none 0 0)]
 |some l=>[.row default boC l]
theorem nlB_some (l:List (List Bool)):rowL nlB (l.map some)=rowL row_boC l:=by simp[rowL,nlB,row_boC]
def seK (to_:List (List Int)) (k:Nat):List (Option (List Bool)):=(List.range k).map (fun (a:Nat)=>some (reachF to_ a))++List.replicate (to_.length-k) none
theorem seK_len (to_:List (List Int)) {k:Nat} (h:k≤to_.length):(seK to_ k).length=to_.length:=by simp[seK];omega
theorem seK_0 (to_:List (List Int)):seK to_ 0=List.replicate to_.length none:=by simp[seK]
def seenV (to_:List (List Int)):List (List Bool):=(List.range to_.length).map fun (a:Nat)=>reachF to_ a
theorem seK_n (to_:List (List Int)):seK to_ to_.length=(seenV to_).map some:=by simp[seK,seenV]
theorem seK_s (to_:List (List Int)) {k:Nat} (h:k<to_.length):(seK to_ k).set k (some (reachF to_ k))=seK to_ (k+1):=by
 have hl:((List.range k).map (fun (a:Nat)=>some (reachF to_ a))).length=k:=by simp
 unfold seK
 rw[List.set_append_right _ _ (by omega),hl,Nat.sub_self,show to_.length-k=(to_.length-(k+1))+1 by omega,List.replicate_succ,List.set_cons_zero,List.range_succ,List.map_append,List.append_assoc]
 rfl
theorem seenV_get (to_:List (List Int)) {k:Nat} (h:k<to_.length):(seenV to_).getD k default=reachF to_ k:=by
 unfold seenV
 rw[List.getD_eq_getElem?_getD,List.getElem?_map,List.getElem?_eq_getElem (by simpa using h)]
 simp
theorem visitF_len:∀(l:List Int) (out:List Bool) (q:List Int),(visitF out q l).1.length=out.length:=by
 intro l
 induction l with
 |nil=>intro out q;rfl
 |cons b l ih=>intro out q;rw[visitF];split<;>simp[ih]
theorem bfsF_len (to_:List (List Int)):∀(k:Nat) (out:List Bool) (q:List Int),(bfsF to_ k out q).length=out.length:=by
 intro k
 induction k with
 |zero=>intro out q;rfl
 |succ k ih=>intro out q;cases q with
  |nil=>rfl
  |cons a q=>rw[bfsF,ih,visitF_len]
theorem reachF_len (to_:List (List Int)) (a:Int):(reachF to_ a).length=to_.length:=by
 unfold reachF;rw[bfsF_len];simp
theorem grpF_len (to_:List (List Int)) (a:Int):∀k,(grpF to_ a k).length≤k:=by
 intro k
 induction k with
 |zero=>simp[grpF]
 |succ k ih=>rw[grpF,List.length_append];split<;>simp<;>omega
def DoneI (n:Nat) (out:List (List Int)) (l:List Int) (done:List Bool):Prop:=done.length=n∧∀b,b<n→done.getD b default=((out.any fun g=>g.contains (b:Int))||l.contains (b:Int))
theorem DoneI.set {n:Nat} {out:List (List Int)} {l:List Int} {done:List Bool} (h:DoneI n out l done) {b:Nat} (hb:b<n):DoneI n out (l++ [(b:Int)]) (done.set b true):=by
 refine ⟨by rw[List.length_set];exact h.1,fun c hc=> ?_⟩
 rw[getD_setL (by rw[h.1];exact hb)]
 split
 ·rename_i e;subst e;simp
 ·rename_i e
  rw[h.2 c hc]
  have:((c:Int)==(b:Int))=false:=by rw[beq_eq_false_iff_ne];omega
  rw[List.contains_eq_any_beq,List.contains_eq_any_beq,List.any_append]
  simp[this]
theorem groups0_ok (n:Nat) (es:List (Int×Int)) (hn:n≤300) (hl:es.length≤100) (hr:rightG n es=true) (he:∀e,e∈es→(0≤e.1∧e.1<n)∧0≤e.2∧e.2<n) (ht:ToIn n (nxtV n es)) (hl2:∀l,l∈nxtV n es→l.length≤1000):
 GC Tryz.prog 10 [iG n,.d (.row default edC es)] (.d (.row default row_inC (groupsT (nxtV n es)))):=by
 refine gc_of_gk Tryz.func10 ?_
 refine gk_region env false [] [0,1,4] ?_
 refine gk_region env false [.call (gright_ok n es (by omega))] [0,1,4,16] ?_
 refine gk_if (fun c1=> ?_) (fun c1=> ?_)
 ·simp only[bb]at c1
  rw[hr]at c1;cases c1
 refine gk_region env false [.call (next_ok n es hn hl he)] [0,4,5] ?_
 obtain ⟨to_,hto⟩:∃t,t=nxtV n es:=⟨_,rfl⟩
 rw[←hto]at ht hl2⊢
 have htl:=ht.len
 refine gk_region env false [.el (none:Option (List Bool)) nlB (List.replicate to_.length none)] [0,4,5,6] ?_ (hp:=by rw[htl];exact (by simp only[AllP,bb,toN,loI,hiI];repeat' first|exact trivial|exact EntL.refl _|exact BEntL.refl _|exact rfl|(rw[rowL,List.map_replicate];rfl)|omega|apply And.intro|intro _|(simp;done)))
 refine gk_region env false [] [0,4,5,6,22,23] ?_
 refine gk_loop (α:=Nat) (fun k=>k≤n) (fun k=>[(6,.sl 0 1 0 (seK to_ k).length),(23,iG k)]) (fun k=>[(0,some (.row 45 1 (none:Option (List Bool)) nlB (seK to_ k) 0))]) (fun k=>n-k) 0 (Nat.zero_le _) ?_ (hp:=by simp only[AllP,seK_0,List.length_replicate,htl];repeat' first|exact trivial|exact rfl|omega|apply And.intro)
 rintro k hk
 have hsk:=seK_len to_ (k:=k) (by omega)
 refine gk_region env false [] [0,4,5,6,22,23,24] ?_
 refine gk_ifd (fun c2=> ?_) (fun c2=> ?_)
 ·have hk2:k<n:=by omega
  refine gk_region env false [] [0,4,5,6,7,22,23] ?_
  refine gk_region env false [.call (reach_ok to_ k (by omega) (by omega) (htl.symm▸ht) hl2),.el (none:Option (List Bool)) nlB ((seK to_ k).set k (some (reachF to_ k)))] [0,4,5,6,22,23] ?_ (hp:=(by simp only[AllP,bb,toN,loI,hiI,Nat.zero_add];repeat' first|exact Nat.le_refl _|exact (putD_all (cs:=nlB) (x:=some (reachF to_ k)) (by omega) rfl (by cases (seK to_ k).getD k default<;>rfl)).symm|exact trivial|exact EntL.refl _|exact BEntL.refl _|exact rfl|omega|apply And.intro|intro _|(simp only[List.length_set];omega)|(simp;done)))
  refine gk_region env false [] [0,4,5,6,22,23] ?_ (hp:=(by simp only[AllP,bb,toN,loI,hiI];repeat' first|exact trivial|exact EntL.refl _|exact BEntL.refl _|exact rfl|exact look_I _ _|exact mput_I _ _ _|omega|apply And.intro|intro _))
  refine gk_round (k+1) hk2 (hp:=by rw[seK_s to_ (by omega)];have:=seK_len to_ (k:=k+1) (by omega);simp only[AllP];repeat' first|exact trivial|exact rfl|omega|apply And.intro)
 have hke:k=to_.length:=by omega
 subst hke
 rw[seK_n]
 refine gk_row 0 ?_
 refine gk_ent 6 (.d (.row default row_boC (seenV to_))) (Ent.rowEq (nlB_some _)) ?_
 refine gk_region env false [] [0,6,4,8] ?_
 refine gk_region env false [.el (default:Bool) boC (List.replicate n false)] [0,4,6,8,9] ?_ (hp:=(by simp only[AllP,bb,toN,loI,hiI];repeat' first|exact trivial|exact EntL.refl _|exact BEntL.refl _|exact rfl|(rw[rowL,List.map_replicate];rfl)|omega|apply And.intro|intro _|(simp;done)))
 refine gk_region env false [] [0,4,6,8,9,35,36] ?_
 refine gk_nil 8 35 1 (default:List Int) row_inC (by rfl) (by rfl) ?_
 refine gk_loop (α:=List (List Int)×List Bool×Nat) (fun x=>x.2.2≤n∧groupsT to_=grpsF to_ x.1 x.2.2∧DoneI n x.1 [] x.2.1∧x.1.length≤x.2.2) (fun x=>[(8,.sl 2 1 0 x.1.length),(9,.sl 1 1 0 x.2.1.length),(36,iG x.2.2)]) (fun x=>[(2,some (.row 35 1 (default:List Int) row_inC x.1 0)),(1,some (.row 4 1 (default:Bool) boC x.2.1 0))]) (fun x=>n-x.2.2) ([],List.replicate n false,0) ⟨Nat.zero_le _,rfl,⟨by simp,fun b hb=>by simp[List.getD_eq_getElem?_getD,List.getElem?_replicate,hb]⟩,Nat.le_refl _⟩ ?_ (hp:=by (try simp only[AllP,Nat.zero_add]);repeat' first|exact trivial|exact rfl|exact EntL.refl _|exact BEntL.refl _|omega|apply And.intro|(simp;done)|(simp[*];done))
 rintro ⟨out,done,a⟩ ⟨ha,hg,hD,hol⟩
 dsimp only at ha hg hD hol⊢
 have hdl:=hD.1
 refine gk_region env false [] [0,4,6,8,9,35,36,37] ?_
 refine gk_ifd (fun c3=> ?_) (fun c3=> ?_)
 ·have ha2:a<n:=by omega
  rw[grpsF,if_pos (by omega)]at hg
  refine gk_region env false [] [0,4,6,8,9,10,35,36] ?_
  refine gk_region env false [] [0,4,6,8,9,10,35,36,42] ?_ (hp:=(by simp only[AllP,bb,toN,loI,hiI];repeat' first|exact trivial|exact EntL.refl _|exact BEntL.refl _|exact rfl|exact look_I _ _|exact mput_I _ _ _|omega|apply And.intro|intro _))
  have hda:=hD.2 a ha2
  simp only[List.contains_nil,Bool.or_false]at hda
  refine gk_if (fun c4=> ?_) (fun c4=> ?_)
  ·have c5:(out.any fun g=>g.contains (a:Int))=true:=by rw[←hda];simpa using c4
   rw[if_pos c5]at hg
   refine gk_region env false [] [0,4,6,8,9,35,36] ?_ (hp:=(by simp only[AllP,bb,toN,loI,hiI];repeat' first|exact trivial|exact EntL.refl _|exact BEntL.refl _|exact rfl|exact look_I _ _|exact mput_I _ _ _|omega|apply And.intro|intro _))
   refine gk_round (out,done,a+1) ⟨ha2,hg,hD,by dsimp only;omega⟩ (hp:=by (try simp only[AllP,Nat.zero_add]);repeat' first|exact trivial|exact rfl|exact EntL.refl _|exact BEntL.refl _|omega|apply And.intro|(simp;done)|(simp[*];done)) (hm:=by dsimp only;omega)
  ·have c5:¬((out.any fun g=>g.contains (a:Int))=true):=by rw[←hda];simpa using c4
   rw[if_neg c5,htl]at hg
   refine gk_region env false [] [0,4,6,8,9,10,11,35,36] ?_
   refine gk_region env false [] [0,4,6,8,9,10,11,12,35,36] ?_
   refine gk_nil 11 3 1 (0:Int) inC (by rfl) (by rfl) ?_
   refine gk_loop (α:=List Bool×Nat) (fun x=>a+x.2≤n∧DoneI n out (grpF to_ a x.2) x.1) (fun x=>[(9,.sl 1 1 0 x.1.length),(11,.sl 3 1 0 (grpF to_ a x.2).length),(12,iG (a+x.2:Nat))]) (fun x=>[(1,some (.row 4 1 (default:Bool) boC x.1 0)),(3,some (.row 3 1 (0:Int) inC (grpF to_ a x.2) 0))]) (fun x=>n-x.2) (done,0) ⟨by omega,hD⟩ ?_ (hp:=by (try simp only[AllP,Nat.zero_add]);repeat' first|exact trivial|exact rfl|exact EntL.refl _|exact BEntL.refl _|omega|apply And.intro|(simp;done)|(simp[*];done))
   rintro ⟨dn,j⟩ ⟨hj,hDn⟩
   dsimp only at hj hDn⊢
   have hdnl:=hDn.1
   have hgl:=grpF_len to_ a j
   refine gk_region env false [] [0,4,6,8,9,10,11,12,35,36,46] ?_ (hp:=(by simp only[AllP,bb,toN,loI,hiI];repeat' first|exact trivial|exact EntL.refl _|exact BEntL.refl _|exact rfl|exact look_I _ _|exact mput_I _ _ _|omega|apply And.intro|intro _))
   refine gk_ifd (fun c6=> ?_) (fun c6=> ?_)
   ·have hj2:a+j<n:=by omega
    have hs1:=seenV_get to_ (k:=a) (by omega)
    have hs2:=seenV_get to_ (k:=a+j) (by omega)
    have hr1:=reachF_len to_ (a:Int)
    have hr2:=reachF_len to_ ((a+j:Nat):Int)
    have hsl:(seenV to_).length=n:=by simp[seenV,htl]
    have hgs:grpF to_ a (j+1)=grpF to_ a j++(if bAt (reachF to_ a) (a+j)=true∧bAt (reachF to_ (a+j)) a=true then [(a:Int)+j]else []):=rfl
    refine gk_region env false [] [0,4,6,8,9,10,11,12,35,36,64] ?_ (hp:=by simp only[AllP,bb,toN,loI,hiI,hs1,hs2,hr1,hr2,hsl,htl];repeat' first|exact trivial|exact EntL.refl _|exact BEntL.refl _|exact rfl|omega|apply And.intro|intro _)
    simp only[Int.toNat_natCast,hs1,hs2]
    have e1:bAt (reachF to_ a) ((a:Int)+j)=(reachF to_ (a:Int)).getD (a+j) default:=by unfold bAt;rw[show ((a:Int)+j).toNat=a+j by omega];rfl
    have e2:bAt (reachF to_ ((a:Int)+j)) a=(reachF to_ ((a+j:Nat):Int)).getD a default:=by unfold bAt;rw[Int.toNat_natCast,Int.natCast_add];rfl
    refine gk_if (fun c7=> ?_) (fun c7=> ?_)
    ·simp only[bb]at c7
     have hgs2:grpF to_ a (j+1)=grpF to_ a j++ [((a+j:Nat):Int)]:=by rw[hgs,if_pos ⟨e1.trans c7.1,e2.trans c7.2⟩,Int.natCast_add]
     refine gk_region env false [.el (0:Int) inC [((a+j:Nat):Int)],.el (0:Int) inC (grpF to_ a j++ [((a+j:Nat):Int)])] [0,4,6,8,9,10,11,12,35,36] ?_ (hp:=(by simp only[AllP,bb,toN,loI,hiI,Int.toNat_natCast];repeat' first|exact trivial|exact EntL.refl _|exact BEntL.refl _|exact rfl|omega|apply And.intro|intro _|(simp[rowL];done)|(simp only[List.length_append,List.length_cons,List.length_nil];omega)|(simp[*];done)))
     refine gk_region env false [.el (default:Bool) boC (dn.set (a+j) true)] [0,4,6,8,9,10,11,12,35,36] ?_ (hp:=(by simp only[AllP,bb,toN,loI,hiI,Nat.zero_add];repeat' first|exact Nat.le_refl _|exact (putD_all (cs:=boC) (by omega) rfl (by rfl)).symm|exact trivial|exact EntL.refl _|exact BEntL.refl _|exact rfl|omega|apply And.intro|intro _|(simp only[List.length_set];omega)|(simp;done)))
     refine gk_region env false [] [0,4,6,8,9,10,11,12,35,36] ?_ (hp:=(by simp only[AllP,bb,toN,loI,hiI];repeat' first|exact trivial|exact EntL.refl _|exact BEntL.refl _|exact rfl|exact look_I _ _|exact mput_I _ _ _|omega|apply And.intro|intro _))
     refine gk_round (dn.set (a+j) true,j+1) ⟨by dsimp only;omega,by dsimp only;rw[hgs2];exact hDn.set hj2⟩ (hp:=by rw[hgs2];simp only[AllP,List.length_set,List.length_append,List.length_cons,List.length_nil];repeat' first|exact trivial|exact rfl|omega|apply And.intro) (hm:=by dsimp only;omega)
    ·simp only[bb]at c7
     have hgs2:grpF to_ a (j+1)=grpF to_ a j:=by
      rw[hgs,if_neg,List.append_nil]
      rintro ⟨h1,h2⟩
      rw[e1]at h1
      rw[e2]at h2
      rcases c7 with c7|c7
      ·exact absurd (c7.symm.trans h1) (by decide)
      ·exact absurd (c7.symm.trans h2) (by decide)
     refine gk_region env false [] [0,4,6,8,9,10,11,12,35,36] ?_ (hp:=(by simp only[AllP,bb,toN,loI,hiI];repeat' first|exact trivial|exact EntL.refl _|exact BEntL.refl _|exact rfl|exact look_I _ _|exact mput_I _ _ _|omega|apply And.intro|intro _))
     refine gk_round (dn,j+1) ⟨by dsimp only;omega,by dsimp only;rw[hgs2];exact hDn⟩ (hp:=by rw[hgs2];simp only[AllP];repeat' first|exact trivial|exact rfl|omega|apply And.intro) (hm:=by dsimp only;omega)
   ·have hje:j=n-a:=by omega
    subst hje
    refine gk_row 3 ?_
    refine gk_region env false [.el (default:List Int) row_inC [grpF to_ a (n-a)],.el (default:List Int) row_inC (out++ [grpF to_ a (n-a)])] [0,4,6,8,9,35,36] ?_ (hp:=(by simp only[AllP,bb,toN,loI,hiI,Int.toNat_natCast];repeat' first|exact trivial|exact EntL.refl _|exact BEntL.refl _|exact rfl|omega|apply And.intro|intro _|(simp[rowL];done)|(simp only[List.length_append,List.length_cons,List.length_nil];omega)|(simp[*];done)))
    refine gk_region env false [] [0,4,6,8,9,35,36] ?_ (hp:=(by simp only[AllP,bb,toN,loI,hiI];repeat' first|exact trivial|exact EntL.refl _|exact BEntL.refl _|exact rfl|exact look_I _ _|exact mput_I _ _ _|omega|apply And.intro|intro _))
    refine gk_round (out++ [grpF to_ a (n-a)],dn,a+1) ⟨ha2,hg,⟨hDn.1,fun b hb=> ?_⟩,by simp;omega⟩ (hp:=by (try simp only[AllP,List.length_append,List.length_cons,List.length_nil,hdl,hdnl]);repeat' first|exact trivial|exact rfl|omega|apply And.intro) (hm:=by dsimp only;omega)
    dsimp only
    rw[hDn.2 b hb,List.any_append]
    simp
 ·have hae:a=n:=by omega
  subst hae
  rw[grpsF,if_neg (by omega)]at hg
  rw[hg]
  refine gk_region env false [] [4] ?_
  refine gk_ret env ?_
  rfl
open Go.RowKit Go.Proofs
theorem grF_eq {no:Int} {e0:Fe} (h0:e0.no=no):∀(l:List Fe) (g:Grp),(∀e,e∈l→e.no=no→e=e0)→grF no l g=if no∈l.map Fe.no then ofV e0 else g:=by
 intro l
 induction l with
 |nil=>intro g _;simp[grF]
 |cons e l ih=>
  intro g h
  rw[grF,ih _ fun x hx=>h x (List.mem_cons_of_mem _ hx)]
  by_cases h1:no∈l.map Fe.no
  ·rw[if_pos h1,if_pos (by rw[List.map_cons];exact List.mem_cons_of_mem _ h1)]
  ·rw[if_neg h1]
   by_cases h2:e.no=no
   ·rw[if_pos h2,if_pos (by rw[List.map_cons,h2];exact List.mem_cons_self),h e List.mem_cons_self h2]
   ·rw[if_neg h2,if_neg (by rw[List.map_cons,List.mem_cons];exact fun h=>h.elim (fun e=>h2 e.symm) h1)]
section
variable {n:Nat} {offers:List Fe} {m0:List (Int×Int)} {no:Int} {e0:Fe}
theorem reo_spec (h:FI n offers m0) (h1:1≤n) (h40:n≤40) (hl:offers.length≤100) (he0:e0∈offers) (hno:e0.no=no):StlS n (reF no (bfM m0 offers [])) (fun e=>eqb_Grp (ofV e) (ofV e0)) offers m0 (reM n no offers m0):=by
 have hg:grF no offers ⟨0,0⟩=ofV e0:=by
  rw[grF_eq hno offers _ fun e he hh=>no_inj h.nd he he0 (hh.trans hno.symm),if_pos (by rw[←hno];exact List.mem_map_of_mem he0)]
 unfold reM
 rw[hg]
 exact settle_spec h.nd (dues_of h1 h40 hl h.in_ fun e he _=>reF_le h he).toDuesOK
theorem reo_le (h:FI n offers m0) (h1:1≤n) (h40:n≤40) (hl:offers.length≤100) (he0:e0∈offers) (hno:e0.no=no) {e:Fe} (he:e∈offers):0≤gI e.no (reM n no offers m0)∧gI e.no (reM n no offers m0)≤gI e.no m0:=by
 have S:=reo_spec h h1 h40 hl he0 hno
 have hb:=h.bnd e he
 cases ho:eqb_Grp (ofV e) (ofV e0)with
 |false=>rw[S.off e he ho];exact ⟨hb.1,Int.le_refl _⟩
 |true=>
  refine ⟨S.lo e he ho,?_⟩
  by_cases hf:0<reF no (bfM m0 offers []) e
  ·refine Int.le_trans (S.hi e he ho hf) ?_
   rw[reF_eq (n:=n) he]
   split<;>omega
  ·rw[S.zero e he ho (by omega)];exact hb.1
theorem reo_zero (h:FI n offers m0) (h1:1≤n) (h40:n≤40) (hl:offers.length≤100) (he0:e0∈offers) (hno:e0.no=no):gI e0.no (reM n no offers m0)=0:=by
 have S:=reo_spec h h1 h40 hl he0 hno
 refine S.zero e0 he0 ((eqb_Grp_iff _ _).2 rfl) ?_
 rw[reF_eq (n:=n) he0,if_pos hno];exact Int.le_refl _
def leanP (m0:List (Int×Int)) (κ:Int→Int) (e0 e:Fe):Prop:=ofV e=ofV e0∧0<gI e.no m0∧κ e.fr=κ e0.fr
theorem netE_but {h h':Fe→Int} {v:Int} :∀ {l:List Fe},(∀e,e∈l→h e=h' e∨indI (e.to_=v)=indI (e.fr=v))→netE h l v=netE h' l v:=by
 intro l
 induction l with
 |nil=>intro _;rfl
 |cons e l ih=>
  intro hh
  simp only[netE]
  rw[ih fun x hx=>hh x (List.mem_cons_of_mem _ hx)]
  rcases hh e List.mem_cons_self with h1|h1
  ·rw[h1]
  ·rw[h1];simp
theorem ind_out {κ:Int→Int} {e:Fe} {v:Int} (h:κ e.fr=κ e.to_) (hv:κ v≠κ e.fr):indI (e.to_=v)=indI (e.fr=v):=by
 unfold indI
 rw[if_neg (fun h1=>hv (by rw[←h1,h])),if_neg (fun h1=>hv (by rw[←h1]))]
theorem reo_same (h:FI n offers m0) (h1:1≤n) (h40:n≤40) (hl:offers.length≤100) (he0:e0∈offers) (hno:e0.no=no) {κ:Int→Int} (hκ:∀e,e∈offers→ofV e=ofV e0→0<gI e.no m0→κ e.fr=κ e.to_) {e:Fe} (he:e∈offers) (hp0:0<gI e0.no m0) (hn:¬leanP m0 κ e0 e):gI e.no (reM n no offers m0)=gI e.no m0:=by
 have S:=reo_spec h h1 h40 hl he0 hno
 cases ho:eqb_Grp (ofV e) (ofV e0)with
 |false=>exact S.off e he ho
 |true=>
  have hoe:=(eqb_Grp_iff _ _).1 ho
  have hle:=reo_le h h1 h40 hl he0 hno he
  by_cases hb:0<gI e.no m0
  ·have hc:κ e.fr≠κ e0.fr:=fun hc=>hn ⟨hoe,hb,hc⟩
   have hne:e.no≠no:=fun hh=>hc (by rw[no_inj h.nd he he0 (hh.trans hno.symm)])
   have hf:reF no (bfM m0 offers []) e=gI e.no m0:=by rw[reF_eq (n:=n) he,if_neg hne]
   have hpos:∀x,x∈offers→0<reF no (bfM m0 offers []) x→0<gI x.no m0:=fun x hx hp=>by
    rw[reF_eq (n:=n) hx]at hp
    split at hp
    ·omega
    ·exact hp
   rw[←hf]
   refine S.loc κ (κ e.fr) (fun x hx hxo hp=>hκ x hx ((eqb_Grp_iff _ _).1 hxo) (hpos x hx hp)) (fun v v0 v1 hv=> ?_) e he ho (by rw[hf];exact hb) rfl
   unfold posL
   rw[netE_filter (h:=reF no (bfM m0 offers [])) (fun e=>decide (0<reF no (bfM m0 offers []) e)) fun x hx hp=> ?_]
   ·rw[←h.circ (ofV e0) v v0 v1]
    refine netE_but fun x hx=> ?_
    obtain ⟨q1,q2⟩:=List.mem_filter.1 hx
    by_cases hxn:x.no=no
    ·right
     obtain rfl:=no_inj h.nd q1 he0 (hxn.trans hno.symm)
     exact ind_out (κ:=κ) (hκ x q1 rfl hp0) (by rw[hv];exact hc)
    ·left
     rw[reF_eq (n:=n) q1,if_neg hxn]
   ·obtain ⟨q1,q2⟩:=List.mem_filter.1 hx
    simp only[decide_eq_false_iff_not]at hp
    rw[reF_eq (n:=n) q1]at hp⊢
    split
    ·rfl
    ·rename_i hh
     rw[if_neg hh]at hp
     have:=(h.bnd x q1).1
     omega
  ·have:=(h.bnd e he).1
   omega
instance (m0:List (Int×Int)) (κ:Int→Int) (e0 e:Fe):Decidable (leanP m0 κ e0 e):=inferInstanceAs (Decidable (_∧_∧_))
def leanH (m0 m1:List (Int×Int)) (κ:Int→Int) (e0 e:Fe):Int:=if leanP m0 κ e0 e then gI e.no m1 else 0
theorem reo_net (h:FI n offers m0) (h1:1≤n) (h40:n≤40) (hl:offers.length≤100) (he0:e0∈offers) (hno:e0.no=no) {κ:Int→Int} (hκ:∀e,e∈offers→ofV e=ofV e0→0<gI e.no m0→κ e.fr=κ e.to_) {v:Int} (v0:0≤v) (v1:v<n):netE (leanH m0 (reM n no offers m0) κ e0) offers v=0:=by
 have S:=reo_spec h h1 h40 hl he0 hno
 by_cases hv:κ v=κ e0.fr
 ·rw[←netE_filter (h:=leanH m0 (reM n no offers m0) κ e0) (fun e=>eqb_Grp (ofV e) (ofV e0)) fun e he ho=> ?_]
  ·rw[←S.circ v v0 v1]
   refine netE_but fun e he=> ?_
   obtain ⟨q1,q2⟩:=List.mem_filter.1 he
   have hoe:=(eqb_Grp_iff _ _).1 q2
   unfold leanH
   by_cases hp:leanP m0 κ e0 e
   ·left;rw[if_pos hp]
   ·rw[if_neg hp]
    by_cases hb:0<gI e.no m0
    ·right
     refine ind_out (κ:=κ) (hκ e q1 hoe hb) ?_
     rw[hv]
     exact fun hc=>hp ⟨hoe,hb,hc.symm⟩
    ·left
     have h2:=reo_le h h1 h40 hl he0 hno q1
     omega
  ·unfold leanH
   rw[if_neg]
   intro hp
   have:=(eqb_Grp_iff _ _).2 hp.1
   rw[ho]at this;cases this
 ·refine netE_zero fun e he=> ?_
  unfold leanH
  by_cases hp:leanP m0 κ e0 e
  ·right
   exact ind_out (κ:=κ) (hκ e he hp.1 hp.2.1) (by rw[hp.2.2];exact hv)
  ·left;rw[if_neg hp]
end
def sumF:List Fo→Int→Int
 | [],_=>0
 |x::l,no=>if x.no=no then x.sum else sumF l no
theorem sumOL_eq (l:List Fo) (no:Int):∀(m k:Nat),l.length-k=m→sumOL l no k=sumF (l.drop k) no:=by
 intro m
 induction m with
 |zero=>intro k hm;rw[sumOL,if_neg (by omega),dropN (by omega)];rfl
 |succ m ih=>
  intro k hm
  have hk:k<l.length:=by omega
  rw[sumOL,if_pos hk,dropC hk,sumF,ih (k+1) (by omega)]
theorem sumO_eq (l:List Fo) (no:Int):sumO l no=sumF l no:=by
 unfold sumO
 rw[sumOL_eq l no _ 0 rfl,List.drop_zero]
theorem sumF_out {m:List (Int×Int)} (k:Int):∀l:List Fe,(l.map Fe.no).Nodup→(∀e,e∈l→0≤gI e.no m)→sumF ((l.filter (outB m)).map (outE m)) k=if k∈l.map Fe.no then gI k m else 0:=by
 intro l
 induction l with
 |nil=>intro _ _;simp[sumF]
 |cons x l ih=>
  intro hn h0
  rw[List.map_cons,List.nodup_cons]at hn
  have ih:=ih hn.2 fun e he=>h0 e (List.mem_cons_of_mem _ he)
  have hx:=h0 x List.mem_cons_self
  have hmem:(k∈(x::l).map Fe.no)↔(x.no=k∨k∈l.map Fe.no):=by
   rw[List.map_cons,List.mem_cons]
   exact ⟨fun h=>h.imp (fun e=>e.symm) id,fun h=>h.imp (fun e=>e.symm) id⟩
  rw[List.filter_cons]
  split
  ·rename_i ho
   rw[List.map_cons,sumF]
   show (if x.no=k then gI x.no m else _)=_
   by_cases e:x.no=k
   ·rw[if_pos e,if_pos (hmem.2 (.inl e)),e]
   ·rw[if_neg e,ih]
    by_cases e2:k∈l.map Fe.no
    ·rw[if_pos e2,if_pos (hmem.2 (.inr e2))]
    ·rw[if_neg e2,if_neg fun h=>(hmem.1 h).elim e e2]
  ·rename_i ho
   have hz:gI x.no m=0:=by
    unfold outB at ho
    simp only[decide_eq_true_eq]at ho
    omega
   rw[ih]
   by_cases e2:k∈l.map Fe.no
   ·rw[if_pos e2,if_pos (hmem.2 (.inr e2))]
   ·rw[if_neg e2]
    by_cases e:x.no=k
    ·rw[if_pos (hmem.2 (.inl e)),←e,hz]
    ·rw[if_neg fun h=>(hmem.1 h).elim e e2]
theorem sumO_out {n:Nat} {offers:List Fe} {m:List (Int×Int)} (h:FI n offers m) {e:Fe} (he:e∈offers):sumO (outV offers m) e.no=gI e.no m:=by
 rw[sumO_eq]
 unfold outV
 rw[sumF_out _ _ h.nd fun e he=>(h.bnd e he).1,if_pos (List.mem_map_of_mem he)]
def goneF (offers:List Fe) (no:Int):Nat→Int
 |0=> -1
 |k+1=>if (offers.getD k default).no=no then k else goneF offers no k
theorem no_idx {offers:List Fe} (hn:(offers.map Fe.no).Nodup) {i j:Nat} (hi:i<offers.length) (hj:j<offers.length) (h:(offers.getD i default).no=(offers.getD j default).no):i=j:=by
 have h1:(offers.map Fe.no)[i]'(by simpa using hi)=(offers.map Fe.no)[j]'(by simpa using hj):=by
  rw[List.getElem_map,List.getElem_map]
  rw[List.getD_eq_getElem?_getD,List.getElem?_eq_getElem hi,List.getD_eq_getElem?_getD,List.getElem?_eq_getElem hj]at h
  exact h
 exact (List.getElem_inj hn).1 h1
theorem gone_ok {offers:List Fe} {no:Int} (hn:(offers.map Fe.no).Nodup) (h:no∈offers.map Fe.no):∃i0:Nat,i0<offers.length∧(offers.getD i0 default).no=no∧goneF offers no offers.length=i0:=by
 obtain ⟨e,he,hno⟩:=List.mem_map.1 h
 obtain ⟨i0,hi,rfl⟩:=List.mem_iff_getElem.1 he
 have hd:(offers.getD i0 default).no=no:=by rw[List.getD_eq_getElem?_getD,List.getElem?_eq_getElem hi];exact hno
 refine ⟨i0,hi,hd,?_⟩
 have key:∀k:Nat,k≤offers.length→goneF offers no k=if i0<k then (i0:Int)else-1:=by
  intro k
  induction k with
  |zero=>intro _;rfl
  |succ k ih=>
   intro hk
   rw[goneF]
   by_cases e:(offers.getD k default).no=no
   ·rw[if_pos e]
    obtain rfl:k=i0:=no_idx hn (by omega) hi (e.trans hd.symm)
    rw[if_pos (by omega)]
   ·rw[if_neg e,ih (by omega)]
    have:k≠i0:=fun h=>e (h▸hd)
    by_cases h2:i0<k
    ·rw[if_pos h2,if_pos (by omega)]
    ·rw[if_neg h2,if_neg (by omega)]
 rw[key _ (Nat.le_refl _),if_pos hi]
def inS (offers:List Fe) (bf:List Fo) (i0 i:Nat):Bool:=bif (bif decide ((offers.getD i default).cur=(offers.getD i0 default).cur)then decide ((offers.getD i default).due=(offers.getD i0 default).due)else false)then decide (0<sumO bf (offers.getD i default).no)else false
def samK (offers:List Fe) (bf:List Fo) (i0 k:Nat):List Nat:=(List.range k).filter (inS offers bf i0)
def edgE (offers:List Fe) (i:Nat):Int×Int:=((offers.getD i default).fr,(offers.getD i default).to_)
theorem samK_s (offers:List Fe) (bf:List Fo) (i0 k:Nat):samK offers bf i0 (k+1)=samK offers bf i0 k++(if inS offers bf i0 k=true then [k]else []):=by
 unfold samK
 rw[List.range_succ,List.filter_append]
 congr 1
 by_cases h:inS offers bf i0 k=true
 ·rw[if_pos h,List.filter_cons_of_pos h];rfl
 ·rw[if_neg h,List.filter_cons_of_neg h];rfl
theorem samK_len (offers:List Fe) (bf:List Fo) (i0 k:Nat):(samK offers bf i0 k).length≤k:=by
 unfold samK
 exact Nat.le_trans (List.length_filter_le _ _) (by simp)
theorem samK_mem {offers:List Fe} {bf:List Fo} {i0 k i:Nat} :i∈samK offers bf i0 k↔i<k∧inS offers bf i0 i=true:=by
 unfold samK
 rw[List.mem_filter,List.mem_range]
theorem samK_nodup (offers:List Fe) (bf:List Fo) (i0 k:Nat):(samK offers bf i0 k).Nodup:=List.nodup_range.filter _
theorem inS_iff {n:Nat} {offers:List Fe} {m0:List (Int×Int)} (h:FI n offers m0) {i0 i:Nat} (hi:i<offers.length):inS offers (outV offers m0) i0 i=true↔ofV (offers.getD i default)=ofV (offers.getD i0 default)∧0<gI (offers.getD i default).no m0:=by
 unfold inS
 rw[sumO_out h (memD hi)]
 simp only[bb]
 unfold ofV
 rw[Grp.mk.injEq]
def netR (n:Nat) (hh:Fe→Int) (l:List Fe):List Int:=(List.range n).map fun (v:Nat)=>netE hh l v
theorem netE_snoc (hh:Fe→Int) (e:Fe) (v:Int):∀l:List Fe,netE hh (l++ [e]) v=netE hh l v+hh e*(indI (e.to_=v)-indI (e.fr=v)):=by
 intro l
 induction l with
 |nil=>simp[netE]
 |cons x l ih=>simp only[List.cons_append,netE,ih];omega
theorem netR_len (n:Nat) (hh:Fe→Int) (l:List Fe):(netR n hh l).length=n:=by simp[netR]
theorem netR_get {n:Nat} {hh:Fe→Int} {l:List Fe} {v:Int} (h0:0≤v) (h1:v<n):(netR n hh l).getD v.toNat 0=netE hh l v:=by
 unfold netR
 rw[List.getD_eq_getElem?_getD,List.getElem?_map,List.getElem?_eq_getElem (by simp;omega)]
 simp
 rw[show max v 0=v by omega]
theorem netR_nil (n:Nat) (hh:Fe→Int):netR n hh []=List.replicate n 0:=by
 unfold netR
 simp only[netE]
 rw[List.map_const']
 simp
theorem netR_skip {n:Nat} {hh:Fe→Int} {l:List Fe} {e:Fe} (h:hh e=0):netR n hh (l++ [e])=netR n hh l:=by
 unfold netR
 refine List.map_congr_left fun v _=> ?_
 rw[netE_snoc,h];simp
theorem netR_s {n:Nat} {hh:Fe→Int} {l:List Fe} {e:Fe} (f:0≤e.fr∧e.fr<n) (t:0≤e.to_∧e.to_<n) (hne:e.fr≠e.to_) {b:Int} (hb:hh e=b):
 ((netR n hh l).set e.fr.toNat ((netR n hh l).getD e.fr.toNat 0-b)).set e.to_.toNat (((netR n hh l).set e.fr.toNat ((netR n hh l).getD e.fr.toNat 0-b)).getD e.to_.toNat 0+b)=netR n hh (l++ [e]):=by
 have hn:=netR_len n hh l
 refine list_ext (by simp[netR_len]) fun v h0 h1=> ?_
 have h1:v<n:=by simpa [netR_len]using h1
 rw[netR_get h0 h1,netE_snoc,getD_setL (by rw[List.length_set];omega),getD_setL (by omega),getD_setL (by omega),netR_get f.1 f.2,netR_get t.1 t.2,hb]
 unfold indI
 by_cases e1:e.to_=v
 ·subst e1
  rw[if_pos rfl,if_pos rfl,if_neg hne,if_neg (by omega)];omega
 ·rw[if_neg (by omega),if_neg e1]
  by_cases e2:e.fr=v
  ·subst e2
   rw[if_pos rfl,if_pos rfl];omega
  ·rw[if_neg (by omega),if_neg e2,netR_get h0 h1];omega
theorem netE_bound {hh:Fe→Int} {B:Int} (v:Int):∀l:List Fe,(∀e,e∈l→0≤hh e∧hh e≤B)→-(B*l.length)≤netE hh l v∧netE hh l v≤B*l.length:=by
 intro l
 induction l with
 |nil=>intro _;simp[netE]
 |cons e l ih=>
  intro h
  have h1:=ih fun x hx=>h x (List.mem_cons_of_mem _ hx)
  have h2:=h e List.mem_cons_self
  have h3: -(hh e)≤hh e*(indI (e.to_=v)-indI (e.fr=v))∧hh e*(indI (e.to_=v)-indI (e.fr=v))≤hh e:=by
   unfold indI
   by_cases e1:e.to_=v<;>by_cases e2:e.fr=v<;>simp only[e1,e2,if_true,if_false]<;>simp<;>omega
  simp only[netE,List.length_cons,Int.natCast_add,Int.mul_add,Int.cast_ofNat_Int,Int.mul_one]
  omega
theorem grpOL2_eq (gs:List (List Int)) (v:Int) (k1:Nat):∀(m k:Nat),(gs.getD k1 default).length-k=m→grpOL2 gs v k1 k=if v∈(gs.getD k1 default).drop k then .inl (k1:Int)else .inr ():=by
 intro m
 induction m with
 |zero=>intro k hm;rw[grpOL2,if_neg (by omega),dropN (by omega),if_neg (by simp)]
 |succ m ih=>
  intro k hm
  have hk:k<(gs.getD k1 default).length:=by omega
  rw[grpOL2,if_pos hk,dropC hk,ih (k+1) (by omega)]
  by_cases e:(gs.getD k1 default).getD k default=v
  ·rw[if_pos e,if_pos (by rw[e];exact List.mem_cons_self)]
  ·rw[if_neg e]
   by_cases e2:v∈(gs.getD k1 default).drop (k+1)
   ·rw[if_pos e2,if_pos (List.mem_cons_of_mem _ e2)]
   ·rw[if_neg e2,if_neg fun h=>(List.mem_cons.1 h).elim (fun h=>e h.symm) e2]
theorem grpOL_eq (gs:List (List Int)) (v:Int):∀(m k:Nat),gs.length-k=m→grpOL gs v k=gOf (gs.drop k) k v:=by
 intro m
 induction m with
 |zero=>intro k hm;rw[grpOL,if_neg (by omega),dropN (by omega)];rfl
 |succ m ih=>
  intro k hm
  have hk:k<gs.length:=by omega
  rw[grpOL,if_pos hk,dropC hk,gOf,grpOL2_eq gs v k _ 0 rfl,List.drop_zero]
  by_cases e:v∈gs.getD k default
  ·rw[if_pos e,if_pos (by simpa using e)]
  ·rw[if_neg e,if_neg (by simpa using e),ih (k+1) (by omega)]
theorem grpO_eq (gs:List (List Int)) (v:Int):grpO gs v=gOf gs 0 v:=by
 unfold grpO
 rw[grpOL_eq gs v _ 0 rfl,List.drop_zero]
theorem mem_compact {zs:List Int} {x:Int} :x∈Lib.compact zs↔x∈zs:=by
 have hget:∀j,j<zs.length→(zs.toArray)[j]! =zs.getD j 0:=fun j hj=>by
  rw[List.getD_eq_getElem?_getD,List.getElem?_eq_getElem hj]
  simp[hj]
 unfold Lib.compact Lib.compactUpTo
 constructor
 ·intro h
  obtain ⟨j,hj,rfl⟩:=List.mem_map.1 h
  have hj:=List.mem_range.1 (List.mem_filter.1 hj).1
  rw[hget j hj,List.getD_eq_getElem?_getD,List.getElem?_eq_getElem hj]
  exact List.getElem_mem hj
 ·intro h
  have key:∀j,j<zs.length→zs.getD j 0=x→∃i,i<zs.length∧zs.getD i 0=x∧Lib.keeps zs.toArray i=true:=by
   intro j
   induction j with
   |zero=>intro hj he;exact ⟨0,hj,he,by unfold Lib.keeps;simp⟩
   |succ j ih=>
    intro hj he
    by_cases hk:Lib.keeps zs.toArray (j+1)=true
    ·exact ⟨_,hj,he,hk⟩
    ·unfold Lib.keeps at hk
     simp only[decide_eq_true_eq,not_or]at hk
     have h2:=hk.2
     rw[hget _ hj,show j+1-1=j from rfl,hget _ (by omega),Ne,Classical.not_not]at h2
     exact ih (by omega) (h2.symm.trans he)
  obtain ⟨j,hj,rfl⟩:=List.mem_iff_getElem.1 h
  obtain ⟨i,hi,he,hk⟩:=key j hj (by rw[List.getD_eq_getElem?_getD,List.getElem?_eq_getElem hj];rfl)
  exact List.mem_map.2 ⟨i,List.mem_filter.2 ⟨List.mem_range.2 hi,hk⟩,by rw[hget i hi,he]⟩
theorem nxtV_mem {n:Nat} {es:List (Int×Int)} {a:Nat} (ha:a<n) {x:Int} :x∈(nxtV n es).getD a []↔∃e,e∈es∧e.1=a∧e.2=x:=by
 unfold nxtV
 rw[List.getD_eq_getElem?_getD,List.getElem?_map,List.getElem?_range ha]
 simp only[Option.map_some,Option.getD_some]
 rw[mem_compact,(List.mergeSort_perm _ _).mem_iff,List.mem_map]
 simp only[List.mem_filter,decide_eq_true_eq,and_assoc]
theorem nxtV_in {n:Nat} {es:List (Int×Int)} (he:∀e,e∈es→(0≤e.1∧e.1<n)∧0≤e.2∧e.2<n):ToIn n (nxtV n es):=by
 refine ⟨by simp[nxtV],fun l hl b hb=> ?_⟩
 obtain ⟨a,ha,rfl⟩:=List.mem_iff_getElem.1 hl
 have ha2:a<n:=by simpa [nxtV]using ha
 have h1:b∈(nxtV n es).getD a []:=by rw[List.getD_eq_getElem?_getD,List.getElem?_eq_getElem ha];exact hb
 obtain ⟨e,h2,_,rfl⟩:=(nxtV_mem ha2).1 h1
 exact (he e h2).2
theorem nxtV_sub {n:Nat} {es:List (Int×Int)} :∀l,l∈nxtV n es→l.length≤es.length:=fun l hl=>by
 obtain ⟨a,_,rfl⟩:=List.mem_map.1 hl
 have h1:∀zs:List Int,(Lib.compact zs).length≤zs.length:=fun zs=>by
  have:=List.length_filter_le (Lib.keeps zs.toArray) (List.range zs.length)
  simpa [Lib.compact,Lib.compactUpTo]using this
 refine Nat.le_trans (h1 _) ?_
 rw[List.length_mergeSort,List.length_map]
 exact List.length_filter_le _ _
end Go.Gh
