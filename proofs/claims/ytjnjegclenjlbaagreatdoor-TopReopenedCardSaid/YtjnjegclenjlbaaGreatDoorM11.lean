/- Walks by the logic of calls, and plain laws (several texts in one). -/
import Derived.Test.YtjnjegclenjlbaaGreatDoorM10
import Derived.Test.YtjnjegclenjlbaaGreatDoorGh4
import Derived.Test.YtjnjegclenjlbaaGreatDoorM3
import Derived.Deep.AppendLies
import Derived.Lib.SlKeysI
import Derived.WalkKit
import Derived.WalkSpells
import Derived.WalkLawsBesides
import Derived.Handy
import Derived.Deep.RegionLaw
import Derived.Lib.Hide
import Derived.OwnWalk
namespace Go.Gh
open Go Go.Proofs
set_option maxRecDepth 1000000
set_option maxHeartbeats 2000000
set_option linter.unusedSimpArgs false
set_option linter.unusedVariables false
set_option linter.unnecessarySimpa false
open Go.RowKit
theorem putBo (l:List Bool) (i:Nat) (v:Bool):putD (rowL boC l) i 0 [.sc (.bool v)]=rowL boC (l.set i v):=by
 by_cases h:i<l.length
 ·have e:(rowL boC l).getD i []=boC (l.getD i default):=by
   simp[rowL,List.getD_eq_getElem?_getD,List.getElem?_eq_getElem h]
  rw[putD,e]
  simp only[rowL,List.map_set]
  rfl
 ·rw[putD,List.set_eq_of_length_le (by simp[rowL];omega),List.set_eq_of_length_le (by omega)]
theorem snoc_cons (pre:List Int) (c:Int):∃d pre3,pre++ [c]=d::pre3∧pre3.length=pre.length:=by
 cases pre with
 |nil=>exact ⟨c,[],rfl,rfl⟩
 |cons p ps=>exact ⟨p,ps++ [c],rfl,by simp⟩
theorem cntF_le:∀l:List Bool,cntF l≤l.length:=by
 intro l
 induction l with
 |nil=>exact Nat.le_refl _
 |cons b l ih=>
  unfold cntF at*
  simp only[List.map_cons,List.sum_cons,List.length_cons]
  split<;>omega
theorem reach_ok (to_:List (List Int)) (a:Int) (hn:to_.length≤300) (ha:0≤a∧a<to_.length) (ht:ToIn to_.length to_) (hl:∀l,l∈to_→l.length≤1000):GC Tryz.prog 31 [.d (.row default row_inC to_),iG a] (.d (.row default boC (reachF to_ a))):=by
 refine gc_of_gk Tryz.func31 ?_
 refine gk_region env false [] [0,1,4] ?_
 refine gk_region env false [.el (default:Bool) boC (List.replicate to_.length false)] [0,1,4,5] ?_ (hp:=(by simp only[AllP,bb,toN,loI,hiI];repeat' first|exact trivial|exact EntL.refl _|exact BEntL.refl _|exact rfl|(rw[rowL,List.map_replicate];rfl)|omega|apply And.intro|intro _|(simp;done)))
 refine gk_region env false [.el (default:Bool) boC ((List.replicate to_.length false).set a.toNat true)] [0,1,4,5] ?_ (hp:=(by simp only[AllP,bb,toN,loI,hiI,Nat.zero_add];repeat' first|exact (putBo _ _ _).symm|exact Nat.le_refl 1|exact trivial|exact EntL.refl _|exact BEntL.refl _|exact rfl|omega|apply And.intro|intro _|(simp;done)|(simp;omega)))
 refine gk_region env false [.el (0:Int) inC [a]] [0,4,5,6] ?_ (hp:=(by simp only[AllP,bb,toN,loI,hiI];repeat' first|exact trivial|exact EntL.refl _|exact BEntL.refl _|exact rfl|exact look_I _ _|exact mput_I _ _ _|omega|apply And.intro|intro _))
 refine gk_loop (α:=List Int×List Int×List Bool×Nat) (fun x=>x.2.2.1.length=to_.length∧reachF to_ a=bfsF to_ x.2.2.2 x.2.2.1 x.2.1∧x.2.1.length+cntF x.2.2.1≤x.2.2.2∧x.2.2.2≤301∧∀b,b∈x.2.1→0≤b∧b<to_.length) (fun x=>[(6,.sl 1 1 x.1.length x.2.1.length)]) (fun x=>[(0,some (.row 4 1 (default:Bool) boC x.2.2.1 0)),(1,some (.row 3 1 (0:Int) inC (x.1++x.2.1) 0))]) (fun x=>x.2.2.2) ([],[a],((List.replicate to_.length false).set a.toNat true),to_.length+1) ⟨by simp,rfl,by dsimp only;have h1:=cnt_rep to_.length;have h2:=cntF_le ((List.replicate to_.length false).set a.toNat true);simp only[List.length_set,List.length_replicate]at h2;simp only[List.length_singleton];omega,by simp only;omega,fun b hb=>by simp at hb;subst hb;exact ha⟩ ?_ (hp:=by (try simp only[AllP,Nat.zero_add]);repeat' first|exact trivial|exact rfl|exact EntL.refl _|exact BEntL.refl _|omega|apply And.intro|(simp;done)|(simp[*];done))
 rintro ⟨pre,q,out,f⟩ ⟨ho,he,hf,hf3,hq⟩
 dsimp only at ho he hf hf3 hq⊢
 refine gk_region env false [] [0,4,5,6,20] ?_
 refine gk_ifd (fun c1=> ?_) (fun c1=> ?_)
 ·cases q with
  |nil=>exact absurd c1 (by decide)
  |cons c q=>
  obtain ⟨f,rfl⟩:∃g,f=g+1:=⟨f-1,by simp at hf;omega⟩
  rw[bfsF]at he
  obtain ⟨hc0,hcn⟩:=hq c List.mem_cons_self
  obtain ⟨d,pre3,hd,hpl⟩:=snoc_cons pre c
  have hgc:(pre++c::q).getD pre.length 0=c:=by simp[List.getD_eq_getElem?_getD]
  refine gk_region env false [] [0,4,5,6,7] ?_ (hp:=(by simp only[AllP,bb,toN,loI,hiI];repeat' first|exact trivial|exact EntL.refl _|exact BEntL.refl _|exact rfl|exact look_I _ _|exact mput_I _ _ _|omega|apply And.intro|intro _|(simp only[List.length_append,List.length_cons];omega)))
  simp only[Int.toNat_zero,Nat.add_zero,hgc]
  refine gk_region env false [] [0,4,5,6,7] ?_ (hp:=(by simp only[AllP,bb,toN,loI,hiI];repeat' first|exact trivial|exact EntL.refl _|exact BEntL.refl _|exact rfl|exact look_I _ _|exact mput_I _ _ _|omega|apply And.intro|intro _))
  refine gk_region env false [] [0,4,5,6,29,30,31] ?_ (hp:=(by simp only[AllP,bb,toN,loI,hiI];repeat' first|exact trivial|exact EntL.refl _|exact BEntL.refl _|exact rfl|exact look_I _ _|exact mput_I _ _ _|omega|apply And.intro|intro _))
  obtain ⟨lL,hLe⟩:∃t,t=(to_.getD c.toNat default):=⟨_,rfl⟩
  have hLe2:lL=to_.getD c.toNat []:=hLe
  rw[←hLe]
  rw[←hLe2]at he
  have hLin:∀b,b∈lL→0≤b∧b<to_.length:=by
   intro b hb
   rw[hLe2,List.getD_eq_getElem?_getD,List.getElem?_eq_getElem (by omega)]at hb
   exact ht.in_ _ (List.getElem_mem _) b hb
  have hLl:lL.length≤1000:=by
   rw[hLe2,List.getD_eq_getElem?_getD,List.getElem?_eq_getElem (by omega)]
   exact hl _ (List.getElem_mem _)
  have hrow:pre++c::q=(d::pre3)++q:=by rw[←hd];simp
  simp only[List.length_cons]at hf
  refine gk_loop (α:=List Int×List Int×List Bool×Nat) (fun x=>x.2.2.1.length=to_.length∧visitF out q lL=visitF x.2.2.1 x.2.1 (lL.drop x.2.2.2)∧x.2.2.2≤lL.length∧x.2.1.length≤q.length+x.2.2.2) (fun x=>[(6,.sl 1 1 x.1.length x.2.1.length),(31,iG x.2.2.2)]) (fun x=>[(0,some (.row 4 1 (default:Bool) boC x.2.2.1 0)),(1,some (.row 3 1 (0:Int) inC (x.1++x.2.1) 0))]) (fun x=>lL.length-x.2.2.2) (d::pre3,q,out,0) ⟨ho,rfl,Nat.zero_le _,Nat.le_refl _⟩ ?_ (hp:=by simp only[AllP,hrow];repeat' first|exact trivial|exact rfl|exact EntL.refl _|exact BEntL.refl _|omega|apply And.intro|(simp;done)|(simp;omega))
  rintro ⟨pre',q',out',j⟩ ⟨ho',hv,hj,hql⟩
  dsimp only at ho' hv hj hql⊢
  refine gk_region env false [] [0,4,5,6,29,30,31,32] ?_
  refine gk_ifd (fun c2=> ?_) (fun c2=> ?_)
  ·have hj2:j<lL.length:=by omega
   rw[dropC hj2,visitF]at hv
   obtain ⟨b0,bn⟩:=hLin (lL.getD j default) (by rw[List.getD_eq_getElem?_getD,List.getElem?_eq_getElem hj2];exact List.getElem_mem hj2)
   refine gk_region env false [] [0,4,5,6,9,29,30,31] ?_ (hp:=(by simp only[AllP,bb,toN,loI,hiI];repeat' first|exact trivial|exact EntL.refl _|exact BEntL.refl _|exact rfl|exact look_I _ _|exact mput_I _ _ _|omega|apply And.intro|intro _))
   try simp only[Int.toNat_natCast]
   obtain ⟨z,hz⟩:∃t,t=lL.getD j default:=⟨_,rfl⟩
   have hz2:lL.getD j 0=z:=hz.symm
   rw[←hz]at hv b0 bn
   try simp only[hz2]
   try simp only[←hz]
   refine gk_region env false [] [0,4,5,6,9,29,30,31,39] ?_ (hp:=(by simp only[AllP,bb,toN,loI,hiI];repeat' first|exact trivial|exact EntL.refl _|exact BEntL.refl _|exact rfl|exact look_I _ _|exact mput_I _ _ _|omega|apply And.intro|intro _))
   refine gk_if (fun c3=> ?_) (fun c3=> ?_)
   ·try simp only[bb]at c3
    have c4:¬(bAt out' z=true):=by unfold bAt;rw[Bool.not_eq_true];simpa using c3
    rw[if_neg c4]at hv
    refine gk_region env false [.el (default:Bool) boC (out'.set z.toNat true)] [0,4,5,6,9,29,30,31] ?_ (hp:=(by simp only[AllP,bb,toN,loI,hiI,Nat.zero_add];repeat' first|exact (putBo _ _ _).symm|exact Nat.le_refl 1|exact trivial|exact EntL.refl _|exact BEntL.refl _|exact rfl|omega|apply And.intro|intro _|(simp;done)|(simp;omega)))
    refine gk_ops ?_
    refine gwo_chunk env false 3 [.el (0:Int) inC [z]] ?_ (hp:=(by simp only[AllP,bb,toN,loI,hiI];repeat' first|exact trivial|exact EntL.refl _|exact BEntL.refl _|exact rfl|exact look_I _ _|exact mput_I _ _ _|omega|apply And.intro|intro _))
    refine gwo_appQ env 1 _ z ?_ ?_ rfl (fun pre2=> ?_)
    ·simp
    ·show (q'.length+1)*8≤_;omega
    have hdrop:(pre'++q').drop pre'.length=q':=by simp
    simp only[hdrop]
    refine gwo_chunk env false 1 [] ?_
    refine gwo_end [0,4,5,6,29,30,31] ?_
    refine gk_region env false [] [0,4,5,6,29,30,31] ?_ (hp:=(by simp only[AllP,bb,toN,loI,hiI];repeat' first|exact trivial|exact EntL.refl _|exact BEntL.refl _|exact rfl|exact look_I _ _|exact mput_I _ _ _|omega|apply And.intro|intro _))
    cases pre2 with
    |nil=>refine gk_round ([],q'++ [z],out'.set z.toNat true,j+1) ⟨by dsimp only;rw[List.length_set];exact ho',hv,hj2,by dsimp only;simp;omega⟩ (hp:=by (try simp only[AllP,Nat.zero_add]);repeat' first|exact trivial|exact rfl|exact EntL.refl _|exact BEntL.refl _|omega|apply And.intro|(simp;done)|(simp[*];done)|(simp[ho'];done)) (hm:=by dsimp only;omega)
    |cons e es=>refine gk_round (e::es,q'++ [z],out'.set z.toNat true,j+1) ⟨by dsimp only;rw[List.length_set];exact ho',hv,hj2,by dsimp only;simp;omega⟩ (hp:=by (try simp only[AllP,Nat.zero_add]);repeat' first|exact trivial|exact rfl|exact EntL.refl _|exact BEntL.refl _|omega|apply And.intro|(simp;done)|(simp[*];done)|(simp[ho'];done)) (hm:=by dsimp only;omega)
   ·try simp only[bb]at c3
    have c4:bAt out' z=true:=by unfold bAt;simpa using c3
    rw[if_pos c4]at hv
    refine gk_region env false [] [0,4,5,6,29,30,31] ?_ (hp:=(by simp only[AllP,bb,toN,loI,hiI];repeat' first|exact trivial|exact EntL.refl _|exact BEntL.refl _|exact rfl|exact look_I _ _|exact mput_I _ _ _|omega|apply And.intro|intro _))
    cases pre' with
    |nil=>refine gk_round ([],q',out',j+1) ⟨ho',hv,hj2,by dsimp only;omega⟩ (hp:=by (try simp only[AllP,Nat.zero_add]);repeat' first|exact trivial|exact rfl|exact EntL.refl _|exact BEntL.refl _|omega|apply And.intro|(simp;done)|(simp[*];done)|(simp[ho'];done)) (hm:=by dsimp only;omega)
    |cons e es=>refine gk_round (e::es,q',out',j+1) ⟨ho',hv,hj2,by dsimp only;omega⟩ (hp:=by (try simp only[AllP,Nat.zero_add]);repeat' first|exact trivial|exact rfl|exact EntL.refl _|exact BEntL.refl _|omega|apply And.intro|(simp;done)|(simp[*];done)|(simp[ho'];done)) (hm:=by dsimp only;omega)
  ·have hje:j=lL.length:=by omega
   subst hje
   rw[List.drop_length,visitF]at hv
   obtain ⟨v1,v2,v3,v4,v5,v6,v7⟩:=visit_ok (n:=to_.length) (X:=fun _=>True) lL out q ho hLin (fun _ _=>trivial)
   rw[hv]at v1 v6 v7 he
   dsimp only at v1 v6 v7 he
   have hq':∀b,b∈q'→0≤b∧b<to_.length:=fun b hb=>(v6 b hb).elim (fun h=>hq b (List.mem_cons_of_mem _ h)) (fun h=>⟨h.1,h.2.1⟩)
   cases pre' with
   |nil=>refine gk_round ([],q',out',f) ⟨v1,he,by dsimp only;omega,by dsimp only;omega,hq'⟩ (hp:=by (try simp only[AllP,Nat.zero_add]);repeat' first|exact trivial|exact rfl|exact EntL.refl _|exact BEntL.refl _|omega|apply And.intro|(simp;done)|(simp[*];done)|(simp[ho'];done)) (hm:=by dsimp only;omega)
   |cons e es=>refine gk_round (e::es,q',out',f) ⟨v1,he,by dsimp only;omega,by dsimp only;omega,hq'⟩ (hp:=by (try simp only[AllP,Nat.zero_add]);repeat' first|exact trivial|exact rfl|exact EntL.refl _|exact BEntL.refl _|omega|apply And.intro|(simp;done)|(simp[*];done)|(simp[ho'];done)) (hm:=by dsimp only;omega)
 ·have hq0:q= []:=List.eq_nil_of_length_eq_zero (by omega)
  subst hq0
  have:bfsF to_ f out []=out:=by cases f<;>rfl
  rw[this]at he
  rw[he]
  refine gk_region env false [] [4] ?_
  refine gk_ret env (hp:=by simp only[AllP];repeat' first|exact ho.symm|exact trivial|apply And.intro) ?_
  rfl
open Go.RowKit Go.Proofs Go.Sort
structure RowsAt (w0 wr:World) (B tS tI:Nat) (ls:List (List Int)) (vals:List Value):Prop where
 blk:wr.heap[B]? =some (.cells vals.toArray tS (0,0))
 len:vals.length=ls.length
 below:Below w0.heap.size w0 wr
 lo:w0.heap.size≤B
 own:∀(a:Nat) (v:Value) (l:List Int),vals[a]? =some v→ls[a]? =some l→wr.ownsRow (B+1) tI 1 v l.length (l.map (Value.int .i64))
 apart:∀(a a':Nat) (v v':Value) (g:Nat),a≠a'→vals[a]? =some v→vals[a']? =some v'→v.ownBlock=some g→v'.ownBlock≠some g
theorem own_block {w:World} {base e size n:Nat} {v:Value} {xs:List Value} {g:Nat} (h:w.ownsRow base e size v n xs) (hg:v.ownBlock=some g):base≤g∧g<w.heap.size:=by
 rcases h.2 with ⟨rfl,_⟩|⟨g',cap,cur,rfl,hb,hh,_⟩
 ·cases hg
 ·simp only[Value.ownBlock,Option.some.injEq]at hg
  subst hg
  exact ⟨hb,(Array.getElem?_eq_some_iff.1 hh).1⟩
theorem own_same {w w':World} {base e size n:Nat} {v:Value} {xs:List Value} (h:w.ownsRow base e size v n xs) (hs:∀g,v.ownBlock=some g→w'.heap[g]? =w.heap[g]?):w'.ownsRow base e size v n xs:=by
 refine ⟨h.1,?_⟩
 rcases h.2 with h1|⟨g',cap,cur,rfl,hb,hh,rest⟩
 ·exact .inl h1
 ·exact .inr ⟨g',cap,cur,rfl,hb,(hs g' rfl).trans hh,rest⟩
theorem RowsAt.lt {w0 wr:World} {B tS tI:Nat} {ls:List (List Int)} {vals:List Value} (h:RowsAt w0 wr B tS tI ls vals):B<wr.heap.size:=(Array.getElem?_eq_some_iff.1 h.blk).1
theorem RowsAt.later {w0 W W':World} {B tS tI:Nat} {ls:List (List Int)} {vals:List Value} (h:RowsAt w0 W B tS tI ls vals) (hb:Below W.heap.size W W'):RowsAt w0 W' B tS tI ls vals:=
 ⟨(hb.block B h.lt).trans h.blk,h.len,h.below.trans (hb.mono h.below.size),h.lo,fun a v l h1 h2=>own_same (h.own a v l h1 h2) fun g hg=>hb.block g (own_block (h.own a v l h1 h2) hg).2,h.apart⟩
theorem RowsAt.turn {w0 W W':World} {B tS tI:Nat} {ls:List (List Int)} {vals:List Value} (h:RowsAt w0 W B tS tI ls vals) {a:Nat} {v v':Value} {l l':List Int} (hv:vals[a]? =some v) (hl:ls[a]? =some l)
 (hown:W'.ownsRow (B+1) tI 1 v' l'.length (l'.map (Value.int .i64))) (hgrow:W.grownBy W' v.ownBlock) (hat:v'.ownBlock=v.ownBlock∨v'.ownBlock=some W.heap.size∨v'.ownBlock=none):
 RowsAt w0 (W'.setCell ⟨B,a,none⟩ v') B tS tI (ls.set a l') (vals.set a v'):=by
 have hov:=h.own a v l hv hl
 have hBv:some B≠v.ownBlock:=fun e=>by have:=(own_block hov e.symm).1;omega
 have hB':W'.heap[B]? =some (.cells vals.toArray tS (0,0)):=(hgrow.block B h.lt hBv).trans h.blk
 have ha:a<vals.length:=(List.getElem?_eq_some_iff.1 hv).1
 have hset:∀g,g≠B→(W'.setCell ⟨B,a,none⟩ v').heap[g]? =W'.heap[g]? :=fun g hg=>Below.heap_setCell _ _ _ _ hg
 have hnew:∀a' u l2,a'≠a→vals[a']? =some u→ls[a']? =some l2→∀g,u.ownBlock=some g→W'.heap[g]? =W.heap[g]? :=fun a' u l2 hne hu h2 g hg=>
  hgrow.block g (own_block (h.own a' u l2 hu h2) hg).2 fun e=>h.apart a' a u v g hne hu hv hg e.symm
 refine ⟨?_,by simp[h.len],?_,h.lo,fun a' u l2 h1 h2=> ?_,fun a1 a2 u1 u2 g hne h1 h2 hg=> ?_⟩
 ·rw[heap_setCell_same W' B a vals.toArray tS v' hB'];simp
 ·have hg1:Below w0.heap.size w0 W':=h.below.grown hgrow h.below.size fun k hk=>by have:=(own_block hov hk).1;have:=h.lo;omega
  exact hg1.setCell h.lo _
 ·rw[List.getElem?_set]at h1 h2
  by_cases e:a=a'
  ·subst e
   rw[if_pos rfl,if_pos ha]at h1
   rw[if_pos rfl,if_pos (by rw[←h.len];exact ha)]at h2
   cases h1;cases h2
   exact own_same hown fun g hg=>hset g fun e=>by have:=(own_block hown hg).1;omega
  ·rw[if_neg e]at h1 h2
   exact own_same (own_same (h.own a' u l2 h1 h2) (hnew a' u l2 (fun e'=>e e'.symm) h1 h2)) fun g hg=>hset g fun e'=>by have:=(own_block (h.own a' u l2 h1 h2) hg).1;omega
 ·have hls:∀a' u,vals[a']? =some u→∃l2,ls[a']? =some l2:=fun a' u hu=>by
   have:=(List.getElem?_eq_some_iff.1 hu).1
   exact ⟨_,List.getElem?_eq_getElem (by rw[←h.len];exact this)⟩
  have key:∀a' u,a'≠a→vals[a']? =some u→∀g,v'.ownBlock=some g→u.ownBlock≠some g:=fun a' u hne hu g hg hu'=>by
   obtain ⟨l2,h2⟩:=hls a' u hu
   rcases hat with e|e|e
   ·exact h.apart a a' v u g (fun e'=>hne e'.symm) hv hu (by rw[←e];exact hg) hu'
   ·rw[e]at hg;cases hg
    have:=(own_block (h.own a' u l2 hu h2) hu').2;omega
   ·rw[e]at hg;cases hg
  rw[List.getElem?_set]at h1 h2
  by_cases e1:a=a1<;>by_cases e2:a=a2
  ·exact absurd (e1.symm.trans e2) hne
  ·subst e1
   rw[if_pos rfl,if_pos ha]at h1;rw[if_neg e2]at h2
   cases h1
   exact key a2 u2 (fun e=>e2 e.symm) h2 g hg
  ·subst e2
   rw[if_pos rfl,if_pos ha]at h2;rw[if_neg e1]at h1
   cases h2
   exact fun hv'=>key a1 u1 (fun e=>e1 e.symm) h1 g hv' hg
  ·rw[if_neg e1]at h1;rw[if_neg e2]at h2
   exact h.apart a1 a2 u1 u2 g hne h1 h2 hg
theorem RowsAt.inner {w0 W W':World} {B tS tI:Nat} {ls:List (List Int)} {vals:List Value} (h:RowsAt w0 W B tS tI ls vals) {a:Nat} {v:Value} {l l':List Int} (hv:vals[a]? =some v) (hl:ls[a]? =some l)
 (hown:W'.ownsRow (B+1) tI 1 v l'.length (l'.map (Value.int .i64))) (hgrow:W.grownBy W' v.ownBlock):RowsAt w0 W' B tS tI (ls.set a l') vals:=by
 have hov:=h.own a v l hv hl
 have hBv:some B≠v.ownBlock:=fun e=>by have:=(own_block hov e.symm).1;omega
 refine ⟨(hgrow.block B h.lt hBv).trans h.blk,by simp[h.len],h.below.grown hgrow h.below.size fun k hk=>(by have:=(own_block hov hk).1;have:=h.lo;omega),h.lo,fun a' u l2 h1 h2=> ?_,h.apart⟩
 have ha:a<vals.length:=(List.getElem?_eq_some_iff.1 hv).1
 rw[List.getElem?_set]at h2
 by_cases e:a=a'
 ·subst e
  rw[if_pos rfl,if_pos (by rw[←h.len];exact ha)]at h2
  cases h2
  rw[hv]at h1;cases h1
  exact hown
 ·rw[if_neg e]at h2
  exact own_same (h.own a' u l2 h1 h2) fun g hg=>hgrow.block g (own_block (h.own a' u l2 h1 h2) hg).2 fun e'=>h.apart a' a u v g (fun x=>e x.symm) h1 hv hg e'.symm
theorem sort_own (v:Value) (l:List Int) (base:Nat) (W:World) (h:W.ownsRow base 3 1 v l.length (l.map (Value.int .i64))) (hl:l.length≤1000):
 Calls Tryz.prog 52 #[v] W fun e w'=>e= .returned (.tuple #[])∧w'.ownsRow base 3 1 v (l.mergeSort fun x y=>decide (x≤y)).length ((l.mergeSort fun x y=>decide (x≤y)).map (Value.int .i64))∧W.grownBy w' v.ownBlock:=by
 have hlen:(l.mergeSort fun x y=>decide (x≤y)).length=l.length:=List.length_mergeSort l
 rcases h.2 with ⟨rfl,h0⟩|⟨g,cap,cur,rfl,hb,hg,r1,r2,r3,r4⟩
 ·have hl0:l= []:=List.eq_nil_of_length_eq_zero h0
  subst hl0
  refine (Tryz.slices_Sort_int_none none 0 W).mono ?_
  rintro e w' ⟨rfl,rfl⟩
  exact ⟨rfl,by simpa using h,⟨rfl,rfl,rfl,Nat.le_refl _,fun _ _ _=>rfl⟩⟩
 ·refine (Tryz.slices_Sort_int g 0 cap l W (holds_of_block_i hg (by simpa using r4)) (Array.getElem?_eq_some_iff.1 hg).1 (by omega)).mono ?_
  rintro e w' ⟨rfl,n,os,rfl⟩
  refine ⟨rfl,?_,grownBy_sorted_i _⟩
  rw[hlen]
  exact ownsRow_sorted_i hlen hb hg r1 r2 r3
theorem compact_le (zs:List Int):(Lib.compact zs).length≤zs.length:=by
 have:=List.length_filter_le (Lib.keeps zs.toArray) (List.range zs.length)
 simpa [Lib.compact,Lib.compactUpTo]using this
theorem compact_own (v:Value) (l:List Int) (base:Nat) (W:World) (h:W.ownsRow base 3 1 v l.length (l.map (Value.int .i64))) (hl:l.length≤1000):
 Calls Tryz.prog 53 #[v] W fun e w'=>∃v',e= .returned v'∧v'.ownBlock=v.ownBlock∧w'.ownsRow base 3 1 v' (Lib.compact l).length ((Lib.compact l).map (Value.int .i64))∧W.grownBy w' v.ownBlock:=by
 have hle:=compact_le l
 rcases h.2 with ⟨rfl,h0⟩|⟨g,cap,cur,rfl,hb,hg,r1,r2,r3,r4⟩
 ·have hl0:l= []:=List.eq_nil_of_length_eq_zero h0
  subst hl0
  refine (Tryz.slices_Compact_int_empty none 0 W).mono ?_
  rintro e w' ⟨rfl,rfl⟩
  exact ⟨_,rfl,rfl,by simpa [Lib.compact,Lib.compactUpTo]using h,⟨rfl,rfl,rfl,Nat.le_refl _,fun _ _ _=>rfl⟩⟩
 ·refine (Tryz.slices_Compact_int g 0 cap l W (holds_of_block_i hg (by simpa using r4)) (by omega) r1).mono ?_
  rintro e w' ⟨rfl,q,hw⟩
  have hw2:w'=grow (putRow (Value.int .i64) (Sort.ahead W q) g 0 (Lib.compact l++List.replicate (l.length-(Lib.compact l).length) 0).toArray) #[]:=by rw[Sort.grow_empty];exact hw
  subst hw2
  have hlen:(Lib.compact l++List.replicate (l.length-(Lib.compact l).length) 0).length=l.length:=by simp;omega
  have ho:=ownsRow_sorted_i (os:= #[]) (n:=q) hlen hb hg r1 r2 r3
  refine ⟨_,rfl,rfl,⟨by simp,?_⟩,grownBy_sorted_i _⟩
  rcases ho.2 with ⟨h1,_⟩|⟨g',cap',cur',e1,e2,e3,e4,e5,e6,e7⟩
  ·cases h1
  ·injection e1 with e1 e1' e1''
   injection e1 with e1
   injection e1 with e1
   subst e1 e1''
   refine .inr ⟨g,cap,cur',rfl,hb,e3,by omega,e5,e6,?_⟩
   have:=congrArg (List.take (Lib.compact l).length) e7
   rw[List.take_take,Nat.min_eq_left (by omega)]at this
   rw[Nat.mul_one,this,List.map_append,List.take_append_of_le_length (by simp),List.take_of_length_le (by simp)]
theorem sl_info:(Tryz.prog.info? 35).map (fun i=>(i.zero,i.size,i.bytes))=some (some (.slice none 0 0),1,24):=by kernel_rfl
section
variable {P:Program} {ops:Array Oper} {rest:List Oper} {o:Oper} {a:Act} {Q:Exit→Act→World→Prop} {w:World}
theorem make_rows {t e:TypeId} (ht:P.underlying t=some (.slice e)) (hi:(P.info? e).map (fun i=>(i.zero,i.size,i.bytes))=some (some (.slice none 0 0),1,24)) (n:Nat) (hn:n≤1000)
 (hg:o.guard=none) (l c:Operand) (hop:o.op= .makeSlice t l c) (hl:a.eval l= .int .i64 n) (hc:a.eval c= .int .i64 n)
 (h:∀w',Hid (w'.heap[w.heap.size]? =some (.cells (List.replicate n (Value.slice none 0 0)).toArray e (0,0)))→Hid (Below w.heap.size w w')→wpList P ops Q rest (a.put o.dst (.slice (some ⟨w.heap.size,0,none⟩) n n)) w'):
 wpList P ops Q (o::rest) a w:=by
 obtain ⟨i0,hi,hz0,hz1,hz2⟩:=info_parts hi
 refine wpList_make_full w hg l c t hop w.heap.size e i0 _ 1 ht hi hz0 hz1 .i64 .i64 n n n hl hc rfl rfl (by rw[hz2];omega) (by unfold maxLen;omega) (Nat.le_refl _) ?_
 intro w' hown hgrow
 rcases hown.2 with ⟨h1,_⟩|⟨g,cap,cur,h1,_,h2,_,_,h3,h4⟩
 ·cases h1
 ·injection h1 with h1 h4' h5
  injection h1 with h1
  injection h1 with h1
  subst h1;subst h5
  have hcur:cur.toList=List.replicate n (Value.slice none 0 0):=by
   rw[Nat.mul_one]at h3 h4
   rw[List.take_of_length_le (by simp;omega)]at h4
   rw[h4]
   apply List.ext_getElem?
   intro j
   simp only[madeCells,Value.cells,Array.toList_map,Array.toList_range,List.getElem?_map,Nat.mul_one]
   rcases Nat.lt_or_ge j n with hj|hj
   ·rw[List.getElem?_range hj,List.getElem?_replicate,if_pos hj]
    simp[Nat.mod_one]
   ·rw[List.getElem?_eq_none (by simpa using hj),List.getElem?_eq_none (by simpa using hj)]
    rfl
  have hcur2:cur=(List.replicate n (Value.slice none 0 0)).toArray:=by rw[←hcur]
  exact h w' (Lib.hid (hcur2▸h2)) (Lib.hid ((Below.refl _ w).grown hgrow (Nat.le_refl _) (fun j hj=>by cases hj)))
end
def edgesF (n:Nat) (es:List (Int×Int)):List (List Int):=(List.range n).map fun a=>(es.filter fun e=>decide (e.1=((a:Nat):Int))).map (·.2)
def NextI (w wr:World) (n:Nat) (es:List (Int×Int)):Prop:=∃vals,RowsAt w wr w.heap.size 35 3 (edgesF n es) vals
theorem edgesF_get (n:Nat) (es:List (Int×Int)) {a:Nat} (ha:a<n):(edgesF n es)[a]? =some ((es.filter fun e=>decide (e.1=((a:Nat):Int))).map (·.2)):=by
 unfold edgesF
 rw[List.getElem?_map,List.getElem?_range ha];rfl
theorem next_start (w w3:World) (n:Nat) (HC:w3.heap[w.heap.size]? =some (.cells (List.replicate n (Value.slice none 0 0)).toArray 35 (0,0))) (HB:Below w.heap.size w w3):NextI w w3 n []:=by
 refine ⟨List.replicate n (Value.slice none 0 0),HC,by simp[edgesF],HB,Nat.le_refl _,fun a v l h1 h2=> ?_,fun a a' v v' g _ h1 _ hg=> ?_⟩
 ·rw[List.getElem?_replicate]at h1
  split at h1
  ·rename_i ha
   rw[edgesF_get n [] ha]at h2
   cases h1;cases h2
   exact ⟨rfl,.inl ⟨rfl,rfl⟩⟩
  ·cases h1
 ·rw[List.getElem?_replicate]at h1
  split at h1
  ·cases h1;cases hg
  ·cases h1
theorem own_al2 {wr:World} {base e size n:Nat} {v:Value} {xs:List Value} (h:wr.ownsRow base e size v n xs) (o1 o2:Obj):((wr.alloc o1).drew.alloc o2).ownsRow base e size v n xs:=
 own_same h fun g hg=>by
  have h2:=(own_block h hg).2
  rw[Below.heap_alloc _ _ _ (show g<(wr.alloc o1).drew.heap.size by show g<(wr.alloc o1).heap.size;simp;omega)]
  exact Below.heap_alloc wr o1 g h2
theorem news2 (wr:World) (o1:Obj) (x:Value) (t:TypeId):∀j u,[x][j]? =some u→((wr.alloc o1).drew.alloc (.cells #[x] t)).cell? ((⟨wr.heap.size+1,0,none⟩:Addr).add j)=some u:=by
 have h:=cell_one_new (wr.alloc o1).drew x t
 have e:(wr.alloc o1).drew.heap.size=wr.heap.size+1:=by show (wr.alloc o1).heap.size=_;simp
 rw[e]at h
 exact h
theorem far2 {wr w5:World} (o1 o2:Obj) {B:Nat} {row:Option Nat} (hg:((wr.alloc o1).drew.alloc o2).grownBy w5 row) (hB:B<wr.heap.size) (hne:some B≠row):w5.heap[B]? =wr.heap[B]? :=by
 have h1:B<(wr.alloc o1).drew.heap.size:=by show B<(wr.alloc o1).heap.size;simp;omega
 rw[hg.block B (by have:=h1;simp;omega) hne,Below.heap_alloc _ _ _ h1]
 exact Below.heap_alloc wr o1 B hB
theorem far1 {wr w5:World} (o1 o2:Obj) {row:Option Nat} (hg:((wr.alloc o1).drew.alloc o2).grownBy w5 row) (hne:some wr.heap.size≠row):w5.heap[wr.heap.size]? =some o1:=by
 have h1:wr.heap.size<(wr.alloc o1).drew.heap.size:=by show wr.heap.size<(wr.alloc o1).heap.size;simp
 rw[hg.block wr.heap.size (by have:=h1;simp;omega) hne,Below.heap_alloc _ _ _ h1]
 exact heap_alloc_new wr o1
theorem edgesF_step (n:Nat) (es:List (Int×Int)) {k a:Nat} {e2:Int} {l:List Int} (hk:es[k]? =some (((a:Nat):Int),e2)) (hl:(((es.take k).filter fun e=>decide (e.1=((a:Nat):Int))).map (·.2))=l):(edgesF n (es.take k)).set a (l++ [e2])=edgesF n (es.take (k+1)):=by
 have ht:es.take (k+1)=es.take k++ [(((a:Nat):Int),e2)]:=by
  obtain ⟨h1,h2⟩:=List.getElem?_eq_some_iff.1 hk
  rw[List.take_succ_eq_append_getElem h1,h2]
 apply List.ext_getElem?
 intro j
 rw[List.getElem?_set]
 have hlen:∀m,(edgesF n (es.take m)).length=n:=fun m=>by simp[edgesF]
 rw[hlen]
 rcases Nat.lt_or_ge j n with hj|hj
 ·rw[edgesF_get n _ hj,edgesF_get n _ hj,ht,List.filter_append,List.map_append]
  by_cases e:a=j
  ·subst e
   rw[if_pos rfl,if_pos hj,hl]
   simp
  ·rw[if_neg e]
   have:¬((a:Int)=(j:Int)):=by omega
   simp[this]
 ·rw[List.getElem?_eq_none (by rw[hlen];exact hj),List.getElem?_eq_none (by rw[hlen];exact hj)]
  split
  ·rw[if_neg (by omega)]
  ·rfl
theorem next_step {w wr w5:World} {n k a g cap:Nat} {es:List (Int×Int)} {vals:List Value} {l:List Int} {v:Value} {e2:Int} (o1 o2:Obj) (HR:RowsAt w wr w.heap.size 35 3 (edgesF n (es.take k)) vals) (hv:vals[a]? =some v) (hl0:(edgesF n (es.take k))[a]? =some l) (hk:es[k]? =some (((a:Nat):Int),e2)) (hl:(((es.take k).filter fun e=>decide (e.1=((a:Nat):Int))).map (·.2))=l)
 (hown:w5.ownsRow (w.heap.size+1) 3 1 (.slice (some ⟨g,0,none⟩) (l.length+1) cap) (l.length+1) (l.map (Value.int .i64)++ [.int .i64 e2])) (hgrow:((wr.alloc o1).drew.alloc o2).grownBy w5 v.ownBlock) (hat:v.ownBlock=some g∨g=((wr.alloc o1).drew.alloc o2).heap.size):NextI w (w5.setCell ⟨w.heap.size,a,none⟩ (.slice (some ⟨g,0,none⟩) (l.length+1) cap)) n (es.take (k+1)):=by
 have hb:Below wr.heap.size wr ((wr.alloc o1).drew.alloc o2):=((((Below.refl _ wr).alloc (Nat.le_refl _) o1).drew).alloc (by show wr.heap.size≤(wr.alloc o1).heap.size;simp) o2)
 refine ⟨_,edgesF_step n es hk hl▸(HR.later hb).turn hv hl0 (l':=l++ [e2]) (by simpa using hown) hgrow ?_⟩
 rcases hat with h|h
 ·exact .inl (by rw[h];rfl)
 ·exact .inr (.inl (by rw[←h];rfl))
def mixF (n:Nat) (es:List (Int×Int)) (k:Nat):List (List Int):=(nxtV n es).take k++(edgesF n es).drop k
theorem nxtV_len (n:Nat) (es:List (Int×Int)):(nxtV n es).length=n:=by simp[nxtV]
theorem edgesF_len (n:Nat) (es:List (Int×Int)):(edgesF n es).length=n:=by simp[edgesF]
theorem mixF_0 (n:Nat) (es:List (Int×Int)):mixF n es 0=edgesF n es:=by simp[mixF]
theorem mixF_n (n:Nat) (es:List (Int×Int)):mixF n es n=nxtV n es:=by
 unfold mixF
 rw[List.take_of_length_le (by rw[nxtV_len];exact Nat.le_refl _),List.drop_eq_nil_of_le (by rw[edgesF_len];exact Nat.le_refl _),List.append_nil]
theorem mixF_at (n:Nat) (es:List (Int×Int)) {k:Nat} (hk:k<n):(mixF n es k)[k]? =some ((es.filter fun e=>decide (e.1=((k:Nat):Int))).map (·.2)):=by
 have hl:((nxtV n es).take k).length=k:=by rw[List.length_take,nxtV_len];omega
 unfold mixF
 rw[List.getElem?_append_right (by omega),hl,Nat.sub_self,List.getElem?_drop,Nat.add_zero,edgesF_get n es hk]
theorem mixF_s (n:Nat) (es:List (Int×Int)) {k:Nat} (hk:k<n):(mixF n es k).set k (Lib.compact (((es.filter fun e=>decide (e.1=((k:Nat):Int))).map (·.2)).mergeSort fun x y=>decide (x≤y)))=mixF n es (k+1):=by
 have hl:((nxtV n es).take k).length=k:=by rw[List.length_take,nxtV_len];omega
 unfold mixF
 rw[List.set_append_right _ _ (by omega),hl,Nat.sub_self]
 rw[List.drop_eq_getElem_cons (show k<(edgesF n es).length by rw[edgesF_len];exact hk),List.set_cons_zero,List.take_succ_eq_append_getElem (show k<(nxtV n es).length by rw[nxtV_len];exact hk),List.append_assoc]
 congr 1
 simp[nxtV]
def NextJ (w wr:World) (n:Nat) (es:List (Int×Int)) (k:Nat):Prop:=∃vals,RowsAt w wr w.heap.size 35 3 (mixF n es k) vals
set_option maxHeartbeats 4000000 in
theorem next_run (n:Nat) (hn:n≤300) (es:List (Int×Int)) (hl:es.length≤100) (he:∀e,e∈es→(0≤e.1∧e.1<n)∧0≤e.2∧e.2<n) (A:Option Addr) (b off c:Nat) (w:World) (hA:es≠ []→A=some ⟨b,off,none⟩) (hb:es≠ []→b<w.heap.size) (hc:Hid (∀(k:Nat) e,es[k]? =some e→w.cell? ⟨b,off+k*2,none⟩=some (.int .i64 e.1)∧w.cell? ⟨b,off+k*2+1,none⟩=some (.int .i64 e.2))):Calls Tryz.prog 30 #[.int .i64 n,.slice A es.length c] w fun e w'=>∃vals,e= .returned (.slice (some ⟨w.heap.size,0,none⟩) n n)∧RowsAt w w' w.heap.size 35 3 (nxtV n es) vals:=by
 go_enter Tryz.func30,Tryz.ntmps30
 go_wp2_with (at_make;refine make_rows Tryz.underlying38 sl_info n (by omega) rfl _ _ rfl rfl rfl ?_;intro w3 HC HB)
 go_loopw [14] (fun i wr=>∃k:Nat,i= .int .i64 k∧k≤es.length∧Hid (NextI w wr n (es.take k))) (fun i _=>es.length-(RowKit.intOf i).toNat)
 case atStart=>exact ⟨0,rfl,Nat.zero_le _,Lib.hid (next_start w w3 n HC.out HB.out)⟩
 case round=>
  obtain ⟨k,rfl,hk,HK⟩:=hrel
  by_cases hlt:k<es.length
  ·have hne:es≠ []:=by intro h;subst h;simp at hlt
   obtain rfl:=hA hne
   have hb:=hb hne
   obtain ⟨⟨e1,e2⟩,hee⟩:∃e,es[k]? =some e:=⟨_,List.getElem?_eq_getElem hlt⟩
   obtain ⟨vals,hR⟩:=HK.out
   obtain ⟨k1,k2⟩:=hc.out k _ hee
   have c1:=(hR.below.cell (p:=⟨b,off+k*2,none⟩) hb).trans k1
   have c2:=(hR.below.cell (p:=⟨b,off+k*2+1,none⟩) hb).trans k2
   clear k1 k2
   obtain ⟨⟨g1,g2⟩,g3,g4⟩:=he _ (List.mem_of_getElem? hee)
   obtain ⟨a,rfl⟩:∃a:Nat,e1=a:=⟨e1.toNat,by simp only at g1;omega⟩
   have ha:a<n:=by simp only at g2;omega
   have hal:a<vals.length:=by rw[hR.len];simp[edgesF];exact ha
   obtain ⟨v,hv⟩:∃v,vals[a]? =some v:=⟨_,List.getElem?_eq_getElem hal⟩
   have hl0:=edgesF_get n (es.take k) ha
   generalize hl1:(((es.take k).filter fun e=>decide (e.1=((a:Nat):Int))).map (·.2))=l at hl0
   have HO:=Lib.hid (hR.own a v l hv hl0)
   have cv:wr.cell? ⟨w.heap.size,a,none⟩=some v:=by rw[blk_cell hR.blk];simpa using hv
   have fv:wr.frozen? ⟨w.heap.size,a,none⟩=false:=by simp[World.frozen?,hR.blk]
   have hBl:=hR.lt
   have HR:=Lib.hid hR
   clear hR
   have hBv:some w.heap.size≠v.ownBlock:=fun e=>by have:=(own_block HO.out e.symm).1;omega
   have hWv:some wr.heap.size≠v.ownBlock:=fun e=>by have:=(own_block HO.out e.symm).2;omega
   have han:¬((n:Int)≤a):=by omega
   have ha0:¬((a:Int)<0):=by omega
   go_wp2_with fail
   obtain ⟨i0,hi,hz0,hz1,hz2⟩:=info_parts int_info
   have hll:l.length≤100:=by
    rw[←hl1,List.length_map]
    exact Nat.le_trans (List.length_filter_le _ _) (by rw[List.length_take];omega)
   go_region_law (refine step_append_lies _ rfl (.tmp 25) (.tmp 28) 35 rfl (w.heap.size+1) 3 i0 (.int .i64 0) 1 8 Tryz.underlying35 hi hz0 hz1 hz2 rfl (by decide) v l.length (l.map (Value.int .i64)) rfl (own_al2 HO.out _ _) ⟨wr.heap.size+1,0,none⟩ 1 1 [.int .i64 e2] rfl rfl (news2 wr _ _ _) (fun u hu=>by simp at hu;subst hu;rfl) (by decide) (by unfold maxLen;omega) (by omega) (by simp;omega) _ rfl ?_;intro g cap w5 hown hgrow hat hlt5;have cv5:=(World.cell?_of_block (a:=⟨w.heap.size,a,none⟩) (far2 _ _ hgrow hBl hBv)).trans cv;have fv5:=(World.frozen?_of_block (a:=⟨w.heap.size,a,none⟩) (far2 _ _ hgrow hBl hBv)).trans fv;have c70:=blk_cell (j:=0) (far1 _ _ hgrow hWv) rfl)
   all_goals
    rename_i a_
    have HN:=Lib.hid (next_step _ _ HR.out hv hl0 hee hl1 hown hgrow hat)
    clear hown hgrow hat cv5 fv5 c70
    (try simp only[Exit.inBlock,Exit.then])
    refine a_ _ _ ?_
    go_wp2_with fail
    go_roundw
    case rel=>exact ⟨k+1,by simp,hlt,HN⟩
    case measure=>simp[RowKit.intOf];omega
  ·obtain rfl:k=es.length:=by omega
   have HJ:Hid (NextJ w wr n es 0):=by
    obtain ⟨vals,hR⟩:=HK.out
    rw[List.take_length]at hR
    exact Lib.hid ⟨vals,by rw[mixF_0];exact hR⟩
   clear HK
   go_wp2_with fail
   clear HC HB
   go_loopw [34] (fun i wr=>∃k:Nat,i= .int .i64 k∧k≤n∧Hid (NextJ w wr n es k)) (fun i _=>n-(RowKit.intOf i).toNat)
   case atStart=>exact ⟨0,rfl,Nat.zero_le _,HJ⟩
   case round=>
    obtain ⟨k,rfl,hk,HK⟩:=hrel
    by_cases hlt:k<n
    ·obtain ⟨vals,hR⟩:=HK.out
     have hal:k<vals.length:=by rw[hR.len];simp[mixF,nxtV_len,edgesF_len];omega
     obtain ⟨v,hv⟩:∃v,vals[k]? =some v:=⟨_,List.getElem?_eq_getElem hal⟩
     have hl0:=mixF_at n es hlt
     have HM:=Lib.hid (mixF_s n es hlt)
     have hll:((es.filter fun e=>decide (e.1=((k:Nat):Int))).map (·.2)).length≤100:=by
      rw[List.length_map]
      exact Nat.le_trans (List.length_filter_le _ _) hl
     generalize hl1:((es.filter fun e=>decide (e.1=((k:Nat):Int))).map (·.2))=l at hl0 HM hll
     have HO:=Lib.hid (hR.own k v l hv hl0)
     have HV:wr.cell? ⟨w.heap.size,k,none⟩=some v:=by rw[blk_cell hR.blk];simpa using hv
     have hkn:¬((n:Int)≤k):=by omega
     have hk0:¬((k:Int)<0):=by omega
     have HR:=Lib.hid hR
     clear hR
     go_wp2_with fail
     refine (sort_own v l _ _ HO.out (by omega)).mono ?_
     rintro e w4 ⟨rfl,ho4,hg4⟩
     have HR4:=Lib.hid (HR.out.inner hv hl0 ho4 hg4)
     have hl4:((mixF n es k).set k (l.mergeSort fun x y=>decide (x≤y)))[k]? =some (l.mergeSort fun x y=>decide (x≤y)):=by
      rw[List.getElem?_set_self (by have:=(List.getElem?_eq_some_iff.1 hl0).1;exact this)]
     have hs4:(l.mergeSort fun x y=>decide (x≤y)).length≤100:=by rw[List.length_mergeSort];exact hll
     clear HR
     generalize hm4:(l.mergeSort fun x y=>decide (x≤y))=l4 at ho4 HR4 hl4 hs4 HM
     have HO4:=Lib.hid ho4
     clear ho4 hg4
     go_wp2_with fail
     refine (compact_own v l4 _ _ HO4.out (by omega)).mono ?_
     rintro e w5 ⟨v',rfl,hb5,ho5,hg5⟩
     obtain ⟨A5,n5,k5,rfl⟩:∃A n c,v'= .slice A n c:=by rcases ho5.2 with ⟨h,_⟩|⟨g,cap,cur,h,_⟩<;>exact ⟨_,_,_,h⟩
     have hBv:some w.heap.size≠v.ownBlock:=fun e=>by have:=(own_block HO4.out e.symm).1;omega
     have hB5:w5.heap[w.heap.size]? =some (.cells vals.toArray 35 (0,0)):=(hg5.block _ HR4.out.lt hBv).trans HR4.out.blk
     have HR5:=Lib.hid (HR4.out.turn hv hl4 ho5 hg5 (.inl hb5))
     have c5:w5.cell? ⟨w.heap.size,k,none⟩=some v:=by rw[blk_cell hB5];simpa using hv
     have f5:w5.frozen? ⟨w.heap.size,k,none⟩=false:=by simp[World.frozen?,hB5]
     clear ho5 hg5 HR4 HO4 HO HV hb5 hB5
     go_wp2_with fail
     go_roundw
     case rel=>exact ⟨k+1,by simp,hlt,Lib.hid ⟨_,by rw[List.set_set,HM.out]at HR5;exact HR5.out⟩⟩
     case measure=>simp[RowKit.intOf];omega
    ·obtain rfl:k=n:=by omega
     have HN:Hid (∃vals,RowsAt w wr w.heap.size 35 3 (nxtV k es) vals):=by
      obtain ⟨vals,hR⟩:=HK.out
      rw[mixF_n]at hR
      exact Lib.hid ⟨vals,hR⟩
     clear HK
     go_wp2_with fail
     obtain ⟨vals,hR⟩:=HN.out
     exact bodyPost_ret (v:= .slice (some ⟨w.heap.size,0,none⟩) k k) (by simp[results,Tryz.results30,go_sem]) rfl ⟨vals,rfl,hR⟩
end Go.Gh
