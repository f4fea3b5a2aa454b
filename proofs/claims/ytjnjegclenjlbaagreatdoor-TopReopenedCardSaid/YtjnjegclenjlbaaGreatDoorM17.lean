/- Walks by the logic of calls, and plain laws (several texts in one). -/
import Derived.Test.YtjnjegclenjlbaaGreatDoorM16
import Derived.Test.YtjnjegclenjlbaaGreatDoorGh4
import Derived.Shelf.SlIterI.Nil
import Derived.Shelf.SlIterI.Sorted
import Derived.Ground.GgzProg
import Derived.Test.YtjnjegclenjlbaaGreatDoorM3
import Derived.Test.YtjnjegclenjlbaaGreatDoorM14
import Derived.Test.YtjnjegclenjlbaaGreatDoorM15
import Derived.Test.YtjnjegclenjlbaaGreatDoorM6
namespace Go.Gh
open Go Go.Proofs
set_option maxRecDepth 1000000
set_option maxHeartbeats 2000000
set_option linter.unusedSimpArgs false
set_option linter.unusedVariables false
set_option linter.unnecessarySimpa false
open Go.RowKit Go.Maps Go.Sort Go.Shelf Go.Proofs Go.WideElems Go.WideShapes
theorem keys_ok (S:List Int):GM Tryz.prog 60 [.mp 0] [.mp (S.map encT)] (.fn (.func 102) [] [.ptr 1 0 0 0]) [some (.mp (S.map encT)),some (.box [.mp 0])]:=by
 refine gm_of_gk Tryz.func60 ?_
 refine gk_region env false [] [1,2] ?_
 refine gk_region env false [] [2] ?_
 refine gk_retM env [.fn (.func 102) [] [.ptr 1 0 0 0]] (hp:= ?_)
 (try simp only[AllP,Nat.zero_add]);repeat' first|exact trivial|exact rfl|exact EntL.refl _|exact BEntL.refl _|omega|apply And.intro|(simp;done)|(simp[*];done)
def gKeys_ren:Go.Shelf.Ren:=⟨fun|7=>60|10=>102|n=>n,fun|23=>87|26=>3|3=>4|28=>129|0=>0|27=>128|33=>123|4=>4|n=>n,fun|n=>n⟩
theorem gKeys:Go.Proofs.SlLaysZI.n7 Tryz.prog gKeys_ren:= {
 mixed:=by kernel_rfl
 f7:=Exists.intro ("maps.Keys[allonge/undo.set,int,bool]") ⟨by decide,Tryz.func60.trans (congrArg some (by kernel_rfl))⟩
 f10:=Exists.intro ("maps.Keys[allonge/undo.set,int,bool]$1") ⟨by decide,Tryz.func102.trans (congrArg some (by kernel_rfl))⟩
 t0:=Tryz.underlying0
 a0:=Tryz.isAgg0
 z0:=Tryz.sizeOf0
 v0:=Tryz.zeroValue0
 t4:=Tryz.underlying4
 a4:=Tryz.isAgg4
 z4:=Tryz.sizeOf4
 v4:=Tryz.zeroValue4
 t23:=Tryz.underlying87
 a23:=Tryz.isAgg87
 z23:=Tryz.sizeOf87
 v23:=Tryz.zeroValue87
 t26:=Tryz.underlying3
 a26:=Tryz.isAgg3
 z26:=Tryz.sizeOf3
 v26:=Tryz.zeroValue3
 t27:=Tryz.underlying128
 a27:=Tryz.isAgg128
 z27:=Tryz.sizeOf128
 v27:=Tryz.zeroValue128
 t28:=Tryz.underlying129
 a28:=Tryz.isAgg129
 z28:=Tryz.sizeOf129
 v28:=Tryz.zeroValue129
 t33:=Tryz.underlying123
 a33:=Tryz.isAgg123
 z33:=Tryz.sizeOf123
 v33:=Tryz.zeroValue123}
def gSorted_ren:Go.Shelf.Ren:=⟨fun|6=>59|8=>101|9=>52|11=>150|13=>51|12=>97|23=>95|24=>96|14=>139|15=>140|16=>141|17=>142|18=>143|19=>144|20=>66|21=>145|22=>146|25=>179|26=>135|27=>136|28=>180|29=>181|30=>105|31=>196|n=>n,fun|26=>3|28=>129|24=>35|0=>0|3=>3|37=>118|48=>188|50=>190|4=>4|40=>181|39=>180|45=>185|5=>5|9=>9|51=>230|55=>234|57=>268|58=>269|33=>123|n=>n,fun|n=>n⟩
theorem gSorted:Go.Proofs.SlLaysZI.n6 Tryz.prog gSorted_ren:= {
 mixed:=by kernel_rfl
 f6:=Exists.intro ("slices.Sorted[int]") ⟨by decide,Tryz.func59.trans (congrArg some (by kernel_rfl))⟩
 f8:=Exists.intro ("slices.Collect[int]") ⟨by decide,Tryz.func101.trans (congrArg some (by kernel_rfl))⟩
 f11:=Exists.intro ("slices.AppendSeq[[]int,int]") ⟨by decide,Tryz.func150.trans (congrArg some (by kernel_rfl))⟩
 t0:=Tryz.underlying0
 a0:=Tryz.isAgg0
 z0:=Tryz.sizeOf0
 v0:=Tryz.zeroValue0
 t24:=Tryz.underlying35
 a24:=Tryz.isAgg35
 z24:=Tryz.sizeOf35
 v24:=Tryz.zeroValue35
 t26:=Tryz.underlying3
 a26:=Tryz.isAgg3
 z26:=Tryz.sizeOf3
 v26:=Tryz.zeroValue3
 t28:=Tryz.underlying129
 a28:=Tryz.isAgg129
 z28:=Tryz.sizeOf129
 v28:=Tryz.zeroValue129
 i26:=by kernel_rfl}
abbrev RT:Value→Option (DataW Unit×List MemPlace):=fun _=>some (.map [],[])
def datT (P:Program) (k:TypeId) (es:Array MapEntry):DataW Unit:= .map ((es.toList.map (rg P k RT)).foldr DataW.insert [])
def zOf:Value→Int
 | .int _ z=>z
 |_=>0
theorem owns_T {P:Program} {k:TypeId} (hk:P.underlying k=some (.int .i64)) {w:World} {rm:Nat} {es:Array MapEntry} {cl:Nat} {S:List Int} (h1:w.heap[rm]? =some (.map es cl)) (h2:es.toList.map (fun x=>(x.key,x.val))=S.map encT) (hB:Born es cl) (hn:S.Nodup) (hb:∀x,x∈S→0≤x∧x<1000) (hl:S.length≤1000):
 w.ownsMap P k RT rm S.length (datT P k es)∧(intKeys (datT P k es)).Perm S:=by
 have hlen:es.size=S.length:=by have:=congrArg List.length h2;simpa using this
 have hkm:es.toList.map (·.key)=S.map (Value.int .i64):=by
  have:=congrArg (List.map Prod.fst) h2
  simpa [List.map_map,Function.comp_def,encT]using this
 have hkey:∀x,x∈es.toList→∃z,z∈S∧x.key= .int .i64 z:=fun x hx=>by
  have:x.key∈S.map (Value.int .i64):=by rw[←hkm];exact List.mem_map.2 ⟨x,hx,rfl⟩
  obtain ⟨z,hz,e⟩:=List.mem_map.1 this
  exact ⟨z,hz,e.symm⟩
 have hrd:∀x,x∈es.toList→rd P k RT x=some (.int .i64 (zOf x.key),.map []):=fun x hx=>by
  obtain ⟨z,hz,e⟩:=hkey x hx
  obtain ⟨b1,b2⟩:=hb z hz
  have hw:(Lit.int .i64 z).wf=true:=by
   simp only[Lit.wf,Bool.and_eq_true,decide_eq_true_eq]
   have e1:IntKind.i64.min= -9223372036854775808:=by decide
   have e2:IntKind.i64.max=9223372036854775807:=by decide
   rw[e1,e2];omega
  have:=rd_mk (R:=RT) (key:=x.key) (val:=x.val) (born:=x.born) (kl:= .int .i64 z) (yv:=(.map [],[])) (by rw[e];exact keyOf_int_mk hk hw) rfl
  rw[e]
  exact this
 refine ⟨⟨es,cl,h1,⟨by unfold maxLen;omega,⟨hB.2,hB.1,?_⟩,fun x hx=>⟨_,hrd x hx⟩⟩,by omega,rfl⟩,?_⟩
 ·rw[hkm]
  exact List.Pairwise.map _ (fun a b h e=>h (by injection e)) hn
 ·have hp:=sorted_perm (es.toList.map (rg P k RT))
  show (((es.toList.map (rg P k RT)).foldr DataW.insert []).map fun p=>intOf p.1).Perm S
  refine (hp.map _).trans ?_
  have e1:(es.toList.map (rg P k RT)).map (fun p=>intOf p.1)=es.toList.map fun x=>zOf x.key:=by
   rw[List.map_map]
   refine List.map_congr_left fun x hx=> ?_
   show intOf (rg P k RT x).1=_
   rw[rg_of (hrd x hx)];rfl
  have e2:(es.toList.map fun x=>zOf x.key)=S:=by
   have:es.toList.map (fun x=>zOf x.key)=(es.toList.map (·.key)).map zOf:=by rw[List.map_map];rfl
   rw[this,hkm,List.map_map]
   exact (List.map_congr_left fun x _=>rfl).trans (List.map_id S)
  rw[e1,e2]
theorem sortsG (m:Nat):AnyZI.SortsIn Tryz.prog gSorted_ren Fence.wide m:=
 ⟨fun blk off cap ss W hH hblk hsz=>callsIn_wide.2 (Tryz.slices_Sort_int blk off cap ss W hH hblk hsz),fun p cap W=>callsIn_wide.2 (Tryz.slices_Sort_int_none p cap W)⟩
theorem sortedS_ok (S:List Int) (hn:S.Nodup) (hb:∀x,x∈S→0≤x∧x<1000) (hl:S.length≤1000):GM Tryz.prog 59 [.fn (.func 102) [] [.ptr 0 0 0 0]] [.box [.mp 1],.mp (S.map encT)] (.d (.row default inC (S.mergeSort fun x y=>decide (x≤y)))) [some (.box [.mp 1]),some (.mp (S.map encT))]:=by
 refine ⟨⟨_,_,Tryz.func59,rfl,rfl⟩,fun ν F w vs hr hν hv=> ?_⟩
 obtain ⟨u,rfl,hu⟩:∃u,vs= #[u]∧VR ν F w (.fn (.func 102) [] [.ptr 0 0 0 0]) u:=by
  obtain ⟨l⟩:=vs
  match l,hv.1 with
  | [u],_=>exact ⟨u,rfl,hv.2 0 _ u rfl rfl⟩
 cases hu with
 |fn f first captured fs cs h1 h2 k1 k2=>
 obtain rfl:fs= #[]:=Array.eq_empty_of_size_eq_zero h1
 obtain ⟨u,rfl,hu⟩:∃u,cs= #[u]∧VR ν F w (.ptr 0 0 0 0) u:=by
  obtain ⟨l⟩:=cs
  match l,h2 with
  | [u],_=>exact ⟨u,rfl,k2 0 _ u rfl rfl⟩
 cases hu with
 |ptr b es i f rb kb hb0=>
 obtain ⟨rb',kb',arr,T,a1,a2,a3,a4,a5,a6⟩:=hr.blk 0 (.box [.mp 1]) rfl
 rw[hb0]at a1;injection a1 with a1;injection a1 with a1 a1';subst a1 a1'
 obtain ⟨rm0,km0,es,cl,m1,m2,m3,⟨m4,m4'⟩,m5⟩:=hr.blk 1 (.mp (S.map encT)) rfl
 obtain ⟨u,rfl,hu⟩:∃u,arr= #[u]∧VR ν F w (.mp 1) u:=by
  obtain ⟨l⟩:=arr
  match l,a3 with
  | [u],_=>exact ⟨u,rfl,a5 0 _ u rfl rfl⟩
 cases hu with
 |mp b rm km hm0=>
 rw[hm0]at m1;injection m1 with m1;injection m1 with m1 m1';subst m1 m1'
 obtain ⟨hown,hperm⟩:=owns_T (tab_ok 3 _ rfl).1 m2 m3 m4' hn hb hl
 have hsz:Maps.size (datT Tryz.prog 3 es)≤S.length:=hown.size_le
 have hrl:rb<w.heap.size:=(Array.getElem?_eq_some_iff.1 a2).1
 have hseq:SeqGives Fence.wide 2 Tryz.prog 102 #[.pointer (some ⟨rb,0,none⟩)] encZ (fun ss=>ss.Perm (intKeys (datT Tryz.prog 3 es))) (Maps.size (datT Tryz.prog 3 es)) w:=
  AnyZI.keys_gives (ρ:=gKeys_ren) {gKeys with} Fence.wide _ trivial rfl (by omega) rb rm S.length _ _ hrl (by simp[World.cell?,a2]) hown
 have cS:=AnyZI.sorted_in gSorted Fence.wide 5 trivial trivial trivial trivial rfl (by omega) (sortsG _) (enters_of Tryz.func52 (by kernel_rfl) rfl) 102 #[.pointer (some ⟨rb,0,none⟩)] trivial (enters_of Tryz.func102 (by kernel_rfl) rfl) _ _ (by unfold maxLen;omega) (by omega) _ hseq
 change CallsIn _ _ Tryz.prog 59 _ _ _ at cS
 refine (callsIn_wide.1 cS).mono ?_
 rintro e w' ⟨v,ss,rfl,hss,hrow,hnil,hbel⟩
 have hps:ss.Perm S:=hss.trans hperm
 have hms:ss.mergeSort (fun x y=>decide (x≤y))=S.mergeSort fun x y=>decide (x≤y):=mergeSort_of_perm_i hps
 rw[hms]at hrow
 generalize hR:S.mergeSort (fun x y=>decide (x≤y))=R at*
 have hRl:R.length=S.length:=by rw[←hR];exact List.length_mergeSort S
 have hsl:ss.length=S.length:=hps.length_eq
 rw[hsl]at hrow
 have hlook:hpF [.box [.mp 1],.mp (S.map encT)]=hpR [some (.box [.mp 1]),some (.mp (S.map encT))]:=by
  funext i
  match i with
  |0=>rfl
  |1=>rfl
  |i+2=>rfl
 obtain ⟨A,c,hv',hc,hcell⟩:∃A c,v= .slice A R.length c∧R.length≤c∧(R≠ []→∃b off,A=some ⟨b,off,none⟩∧w.heap.size≤b∧∀i x,R[i]? =some x→∀j u,[Value.int .i64 x][j]? =some u→w'.cell? ⟨b,off+i*1+j,none⟩=some u):=by
  rcases hrow.2 with ⟨rfl,hz⟩|⟨g,cap,cur,rfl,hbase,hg,r1,r2,r3,r4⟩
  ·exact ⟨none,0,by rw[hRl,hz],by omega,fun h=>absurd (List.eq_nil_of_length_eq_zero (by omega)) h⟩
  ·refine ⟨_,cap,by rw[hRl],by omega,fun _=>⟨g,0,rfl,hbase,fun i x hx j u hu=> ?_⟩⟩
   have hi:=(List.getElem?_eq_some_iff.1 hx).1
   have h3:(cur.toList.take (S.length*1))[i]? =some (encZ x):=by rw[r4,List.getElem?_map,hx];rfl
   rw[List.getElem?_take,if_pos (by omega)]at h3
   match j with
   |0=>
    cases hu
    simp only[World.cell?,hg,Nat.zero_add,Nat.mul_one,Nat.add_zero]
    simpa using h3
   |j+1=>cases hu
 subst hv'
 obtain ⟨Fn,f1,f2⟩:=vr_row (df:=(0:Int)) (cs:=inC) (f:=fun x=>[Value.int .i64 x]) (es:=1) (W:=w') w.heap.size (fun _=>rfl) (fun _=>rfl) (fun x u hu=>by simp at hu;subst hu;rfl) hc hcell
 obtain ⟨q1,q2,q3⟩:=hr.more hbel f1
 exact ⟨ν,_,_,rfl,.d (f2.keep q3),hlook▸q1,fun _ _=>rfl,hν,hlook▸q2⟩
open Go.RowKit Go.MapKept
theorem mdel_T (k:Int):∀l:List Int,mdel (.int .i64 k) (l.map encT)=some ((l.erase k).map encT):=by
 intro l
 induction l with
 |nil=>rfl
 |cons a l ih=>
  show (match some (decide (k=a))with|some true=>_|some false=>_|none=>_)=_
  by_cases e:k=a
  ·subst e
   rw[decide_eq_true rfl]
   simp
  ·rw[decide_eq_false e]
   show (match mdel (.int .i64 k) (l.map encT)with|some l'=>some (encT a::l')|none=>none)=_
   rw[ih]
   have:(a==k)=false:=by simp;exact fun h=>e h.symm
   rw[List.erase_cons,this]
   rfl
theorem one_encT:∀l:List Int,oneAll (l.map encT)=true:=by
 intro l
 induction l with
 |nil=>rfl
 |cons a l ih=>simpa [oneAll,encT,Value.oneCell']using ih
def diffL (S D:List Int):List Int:=S.filter fun x=> !decide (x∈D)
theorem diffL_step {S D:List Int} (hn:S.Nodup) (k:Int):(diffL S D).erase k=diffL S (D++ [k]):=by
 unfold diffL
 rw[List.Nodup.erase_eq_filter (hn.filter _)]
 rw[List.filter_filter]
 refine List.filter_congr fun x _=> ?_
 by_cases h:x=k<;>by_cases h2:x∈D<;>simp[h,h2]
theorem diffL_perm {S D D':List Int} (h:(D.map encT).Perm (D'.map encT)):diffL S D=diffL S D':=by
 refine List.filter_congr fun x _=> ?_
 have h1:∀l:List Int,x∈l↔encT x∈l.map encT:=fun l=>by
  constructor
  ·exact fun h=>List.mem_map.2 ⟨x,h,rfl⟩
  ·intro h
   obtain ⟨y,hy,e⟩:=List.mem_map.1 h
   simp only[encT,Prod.mk.injEq,Value.int.injEq,true_and,and_true]at e
   exact e▸hy
 have:x∈D↔x∈D':=by rw[h1 D,h1 D'];exact h.mem_iff
 simp only[this]
theorem diffL_nil (S:List Int):diffL S []=S:=by simp[diffL]
def numsL (S0 S1:List Int):List Int:=((diffL S0 S1).mergeSort fun x y=>decide (x≤y))
theorem numbers_ok (S0 S1:List Int) (hn:S0.Nodup) (hb:∀x,x∈S0→0≤x∧x<1000) (hl:S0.length≤1000):GM Tryz.prog 33 [.mp 0,.sl 2 1 0 1] [.mp (S0.map encT),.mp (S1.map encT),.box [.mp 1]] (.d (.row default inC (numsL S0 S1))) [none,none,none]:=by
 refine gm_of_gk Tryz.func33 ?_
 refine gk_region env false [] [0,1,4] ?_
 refine gk_region env false [] [0,4,8,9,10] ?_
 refine gk_loopS (α:=Bool) (fun _=>True) (fun c=>bif c then ⟨[(0,.mp 0),(4,.d (.sc (.slice none 0 0))),(8,.sl 2 1 0 1),(9,iG 1),(10,iG 1)],[(0,some (.mp ((diffL S0 S1).map encT)))],3⟩else ⟨[(0,.mp 0),(4,.d (.sc (.slice none 0 0))),(8,.sl 2 1 0 1),(9,iG 1),(10,iG 0)],[(0,some (.mp (S0.map encT))),(1,some (.mp (S1.map encT))),(2,some (.box [.mp 1]))],3⟩) (fun c=>bif c then 0 else 1) false trivial ?_ (hp:=by (try simp only[AllP,Nat.zero_add]);repeat' first|exact trivial|exact rfl|exact EntL.refl _|exact BEntL.refl _|omega|apply And.intro|(simp;done)|(simp[*];done))
 rintro cd-
 cases cd with
 |false=>
  simp only[cond_false]
  refine gk_region env false [] [0,4,8,9,10,11] ?_
  refine gk_ifd (fun c1=> ?_) (fun c1=> ?_)
  ·refine gk_region env false [.bx (.mp 1)] [0,4,6,8,9,10] ?_ (hp:=(by simp only[AllP,bb,toN,loI,hiI];repeat' first|exact trivial|exact EntL.refl _|exact BEntL.refl _|exact rfl|omega|apply And.intro|intro _))
   refine gk_maprange env false 1 [] 1 15 16 17 18 3 (S1.map encT) (fun done x=>∃D:List Int,done=D.map encT∧x=diffL S0 D) (fun _=>[(0,.mp 0),(4,.d (.sc (.slice none 0 0))),(8,.sl 2 1 0 1),(9,iG 1),(10,iG 0)]) (fun x=>[(0,some (.mp (x.map encT)))]) S0 ⟨[],rfl,(diffL_nil _).symm⟩ ?_ ?_ (one_encT S1)
   ·rintro r0 done kk v rest x hperm ⟨D,hD,hx⟩
    obtain ⟨e,he,hek⟩:=List.mem_map.1 (hperm.mem_iff.1 (List.mem_append_right _ List.mem_cons_self))
    simp only[encT,Prod.mk.injEq]at hek
    obtain ⟨rfl,rfl⟩:=hek
    refine gko_region env false [] [0,4,7,8,9,10,15] ?_
    refine gk_ops ?_
    refine gwo_chunk env false 2 [] ?_
    refine gwo_lop {g:= .junk,upd:=[(0,some (.mp ((x.erase e).map encT)))],fp:=[0]} (lop_delete (k:= .int .i64 e) (L:=x.map encT) tab_ok rfl rfl rfl rfl rfl rfl rfl rfl (mdel_T e x)) ?_
    refine gwo_end [0,4,8,9,10,15] ?_
    exact gk_mround (x.erase e) ⟨D++ [e],by rw[hD];simp[encT],by rw[hx,diffL_step hn]⟩
   ·rintro done x hperm ⟨D,hD,hx⟩
    have hx1:x=(diffL S0 S1):=by rw[hx];exact diffL_perm (hD▸hperm)
    subst hx1
    refine gk_region env false [] [0,4,8,9,10] ?_ (hp:=(by simp only[AllP,bb,toN,loI,hiI];repeat' first|exact trivial|exact EntL.refl _|exact BEntL.refl _|exact rfl|omega|apply And.intro|intro _))
    exact gk_round true trivial (hp:=by (try simp only[AllP,Nat.zero_add]);repeat' first|exact trivial|exact rfl|exact EntL.refl _|exact BEntL.refl _|omega|apply And.intro|(simp;done)|(simp[*];done)) (hm:=by decide)
  ·exact absurd (by decide:(0:Int)<1) c1
 |true=>
  simp only[cond_true]
  refine gk_region env false [] [0,4,8,9,10,11] ?_
  refine gk_ifd (fun c1=> ?_) (fun c1=> ?_)
  ·exact absurd c1 (by decide)
  ·refine gk_region env false [.callm [0] (keys_ok (diffL S0 S1)),.callm [3,0] (sortedS_ok (diffL S0 S1) (hn.filter _) (fun x hx=>hb x (List.mem_filter.1 hx).1) (Nat.le_trans (List.length_filter_le _ _) hl))] [4] ?_ (hp:=(by simp only[AllP,bb,toN,loI,hiI];repeat' first|exact trivial|exact EntL.refl _|exact BEntL.refl _|exact rfl|omega|apply And.intro|intro _))
   refine gk_retX env [.d (.row default inC (numsL S0 S1))] (hp:= ?_)
   (try simp only[AllP,Nat.zero_add]);repeat' first|exact trivial|exact rfl|exact EntL.refl _|exact BEntL.refl _|omega|apply And.intro|(simp;done)|(simp[*];done)
theorem stand_I (l:List Lea) (st:List Bool):∀k:Nat,((List.range k).foldl (stdF l st) []).Nodup∧(∀x,x∈(List.range k).foldl (stdF l st) []→0≤x∧x<k)∧((List.range k).foldl (stdF l st) []).length≤k:=by
 intro k
 induction k with
 |zero=>exact ⟨List.nodup_nil,(by intro x h;cases h),Nat.le_refl _⟩
 |succ k ih=>
  obtain ⟨h1,h2,h3⟩:=ih
  rw[range_foldl]
  generalize (List.range k).foldl (stdF l st) []=S at*
  unfold stdF
  split
  ·have hk:¬((k:Int)∈S):=fun h=>by have:=(h2 _ h).2;omega
   rw[insK,if_neg hk]
   refine ⟨List.nodup_append.2 ⟨h1,by simp,fun a ha b hb e=> ?_⟩,fun x hx=> ?_,by simp;omega⟩
   ·simp at hb;subst hb;exact hk (e▸ha)
   ·rcases List.mem_append.1 hx with h|h
    ·have:=h2 x h;omega
    ·simp at h;subst h;omega
  ·exact ⟨h1,fun x hx=>by have:=h2 x hx;omega,by omega⟩
def strikeV (l:List Lea) (st:List Bool) (list:List Int):List Int:=numsL (standS l st) (standS l (list.foldl markF st))
theorem strike_ok (l:List Lea) (st:List Bool) (list:List Int) (hl:HL l) (hr:rightU l=true) (hs:st.length=l.length) (h0:st≠ []) (hll:list.length≤1000) (hin:∀k,k∈list→0≤k∧k<l.length):GC Tryz.prog 12 [.d (.row default leC l),.d (.row (default:Bool) boC st),.d (.row default inC list)] (.d (.row default inC (strikeV l st list))):=by
 have hlen:=hl.len
 obtain ⟨n1,n2,n3⟩:=stand_I l st l.length
 refine gc_of_gk Tryz.func12 ?_
 refine gk_region env false [] [0,1,2,6] ?_
 refine gk_region env false [.callm [] (marked_ok l st list hl hr hs h0 hll hin)] [6,7,8] ?_ (hp:=(by simp only[AllP,bb,toN,loI,hiI];repeat' first|exact trivial|exact EntL.refl _|exact BEntL.refl _|exact rfl|omega|apply And.intro|intro _))
 refine gk_ops ?_
 refine gwo_chunk env false 2 [] ?_
 refine gwo_lopN (.sl 2 1 0 1) (.box [.mp 1]) [] (lop_buildMap tab_ok rfl rfl rfl rfl rfl rfl rfl 2) ?_
 refine gwo_chunk env false 2 [.callm [0,1,2] (numbers_ok (standS l st) (standS l (list.foldl markF st)) n1 (fun x hx=>by have:=n2 x hx;omega) (Nat.le_trans n3 (by omega)))] ?_ (hp:=(by simp only[AllP,bb,toN,loI,hiI];repeat' first|exact trivial|exact EntL.refl _|exact BEntL.refl _|exact rfl|omega|apply And.intro|intro _))
 refine gwo_end [6] ?_
 refine gk_ret env ?_
 rfl
open Go.RowKit Go.Proofs
def DEnt (x y:D):Prop:=∀(F:Fz) (w:World) (v:Value),DR F w x v→DR F w y v
theorem DEnt.refl (x:D):DEnt x x:=fun _ _ _ h=>h
theorem DEnt.nil {α:Type} {df:α} {cs:α→List D} :DEnt (.sc (.slice none 0 0)) (.row df cs []):=fun F w v h=>by
 cases h with
 |sc _ _=>exact .row df cs [] none 0 0 0 0 (fun _ _=>undef) (fun h=>absurd rfl h) (Nat.zero_le _) (fun e he=>(by cases he)) (fun i e j x a=>(by simp at a)) (fun i e j x a=>(by simp at a)) (fun i e j x a=>(by simp at a))
theorem DEnt.row {α β:Type} {df:α} {cs:α→List D} {xs:List α} {df':β} {cs':β→List D} {ys:List β} (hlen:xs.length=ys.length)
 (h:∀(i:Nat) e e',xs[i]? =some e→ys[i]? =some e'→(cs' e').length=(cs e).length∧∀(j:Nat) x x',(cs e)[j]? =some x→(cs' e')[j]? =some x'→DEnt x x'):DEnt (.row df cs xs) (.row df' cs' ys):=fun F w v hv=>by
 cases hv with
 |row _ _ _ A c b off es val hA hc hl hw hF hd=>
  have hx:∀(i:Nat) e',ys[i]? =some e'→∃e,xs[i]? =some e:=fun i e' he=>by
   have:=(List.getElem?_eq_some_iff.1 he).1
   exact ⟨_,List.getElem?_eq_getElem (by omega)⟩
  have hj:∀(i:Nat) e e' (j:Nat) x',xs[i]? =some e→ys[i]? =some e'→(cs' e')[j]? =some x'→∃x,(cs e)[j]? =some x:=fun i e e' j x' h1 h2 h3=>by
   have:=(List.getElem?_eq_some_iff.1 h3).1
   rw[(h i e e' h1 h2).1]at this
   exact ⟨_,List.getElem?_eq_getElem this⟩
  rw[hlen]
  refine .row df' cs' ys A c b off es val (fun hne=>hA fun e=>hne ?_) (by omega) (fun e' he=> ?_) (fun i e' j x' h1 h2=> ?_) (fun i e' j x' h1 h2=> ?_) (fun i e' j x' h1 h2=> ?_)
  ·subst e;exact List.eq_nil_of_length_eq_zero hlen.symm
  ·obtain ⟨i,hi,rfl⟩:=List.mem_iff_getElem.1 he
   obtain ⟨e,h1⟩:=hx i _ (List.getElem?_eq_getElem hi)
   rw[(h i e _ h1 (List.getElem?_eq_getElem hi)).1]
   exact hl e (List.mem_of_getElem? h1)
  ·obtain ⟨e,h3⟩:=hx i e' h1
   obtain ⟨x,h4⟩:=hj i e e' j x' h3 h1 h2
   exact hw i e j x h3 h4
  ·obtain ⟨e,h3⟩:=hx i e' h1
   obtain ⟨x,h4⟩:=hj i e e' j x' h3 h1 h2
   exact hF i e j x h3 h4
  ·obtain ⟨e,h3⟩:=hx i e' h1
   obtain ⟨x,h4⟩:=hj i e e' j x' h3 h1 h2
   exact (h i e e' h3 h1).2 j x x' h4 h2 F w _ (hd i e j x h3 h4)
theorem DEnt.ent {x y:D} (h:DEnt x y):Ent (.d x) (.d y):=fun ν F w v hv=>by
 cases hv with
 |d hd=>exact .d (h F w v hd)
def lnC:Option (List Int)→List D
 |none=>[.sc (.slice none 0 0)]
 |some s=>[.row default row_inC [s]]
def lnV:Option (List Int)→Lea
 |none=>⟨[]⟩
 |some s=>⟨[s]⟩
theorem ln_ent (l:List (Option (List Int))):Ent (.d (.row default lnC l)) (.d (.row (default:Lea) leC (l.map lnV))):=by
 refine (DEnt.row (by simp) fun i e e' h1 h2=> ?_).ent
 rw[List.getElem?_map,h1]at h2
 cases h2
 cases e with
 |none=>
  refine ⟨rfl,fun j x x' h3 h4=> ?_⟩
  cases j with
  |zero=>cases h3;cases h4;exact .nil
  |succ j=>cases h3
 |some s=>
  refine ⟨rfl,fun j x x' h3 h4=> ?_⟩
  cases j with
  |zero=>cases h3;cases h4;exact .refl _
  |succ j=>cases h3
def smIL (a:List Int) (b:List Int) (k1:Nat):Bool:=if k1<a.length then if (a.getD k1 default)=(b.getD k1 default)then smIL a b (k1+1)else false else true
termination_by a.length-k1
def smI (a:List Int) (b:List Int):Bool:=if (a.length:Int)=(b.length:Int)then smIL a b 0 else false
theorem smI_ok (a:List Int) (b:List Int) (hl:a.length≤1000000) (hl2:b.length≤1000000):GC Tryz.prog 16 [.d (.row default inC a),.d (.row default inC b)] (bG (smI a b)):=by
 refine gc_of_gk Tryz.func16 ?_
 refine gk_region env false [] [0,1,4] ?_
 refine gk_region env false [] [0,1,4,10] ?_
 refine gk_ifn (fun c1=> ?_) (fun c1=> ?_)
 ·try simp only[toN]at c1
  refine gk_region env false [] [0,1,4] ?_
  refine gk_ret env ?_
  rw[smI,if_neg c1];rfl
 ·try simp only[toN]at c1
  refine gk_region env false [] [0,1,4,5] ?_
  refine gk_loop (α:=Nat) (fun x=>x≤a.length∧smIL a b 0=smIL a b x) (fun x=>[(5,iG x)]) (fun x=>[]) (fun x=>a.length-x) 0 ⟨by (try simp only[]);omega,rfl⟩ ?_ (hp:=by simp[AllP]<;>rfl)
  rintro k1 ⟨hi1,he⟩
  refine gk_region env false [] [0,1,4,5,14] ?_
  refine gk_ifd (fun c2=> ?_) (fun c2=> ?_)
  ·try simp only[toN]at c2
   refine gk_region env false [] [0,1,4,5,25] ?_
   refine gk_ifn (fun c3=> ?_) (fun c3=> ?_)
   ·try simp only[toN]at c3
    refine gk_region env false [] [0,1,4,5] ?_
    refine gk_ret env ?_
    rw[smI,if_pos c1,he,smIL,if_pos (by omega),if_neg c3];rfl
   ·try simp only[toN]at c3
    refine gk_region env false [] [0,1,4,5] ?_
    refine gk_round (k1+1) ?_ (hp:=by simp[AllP]<;>rfl)
    refine ⟨by (try simp only[]);omega,he.trans ?_⟩
    rw[smIL,if_pos (by omega),if_pos c3]
    try rfl
  ·try simp only[toN]at c2
   refine gk_region env false [] [4] ?_
   refine gk_ret env ?_
   rw[smI,if_pos c1,he,smIL,if_neg (by omega)];rfl
def DUES3:List Du:=[⟨0,1,5⟩,⟨1,2,3⟩,⟨2,0,4⟩]
theorem dues3:DuesX 3 DUES3 where
 in_:=⟨by decide,by decide⟩
 sum:=by decide
 n40:=by decide
 l100:=by decide
 top:=by decide
 n1:=by decide
 diff:=by decide
 pos:=by decide
theorem clear3:GC Tryz.prog 13 [iG 3,.d (.row (default:Du) duC DUES3)] (.tup [.d (.row (0:Int) inC [3,3,3]),.d (.row (0:Int) inC (potF 3 (stepsV DUES3 (clrF 3 DUES3)))),iG 0]):=by
 have h:=clear_ok 3 DUES3 dues3
 rw[show clrF 3 DUES3= [3,3,3]by kernel_rfl]at h⊢
 exact h
theorem same33:GC Tryz.prog 16 [.d (.row (default:Int) inC [3,3,3]),.d (.row (default:Int) inC [3,3,3])] (bG true):=by
 have h:=smI_ok [3,3,3] [3,3,3] (by decide) (by decide)
 rw[show smI [3,3,3] [3,3,3]=true by kernel_rfl]at h
 exact h
theorem same01:GC Tryz.prog 16 [.d (.row (default:Int) inC [0,1]),.d (.row (default:Int) inC [0,1])] (bG true):=by
 have h:=smI_ok [0,1] [0,1] (by decide) (by decide)
 rw[show smI [0,1] [0,1]=true by kernel_rfl]at h
 exact h
def LN3:List (Option (List Int)):=[none,some [0],none]
theorem strike3:GC Tryz.prog 12 [.d (.row (default:Lea) leC (LN3.map lnV)),.d (.row (default:Bool) boC [false,false,false]),.d (.row (default:Int) inC [0])] (.d (.row (default:Int) inC [0,1])):=by
 have h:=strike_ok (LN3.map lnV) [false,false,false] [0] ⟨by decide,fun x hx=>by
  simp only[LN3,lnV,List.map_cons,List.map_nil,List.mem_cons,List.not_mem_nil,or_false]at hx
  rcases hx with rfl|rfl|rfl
  ·exact ⟨by decide,fun s hs=>by cases hs⟩
  ·exact ⟨by decide,fun s hs=>by rw[List.mem_singleton.1 hs];decide⟩
  ·exact ⟨by decide,fun s hs=>by cases hs⟩⟩ (by kernel_rfl) (by decide) (by decide) (by decide) (by decide)
 have e1:diffL (standS (LN3.map lnV) [false,false,false]) (standS (LN3.map lnV) (List.foldl markF [false,false,false] [0]))= [0,1]:=by kernel_rfl
 have e2:strikeV (LN3.map lnV) [false,false,false] [0]= [0,1]:=by
  unfold strikeV numsL
  rw[e1]
  exact List.mergeSort_of_pairwise (by decide)
 rw[e2]at h
 exact h
theorem live_ok:GC Tryz.prog 4 [] (bG true):=by
 refine gc_of_gk Tryz.func4 ?_
 refine gk_region env false [] [0] ?_
 refine gk_region env false [.el (default:Du) duC DUES3,.call clear3] [0,1,3] ?_ (hp:=(by simp only[AllP,bb,toN,loI,hiI];repeat' first|exact trivial|exact EntL.refl _|exact BEntL.refl _|exact rfl|omega|apply And.intro|intro _|decide))
 refine gk_region env false [.call parse_ok] [0,1,3,4,6] ?_ (hp:=(by simp only[AllP,bb,toN,loI,hiI];repeat' first|exact trivial|exact EntL.refl _|exact BEntL.refl _|exact rfl|omega|apply And.intro|intro _|decide))
 refine gk_region env false [.el (0:Int) inC [0],.fz,.el (default:List Int) row_inC [[0]],.fz,.el (default:Option (List Int)) lnC LN3,.el (default:Bool) boC [false,false,false],.el (0:Int) inC [0],.call strike3] [0,1,3,4,6,7] ?_ (hp:=(by simp only[AllP,bb,toN,loI,hiI];repeat' first|exact trivial|exact ln_ent _|exact EntL.refl _|exact BEntL.refl _|exact rfl|omega|apply And.intro|intro _|decide))
 refine gk_region env false [.el (default:Est) esC [⟨0,0,50⟩],.el (0:Int) inC [100],.el (default:Prv) prC [⟨0,0,100⟩],.call share_ok] [0,1,3,4,6,7,8,9] ?_ (hp:=(by simp only[AllP,bb,toN,loI,hiI];repeat' first|exact trivial|exact EntL.refl _|exact BEntL.refl _|exact rfl|omega|apply And.intro|intro _|decide))
 refine gk_region env false [.el (0:Int) inC [3,3,3],.call same33,.el (0:Int) inC [0,1],.call same01] [0] ?_ (hp:=(by simp only[AllP,bb,toN,loI,hiI];repeat' first|exact trivial|exact EntL.refl _|exact BEntL.refl _|exact rfl|omega|apply And.intro|intro _|decide))
 refine gk_ret env ?_
 rfl
end Go.Gh
