/- Walks by the logic of calls, and plain laws (several texts in one). -/
import Derived.Test.YtjnjegclenjlbaaGreatDoorM6
import Derived.Test.YtjnjegclenjlbaaGreatDoorGh4
import Derived.WalkKit
import Derived.Shelf.SlSortCmp.NoneTotal
import Derived.Ground.SlsfProg
import Derived.Shelf.Lay
import Derived.Test.YtjnjegclenjlbaaGreatDoorM3
namespace Go.Gh
open Go Go.Proofs
set_option maxRecDepth 1000000
set_option maxHeartbeats 2000000
set_option linter.unusedSimpArgs false
set_option linter.unusedVariables false
set_option linter.unnecessarySimpa false
open Go.RowKit Go.Proofs Go.Shelf Go.Sort
def gSortFe_ren:Go.Shelf.Ren:=⟨fun|6=>26|15=>51|14=>50|28=>95|29=>96|20=>87|21=>88|22=>89|23=>90|24=>91|25=>92|26=>93|27=>94|46=>134|47=>135|48=>136|49=>137|50=>138|57=>178|n=>n,fun|22=>22|24=>25|25=>79|3=>3|39=>118|0=>0|53=>188|55=>190|4=>4|46=>181|45=>180|50=>185|5=>5|9=>9|66=>230|70=>234|76=>268|77=>269|n=>n,fun|n=>n⟩
theorem gSortFe:Go.Proofs.SlLaysF0.n6 Tryz.prog gSortFe_ren:= {
 mixed:=by kernel_rfl
 f6:=Exists.intro ("slices.SortFunc[[]allonge/api.FairEvent,allonge/api.FairEvent]") ⟨by decide,Tryz.func26.trans (congrArg some (by kernel_rfl))⟩
 f14:=Exists.intro ("slices.pdqsortCmpFunc[allonge/api.FairEvent]") ⟨by decide,Tryz.func50.trans (congrArg some (by kernel_rfl))⟩
 f15:=Tryz.func51.trans (congrArg some (by kernel_rfl))
 f20:=Exists.intro ("slices.insertionSortCmpFunc[allonge/api.FairEvent]") ⟨by decide,Tryz.func87.trans (congrArg some (by kernel_rfl))⟩
 f21:=Exists.intro ("slices.heapSortCmpFunc[allonge/api.FairEvent]") ⟨by decide,Tryz.func88.trans (congrArg some (by kernel_rfl))⟩
 f22:=Exists.intro ("slices.breakPatternsCmpFunc[allonge/api.FairEvent]") ⟨by decide,Tryz.func89.trans (congrArg some (by kernel_rfl))⟩
 f23:=Exists.intro ("slices.choosePivotCmpFunc[allonge/api.FairEvent]") ⟨by decide,Tryz.func90.trans (congrArg some (by kernel_rfl))⟩
 f24:=Exists.intro ("slices.reverseRangeCmpFunc[allonge/api.FairEvent]") ⟨by decide,Tryz.func91.trans (congrArg some (by kernel_rfl))⟩
 f25:=Exists.intro ("slices.partialInsertionSortCmpFunc[allonge/api.FairEvent]") ⟨by decide,Tryz.func92.trans (congrArg some (by kernel_rfl))⟩
 f26:=Exists.intro ("slices.partitionEqualCmpFunc[allonge/api.FairEvent]") ⟨by decide,Tryz.func93.trans (congrArg some (by kernel_rfl))⟩
 f27:=Exists.intro ("slices.partitionCmpFunc[allonge/api.FairEvent]") ⟨by decide,Tryz.func94.trans (congrArg some (by kernel_rfl))⟩
 f28:=Tryz.func95.trans (congrArg some (by kernel_rfl))
 f29:=Tryz.func96.trans (congrArg some (by kernel_rfl))
 f46:=Exists.intro ("slices.siftDownCmpFunc[allonge/api.FairEvent]") ⟨by decide,Tryz.func134.trans (congrArg some (by kernel_rfl))⟩
 f47:=Tryz.func135.trans (congrArg some (by kernel_rfl))
 f48:=Tryz.func136.trans (congrArg some (by kernel_rfl))
 f49:=Exists.intro ("slices.medianAdjacentCmpFunc[allonge/api.FairEvent]") ⟨by decide,Tryz.func137.trans (congrArg some (by kernel_rfl))⟩
 f50:=Exists.intro ("slices.medianCmpFunc[allonge/api.FairEvent]") ⟨by decide,Tryz.func138.trans (congrArg some (by kernel_rfl))⟩
 f57:=Exists.intro ("slices.order2CmpFunc[allonge/api.FairEvent]") ⟨by decide,Tryz.func178.trans (congrArg some (by kernel_rfl))⟩
 t0:=Tryz.underlying0
 a0:=Tryz.isAgg0
 z0:=Tryz.sizeOf0
 v0:=Tryz.zeroValue0
 t3:=Tryz.underlying3
 a3:=Tryz.isAgg3
 z3:=Tryz.sizeOf3
 v3:=Tryz.zeroValue3
 t4:=Tryz.underlying4
 a4:=Tryz.isAgg4
 z4:=Tryz.sizeOf4
 v4:=Tryz.zeroValue4
 t5:=Tryz.underlying5
 a5:=Tryz.isAgg5
 z5:=Tryz.sizeOf5
 v5:=Tryz.zeroValue5
 t9:=Tryz.underlying9
 a9:=Tryz.isAgg9
 z9:=Tryz.sizeOf9
 v9:=Tryz.zeroValue9
 t22:=Tryz.underlying22
 a22:=Tryz.isAgg22
 z22:=Tryz.sizeOf22
 v22:=Tryz.zeroValue22
 t25:=Tryz.underlying79
 a25:=Tryz.isAgg79
 z25:=Tryz.sizeOf79
 v25:=Tryz.zeroValue79
 t39:=Tryz.underlying118
 a39:=Tryz.isAgg118
 z39:=Tryz.sizeOf118
 v39:=Tryz.zeroValue118
 t45:=Tryz.underlying180
 a45:=Tryz.isAgg180
 z45:=Tryz.sizeOf180
 v45:=Tryz.zeroValue180
 t46:=Tryz.underlying181
 a46:=Tryz.isAgg181
 z46:=Tryz.sizeOf181
 v46:=Tryz.zeroValue181
 t50:=Tryz.underlying185
 a50:=Tryz.isAgg185
 z50:=Tryz.sizeOf185
 v50:=Tryz.zeroValue185
 t53:=Tryz.underlying188
 a53:=Tryz.isAgg188
 z53:=Tryz.sizeOf188
 v53:=Tryz.zeroValue188
 t55:=Tryz.underlying190
 a55:=Tryz.isAgg190
 z55:=Tryz.sizeOf190
 v55:=Tryz.zeroValue190
 t66:=Tryz.underlying230
 a66:=Tryz.isAgg230
 z66:=Tryz.sizeOf230
 v66:=Tryz.zeroValue230
 t70:=Tryz.underlying234
 a70:=Tryz.isAgg234
 z70:=Tryz.sizeOf234
 v70:=Tryz.zeroValue234
 t76:=Tryz.underlying268
 a76:=Tryz.isAgg268
 z76:=Tryz.sizeOf268
 v76:=Tryz.zeroValue268
 t77:=Tryz.underlying269
 a77:=Tryz.isAgg269
 z77:=Tryz.sizeOf269
 v77:=Tryz.zeroValue269}
def feV (x:Fe):List Value:=[.int .i64 x.kind,.int .i64 x.room,.int .i64 x.day,.int .i64 x.no,.int .i64 x.fr,.int .i64 x.to_,.int .i64 x.cur,.int .i64 x.due,.int .i64 x.sum]
theorem feC_feV (x:Fe):feC x=(feV x).map .sc:=rfl
abbrev FeS:= {e:Fe//0≤e.no∧e.no<1000}
instance :Inhabited FeS:=⟨⟨default,by decide⟩⟩
def cfFe (x y:FeS):Int:=x.1.no-y.1.no
theorem ltFe (x y:FeS):ltOf cfFe x y=decide (x.1.no<y.1.no):=by
 unfold ltOf cfFe
 by_cases h:x.1.no<y.1.no
 ·simp[h];omega
 ·simp[h];omega
theorem swoFe:SWO (ltOf cfFe) where
 irrefl x:=by rw[ltFe];simp
 trans x y z h1 h2:=by rw[ltFe]at*;simp at*;omega
 ntrans x y z h1 h2:=by rw[ltFe]at*;simp at*;omega
set_option maxHeartbeats 1000000 in
theorem cmpFe (x y:FeS) (W:World):Calls Tryz.prog 27 #[.agg (feV x.1).toArray,.agg (feV y.1).toArray] W fun e w'=>e= .returned (.int .i64 (cfFe x y))∧∃q os',w'=grow (W.drewN q) os':=by
 obtain ⟨⟨k1,r1,d1,n1,f1,t1,c1,u1,s1⟩,hx⟩:=x
 obtain ⟨⟨k2,r2,d2,n2,f2,t2,c2,u2,s2⟩,hy⟩:=y
 simp only at hx hy
 have hw:IntKind.i64.wrap (n1-n2)=n1-n2:=by rw[IntKind.wrap_i64];omega
 simp only[feV,cfFe]
 go_enter Tryz.func27,Tryz.ntmps27
 go_wp2_with fail
 go_ret
 exact ⟨by simp[hw],0,_,by rw[alloc_eq_grow,alloc_eq_grow,grow_grow];rfl⟩
def sortFe (l:List Fe):List Fe:=l.mergeSort fun a b=>decide (a.no≤b.no)
def encFe (x:FeS):List Value:=feV x.1
theorem encFe_len (x:FeS):(encFe x).length=9:=rfl
theorem encFe_one (x:FeS):∀v,v∈encFe x→v.oneCell'=true:=by
 intro v hv
 simp only[encFe,feV,List.mem_cons,List.not_mem_nil,or_false]at hv
 rcases hv with rfl|rfl|rfl|rfl|rfl|rfl|rfl|rfl|rfl<;>rfl
theorem linkFe (L:List FeS):LinkV feC 9 (L.map (·.1)) (flatK encFe 9 L.toArray):=by
 refine ⟨by simp,fun i e j x h1 h2=> ?_⟩
 rw[List.getElem?_map]at h1
 cases hi:L[i]? with
 |none=>rw[hi]at h1;cases h1
 |some y=>
  rw[hi]at h1
  cases h1
  obtain ⟨hil,hiy⟩:=List.getElem?_eq_some_iff.1 hi
  rw[feC_feV,List.getElem?_map]at h2
  cases hj:(feV y.1)[j]? with
  |none=>rw[hj]at h2;cases h2
  |some v=>
   rw[hj]at h2
   cases h2
   have hjl:j<9:=by
    have:=(List.getElem?_eq_some_iff.1 hj).1
    exact this
   have ht:i*9+j<L.toArray.size*9:=by
    rw[List.size_toArray];omega
   have hg:=get_flatK encFe 9 L.toArray (i*9+j) ht
   rw[show (i*9+j)/9=i by omega,show (i*9+j) % 9=j by omega]at hg
   have hy:L.toArray[i]! =y:=by rw[getElem!_pos L.toArray i (by simpa using hil)];simpa using hiy
   rw[hy]at hg
   have hjl2:j<(encFe y).length:=hjl
   rw[getElem!_pos (encFe y) j hjl2]at hg
   have hv:(encFe y)[j]=v:=by
    have:=(List.getElem?_eq_some_iff.1 hj).2
    exact this
   refine ⟨v,rfl,?_,encFe_one y v (hv▸List.getElem_mem hjl2)⟩
   have hsz:i*9+j<(flatK encFe 9 L.toArray).size:=by rw[size_flatK];exact ht
   rw[getElem!_pos (flatK encFe 9 L.toArray) (i*9+j) hsz,hv]at hg
   rw[Array.getElem?_eq_getElem hsz,hg]
theorem pdqFe (L:List FeS) (hd:(L.map fun x=>x.1.no).Nodup):(pdq (ltOf cfFe) L.toArray 0 L.toArray.size (Lib.bitLen L.toArray.size) true true).toList.map (·.1)=sortFe (L.map (·.1)):=by
 obtain ⟨⟨hsz,_,hperm⟩,hso⟩:=pdq_sorts (ltOf cfFe) swoFe L.toArray 0 L.toArray.size (Lib.bitLen L.toArray.size) true true (Nat.zero_le _) (Nat.le_refl _) (Or.inl rfl)
 generalize pdq (ltOf cfFe) L.toArray 0 L.toArray.size (Lib.bitLen L.toArray.size) true true=d' at*
 have e1:d'.extract 0 L.toArray.size=d':=by rw[←hsz];exact Array.extract_size
 rw[e1,Array.extract_size]at hperm
 have hperm:d'.toList.Perm L:=hperm
 unfold sortFe
 refine List.Perm.eq_of_pairwise (le:=fun x y:Fe=>x.no≤y.no) (fun a b ha hb h1 h2=> ?_) ?_ ?_ ((hperm.map _).trans (List.mergeSort_perm _ _).symm)
 ·have hab:a.no=b.no:=Int.le_antisymm h1 h2
  obtain ⟨x,hx,rfl⟩:=List.mem_map.1 ha
  have hb':=(List.mergeSort_perm (L.map (·.1)) fun a b=>decide (a.no≤b.no)).mem_iff.1 hb
  obtain ⟨y,hy,rfl⟩:=List.mem_map.1 hb'
  have hx':=hperm.mem_iff.1 hx
  obtain ⟨i,hi,rfl⟩:=List.getElem_of_mem hx'
  obtain ⟨j,hj,rfl⟩:=List.getElem_of_mem hy
  have hpw:=List.pairwise_iff_getElem.1 hd
  rcases Nat.lt_trichotomy i j with h|h|h
  ·exact absurd (by simpa using hab) (hpw i j (by simpa using hi) (by simpa using hj) h)
  ·subst h;rfl
  ·exact absurd (by simpa using hab.symm) (hpw j i (by simpa using hj) (by simpa using hi) h)
 ·rw[List.pairwise_map,List.pairwise_iff_getElem]
  intro i j hi hj hij
  have hi':i<d'.size:=by simpa using hi
  have hj':j<d'.size:=by simpa using hj
  have h:=hso i j (Nat.zero_le _) hij (by omega)
  rw[getElem!_pos d' i hi',getElem!_pos d' j hj',ltFe]at h
  simp only[decide_eq_false_iff_not]at h
  simp only[Array.getElem_toList]
  omega
 ·have:=List.pairwise_mergeSort (le:=fun a b:Fe=>decide (a.no≤b.no)) (fun a b c h1 h2=>by simp only[decide_eq_true_eq]at*;omega) (fun a b=>by simp only[Bool.or_eq_true,decide_eq_true_eq];omega) (L.map (·.1))
  exact this.imp fun h=>by simpa using h
theorem aggFe (w:World):(isAgg 25).run Tryz.prog w= .ok true w:=by
 simp[isAgg,run_underlying (tab_ok 25 _ rfl).1]
theorem sortFe_ok (l:List Fe) (hl:l.length≤1000) (hd:(l.map Fe.no).Nodup) (hr:∀e,e∈l→0≤e.no∧e.no<1000):GM Tryz.prog 26 [.sl 0 9 0 l.length,.d (.sc (.func (.func 27) #[] #[]))] [.row 25 9 (default:Fe) feC l 0] (.tup []) [some (.row 25 9 (default:Fe) feC (sortFe l) 0)]:=by
 obtain ⟨L,rfl⟩:∃L:List FeS,l=L.map (·.1):=⟨l.pmap Subtype.mk hr,by rw[List.map_pmap];simp⟩
 have hd':(L.map fun x=>x.1.no).Nodup:=by rw[List.map_map]at hd;exact hd
 have hp:=pdqFe L hd'
 have hlen:(sortFe (L.map (·.1))).length=(L.map (·.1)).length:=List.length_mergeSort _
 refine gm_putV (zv:=flatK encFe 9 L.toArray) (ov:=flatK encFe 9 (pdq (ltOf cfFe) L.toArray 0 L.toArray.size (Lib.bitLen L.toArray.size) true true)) Tryz.func26 rfl rfl hlen (by decide) (linkFe L) ?_ (fun e he=>rfl) (fun hz blk cap w h1 h2=> ?_) (fun hz A cap w=> ?_)
 ·have:=linkFe (pdq (ltOf cfFe) L.toArray 0 L.toArray.size (Lib.bitLen L.toArray.size) true true).toList
  rw[hp]at this
  simpa using this
 ·have eg:∀args w,(callFunc 27 args).run Tryz.prog w= .ok (.enter 27 args) w:=enters_of Tryz.func27 (by kernel_rfl) rfl
  have hcon:=AnyQ.slices_SortFunc_eq gSortFe 9 aggFe (tab_ok 25 _ rfl).sizeOf encFe encFe_len encFe_one cfFe swoFe 27 #[] blk 0 cap L.toArray w eg (fun _ _ _ _ x y=>cmpFe x y _) h1 h2 (by simp;simp at hl;omega)
  change Calls Tryz.prog 26 _ _ _ at hcon
  rw[List.length_map]
  exact hcon
 ·exact AnyF.slices_SortFunc_none gSortFe A cap _ w
open Go.RowKit
def leB (n rooms cl:Int) (e:Fe):Bool:=decide (chkV n rooms e=0)&&(decide (e.kind=3)&&decide (e.day≤cl))
def evB (n rooms cl:Int) (le:List Fe) (e:Fe):Bool:=decide (chkV n rooms e=0)&&(decide (e.kind≤2)&&(decide (e.day≤cl)&&lsdV le e.room e.day))
theorem valL2_eq (n rooms cl:Int) (l a9:List Fe) (k1:Nat):∀(m:Nat) (a8:List Fe) (k:Nat),l.length-k=m→valVL2 n rooms cl l a9 k1 a8 k=(a8++(l.drop k).filter (evB n rooms cl a9),a9):=by
 intro m
 induction m with
 |zero=>intro a8 k hm;rw[valVL2,if_neg (by omega),dropN (by omega)];simp
 |succ m ih=>
  intro a8 k hm
  have hk:k<l.length:=by omega
  have e:(bif (bif (bif decide ((chkV n rooms (l.getD k default))=0)then decide (((l.getD k default).kind)≤2)else false)then decide (((l.getD k default).day)≤cl)else false)then (lsdV a9 ((l.getD k default).room) ((l.getD k default).day))else false)=evB n rooms cl a9 (l.getD k default):=by
   unfold evB
   cases decide (chkV n rooms (l.getD k default)=0)<;>cases decide ((l.getD k default).kind≤2)<;>cases decide ((l.getD k default).day≤cl)<;>rfl
  rw[valVL2,if_pos hk,e,dropC hk,List.filter_cons]
  split
  ·rw[ih _ _ (by omega)];simp
  ·rw[ih _ _ (by omega)]
theorem valL_eq (n rooms cl:Int) (l:List Fe):∀(m:Nat) (a9:List Fe) (k:Nat),l.length-k=m→valVL n rooms cl l a9 k=(l.filter (evB n rooms cl (a9++(l.drop k).filter (leB n rooms cl))),a9++(l.drop k).filter (leB n rooms cl)):=by
 intro m
 induction m with
 |zero=>intro a9 k hm;rw[valVL,if_neg (by omega),dropN (by omega),valL2_eq _ _ _ _ _ _ _ _ _ rfl];simp
 |succ m ih=>
  intro a9 k hm
  have hk:k<l.length:=by omega
  have e:(bif (bif decide ((chkV n rooms (l.getD k default))=0)then decide (((l.getD k default).kind)=3)else false)then decide (((l.getD k default).day)≤cl)else false)=leB n rooms cl (l.getD k default):=by
   unfold leB
   cases decide (chkV n rooms (l.getD k default)=0)<;>cases decide ((l.getD k default).kind=3)<;>cases decide ((l.getD k default).day≤cl)<;>rfl
  rw[valVL,if_pos hk,e,dropC hk,List.filter_cons]
  split
  ·rw[ih _ _ (by omega)];simp
  ·rw[ih _ _ (by omega)]
def leasT (n rooms cl:Int) (l:List Fe):List Fe:=l.filter (leB n rooms cl)
def evT (n rooms cl:Int) (l:List Fe):List Fe:=l.filter (evB n rooms cl (leasT n rooms cl l))
theorem val_eq (n rooms cl:Int) (l:List Fe):valV n rooms cl l=(evT n rooms cl l,leasT n rooms cl l):=by
 unfold valV
 rw[valL_eq _ _ _ _ _ _ _ rfl];simp[evT,leasT]
theorem valP_ok (n rooms cl:Int) (l:List Fe) (hl:l.length≤1000):GC Tryz.prog 19 [iG n,iG rooms,iG cl,.d (.row default feC l)] (.tup [.d (.row default feC (evT n rooms cl l)),.d (.row default feC (leasT n rooms cl l))]):=by
 have h:=val_ok n rooms cl l hl
 rw[val_eq]at h
 exact h
theorem evT_len (n rooms cl:Int) (l:List Fe):(evT n rooms cl l).length≤l.length:=List.length_filter_le _ _
theorem leasT_len (n rooms cl:Int) (l:List Fe):(leasT n rooms cl l).length≤l.length:=List.length_filter_le _ _
def cntB (ev le:List Fe) (cl:Int) (out:List Fe) (e:Fe):Bool:=decide (e.kind=0)&&(!(ev.any fun y=>othB y e)&&(!hasFe out e&&(lsdV le e.room cl&&(sayV 1 e.no e.to_ ev&&(!sayV 2 e.no e.fr ev&& !sayV 2 e.no e.to_ ev)))))
def cofF (ev le:List Fe) (cl:Int) (out:List Fe):List Fe→List Fe
 | []=>out
 |e::l=>cofF ev le cl (if cntB ev le cl out e=true then out++ [e]else out) l
theorem cofF_len (ev le:List Fe) (cl:Int):∀(l out:List Fe),(cofF ev le cl out l).length≤out.length+l.length:=by
 intro l
 induction l with
 |nil=>intro out;simp[cofF]
 |cons e l ih=>
  intro out
  have h1:=ih (if cntB ev le cl out e=true then out++ [e]else out)
  rw[cofF]
  split at h1<;>rename_i hc<;>simp only[hc,if_true,if_false,List.length_append,List.length_cons,List.length_nil]at h1⊢<;>(try simp only[Bool.false_eq_true,if_false])<;>omega
def cntV (n rooms cl:Int) (l:List Fe):List Fe:=if fitV n rooms cl l=true then sortFe (cofF (evT n rooms cl l) (leasT n rooms cl l) cl [] (evT n rooms cl l))else []
theorem eqb_Fe_iff (a b:Fe):eqb_Fe a b=true↔a=b:=by
 cases a;cases b
 simp[eqb_Fe]
theorem idxFe_any (l:List Fe) (z:Fe):∀(m k:Nat),l.length-k=m→(decide (0≤idxFeL l z k)=(l.drop k).any fun y=>decide (z=y)):=by
 intro m
 induction m with
 |zero=>intro k hm;rw[idxFeL,if_neg (by omega),dropN (by omega)];rfl
 |succ m ih=>
  intro k hm
  have hk:k<l.length:=by omega
  rw[idxFeL,if_pos hk,dropC hk,List.any_cons]
  split
  ·rename_i h
   rw[decide_eq_true ((eqb_Fe_iff _ _).1 h)]
   simp
  ·rename_i h
   rw[decide_eq_false fun e=>h ((eqb_Fe_iff _ _).2 e),ih _ (by omega)];rfl
theorem hasFe_iff (l:List Fe) (z:Fe):hasFe l z=true↔z∈l:=by
 unfold hasFe idxFe
 rw[idxFe_any l z _ 0 rfl]
 simp
theorem cofF_nodup {ev le:List Fe} {cl:Int} :∀(l out:List Fe),(∀e,e∈l→e∈ev)→(∀e,e∈out→e∈ev∧e.kind=0∧(ev.any fun y=>othB y e)=false)→(out.map Fe.no).Nodup→
 ((cofF ev le cl out l).map Fe.no).Nodup∧∀e,e∈cofF ev le cl out l→e∈ev∧e.kind=0∧(ev.any fun y=>othB y e)=false:=by
 intro l
 induction l with
 |nil=>intro out _ h1 h2;exact ⟨h2,h1⟩
 |cons e l ih=>
  intro out hl h1 h2
  rw[cofF]
  refine ih _ (fun x hx=>hl x (List.mem_cons_of_mem _ hx)) ?_ ?_
  ·split
   ·rename_i hc
    intro x hx
    rcases List.mem_append.1 hx with hx|hx
    ·exact h1 x hx
    ·rw[List.mem_singleton.1 hx]
     unfold cntB at hc
     simp only[Bool.and_eq_true,Bool.not_eq_true',decide_eq_true_eq]at hc
     exact ⟨hl e List.mem_cons_self,hc.1,hc.2.1⟩
   ·exact h1
  ·split
   ·rename_i hc
    unfold cntB at hc
    simp only[Bool.and_eq_true,Bool.not_eq_true',decide_eq_true_eq]at hc
    rw[List.map_append,List.nodup_append]
    refine ⟨h2,by simp,fun a ha b hb hab=> ?_⟩
    obtain ⟨x,hx,rfl⟩:=List.mem_map.1 ha
    rw[List.map_singleton,List.mem_singleton]at hb
    subst hb
    obtain ⟨p1,p2,p3⟩:=h1 x hx
    have h3:=hc.2.1
    rw[List.any_eq_false]at h3
    have h4:=h3 x p1
    unfold othB at h4
    rw[decide_eq_true p2,decide_eq_true hab]at h4
    simp only[cond_true,Bool.not_eq_true',Bool.not_eq_false]at h4
    have h5:x=e:=(eqb_Fe_iff _ _).1 (by simpa using h4)
    subst h5
    have h6:hasFe out x=true:=(hasFe_iff _ _).2 hx
    rw[hc.2.2.1]at h6;cases h6
   ·exact h2
theorem idxFeM_ok (l:List Fe) (z:Fe) (hl:l.length≤1000000):GM Tryz.prog 48 [.sl 0 9 0 l.length,feG z] [.row 25 9 (default:Fe) feC l 0] (iG (idxFe l z)) [some (.row 25 9 (default:Fe) feC l 0)]:=by
 refine gm_of_gk Tryz.func48 ?_
 refine gk_region env false [] [0,3,4] ?_
 refine gk_region env false [] [0,3,4,7,8] ?_
 refine gk_loop (α:=Nat) (fun x=>x≤l.length∧idxFeL l z 0=idxFeL l z x) (fun x=>[(8,iG x)]) (fun x=>[]) (fun x=>l.length-x) 0 ⟨Nat.zero_le _,rfl⟩ ?_ (hp:=by (try simp only[AllP,Nat.zero_add]);repeat' first|exact trivial|exact rfl|exact EntL.refl _|exact BEntL.refl _|omega|apply And.intro|(simp;done)|(simp[*];done))
 rintro k1 ⟨hi1,he⟩
 refine gk_region env false [] [0,3,4,7,8,9] ?_
 refine gk_ifd (fun c1=> ?_) (fun c1=> ?_)
 ·try simp only[toN]at c1
  refine gk_region env false [] [0,3,4,5,7,8] ?_ (hp:=(by simp only[AllP,bb,toN,loI,hiI];repeat' first|exact trivial|exact EntL.refl _|exact BEntL.refl _|exact rfl|omega|apply And.intro|intro _))
  refine gk_region env false [.eq (eqc_Fe z (l.getD k1 default))] [0,3,4,5,7,8,16] ?_ (hp:=(by simp only[AllP,bb,toN,loI,hiI,Nat.zero_add];repeat' first|exact trivial|exact EntL.refl _|exact BEntL.refl _|exact rfl|omega|apply And.intro|intro _))
  refine gk_if (fun c2=> ?_) (fun c2=> ?_)
  ·try simp only[bb,toN]at c2
   refine gk_region env false [] [0,3,4,7,8] ?_
   refine gk_retM env [iG (idxFe l z)] (hp:= ?_)
   rw[idxFe,he,idxFeL,if_pos (by omega),if_pos (by (try simp only[bb,toN]);exact c2)]
   (try simp only[AllP,Nat.zero_add]);repeat' first|exact trivial|exact rfl|exact EntL.refl _|exact BEntL.refl _|omega|apply And.intro|(simp;done)|(simp[*];done)
  ·try simp only[bb,toN]at c2
   refine gk_region env false [] [0,3,4,7,8] ?_ (hp:=(by simp only[AllP,bb,toN,loI,hiI];repeat' first|exact trivial|exact EntL.refl _|exact BEntL.refl _|exact rfl|omega|apply And.intro|intro _))
   refine gk_round (k1+1) ?_ (hp:=by (try simp only[AllP,Nat.zero_add]);repeat' first|exact trivial|exact rfl|exact EntL.refl _|exact BEntL.refl _|omega|apply And.intro|(simp;done)|(simp[*];done))
   refine ⟨by omega,he.trans ?_⟩
   rw[idxFeL,if_pos (by omega),if_neg (by rw[Bool.not_eq_true];(try simp only[bb,toN]);exact c2)]
 ·try simp only[toN]at c1
  refine gk_region env false [] [4] ?_
  refine gk_retM env [iG (idxFe l z)] (hp:= ?_)
  rw[idxFe,he,idxFeL,if_neg (by omega)]
  (try simp only[AllP,Nat.zero_add]);repeat' first|exact trivial|exact rfl|exact EntL.refl _|exact BEntL.refl _|omega|apply And.intro|(simp;done)|(simp[*];done)
theorem hasFeM_ok (l:List Fe) (z:Fe) (hl:l.length≤1000000):GM Tryz.prog 24 [.sl 0 9 0 l.length,feG z] [.row 25 9 (default:Fe) feC l 0] (bG (hasFe l z)) [some (.row 25 9 (default:Fe) feC l 0)]:=by
 refine gm_of_gk Tryz.func24 ?_
 refine gk_region env false [] [0,3,4] ?_
 refine gk_region env false [.callm [0] (idxFeM_ok l z hl)] [4] ?_ (hp:=(by simp only[AllP,bb,toN,loI,hiI];repeat' first|exact trivial|exact EntL.refl _|exact BEntL.refl _|exact rfl|omega|apply And.intro|intro _))
 refine gk_retM env [bG (hasFe l z)] (hp:= ?_)
 (try simp only[AllP,Nat.zero_add]);repeat' first|exact trivial|exact rfl|exact EntL.refl _|exact BEntL.refl _|omega|apply And.intro|(simp;done)|(simp[*];done)
theorem counting_ok (n rooms cl:Int) (l:List Fe) (hl:l.length≤1000) (hno:∀e,e∈(evT n rooms cl l)→0≤e.no∧e.no<1000):GC Tryz.prog 7 [iG n,iG rooms,iG cl,.d (.row default feC l)] (.d (.row default feC (cntV n rooms cl l))):=by
 have hel:=evT_len n rooms cl l
 have hll:=leasT_len n rooms cl l
 refine gc_of_gk Tryz.func7 ?_
 refine gk_region env false [] [0,1,2,3,8] ?_
 refine gk_region env false [.call (fit_ok n rooms cl l)] [0,1,2,3,8,21] ?_
 refine gk_if (fun c1=> ?_) (fun c1=> ?_)
 ·refine gk_region env false [] [0,1,2,3,8] ?_
  have hf:¬(fitV n rooms cl l=true):=by simp only[bb]at c1;rw[c1];decide
  rw[cntV,if_neg hf]
  refine gk_retE env ?_
  exact Ent.nil
 have hf:fitV n rooms cl l=true:=by simp only[bb]at c1;exact c1
 rw[cntV,if_pos hf]
 refine gk_region env false [.call (valP_ok n rooms cl l hl)] [0,1,2,3,8,9,10] ?_
 refine gk_box 0 ?_
 refine gk_region env false [] [0,1,2,3,8,9,10,11] ?_
 refine gk_region env false [] [0,1,2,3,8,9,10,11,12] ?_
 refine gk_region env false [] [0,1,2,3,8,9,10,11,12,31,32,33] ?_
 generalize hEV:(evT n rooms cl l)=ev at*
 generalize hLE:(leasT n rooms cl l)=le at*
 refine gk_nil 12 25 9 (default:Fe) feC (by rfl) (by rfl) ?_
 refine gk_loop (α:=List Fe×Nat) (fun x=>x.2≤ev.length∧cofF ev le cl [] ev=cofF ev le cl x.1 (ev.drop x.2)∧x.1.length≤x.2) (fun x=>[(12,.sl 1 9 0 x.1.length),(33,iG x.2)]) (fun x=>[(1,some (.row 25 9 (default:Fe) feC x.1 0))]) (fun x=>ev.length-x.2) ([],0) ⟨Nat.zero_le _,rfl,Nat.le_refl _⟩ ?_ (hp:=by (try simp only[AllP,Nat.zero_add]);repeat' first|exact trivial|exact rfl|exact EntL.refl _|exact BEntL.refl _|omega|apply And.intro|(simp;done)|(simp[*];done))
 rintro ⟨out,k⟩ ⟨hk,he,hol⟩
 dsimp only at hk he hol⊢
 refine gk_region env false [] [0,1,2,3,8,9,10,11,12,31,32,33,34] ?_
 refine gk_ifd (fun c2=> ?_) (fun c2=> ?_)
 ·have hk2:k<ev.length:=by omega
  rw[dropC hk2,cofF]at he
  refine gk_region env false [] [0,1,2,3,8,9,10,11,12,14,31,32,33] ?_ (hp:=(by simp only[AllP,bb,toN,loI,hiI];repeat' first|exact trivial|exact EntL.refl _|exact BEntL.refl _|exact rfl|omega|apply And.intro|intro _))
  simp only[Int.toNat_natCast]
  generalize hz:ev.getD k default=z at*
  refine gk_box 2 ?_
  refine gk_region env false [.call (has_othB_ok ev (by omega) z)] [0,1,2,3,8,9,10,11,12,14,15,31,32,33] ?_
  generalize hoth:(ev.any fun y=>othB y z)=oth at*
  have hround:∀b,cntB ev le cl out z=b→True:=fun _ _=>trivial
  have hcB:cntB ev le cl out z=(decide (z.kind=0)&&(!oth&&(!hasFe out z&&(lsdV le z.room cl&&(sayV 1 z.no z.to_ ev&&(!sayV 2 z.no z.fr ev&& !sayV 2 z.no z.to_ ev)))))):=by unfold cntB;rw[hoth]
  by_cases hA:z.kind=0∧oth=false
  ·obtain ⟨hA1,hA2⟩:=hA
   subst hA2
   obtain ⟨kd,rm,dy,no_,fr_,to__,cu,du,sm⟩:=z
   dsimp only at hA1 hcB
   subst hA1
   refine gk_region env false [.callm [1] (hasFeM_ok out (⟨0,rm,dy,no_,fr_,to__,cu,du,sm⟩:Fe) (by omega)),.call (lsd_ok le rm cl (by omega))] [0,1,2,3,8,9,10,11,12,14,31,32,33,58] ?_ (hp:=(by simp only[AllP,bb,toN,loI,hiI];repeat' first|exact trivial|exact EntL.refl _|exact BEntL.refl _|exact rfl|omega|apply And.intro|intro _))
   refine gk_if (fun c3=> ?_) (fun c3=> ?_)
   ·simp only[bb]at c3
    have hc:¬(cntB ev le cl out (⟨0,rm,dy,no_,fr_,to__,cu,du,sm⟩:Fe)=true):=by
     rw[hcB]
     simp only[not_true,false_and,false_or]at c3
     rcases c3 with c3|c3<;>simp[c3]
    rw[if_neg hc]at he
    refine gk_region env false [] [0,1,2,3,8,9,10,11,12,31,32,33] ?_ (hp:=(by simp only[AllP,bb,toN,loI,hiI];repeat' first|exact trivial|exact EntL.refl _|exact BEntL.refl _|exact rfl|omega|apply And.intro|intro _))
    refine gk_round (out,k+1) ⟨hk2,he,by dsimp only;omega⟩ (hp:=by (try simp only[AllP,Nat.zero_add]);repeat' first|exact trivial|exact rfl|exact EntL.refl _|exact BEntL.refl _|omega|apply And.intro|(simp;done)|(simp[*];done)) (hm:=by dsimp only;omega)
   ·simp only[bb]at c3
    refine gk_region env false [.call (say_ok 1 no_ to__ ev (by omega)),.call (say_ok 2 no_ fr_ ev (by omega)),.call (say_ok 2 no_ to__ ev (by omega))] [0,1,2,3,8,9,10,11,12,14,31,32,33,82] ?_ (hp:=(by simp only[AllP,bb,toN,loI,hiI];repeat' first|exact trivial|exact EntL.refl _|exact BEntL.refl _|exact rfl|omega|apply And.intro|intro _))
    refine gk_if (fun c4=> ?_) (fun c4=> ?_)
    ·simp only[bb]at c4
     have hc:cntB ev le cl out (⟨0,rm,dy,no_,fr_,to__,cu,du,sm⟩:Fe)=true:=by
      rw[hcB]
      simp[c3,c4]
     rw[if_pos hc]at he
     refine gk_region env false [.el (default:Fe) feC [(⟨0,rm,dy,no_,fr_,to__,cu,du,sm⟩:Fe)],.el (default:Fe) feC (out++ [(⟨0,rm,dy,no_,fr_,to__,cu,du,sm⟩:Fe)])] [0,1,2,3,8,9,10,11,12,31,32,33] ?_ (hp:=(by simp only[AllP,bb,toN,loI,hiI,Int.toNat_natCast];repeat' first|exact trivial|exact EntL.refl _|exact BEntL.refl _|exact rfl|omega|apply And.intro|intro _|(simp[rowL];done)|(simp only[List.length_append,List.length_cons,List.length_nil];omega)|(simp[*];done)))
     refine gk_region env false [] [0,1,2,3,8,9,10,11,12,31,32,33] ?_ (hp:=(by simp only[AllP,bb,toN,loI,hiI];repeat' first|exact trivial|exact EntL.refl _|exact BEntL.refl _|exact rfl|omega|apply And.intro|intro _))
     refine gk_round (out++ [(⟨0,rm,dy,no_,fr_,to__,cu,du,sm⟩:Fe)],k+1) ⟨hk2,he,by simp;omega⟩ (hp:=by (try simp only[AllP,List.length_append]);repeat' first|exact trivial|exact rfl|omega|apply And.intro) (hm:=by dsimp only;omega)
    ·simp only[bb]at c4
     have hc:¬(cntB ev le cl out (⟨0,rm,dy,no_,fr_,to__,cu,du,sm⟩:Fe)=true):=by
      rw[hcB]
      intro h
      rcases c4 with (c4|c4)|c4<;>simp[c4]at h
     rw[if_neg hc]at he
     refine gk_region env false [] [0,1,2,3,8,9,10,11,12,31,32,33] ?_ (hp:=(by simp only[AllP,bb,toN,loI,hiI];repeat' first|exact trivial|exact EntL.refl _|exact BEntL.refl _|exact rfl|omega|apply And.intro|intro _))
     refine gk_round (out,k+1) ⟨hk2,he,by dsimp only;omega⟩ (hp:=by (try simp only[AllP,Nat.zero_add]);repeat' first|exact trivial|exact rfl|exact EntL.refl _|exact BEntL.refl _|omega|apply And.intro|(simp;done)|(simp[*];done)) (hm:=by dsimp only;omega)
  ·have hc:¬(cntB ev le cl out z=true):=by
    rw[hcB]
    intro h
    simp only[Bool.and_eq_true,Bool.not_eq_true',decide_eq_true_eq]at h
    exact hA ⟨h.1,h.2.1⟩
   have hA':(bif !decide (z.kind=0)then true else oth)=true:=by
    by_cases h1:z.kind=0
    ·cases oth with
     |true=>simp
     |false=>exact absurd ⟨h1,rfl⟩ hA
    ·simp[h1]
   rw[if_neg hc]at he
   refine gk_region env false [.no,.no,.nu] [0,1,2,3,8,9,10,11,12,14,31,32,33,58] ?_ (hp:=by simp only[AllP,hA'];simp)
   refine gk_if (fun c3=> ?_) (fun c3=> ?_)
   ·refine gk_region env false [] [0,1,2,3,8,9,10,11,12,31,32,33] ?_ (hp:=(by simp only[AllP,bb,toN,loI,hiI];repeat' first|exact trivial|exact EntL.refl _|exact BEntL.refl _|exact rfl|omega|apply And.intro|intro _))
    refine gk_round (out,k+1) ⟨hk2,he,by dsimp only;omega⟩ (hp:=by (try simp only[AllP,Nat.zero_add]);repeat' first|exact trivial|exact rfl|exact EntL.refl _|exact BEntL.refl _|omega|apply And.intro|(simp;done)|(simp[*];done)) (hm:=by dsimp only;omega)
   ·rw[hA']at c3
    simp at c3
 ·have hke:k=ev.length:=by omega
  subst hke
  rw[List.drop_length,cofF]at he
  obtain ⟨hN1,hN2⟩:=cofF_nodup (ev:=ev) (le:=le) (cl:=cl) ev [] (fun _ h=>h) (fun e h=>by cases h) (by simp)
  rw[he]at hN1 hN2
  rw[he]
  refine gk_region env false [.callm [1] (sortFe_ok out (by omega) hN1 (fun e h=>hno e (hN2 e h).1))] [8,12] ?_ (hp:=(by simp only[AllP,bb,toN,loI,hiI];repeat' first|exact trivial|exact EntL.refl _|exact BEntL.refl _|exact rfl|omega|apply And.intro|intro _))
  refine gk_region env false [] [8] ?_ (hp:=(by simp only[AllP,bb,toN,loI,hiI];repeat' first|exact trivial|exact EntL.refl _|exact BEntL.refl _|exact rfl|omega|apply And.intro|intro _))
  refine gk_ret env ?_ (hp:=by simp only[AllP,sortFe,List.length_mergeSort];repeat' first|exact trivial|exact rfl|apply And.intro)
  rfl
end Go.Gh
