/- Walks by the logic of calls, and plain laws (several texts in one). -/
import Derived.Test.YtjnjegclenjlbaaGreatDoorM17
import Derived.Test.YtjnjegclenjlbaaGreatDoorM12
namespace Go.Gh
open Go Go.Proofs
set_option maxRecDepth 1000000
set_option maxHeartbeats 2000000
set_option linter.unusedSimpArgs false
set_option linter.unusedVariables false
set_option linter.unnecessarySimpa false
open Go.RowKit Go.Proofs
def lnsT (S:Nat) (sups:List (List Int)):List (Option (List Int)):=List.replicate S none++sups.map some
theorem lnsT_len (S:Nat) (sups:List (List Int)):(lnsT S sups).length=S+sups.length:=by simp[lnsT]
theorem lnsT_lo {S:Nat} {sups:List (List Int)} {k:Nat} (h:k<S):((lnsT S sups).map lnV).getD k default=⟨[]⟩:=by
 unfold lnsT
 rw[List.getD_eq_getElem?_getD,List.getElem?_map,List.getElem?_append_left (by simpa using h),List.getElem?_replicate,if_pos h];rfl
theorem lnsT_hi {S:Nat} {sups:List (List Int)} {k:Nat} (h:S≤k) (h2:k<S+sups.length):((lnsT S sups).map lnV).getD k default=⟨[sups.getD (k-S) default]⟩:=by
 have hk:k-S<sups.length:=by omega
 unfold lnsT
 rw[List.getD_eq_getElem?_getD,List.getElem?_map,List.getElem?_append_right (by simpa using h),List.length_replicate,List.getElem?_map,List.getElem?_eq_getElem hk,List.getD_eq_getElem?_getD,List.getElem?_eq_getElem hk];rfl
def stP (S:Nat) (sups:List (List Int)) (st:List Bool) (x:Nat):Bool:= !(st.getD x default)&&(decide (x<S)||(sups.getD (x-S) default).all fun j=> !(st.getD j.toNat default))
theorem memR {l:List Nat} {x:Nat} :(x:Int)∈l.map (fun (y:Nat)=>(y:Int))↔x∈l:=by
 constructor
 ·intro h
  obtain ⟨y,hy,e⟩:=List.mem_map.1 h
  rw[show x=y by omega];exact hy
 ·exact fun h=>List.mem_map_of_mem h
theorem stand_lns {S:Nat} {sups:List (List Int)} {st:List Bool} (hs:∀s,s∈sups→∀j,j∈s→0≤j∧j<S):∀k:Nat,k≤S+sups.length→
 (List.range k).foldl (stdF ((lnsT S sups).map lnV) st) []=((List.range k).filter (stP S sups st)).map fun (y:Nat)=>(y:Int):=by
 intro k
 induction k with
 |zero=>intro _;rfl
 |succ k ih=>
  intro hk
  rw[range_foldl,ih (by omega),List.range_succ,List.filter_append,List.map_append]
  have hnk:¬(k:Int)∈((List.range k).filter (stP S sups st)).map fun (y:Nat)=>(y:Int):=fun h=>by
   have:=memR.1 h
   have:=List.mem_range.1 (List.mem_filter.1 this).1
   omega
  have hcond:(bif !(st.getD k default)then heldB (((List.range k).filter (stP S sups st)).map fun (y:Nat)=>(y:Int)) (((lnsT S sups).map lnV).getD k default)else false)=stP S sups st k:=by
   unfold stP
   cases hst:st.getD k default with
   |true=>rfl
   |false=>
    simp only[Bool.not_false,cond_true,Bool.true_and]
    rcases Nat.lt_or_ge k S with h|h
    ·rw[lnsT_lo h,decide_eq_true h];rfl
    ·rw[lnsT_hi h (by omega),decide_eq_false (by omega),Bool.false_or]
     have hks:k-S<sups.length:=by omega
     have hin:=hs _ (show sups.getD (k-S) default∈sups by rw[List.getD_eq_getElem?_getD,List.getElem?_eq_getElem hks];exact List.getElem_mem hks)
     generalize sups.getD (k-S) default=s at hin
     show (bif decide (((1:Nat):Int)=0)then true else [s].any (wholeB _))=_
     rw[decide_eq_false (by decide),cond_false,List.any_cons,List.any_nil,Bool.or_false]
     unfold wholeB
     rw[Bool.eq_iff_iff]
     simp only[Bool.not_eq_true',List.any_eq_false,List.all_eq_true]
     refine forall_congr' fun j=>forall_congr' fun hj=> ?_
     obtain ⟨j0,j1⟩:=hin j hj
     obtain ⟨y,rfl⟩:∃y:Nat,j=y:=⟨j.toNat,by omega⟩
     unfold inB
     rw[Bool.not_eq_false,decide_eq_true_eq,memR,List.mem_filter,List.mem_range,Int.toNat_natCast]
     simp only[decide_eq_true (show y<S by omega),Bool.true_or,Bool.and_true,Bool.not_eq_true']
     exact ⟨fun h=>h.2,fun h=>⟨by omega,h⟩⟩
  unfold stdF
  rw[hcond]
  cases hP:stP S sups st k with
  |true=>simp only[if_true,insK,if_neg hnk,List.filter_cons_of_pos hP,List.filter_nil,List.map_cons,List.map_nil]
  |false=>simp only[Bool.false_eq_true,if_false,List.filter_cons_of_neg (show ¬stP S sups st k=true by rw[hP];decide),List.filter_nil,List.map_nil,List.append_nil]
theorem two_filter {a b:Nat} (hab:a<b) {p:Nat→Bool} :∀L:Nat,(∀x,x<L→(p x=true↔x=a∨x=b))→(List.range L).filter p=(if a<L then [a]else [])++(if b<L then [b]else []):=by
 intro L
 induction L with
 |zero=>intro _;rfl
 |succ L ih=>
  intro h
  rw[List.range_succ,List.filter_append,ih fun x hx=>h x (by omega)]
  have hL:=h L (by omega)
  by_cases ea:L=a
  ·subst ea
   rw[List.filter_cons_of_pos (hL.2 (.inl rfl)),if_neg (Nat.lt_irrefl L),if_neg (show ¬b<L by omega),if_pos (Nat.lt_succ_self L),if_neg (show ¬b<L+1 by omega)];rfl
  ·by_cases eb:L=b
   ·subst eb
    rw[List.filter_cons_of_pos (hL.2 (.inr rfl)),if_pos hab,if_neg (Nat.lt_irrefl L),if_pos (show a<L+1 by omega),if_pos (Nat.lt_succ_self L)];rfl
   ·rw[List.filter_cons_of_neg (fun hp=>by rcases hL.1 hp with h|h<;>contradiction),List.filter_nil,List.append_nil]
    congr 1
    ·by_cases h1:a<L
     ·rw[if_pos h1,if_pos (by omega)]
     ·rw[if_neg h1,if_neg (by omega)]
    ·by_cases h1:b<L
     ·rw[if_pos h1,if_pos (by omega)]
     ·rw[if_neg h1,if_neg (by omega)]
def supsK (sup:Nat→List Int):Nat→List (List Int)
 |0=>[]
 |g+1=>supsK sup g++(if sup g= []then []else [sup g])
theorem supsK_mono (sup:Nat→List Int) {g g':Nat} (h:g≤g'):(supsK sup g).length≤(supsK sup g').length:=by
 induction g' with
 |zero=>obtain rfl:g=0:=by omega
        exact Nat.le_refl _
 |succ g' ih=>
  rcases Nat.lt_or_ge g (g'+1)with h1|h1
  ·have:=ih (by omega)
   rw[supsK,List.length_append];omega
  ·obtain rfl:g=g'+1:=by omega
   exact Nat.le_refl _
theorem supsK_s {sup:Nat→List Int} {g:Nat} (h:sup g≠ []):(supsK sup (g+1)).length=(supsK sup g).length+1:=by
 rw[supsK,if_neg h,List.length_append];rfl
theorem supsK_lt {sup:Nat→List Int} {g g':Nat} (h:sup g≠ []) (hl:g<g'):(supsK sup g).length<(supsK sup g').length:=by
 have:=supsK_mono sup (show g+1≤g' from hl)
 rw[supsK_s h]at this;omega
theorem supsK_at {sup:Nat→List Int} {g:Nat} (h:sup g≠ []):∀G:Nat,g<G→(supsK sup G)[(supsK sup g).length]? =some (sup g):=by
 intro G
 induction G with
 |zero=>intro h;omega
 |succ G ih=>
  intro hg
  rw[supsK]
  rcases Nat.lt_or_ge g G with h1|h1
  ·rw[List.getElem?_append_left (supsK_lt h h1)];exact ih h1
  ·obtain rfl:g=G:=by omega
   rw[List.getElem?_append_right (Nat.le_refl _),Nat.sub_self,if_neg h];rfl
theorem supsK_inv {sup:Nat→List Int} :∀(G:Nat) {i:Nat} {s:List Int},(supsK sup G)[i]? =some s→∃g,g<G∧s=sup g∧i=(supsK sup g).length∧sup g≠ []:=by
 intro G
 induction G with
 |zero=>intro i s h;cases h
 |succ G ih=>
  intro i s h
  rw[supsK]at h
  rcases Nat.lt_or_ge i (supsK sup G).length with h1|h1
  ·rw[List.getElem?_append_left h1]at h
   obtain ⟨g,a,b,c,d⟩:=ih h
   exact ⟨g,by omega,b,c,d⟩
  ·rw[List.getElem?_append_right h1]at h
   by_cases e:sup G= []
   ·rw[if_pos e]at h;cases h
   ·rw[if_neg e]at h
    obtain ⟨h2,h3⟩:=List.getElem?_eq_some_iff.1 h
    simp only[List.length_cons,List.length_nil]at h2
    have hi:i-(supsK sup G).length=0:=by omega
    simp only[hi,List.getElem_cons_zero]at h3
    exact ⟨G,by omega,h3.symm,by omega,e⟩
theorem strike_lns {S G g0 own:Nat} {sup:Nat→List Int} (hS:own<S) (hsup:∀g,g<G→∀j,j∈sup g→0≤j∧j<S) (h0:g0<G) (hown:∀g,g<G→((own:Int)∈sup g↔g=g0)):
 strikeV ((lnsT S (supsK sup G)).map lnV) (List.replicate (S+(supsK sup G).length) false) [(own:Int)]= [(own:Int),((S+(supsK sup g0).length:Nat):Int)]:=by
 have hne:sup g0≠ []:=fun e=>by have:=(hown g0 h0).2 rfl;rw[e]at this;cases this
 have hi:=supsK_at hne G h0
 have hil:=(List.getElem?_eq_some_iff.1 hi).1
 have hs:∀s,s∈supsK sup G→∀j,j∈s→0≤j∧j<S:=fun s hs j hj=>by
  obtain ⟨i,hi⟩:=List.getElem?_of_mem hs
  obtain ⟨g,a,rfl,_,_⟩:=supsK_inv G hi
  exact hsup g a j hj
 have hlen:((lnsT S (supsK sup G)).map lnV).length=S+(supsK sup G).length:=by rw[List.length_map,lnsT_len]
 unfold strikeV numsL standS
 rw[hlen,stand_lns hs _ (Nat.le_refl _),stand_lns hs _ (Nat.le_refl _)]
 obtain ⟨L,hL⟩:∃L,L=S+(supsK sup G).length:=⟨_,rfl⟩
 rw[←hL]
 have hrep:∀x,(List.replicate L false).getD x default=false:=fun x=>by
  rw[List.getD_eq_getElem?_getD,List.getElem?_replicate];split<;>rfl
 have hall:(List.range L).filter (stP S (supsK sup G) (List.replicate L false))=List.range L:=List.filter_eq_self.2 fun x _=>by
  unfold stP
  simp only[hrep,Bool.not_false,Bool.true_and,Bool.or_eq_true,List.all_eq_true]
  exact .inr fun _ _=>trivial
 rw[hall]
 have hmk:∀x,(List.foldl markF (List.replicate L false) [(own:Int)]).getD x default=decide (x=own):=fun x=>by
  show ((List.replicate L false).set ((own:Int).toNat) true).getD x default=_
  rw[Int.toNat_natCast,List.getD_eq_getElem?_getD,List.getElem?_set]
  by_cases e:own=x
  ·subst e
   rw[if_pos rfl,if_pos (by rw[List.length_replicate];omega),decide_eq_true rfl];rfl
  ·rw[if_neg e,←List.getD_eq_getElem?_getD,hrep,decide_eq_false fun h=>e h.symm]
 have hP:∀x,x<L→((!stP S (supsK sup G) (List.foldl markF (List.replicate L false) [(own:Int)]) x)=true↔x=own∨x=S+(supsK sup g0).length):=fun x hx=>by
  unfold stP
  rw[hmk]
  simp only[hmk]
  by_cases e:x=own
  ·subst e;simp
  ·rw[decide_eq_false e]
   simp only[Bool.not_false,Bool.true_and,Bool.not_eq_true',Bool.or_eq_false_iff,decide_eq_false_iff_not,Nat.not_lt]
   constructor
   ·rintro ⟨h1,h2⟩
    right
    have hxi:x-S<(supsK sup G).length:=by omega
    have h3:(supsK sup G)[x-S]? =some ((supsK sup G).getD (x-S) default):=by rw[List.getD_eq_getElem?_getD,List.getElem?_eq_getElem hxi];rfl
    obtain ⟨g,a,b,c,d⟩:=supsK_inv G h3
    rw[b,List.all_eq_false]at h2
    obtain ⟨j,j1,j2⟩:=h2
    have hj:=hsup g a j j1
    simp only[Bool.not_eq_true',Bool.not_eq_false,decide_eq_true_eq]at j2
    have:(own:Int)∈sup g:=by rw[show (own:Int)=j by omega];exact j1
    obtain rfl:=(hown g a).1 this
    omega
   ·rintro (h|h)
    ·exact absurd h e
    ·refine ⟨by omega,?_⟩
     rw[h,show S+(supsK sup g0).length-S=(supsK sup g0).length by omega,List.getD_eq_getElem?_getD,hi,List.all_eq_false]
     exact ⟨_,(hown g0 h0).2 rfl,by simp⟩
 have hd:diffL ((List.range L).map fun (y:Nat)=>(y:Int)) (((List.range L).filter (stP S (supsK sup G) (List.foldl markF (List.replicate L false) [(own:Int)]))).map fun (y:Nat)=>(y:Int))= [(own:Int),((S+(supsK sup g0).length:Nat):Int)]:=by
  unfold diffL
  rw[List.filter_map]
  have hf:(List.range L).filter ((fun x:Int=> !decide (x∈((List.range L).filter (stP S (supsK sup G) (List.foldl markF (List.replicate L false) [(own:Int)]))).map fun (y:Nat)=>(y:Int)))∘fun (y:Nat)=>(y:Int))= [own,S+(supsK sup g0).length]:=by
   rw[List.filter_congr (q:=fun x=> !(stP S (supsK sup G) (List.foldl markF (List.replicate L false) [(own:Int)]) x)) fun x hx=> ?_]
   ·rw[two_filter (a:=own) (b:=S+(supsK sup g0).length) (by omega) L hP,if_pos (by omega),if_pos (by omega)];rfl
   ·simp only[Function.comp]
    congr 1
    rw[Bool.eq_iff_iff,decide_eq_true_eq,memR,List.mem_filter]
    exact ⟨fun h=>h.2,fun h=>⟨hx,h⟩⟩
  rw[hf];rfl
 rw[hd]
 refine List.mergeSort_of_pairwise ?_
 simp
 omega
theorem rise_true {l:List Int} {n:Int} (h1:∀x,x∈l→0≤x∧x<n) (h2:l.Pairwise (·<·)):∀(m k:Nat),l.length-k=m→riseVL l n k=true:=by
 intro m
 induction m with
 |zero=>intro k hm;rw[riseVL,if_neg (by omega)]
 |succ m ih=>
  intro k hm
  have hk:k<l.length:=by omega
  have hin:=h1 (l.getD k default) (memD hk)
  rw[riseVL,if_pos hk,if_neg,ih (k+1) (by omega)]
  intro hc
  simp only[bb]at hc
  rcases hc with (hc|hc)|⟨hc,hd⟩
  ·omega
  ·omega
  ·have hk1:((k:Int)-1).toNat=k-1:=by omega
   rw[hk1]at hd
   have:=List.pairwise_iff_getElem.1 h2 (k-1) k (by omega) hk (by omega)
   rw[List.getD_eq_getElem?_getD,List.getElem?_eq_getElem hk,List.getD_eq_getElem?_getD,List.getElem?_eq_getElem (show k-1<l.length by omega)]at hd
   simp only[Option.getD_some]at hd
   omega
theorem right_lns {S:Nat} {sups:List (List Int)} (hl:S+sups.length≤300) (hs:∀s,s∈sups→1≤s.length∧s.length≤20∧(∀j,j∈s→0≤j∧j<S)∧s.Pairwise (·<·)):rightU ((lnsT S sups).map lnV)=true:=by
 have hlen:((lnsT S sups).map lnV).length=S+sups.length:=by rw[List.length_map,lnsT_len]
 have h2:∀k,k<S+sups.length→∀(j m:Nat),(((lnsT S sups).map lnV).getD k default).sup.length-j=m→rightUL2 ((lnsT S sups).map lnV) k j= .inr ():=by
  intro k hk j m hm
  rcases Nat.lt_or_ge k S with h|h
  ·rw[rightUL2,lnsT_lo h,if_neg (by simp)]
  ·have hks:k-S<sups.length:=by omega
   have hd:=hs _ (show sups.getD (k-S) default∈sups by rw[List.getD_eq_getElem?_getD,List.getElem?_eq_getElem hks];exact List.getElem_mem hks)
   have hlast:∀j,1≤j→rightUL2 ((lnsT S sups).map lnV) k j= .inr ():=fun j hj=>by
    rw[rightUL2,lnsT_hi h hk,if_neg (by simp only[List.length_cons,List.length_nil];omega)]
   rcases Nat.eq_zero_or_pos j with rfl|hj
   ·rw[rightUL2,lnsT_hi h hk,if_pos (by simp)]
    simp only[List.getD_cons_zero]
    generalize sups.getD (k-S) default=s at hd
    have hr:riseV s (k:Int)=true:=by
     unfold riseV
     exact rise_true (fun x hx=>by have:=hd.2.2.1 x hx;omega) hd.2.2.2 _ 0 rfl
    rw[if_neg,hlast 1 (Nat.le_refl _)]
    rw[hr]
    simp only[bb]
    intro hc
    simp at hc
    omega
   ·exact hlast j hj
 have h3:∀(m k:Nat),((lnsT S sups).map lnV).length-k=m→rightUL ((lnsT S sups).map lnV) k=true:=by
  intro m
  induction m with
  |zero=>intro k hm;rw[rightUL,if_neg (by omega)]
  |succ m ih=>
   intro k hm
   have hk:k<((lnsT S sups).map lnV).length:=by omega
   rw[rightUL,if_pos hk,if_neg,h2 k (by omega) 0 _ rfl]
   ·exact ih (k+1) (by omega)
   ·rcases Nat.lt_or_ge k S with h|h
    ·rw[lnsT_lo h];simp
    ·rw[lnsT_hi h (by omega)];simp
 unfold rightU
 rw[if_neg (by omega)]
 exact h3 _ 0 rfl
theorem hl_lns {S:Nat} {sups:List (List Int)} (hl:S+sups.length≤300) (hs:∀s,s∈sups→s.length≤1000):HL ((lnsT S sups).map lnV):=by
 refine ⟨by rw[List.length_map,lnsT_len];exact hl,fun x hx=> ?_⟩
 obtain ⟨y,hy,rfl⟩:=List.mem_map.1 hx
 unfold lnsT at hy
 rcases List.mem_append.1 hy with h|h
 ·rw[(List.mem_replicate.1 h).2]
  exact ⟨Nat.zero_le _,fun s hs=>by cases hs⟩
 ·obtain ⟨s,h1,rfl⟩:=List.mem_map.1 h
  refine ⟨by show 1≤1000;decide,fun t ht=> ?_⟩
  rw[List.mem_singleton.1 ht];exact hs s h1
def smT (offers:List Fe) (m0:List (Int×Int)) (i0:Nat):List Nat:=samK offers (outV offers m0) i0 offers.length
def edT (offers:List Fe) (m0:List (Int×Int)) (i0:Nat):List (Int×Int):=(smT offers m0 i0).map (edgE offers)
def grT (n:Nat) (offers:List Fe) (m0:List (Int×Int)) (i0:Nat):List (List Int):=groupsT (nxtV n (edT offers m0 i0))
def kpT (n:Nat) (offers:List Fe) (m0:List (Int×Int)) (i0:Nat) (v:Int):Int:=grpO (grT n offers m0 i0) v
def supJ (κ:Int→Int) (offers:List Fe) (sm:List Nat) (g:Int) (j:Nat):List Int:=((List.range j).filter fun x=>decide (κ (offers.getD (sm.getD x 0) default).fr=g)).map fun (y:Nat)=>(y:Int)
def supT (κ:Int→Int) (offers:List Fe) (sm:List Nat) (g:Nat):List Int:=supJ κ offers sm g sm.length
def actT (κ:Int→Int) (offers:List Fe) (sm:List Nat) (g:Nat):Int:=if supT κ offers sm g= []then-1 else ((sm.length+(supsK (supT κ offers sm) g).length:Nat):Int)
theorem supJ_s (κ:Int→Int) (offers:List Fe) (sm:List Nat) (g:Int) (j:Nat):supJ κ offers sm g (j+1)=supJ κ offers sm g j++(if κ (offers.getD (sm.getD j 0) default).fr=g then [(j:Int)]else []):=by
 unfold supJ
 rw[List.range_succ,List.filter_append,List.map_append]
 congr 1
 by_cases h:κ (offers.getD (sm.getD j 0) default).fr=g
 ·rw[if_pos h,List.filter_cons_of_pos (by simpa using h)];rfl
 ·rw[if_neg h,List.filter_cons_of_neg (by simpa using h)];rfl
theorem supJ_len (κ:Int→Int) (offers:List Fe) (sm:List Nat) (g:Int) (j:Nat):(supJ κ offers sm g j).length≤j:=by
 unfold supJ
 rw[List.length_map]
 exact Nat.le_trans (List.length_filter_le _ _) (by simp)
theorem supT_mem {κ:Int→Int} {offers:List Fe} {sm:List Nat} {g:Nat} {j:Nat} :(j:Int)∈supT κ offers sm g↔j<sm.length∧κ (offers.getD (sm.getD j 0) default).fr=g:=by
 unfold supT supJ
 rw[memR,List.mem_filter,List.mem_range,decide_eq_true_eq]
theorem supT_in {κ:Int→Int} {offers:List Fe} {sm:List Nat} {g:Nat} :∀j,j∈supT κ offers sm g→0≤j∧j<sm.length:=fun j hj=>by
 unfold supT supJ at hj
 obtain ⟨y,hy,rfl⟩:=List.mem_map.1 hj
 have:=List.mem_range.1 (List.mem_filter.1 hy).1
 omega
theorem supT_asc (κ:Int→Int) (offers:List Fe) (sm:List Nat) (g:Nat):(supT κ offers sm g).Pairwise (·<·):=by
 unfold supT supJ
 rw[List.pairwise_map]
 exact (List.pairwise_lt_range.filter _).imp fun h=>by omega
def ownJ (sm:List Nat) (i0:Nat) (prev:Int):Nat→Int
 |0=>prev
 |j+1=>if sm.getD j 0=i0 then j else ownJ sm i0 prev j
theorem ownJ_ok {sm:List Nat} (hn:sm.Nodup) {i0 j0:Nat} (hj:j0<sm.length) (he:sm.getD j0 0=i0) (prev:Int):∀k:Nat,k≤sm.length→ownJ sm i0 prev k=if j0<k then (j0:Int)else prev:=by
 intro k
 induction k with
 |zero=>intro _;rfl
 |succ k ih=>
  intro hk
  rw[ownJ]
  by_cases e:sm.getD k 0=i0
  ·rw[if_pos e]
   have:k=j0:=by
    rw[←he,List.getD_eq_getElem?_getD,List.getElem?_eq_getElem (show k<sm.length by omega),List.getD_eq_getElem?_getD,List.getElem?_eq_getElem hj]at e
    exact (List.getElem_inj hn).1 e
   subst this
   rw[if_pos (by omega)]
  ·rw[if_neg e,ih (by omega)]
   have:k≠j0:=fun h=>e (h▸he)
   by_cases h2:j0<k
   ·rw[if_pos h2,if_pos (by omega)]
   ·rw[if_neg h2,if_neg (by omega)]
theorem grpsF_len (to_:List (List Int)):∀(m a:Nat) (out:List (List Int)),to_.length-a=m→(grpsF to_ out a).length≤out.length+m:=by
 intro m
 induction m with
 |zero=>intro a out hm;rw[grpsF,if_neg (by omega)];omega
 |succ m ih=>
  intro a out hm
  rw[grpsF,if_pos (by omega)]
  have:=ih (a+1) (if (out.any fun g=>g.contains (a:Int))=true then out else out++ [grpF to_ a (to_.length-a)]) (by omega)
  split at this<;>rename_i hc
  ·rw[if_pos hc];omega
  ·rw[if_neg hc]
   rw[List.length_append]at this
   simp only[List.length_cons,List.length_nil]at this
   omega
theorem grpsF_each (to_:List (List Int)):∀(m a:Nat) (out:List (List Int)),to_.length-a=m→(∀g,g∈out→g.length≤to_.length)→∀g,g∈grpsF to_ out a→g.length≤to_.length:=by
 intro m
 induction m with
 |zero=>intro a out hm h;rw[grpsF,if_neg (by omega)];exact h
 |succ m ih=>
  intro a out hm h
  rw[grpsF,if_pos (by omega)]
  refine ih (a+1) _ (by omega) ?_
  split
  ·exact h
  ·intro g hg
   rcases List.mem_append.1 hg with hg|hg
   ·exact h g hg
   ·rw[List.mem_singleton.1 hg]
    exact Nat.le_trans (grpF_len to_ a _) (by omega)
section
variable {n:Nat} {offers:List Fe} {m0:List (Int×Int)} {i0:Nat}
structure LawX (n:Nat) (offers:List Fe) (m0:List (Int×Int)) (i0:Nat):Prop where
 fi:FI n offers m0
 n1:1≤n
 n40:n≤40
 l100:offers.length≤100
 hi:i0<offers.length
 pos:0<gI (offers.getD i0 default).no m0
theorem LawX.at_ (h:LawX n offers m0 i0) {i:Nat} (hi:i<offers.length):okF n (offers.getD i default):=h.fi.in_ _ (memD hi)
theorem LawX.sm_lt (h:LawX n offers m0 i0) {i:Nat} (hi:i∈smT offers m0 i0):i<offers.length:=(samK_mem.1 hi).1
theorem LawX.sm_iff (h:LawX n offers m0 i0) {i:Nat} (hi:i<offers.length):i∈smT offers m0 i0↔ofV (offers.getD i default)=ofV (offers.getD i0 default)∧0<gI (offers.getD i default).no m0:=by
 unfold smT
 rw[samK_mem,inS_iff h.fi hi]
 exact ⟨fun x=>x.2,fun x=>⟨hi,x⟩⟩
theorem LawX.sm_len (h:LawX n offers m0 i0):(smT offers m0 i0).length≤100:=Nat.le_trans (samK_len _ _ _ _) h.l100
theorem LawX.ed_in (h:LawX n offers m0 i0):∀e,e∈edT offers m0 i0→(0≤e.1∧e.1<n)∧0≤e.2∧e.2<n:=fun e he=>by
 obtain ⟨i,hi,rfl⟩:=List.mem_map.1 he
 have:=h.at_ (h.sm_lt hi)
 exact ⟨this.1,this.2.1⟩
theorem LawX.ed_len (h:LawX n offers m0 i0):(edT offers m0 i0).length≤100:=by
 unfold edT
 rw[List.length_map];exact h.sm_len
theorem grR_true {n:Int} :∀ {l:List (Int×Int)},(∀e,e∈l→(0≤e.1∧e.1<n)∧0≤e.2∧e.2<n)→grR n l=true:=by
 intro l
 induction l with
 |nil=>intro _;rfl
 |cons e l ih=>
  intro h
  have:=h e List.mem_cons_self
  rw[grR,if_neg (by omega)]
  exact ih fun x hx=>h x (List.mem_cons_of_mem _ hx)
theorem LawX.right (h:LawX n offers m0 i0):rightG n (edT offers m0 i0)=true:=by
 have h1:=h.ed_len
 have h2:=h.n40
 unfold rightG
 rw[if_neg (by omega)]
 exact grR_true h.ed_in
theorem LawX.to_in (h:LawX n offers m0 i0):ToIn n (nxtV n (edT offers m0 i0)):=nxtV_in h.ed_in
theorem LawX.sub (h:LawX n offers m0 i0):∀l,l∈nxtV n (edT offers m0 i0)→l.length≤1000:=fun l hl=>by
 have:=nxtV_sub l hl
 have:=h.ed_len
 omega
theorem LawX.gr_len (h:LawX n offers m0 i0):(grT n offers m0 i0).length≤40:=by
 have h1:=grpsF_len (nxtV n (edT offers m0 i0)) _ 0 [] rfl
 have h2:=h.to_in.len
 have h3:=h.n40
 unfold grT groupsT
 simp only[List.length_nil]at h1
 omega
theorem LawX.gr_each (h:LawX n offers m0 i0):∀i,((grT n offers m0 i0).getD i default).length≤1000000:=fun i=>by
 have h2:=h.to_in.len
 have h3:=h.n40
 rcases Nat.lt_or_ge i (grT n offers m0 i0).length with hi|hi
 ·have:=grpsF_each (nxtV n (edT offers m0 i0)) _ 0 [] rfl (fun g hg=>by cases hg) _ (memD (l:=grT n offers m0 i0) (d:=default) hi)
  omega
 ·rw[List.getD_eq_getElem?_getD,List.getElem?_eq_none hi];exact Nat.zero_le _
theorem LawX.gr_pos (h:LawX n offers m0 i0):0<(grT n offers m0 i0).length:=by
 have:=(groups_ok h.to_in h.n1).1
 exact List.length_pos_iff.2 this
theorem LawX.kp_in (h:LawX n offers m0 i0) {v:Int} (h0:0≤v) (h1:v<n):0≤kpT n offers m0 i0 v∧kpT n offers m0 i0 v<(grT n offers m0 i0).length:=by
 unfold kpT
 rw[grpO_eq]
 exact (groups_ok h.to_in h.n1).2.1 v h0 h1
theorem LawX.each (h:LawX n offers m0 i0) {i:Nat} (hi:i<offers.length) (ho:ofV (offers.getD i default)=ofV (offers.getD i0 default)) (hp:0<gI (offers.getD i default).no m0):kpT n offers m0 i0 (offers.getD i default).fr=kpT n offers m0 i0 (offers.getD i default).to_:=by
 have hk:=h.at_ hi
 unfold kpT
 rw[grpO_eq,grpO_eq]
 refine (groups_ok h.to_in h.n1).2.2 _ _ hk.1.1 hk.1.2 hk.2.1.1 hk.2.1.2 ?_
 obtain ⟨L,hL⟩:∃L,L=offers.filter fun e=>eqb_Grp (ofV e) (ofV (offers.getD i0 default)):=⟨_,rfl⟩
 have hLm:∀e,e∈L→e∈offers∧ofV e=ofV (offers.getD i0 default):=fun e he=>by
  rw[hL]at he
  obtain ⟨q1,q2⟩:=List.mem_filter.1 he
  exact ⟨q1,(eqb_Grp_iff _ _).1 q2⟩
 have hd:∀j (hj:j<L.length),(L.map (dueE fun e=>gI e.no m0)).getD j default=dueE (fun e=>gI e.no m0) L[j]:=fun j hj=>by
  rw[List.getD_eq_getElem?_getD,List.getElem?_map,List.getElem?_eq_getElem hj];rfl
 have hsm:∀j (hj:j<L.length),(L.map fun e=>gI e.no m0).getD j 0=gI L[j].no m0:=fun j hj=>by
  rw[List.getD_eq_getElem?_getD,List.getElem?_map,List.getElem?_eq_getElem hj];rfl
 have hmem:offers.getD i default∈L:=by rw[hL];exact List.mem_filter.2 ⟨memD hi,(eqb_Grp_iff _ _).2 ho⟩
 obtain ⟨j,hj,hje⟩:=List.mem_iff_getElem.1 hmem
 have hgo:=circ_group (n:=n) (to_:=nxtV n (edT offers m0 i0)) (dues:=L.map (dueE fun e=>gI e.no m0)) (sums:=L.map fun e=>gI e.no m0)
  ⟨fun d hd=>by obtain ⟨e,he,rfl⟩:=List.mem_map.1 hd;exact (h.fi.in_ e (hLm e he).1).1,fun d hd=>by obtain ⟨e,he,rfl⟩:=List.mem_map.1 hd;exact (h.fi.in_ e (hLm e he).1).2.1⟩ h.to_in (by simp)
  (fun j hj=>by
   rw[List.length_map]at hj
   rw[hsm j hj];exact (h.fi.bnd _ (hLm _ (List.getElem_mem hj)).1).1)
  (fun v v0 v1=>by rw[netT_map,hL];exact h.fi.circ _ v v0 v1)
  (fun j hj hp=>by
   rw[List.length_map]at hj
   rw[hsm j hj]at hp
   rw[hd j hj]
   obtain ⟨q1,q2⟩:=hLm _ (List.getElem_mem hj)
   obtain ⟨i2,hi2,he2⟩:=List.mem_iff_getElem.1 q1
   have hg2:offers.getD i2 default=L[j]:=by rw[List.getD_eq_getElem?_getD,List.getElem?_eq_getElem hi2];exact he2
   have hok:=h.fi.in_ _ q1
   have hin:i2∈smT offers m0 i0:=(h.sm_iff hi2).2 (by rw[hg2];exact ⟨q2,hp⟩)
   have hf:=hok.1
   obtain ⟨a,ha⟩:∃a:Nat,L[j].fr=a:=⟨L[j].fr.toNat,by omega⟩
   show L[j].to_∈(nxtV n (edT offers m0 i0)).getD L[j].fr.toNat []
   rw[ha,Int.toNat_natCast]
   exact (nxtV_mem (by omega)).2 ⟨edgE offers i2,List.mem_map_of_mem hin,by unfold edgE;rw[hg2];exact ha,by unfold edgE;rw[hg2]⟩)
  (i:=j) (by rw[List.length_map];exact hj) (by rw[hsm j hj,hje];exact hp)
 rw[hd j hj,hje]at hgo
 exact hgo
theorem LawX.kappa (h:LawX n offers m0 i0):∀e,e∈offers→ofV e=ofV (offers.getD i0 default)→0<gI e.no m0→kpT n offers m0 i0 e.fr=kpT n offers m0 i0 e.to_:=fun e he ho hp=>by
 obtain ⟨i,hi,rfl⟩:=List.mem_iff_getElem.1 he
 have hg:offers.getD i default=offers[i]:=by rw[List.getD_eq_getElem?_getD,List.getElem?_eq_getElem hi];rfl
 rw[←hg]at ho hp⊢
 exact h.each hi ho hp
theorem LawX.own (h:LawX n offers m0 i0):∃j0,j0<(smT offers m0 i0).length∧(smT offers m0 i0).getD j0 0=i0:=by
 have hin:i0∈smT offers m0 i0:=(h.sm_iff h.hi).2 ⟨rfl,h.pos⟩
 obtain ⟨j,hj,e⟩:=List.mem_iff_getElem.1 hin
 exact ⟨j,hj,by rw[List.getD_eq_getElem?_getD,List.getElem?_eq_getElem hj];exact e⟩
theorem LawX.sm_at (h:LawX n offers m0 i0) {j:Nat} (hj:j<(smT offers m0 i0).length):(smT offers m0 i0).getD j 0<offers.length:=h.sm_lt (memD hj)
theorem LawX.g0 (h:LawX n offers m0 i0):∃g0:Nat,g0<(grT n offers m0 i0).length∧kpT n offers m0 i0 (offers.getD i0 default).fr=g0:=by
 have hk:=h.at_ h.hi
 have:=h.kp_in hk.1.1 hk.1.2
 exact ⟨(kpT n offers m0 i0 (offers.getD i0 default).fr).toNat,by omega,by omega⟩
theorem actT_inj {κ:Int→Int} {offers:List Fe} {sm:List Nat} {g g':Nat} (h:supT κ offers sm g≠ []) (h':supT κ offers sm g'≠ []) (e:actT κ offers sm g=actT κ offers sm g'):g=g':=by
 unfold actT at e
 rw[if_neg h,if_neg h']at e
 rcases Nat.lt_trichotomy g g' with hl|hl|hl
 ·have:=supsK_lt h hl;omega
 ·exact hl
 ·have:=supsK_lt h' hl;omega
theorem LawX.lean (h:LawX n offers m0 i0) {g0:Nat} (hg:kpT n offers m0 i0 (offers.getD i0 default).fr=g0) {i:Nat} (hi:i<offers.length):
 leanP m0 (kpT n offers m0 i0) (offers.getD i0 default) (offers.getD i default)↔i∈smT offers m0 i0∧actT (kpT n offers m0 i0) offers (smT offers m0 i0) (kpT n offers m0 i0 (offers.getD i default).fr).toNat=actT (kpT n offers m0 i0) offers (smT offers m0 i0) g0:=by
 have hne:∀j,j∈smT offers m0 i0→∀g:Nat,kpT n offers m0 i0 (offers.getD j default).fr=g→supT (kpT n offers m0 i0) offers (smT offers m0 i0) g≠ []:=fun j hj g hgj e=>by
  obtain ⟨k,hk,ek⟩:=List.mem_iff_getElem.1 hj
  have:(k:Int)∈supT (kpT n offers m0 i0) offers (smT offers m0 i0) g:=supT_mem.2 ⟨hk,by rw[List.getD_eq_getElem?_getD (l:=smT offers m0 i0),List.getElem?_eq_getElem hk,Option.getD_some,ek];exact hgj⟩
  rw[e]at this;cases this
 unfold leanP
 constructor
 ·rintro ⟨a,b,c⟩
  refine ⟨(h.sm_iff hi).2 ⟨a,b⟩,?_⟩
  rw[c,hg,Int.toNat_natCast]
 ·rintro ⟨a,b⟩
  obtain ⟨c,d⟩:=(h.sm_iff hi).1 a
  refine ⟨c,d,?_⟩
  have hk:=h.at_ hi
  have hkk:=h.kp_in hk.1.1 hk.1.2
  have h1:kpT n offers m0 i0 (offers.getD i default).fr=((kpT n offers m0 i0 (offers.getD i default).fr).toNat:Nat):=by omega
  have:=actT_inj (hne i a _ h1) (hne i0 ((h.sm_iff h.hi).2 ⟨rfl,h.pos⟩) g0 hg) b
  rw[hg,h1,this]
theorem LawX.sups (h:LawX n offers m0 i0) (h20:(smT offers m0 i0).length≤20):∀(G:Nat) s,s∈supsK (supT (kpT n offers m0 i0) offers (smT offers m0 i0)) G→1≤s.length∧s.length≤20∧(∀j,j∈s→0≤j∧j<(smT offers m0 i0).length)∧s.Pairwise (·<·):=fun G s hs=>by
 obtain ⟨i,hi⟩:=List.getElem?_of_mem hs
 obtain ⟨g,a,rfl,_,d⟩:=supsK_inv G hi
 have:=supJ_len (kpT n offers m0 i0) offers (smT offers m0 i0) g (smT offers m0 i0).length
 exact ⟨List.length_pos_iff.2 d,by unfold supT;omega,supT_in,supT_asc _ _ _ _⟩
theorem supsK_len (sup:Nat→List Int):∀G:Nat,(supsK sup G).length≤G:=by
 intro G
 induction G with
 |zero=>exact Nat.le_refl _
 |succ G ih=>
  rw[supsK,List.length_append]
  split<;>simp<;>omega
theorem LawX.strike (h:LawX n offers m0 i0) {j0 g0:Nat} (hj:j0<(smT offers m0 i0).length) (he:(smT offers m0 i0).getD j0 0=i0) (hgl:g0<(grT n offers m0 i0).length) (hg:kpT n offers m0 i0 (offers.getD i0 default).fr=g0):
 strikeV ((lnsT (smT offers m0 i0).length (supsK (supT (kpT n offers m0 i0) offers (smT offers m0 i0)) (grT n offers m0 i0).length)).map lnV) (List.replicate ((smT offers m0 i0).length+(supsK (supT (kpT n offers m0 i0) offers (smT offers m0 i0)) (grT n offers m0 i0).length).length) false) [(j0:Int)]= [(j0:Int),actT (kpT n offers m0 i0) offers (smT offers m0 i0) g0]:=by
 have hm:∀g:Nat,(j0:Int)∈supT (kpT n offers m0 i0) offers (smT offers m0 i0) g↔g=g0:=fun g=>by
  rw[supT_mem,he,hg]
  constructor
  ·rintro ⟨_,h2⟩;omega
  ·rintro rfl;exact ⟨hj,rfl⟩
 have hne:supT (kpT n offers m0 i0) offers (smT offers m0 i0) g0≠ []:=fun e=>by have:=(hm g0).2 rfl;rw[e]at this;cases this
 rw[strike_lns hj (fun g _=>supT_in) hgl (fun g _=>hm g)]
 unfold actT
 rw[if_neg hne]
end
abbrev reE (no:Int):Fe:=⟨5,0,0,no,0,0,0,0,0⟩
def nxL (l:List Fe) (no:Int):List Fe:=l++ [reE no]
theorem nxL_len (l:List Fe) (no:Int):(nxL l no).length=l.length+1:=by simp[nxL]
theorem nxL_last (l:List Fe) (no:Int):(nxL l no).getD l.length default=reE no:=by
 unfold nxL
 rw[List.getD_eq_getElem?_getD,List.getElem?_append_right (Nat.le_refl _),Nat.sub_self];rfl
theorem nxL_at (l:List Fe) (no:Int) {k:Nat} (h:k<l.length):(nxL l no).getD k default=l.getD k default:=by
 unfold nxL
 rw[List.getD_eq_getElem?_getD,List.getElem?_append_left h,←List.getD_eq_getElem?_getD]
theorem nxL_take (l:List Fe) (no:Int) {k:Nat} (h:k≤l.length):(nxL l no).take k=l.take k:=by
 unfold nxL
 rw[List.take_append_of_le_length h]
section
variable {n:Nat} {rooms cl:Int}
theorem runS_s (l:List Fe) (k:Nat):runS n rooms cl l (k+1)=stepR n rooms cl (runS n rooms cl l k) (l.getD k default) (l.take k):=rfl
theorem runS_nx (l:List Fe) (no:Int):∀k:Nat,k≤l.length→runS n rooms cl (nxL l no) k=runS n rooms cl l k:=by
 intro k
 induction k with
 |zero=>intro _;rfl
 |succ k ih=>intro hk;rw[runS_s,runS_s,ih (by omega),nxL_at l no (by omega),nxL_take l no (by omega)]
open Classical in
noncomputable def errS (n:Nat) (rooms cl:Int) (l:List Fe) (k:Nat):Int:=
 if (runS n rooms cl l k).cd=true then (if reoB n rooms (runS n rooms cl l k).m (l.getD k default)then 0 else errV n rooms cl true (runS n rooms cl l k).m (l.getD k default))
 else if clsB n rooms cl (l.getD k default)then 0 else errV n rooms cl false [] (l.getD k default)
theorem runS_errs (l:List Fe):∀k:Nat,(runS n rooms cl l k).errs=(List.range k).map (errS n rooms cl l):=by
 intro k
 induction k with
 |zero=>rfl
 |succ k ih=>
  rw[List.range_succ,List.map_append,←ih,runS_s]
  unfold stepR errS
  simp only[List.map_cons,List.map_nil]
  by_cases h1:(runS n rooms cl l k).cd=true
  ·rw[if_pos h1,if_pos h1]
   by_cases h2:reoB n rooms (runS n rooms cl l k).m (l.getD k default)
   ·rw[if_pos h2,if_pos h2]
   ·rw[if_neg h2,if_neg h2]
  ·rw[if_neg h1,if_neg h1]
   by_cases h2:clsB n rooms cl (l.getD k default)
   ·rw[if_pos h2,if_pos h2]
   ·rw[if_neg h2,if_neg h2]
theorem runS_elen (l:List Fe) (k:Nat):(runS n rooms cl l k).errs.length=k:=by rw[runS_errs];simp
theorem runS_eat (l:List Fe) {k i:Nat} (h:i<k):(runS n rooms cl l k).errs.getD i default=errS n rooms cl l i:=by
 rw[runS_errs,List.getD_eq_getElem?_getD,List.getElem?_map,List.getElem?_range h];rfl
theorem clgL_ok (l:List Fe) (es:List Int):∀(m k:Nat),es.length-k=m→0≤clgVL l es k→∃c:Nat,clgVL l es k=c∧c<l.length∧c<es.length∧(l.getD c default).kind=4∧es.getD c default=0:=by
 intro m
 induction m with
 |zero=>
  intro k hm h
  rw[clgVL,if_neg (by simp only[bb];omega)]at h
  exact absurd h (by decide)
 |succ m ih=>
  intro k hm h
  rw[clgVL]at h⊢
  split at h
  ·rename_i hc
   rw[if_pos hc]
   simp only[bb]at hc
   split at h
   ·rename_i hd
    rw[if_pos hd]
    simp only[bb]at hd
    exact ⟨k,rfl,by omega,by omega,hd.1,hd.2⟩
   ·rename_i hd
    rw[if_neg hd]
    exact ih (k+1) (by omega) h
  ·exact absurd h (by decide)
theorem err_close {l:List Fe} {c:Nat} (hk:(l.getD c default).kind=4) (he:errS n rooms cl l c=0):(runS n rooms cl l c).cd=false∧clsB n rooms cl (l.getD c default):=by
 unfold errS at he
 by_cases h1:(runS n rooms cl l c).cd=true
 ·rw[if_pos h1]at he
  exfalso
  by_cases h2:reoB n rooms (runS n rooms cl l c).m (l.getD c default)
  ·have:=h2.2.1;omega
  ·rw[if_neg h2]at he
   unfold errV at he
   by_cases h3:chkV n rooms (l.getD c default)=0
   ·rw[if_pos h3,if_pos hk,if_pos rfl]at he;cases he
   ·rw[if_neg h3]at he;cases he
 ·rw[if_neg h1]at he
  refine ⟨by simpa using h1,?_⟩
  by_cases h2:clsB n rooms cl (l.getD c default)
  ·exact h2
  ·rw[if_neg h2]at he
   unfold errV at he
   by_cases h3:chkV n rooms (l.getD c default)=0
   ·rw[if_pos h3,if_pos hk,if_neg (by decide)]at he
    by_cases h4:(l.getD c default).day<cl
    ·rw[if_pos h4]at he;cases he
    ·exact ⟨h3,hk,h4⟩
   ·rw[if_neg h3]at he;cases he
theorem err_reopen {l:List Fe} {c:Nat} (hcd:(runS n rooms cl l c).cd=true) (hk:(l.getD c default).kind=5) (he:errS n rooms cl l c=0):reoB n rooms (runS n rooms cl l c).m (l.getD c default):=by
 unfold errS at he
 rw[if_pos hcd]at he
 by_cases h2:reoB n rooms (runS n rooms cl l c).m (l.getD c default)
 ·exact h2
 ·rw[if_neg h2]at he
  unfold errV at he
  by_cases h3:chkV n rooms (l.getD c default)=0
  ·rw[if_pos h3,if_neg (by omega),if_pos hk,if_neg (by decide)]at he
   by_cases h4:gI (l.getD c default).no (runS n rooms cl l c).m=0
   ·rw[if_pos h4]at he;cases he
   ·exact ⟨h3,hk,h4⟩
  ·rw[if_neg h3]at he;cases he
theorem runS_closed {l:List Fe} {c:Nat} (hcd:(runS n rooms cl l c).cd=false) (hc:clsB n rooms cl (l.getD c default)):∀k:Nat,(runS n rooms cl l (c+1+k)).cd=true∧(runS n rooms cl l (c+1+k)).offers=cntV n rooms cl (l.take c):=by
 intro k
 induction k with
 |zero=>
  rw[Nat.add_zero,runS_s]
  unfold stepR
  rw[if_neg (by rw[hcd];decide),if_pos hc]
  exact ⟨rfl,rfl⟩
 |succ k ih=>
  rw[show c+1+(k+1)=(c+1+k)+1 by omega,runS_s]
  unfold stepR
  rw[if_pos ih.1]
  split
  ·exact ⟨rfl,ih.2⟩
  ·exact ⟨rfl,ih.2⟩
structure RunX (n:Nat) (rooms cl:Int) (l:List Fe) (no:Int) (c:Nat) (offers:List Fe) (m0:List (Int×Int)) (i0:Nat):Prop where
 lt:c<l.length
 cnt:cntV n rooms cl ((nxL l no).take c)=offers
 cd0:(runS n rooms cl l l.length).cd=true
 of0:(runS n rooms cl l l.length).offers=offers
 m0_:(runS n rooms cl l l.length).m=m0
 cd1:(runS n rooms cl (nxL l no) (nxL l no).length).cd=true
 of1:(runS n rooms cl (nxL l no) (nxL l no).length).offers=offers
 m1_:(runS n rooms cl (nxL l no) (nxL l no).length).m=reM n no offers m0
 no_:(offers.getD i0 default).no=no
 gone:goneF offers no offers.length=i0
 law:LawX n offers m0 i0
theorem runX {l:List Fe} {no:Int} (h1:1≤n) (h40:n≤40) (hl:l.length≤40) (hs:∀e,e∈l→In64 e.sum)
 (hc:0≤clgV (nxL l no) (runS n rooms cl (nxL l no) (nxL l no).length).errs) (he:(runS n rooms cl (nxL l no) (nxL l no).length).errs.getD l.length default=0):
 ∃(c:Nat) (offers:List Fe) (m0:List (Int×Int)) (i0:Nat),clgV (nxL l no) (runS n rooms cl (nxL l no) (nxL l no).length).errs=c∧RunX n rooms cl l no c offers m0 i0:=by
 obtain ⟨c,c1,c2,c3,c4,c5⟩:=clgL_ok _ _ _ 0 rfl hc
 have hlen:=nxL_len l no
 rw[runS_eat _ (by omega)]at he
 rw[runS_eat _ c2]at c5
 have hcl:c≠l.length:=fun e=>by subst e;rw[nxL_last]at c4;exact absurd c4 (show ¬(5:Int)=4 by decide)
 have hclt:c<l.length:=by omega
 obtain ⟨d1,d2⟩:=err_close c4 c5
 have hst:=runS_closed d1 d2
 obtain ⟨e1,e2⟩:=hst (l.length-(c+1))
 rw[show c+1+(l.length-(c+1))=l.length by omega]at e1 e2
 have hre:=err_reopen e1 (by rw[nxL_last]) he
 have hnx:=runS_nx (n:=n) (rooms:=rooms) (cl:=cl) l no l.length (Nat.le_refl _)
 obtain ⟨offers,hof⟩:∃o,o=cntV n rooms cl ((nxL l no).take c):=⟨_,rfl⟩
 obtain ⟨m0,hm0⟩:∃o,o=(runS n rooms cl l l.length).m:=⟨_,rfl⟩
 rw[hnx]at e1 e2 hre
 rw[←hof]at e2
 rw[←hm0,nxL_last]at hre
 have hF:=(fs_all (rooms:=rooms) (cl:=cl) h1 h40 (by omega) hs l.length (Nat.le_refl _)).cl_ e1
 rw[e2,←hm0]at hF
 have hne:gI no m0≠0:=hre.2.2
 have hin:no∈offers.map Fe.no:=Classical.byContradiction fun h=>hne (hF.1.key no h)
 obtain ⟨i0,g1,g2,g3⟩:=gone_ok hF.1.nd hin
 have hstep:runS n rooms cl (nxL l no) (nxL l no).length=stepR n rooms cl (runS n rooms cl l l.length) (reE no) ((nxL l no).take l.length):=by rw[hlen,runS_s,hnx,nxL_last]
 unfold stepR at hstep
 rw[if_pos e1,if_pos (by rw[←hm0];exact hre)]at hstep
 refine ⟨c,offers,m0,i0,c1,hclt,hof.symm,e1,e2,hm0.symm,by rw[hstep],by rw[hstep];exact e2,by rw[hstep,←hm0,e2],g2,g3,⟨hF.1,h1,h40,hF.2,g1,?_⟩⟩
 have:=(hF.1.bnd _ (memD (d:=default) g1)).1
 rw[g2]at this⊢
 omega
end
end Go.Gh
