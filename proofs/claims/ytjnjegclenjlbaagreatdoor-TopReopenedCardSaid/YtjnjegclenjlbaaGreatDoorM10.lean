/- Walks by the logic of calls, and plain laws (several texts in one). -/
import Derived.Test.YtjnjegclenjlbaaGreatDoorGFbJ
import Derived.Lib.SlicesCompact
namespace Go.Gh
open Go Go.Proofs
set_option maxRecDepth 1000000
set_option maxHeartbeats 2000000
set_option linter.unusedSimpArgs false
set_option linter.unusedVariables false
set_option linter.unnecessarySimpa false
open Go.RowKit Go.Proofs
def netE (h:Fe→Int):List Fe→Int→Int
 | [],_=>0
 |e::l,v=>h e*(indI (e.to_=v)-indI (e.fr=v))+netE h l v
theorem netE_congr {h h':Fe→Int} {v:Int} :∀ {l:List Fe},(∀e,e∈l→h e=h' e)→netE h l v=netE h' l v:=by
 intro l
 induction l with
 |nil=>intro _;rfl
 |cons e l ih=>intro hh;simp only[netE];rw[ih fun x hx=>hh x (List.mem_cons_of_mem _ hx),hh e List.mem_cons_self]
theorem netE_zero {h:Fe→Int} {v:Int} :∀ {l:List Fe},(∀e,e∈l→h e=0∨(indI (e.to_=v)=indI (e.fr=v)))→netE h l v=0:=by
 intro l
 induction l with
 |nil=>intro _;rfl
 |cons e l ih=>
  intro hh
  simp only[netE]
  rw[ih fun x hx=>hh x (List.mem_cons_of_mem _ hx)]
  rcases hh e List.mem_cons_self with h1|h1<;>rw[h1]<;>simp
theorem netE_filter {h:Fe→Int} {v:Int} (p:Fe→Bool):∀ {l:List Fe},(∀e,e∈l→p e=false→h e=0)→netE h (l.filter p) v=netE h l v:=by
 intro l
 induction l with
 |nil=>intro _;rfl
 |cons e l ih=>
  intro hh
  have h1:=ih fun x hx=>hh x (List.mem_cons_of_mem _ hx)
  rw[List.filter_cons]
  split
  ·simp only[netE];rw[h1]
  ·rename_i hp
   simp only[netE]
   rw[h1,hh e List.mem_cons_self (by simpa using hp)];simp
def dueE (f:Fe→Int) (e:Fe):Du:=⟨e.fr,e.to_,f e⟩
theorem netT_map (f h:Fe→Int) (v:Int):∀l:List Fe,netT (l.map (dueE f)) (l.map h) v=netE h l v:=by
 intro l
 induction l with
 |nil=>rfl
 |cons e l ih=>simp only[List.map_cons,netT,netE,ih];rfl
def posL (f:Fe→Int) (ofv:Fe→Bool) (l:List Fe):List Fe:=(l.filter ofv).filter fun e=>decide (0<f e)
theorem posL_mem {f:Fe→Int} {ofv:Fe→Bool} {l:List Fe} {e:Fe} :e∈posL f ofv l↔e∈l∧ofv e=true∧0<f e:=by
 unfold posL
 rw[List.mem_filter,List.mem_filter]
 simp[and_assoc]
def zeroM:List Fe→List (Int×Int)→List (Int×Int)
 | [],m=>m
 |e::l,m=>zeroM l (putI e.no 0 m)
theorem gI_zeroM (k:Int):∀(l:List Fe) (m:List (Int×Int)),gI k (zeroM l m)=if k∈l.map Fe.no then 0 else gI k m:=by
 intro l
 induction l with
 |nil=>intro m;simp[zeroM]
 |cons e l ih=>
  intro m
  rw[zeroM,ih,gI_put]
  by_cases h1:k∈l.map Fe.no
  ·rw[if_pos h1,if_pos (by rw[List.map_cons];exact List.mem_cons_of_mem _ h1)]
  ·rw[if_neg h1]
   by_cases h2:k=e.no
   ·rw[if_pos h2,if_pos (by rw[h2,List.map_cons];exact List.mem_cons_self)]
   ·rw[if_neg h2,if_neg (by rw[List.map_cons,List.mem_cons];exact fun h=>h.elim h2 h1)]
theorem stlF_eq (f:Fe→Int) (ofv:Fe→Bool):∀(l:List Fe) (a:List Du×List Int×List (Int×Int)),stlF f ofv l a=(a.1++(posL f ofv l).map (dueE f),a.2.1++(posL f ofv l).map Fe.no,zeroM (l.filter ofv) a.2.2):=by
 intro l
 induction l with
 |nil=>intro a;simp[stlF,posL,zeroM]
 |cons e l ih=>
  intro a
  rw[stlF,ih]
  unfold posL
  by_cases h1:ofv e=true
  ·rw[if_pos h1,List.filter_cons_of_pos h1]
   dsimp only
   by_cases h2:0<f e
   ·rw[if_pos h2,if_pos h2,List.filter_cons_of_pos (by simpa using h2)]
    simp[zeroM,dueE]
   ·rw[if_neg h2,if_neg h2,List.filter_cons_of_neg (by simpa using h2)]
    simp[zeroM]
  ·rw[if_neg h1,List.filter_cons_of_neg h1]
theorem gI_putZ_not {k:Int} :∀(ns ss:List Int) (m:List (Int×Int)),¬k∈ns→gI k (putZ ns ss m)=gI k m:=by
 intro ns
 induction ns with
 |nil=>intro ss m _;cases ss<;>rfl
 |cons a ns ih=>
  intro ss m h
  cases ss with
  |nil=>rfl
  |cons s ss=>
   rw[putZ,ih _ _ fun hh=>h (List.mem_cons_of_mem _ hh),gI_put,if_neg fun (e:k=a)=>h (by rw[e];exact List.mem_cons_self)]
theorem gI_putZ_at:∀(ns ss:List Int) (m:List (Int×Int)) (i:Nat),ns.Nodup→ns.length=ss.length→i<ns.length→gI (ns.getD i 0) (putZ ns ss m)=ss.getD i 0:=by
 intro ns
 induction ns with
 |nil=>intro ss m i _ _ h;simp at h
 |cons a ns ih=>
  intro ss m i hn hl hi
  cases ss with
  |nil=>simp at hl
  |cons s ss=>
   have hnd:=List.nodup_cons.1 hn
   rw[putZ]
   cases i with
   |zero=>simp only[List.getD_cons_zero];rw[gI_putZ_not _ _ _ hnd.1,gI_put,if_pos rfl]
   |succ i=>simp only[List.getD_cons_succ];exact ih _ _ i hnd.2 (by simpa using hl) (by simpa using hi)
structure StlS (n:Nat) (f:Fe→Int) (ofv:Fe→Bool) (offers:List Fe) (m m':List (Int×Int)):Prop where
 off:∀e,e∈offers→ofv e=false→gI e.no m'=gI e.no m
 key:∀k,¬k∈offers.map Fe.no→gI k m'=gI k m
 zero:∀e,e∈offers→ofv e=true→f e≤0→gI e.no m'=0
 lo:∀e,e∈offers→ofv e=true→0≤gI e.no m'
 hi:∀e,e∈offers→ofv e=true→0<f e→gI e.no m'≤f e
 circ:∀v:Int,0≤v→v<n→netE (fun e=>gI e.no m') (offers.filter ofv) v=0
 loc:∀(κ:Int→Int) (c:Int),(∀e,e∈offers→ofv e=true→0<f e→κ e.fr=κ e.to_)→(∀v:Int,0≤v→v<n→κ v=c→netE f (posL f ofv offers) v=0)→∀e,e∈offers→ofv e=true→0<f e→κ e.fr=c→gI e.no m'=f e
theorem no_inj {l:List Fe} (h:(l.map Fe.no).Nodup) {a b:Fe} (ha:a∈l) (hb:b∈l) (e:a.no=b.no):a=b:=by
 induction l with
 |nil=>cases ha
 |cons x l ih=>
  rw[List.map_cons,List.nodup_cons]at h
  rcases List.mem_cons.1 ha with e1|h1<;>rcases List.mem_cons.1 hb with e2|h2
  ·rw[e1,e2]
  ·exact absurd (by rw[←e1,e];exact List.mem_map_of_mem h2) h.1
  ·exact absurd (by rw[←e2,←e];exact List.mem_map_of_mem h1) h.1
  ·exact ih h.2 h1 h2
theorem settle_spec {n:Nat} {f:Fe→Int} {ofv:Fe→Bool} {offers:List Fe} {m:List (Int×Int)} (hn:(offers.map Fe.no).Nodup) (hX:DuesOK n (stlF f ofv offers ([],[],m)).1):StlS n f ofv offers m (settleV n f ofv offers m):=by
 have hT:=stlF_eq f ofv offers ([],[],m)
 simp only[List.nil_append]at hT
 rw[hT]at hX
 have hv:settleV n f ofv offers m=putZ ((posL f ofv offers).map Fe.no) (clrF n ((posL f ofv offers).map (dueE f))) (zeroM (offers.filter ofv) m):=by unfold settleV;rw[hT]
 rw[hv]
 dsimp only at hX
 have R:=clr_ok hX
 have hsub:((posL f ofv offers).map Fe.no).Nodup:=((List.filter_sublist.trans List.filter_sublist).map Fe.no).nodup hn
 have hin:∀e,e∈offers→(e.no∈(posL f ofv offers).map Fe.no↔e∈posL f ofv offers):=fun e he=>by
  constructor
  ·intro h
   obtain ⟨x,hx,hxe⟩:=List.mem_map.1 h
   exact no_inj hn (posL_mem.1 hx).1 he hxe▸hx
  ·exact fun h=>List.mem_map_of_mem h
 have hinF:∀e,e∈offers→(e.no∈(offers.filter ofv).map Fe.no↔ofv e=true):=fun e he=>by
  constructor
  ·intro h
   obtain ⟨x,hx,hxe⟩:=List.mem_map.1 h
   exact no_inj hn (List.mem_filter.1 hx).1 he hxe▸(List.mem_filter.1 hx).2
  ·exact fun h=>List.mem_map_of_mem (List.mem_filter.2 ⟨he,h⟩)
 obtain ⟨M,hM⟩:∃M,M=putZ ((posL f ofv offers).map Fe.no) (clrF n ((posL f ofv offers).map (dueE f))) (zeroM (offers.filter ofv) m):=⟨_,rfl⟩
 rw[←hM]
 obtain ⟨s,hs⟩:∃s,s=clrF n ((posL f ofv offers).map (dueE f)):=⟨_,rfl⟩
 rw[←hs]at R hM
 have hlen:s.length=(posL f ofv offers).length:=by rw[R.caps.len,List.length_map]
 have hat:∀i (hi:i<(posL f ofv offers).length),gI (posL f ofv offers)[i].no M=s.getD i 0:=fun i hi=>by
  have:=gI_putZ_at ((posL f ofv offers).map Fe.no) s (zeroM (offers.filter ofv) m) i hsub (by rw[List.length_map,hlen]) (by rw[List.length_map];exact hi)
  rw[←hM,List.getD_eq_getElem?_getD,List.getElem?_map,List.getElem?_eq_getElem hi]at this
  exact this
 have hmap:s=(posL f ofv offers).map fun e=>gI e.no M:=by
  apply List.ext_getElem
  ·rw[List.length_map,hlen]
  ·intro i h1 h2
   rw[List.getElem_map,hat i (by rw[←hlen];exact h1),List.getD_eq_getElem?_getD,List.getElem?_eq_getElem h1];rfl
 have hnot:∀e,e∈offers→¬e∈posL f ofv offers→gI e.no M=if ofv e=true then 0 else gI e.no m:=fun e he h=>by
  rw[hM,gI_putZ_not _ _ _ fun h2=>h ((hin e he).1 h2),gI_zeroM]
  by_cases h3:ofv e=true
  ·rw[if_pos ((hinF e he).2 h3),if_pos h3]
  ·rw[if_neg fun h4=>h3 ((hinF e he).1 h4),if_neg h3]
 have hcap:∀e,e∈posL f ofv offers→0≤gI e.no M∧gI e.no M≤f e:=fun e he=>by
  obtain ⟨i,hi,rfl⟩:=List.mem_iff_getElem.1 he
  have h1:=R.caps.lo i (by rw[List.length_map];exact hi)
  have h2:=R.caps.hi i (by rw[List.length_map];exact hi)
  rw[hat i hi]
  rw[List.getD_eq_getElem?_getD (l:=List.map _ _),List.getElem?_map,List.getElem?_eq_getElem hi]at h2
  exact ⟨h1,h2⟩
 refine ⟨fun e he ho=> ?_,fun k hk=> ?_,fun e he ho hf=> ?_,fun e he ho=> ?_,fun e he ho hf=> ?_,fun v h0 h1=> ?_,fun κ c hκ hb e he ho hf hc=> ?_⟩
 ·rw[hnot e he (fun h=>by rw[(posL_mem.1 h).2.1]at ho;cases ho),if_neg (by rw[ho];decide)]
 ·rw[hM,gI_putZ_not,gI_zeroM,if_neg]
  ·intro h
   obtain ⟨x,hx,rfl⟩:=List.mem_map.1 h
   exact hk (List.mem_map_of_mem (List.mem_filter.1 hx).1)
  ·intro h
   obtain ⟨x,hx,rfl⟩:=List.mem_map.1 h
   exact hk (List.mem_map_of_mem (posL_mem.1 hx).1)
 ·rw[hnot e he (fun h=>by have:=(posL_mem.1 h).2.2;omega),if_pos ho]
 ·by_cases hf:0<f e
  ·exact (hcap e (posL_mem.2 ⟨he,ho,hf⟩)).1
  ·rw[hnot e he (fun h=>hf (posL_mem.1 h).2.2),if_pos ho];exact Int.le_refl _
 ·exact (hcap e (posL_mem.2 ⟨he,ho,hf⟩)).2
 ·have h2:=R.net v h0 h1
  rw[hmap,netT_map]at h2
  rw[←h2]
  refine (netE_filter (fun e=>decide (0<f e)) fun e he hp=> ?_).symm
  obtain ⟨h3,h4⟩:=List.mem_filter.1 he
  rw[hnot e h3 (fun h=>by have:=(posL_mem.1 h).2.2;simp at hp;omega),if_pos h4]
 ·obtain ⟨i,hi,hie⟩:=List.mem_iff_getElem.1 (posL_mem.2 ⟨he,ho,hf⟩)
  have hd:∀j (hj:j<(posL f ofv offers).length),((posL f ofv offers).map (dueE f)).getD j default=dueE f (posL f ofv offers)[j]:=fun j hj=>by
   rw[List.getD_eq_getElem?_getD,List.getElem?_map,List.getElem?_eq_getElem hj];rfl
  have:=R.loc κ c (fun j hj=>by
   rw[List.length_map]at hj
   rw[hd j hj]
   obtain ⟨q1,q2,q3⟩:=posL_mem.1 (List.getElem_mem hj)
   exact hκ _ q1 q2 q3) (fun v h0 h1 h2=>by
   rw[List.map_map,show (Du.sum∘dueE f)=f from rfl,netT_map]
   exact hb v h0 h1 h2) i (by rw[List.length_map];exact hi) (by rw[hd i hi,hie];exact hc)
  rw[hd i hi,hie]at this
  rw[←hie,hat i hi,hie]
  exact this
theorem chkK1_no {n rooms:Int} {e z:Fe} {b:Bool} {i j k l:Int} (h:chkVKc1 n rooms e b z i j k l=0):b=true∧0≤e.no∧e.no<1000:=by
 unfold chkVKc1 at h
 split at h
 ·cases h
 ·rename_i hc
  simp only[Bool.not_eq_true]at hc
  simp only[bb,withV]at hc
  exact ⟨hc.1.1.1,hc.2⟩
theorem chkK2_no {n rooms:Int} {e:Fe} {b:Bool} (h:chkVKc2 n rooms e b=0):0≤e.no∧e.no<1000:=by
 unfold chkVKc2 at h
 split at h
 ·exact (chkK1_no h).2
 ·split at h
  ·exact (chkK1_no h).2
  ·split at h
   ·exact (chkK1_no h).2
   ·split at h<;>exact (chkK1_no h).2
theorem chk_no {n rooms:Int} {e:Fe} (h:chkV n rooms e=0):0≤e.no∧e.no<1000:=by
 unfold chkV at h
 split at h
 ·exact (chkK1_no h).2
 ·split at h<;>exact chkK2_no h
theorem chk_offer {n rooms:Int} {e:Fe} (h:chkV n rooms e=0) (h0:e.kind=0) (hs:In64 e.sum):(0≤e.fr∧e.fr<n)∧(0≤e.to_∧e.to_<n)∧e.fr≠e.to_∧1≤e.sum∧e.sum≤1099511627776:=by
 unfold chkV at h
 rw[if_pos h0]at h
 have h1:=(chkK1_no h).1
 simp only[bb,withV]at h1
 obtain ⟨⟨⟨⟨⟨⟨⟨⟨_,_⟩,_⟩,h2⟩,h3⟩,h4⟩,_⟩,_⟩,h5,h6⟩:=h1
 refine ⟨h2,h3,h4,?_⟩
 have hs1:=hs.1
 have hs2:=hs.2
 rw[IntKind.wrap_i64]at h5 h6
 omega
def okF (n:Nat) (e:Fe):Prop:=(0≤e.fr∧e.fr<n)∧(0≤e.to_∧e.to_<n)∧e.fr≠e.to_∧1≤e.sum∧e.sum≤1099511627776
structure FI (n:Nat) (offers:List Fe) (m:List (Int×Int)):Prop where
 nd:(offers.map Fe.no).Nodup
 in_:∀e,e∈offers→okF n e
 bnd:∀e,e∈offers→0≤gI e.no m∧gI e.no m≤e.sum
 key:∀k,¬k∈offers.map Fe.no→gI k m=0
 circ:∀(g:Grp) (v:Int),0≤v→v<n→netE (fun e=>gI e.no m) (offers.filter fun e=>eqb_Grp (ofV e) g) v=0
theorem fi_nil {n:Nat} {offers:List Fe} (h1:(offers.map Fe.no).Nodup) (h2:∀e,e∈offers→okF n e):FI n offers []:=
 ⟨h1,h2,fun e he=>⟨Int.le_refl _,by have:=h2 e he;unfold okF at this;show (0:Int)≤_;omega⟩,fun _ _=>rfl,fun g v _ _=>netE_zero fun e _=> .inl rfl⟩
theorem dues_of {n:Nat} {offers:List Fe} {f:Fe→Int} {ofv:Fe→Bool} {m:List (Int×Int)} (h1:1≤n) (h40:n≤40) (hl:offers.length≤100) (h2:∀e,e∈offers→okF n e) (hf:∀e,e∈offers→ofv e=true→f e≤e.sum):DuesX n (stlF f ofv offers ([],[],m)).1:=by
 have hT:=stlF_eq f ofv offers ([],[],m)
 simp only[List.nil_append]at hT
 rw[hT]
 dsimp only
 have hm:∀d,d∈(posL f ofv offers).map (dueE f)→∃e,e∈offers∧ofv e=true∧0<f e∧d=dueE f e:=fun d hd=>by
  obtain ⟨e,he,rfl⟩:=List.mem_map.1 hd
  obtain ⟨q1,q2,q3⟩:=posL_mem.1 he
  exact ⟨e,q1,q2,q3,rfl⟩
 have hlen:(posL f ofv offers).length≤offers.length:=Nat.le_trans (List.length_filter_le _ _) (List.length_filter_le _ _)
 refine {in_:=⟨fun d hd=> ?_,fun d hd=> ?_⟩,sum:=fun d hd=> ?_,n40:=h40,l100:=by rw[List.length_map];omega,top:=fun d hd=> ?_,n1:=h1,diff:=fun d hd=> ?_,pos:=fun d hd=> ?_} <;>
  obtain ⟨e,q1,q2,q3,rfl⟩:=hm d hd<;>have q4:=h2 e q1<;>have q5:=hf e q1 q2<;>unfold okF at q4<;>simp only[dueE]<;>first|omega|exact q4.1|exact q4.2.1|exact q4.2.2.1
theorem fi_settle {n:Nat} {offers:List Fe} {f:Fe→Int} {g:Grp} {m:List (Int×Int)} (h:FI n offers m) (h1:1≤n) (h40:n≤40) (hl:offers.length≤100) (hf:∀e,e∈offers→eqb_Grp (ofV e) g=true→f e≤e.sum):FI n offers (settleV n f (fun e=>eqb_Grp (ofV e) g) offers m):=by
 have S:=settle_spec (m:=m) h.nd (dues_of h1 h40 hl h.in_ hf).toDuesOK
 refine ⟨h.nd,h.in_,fun e he=> ?_,fun k hk=>by rw[S.key k hk];exact h.key k hk,fun g' v v0 v1=> ?_⟩
 ·cases ho:eqb_Grp (ofV e) g with
  |false=>rw[S.off e he ho];exact h.bnd e he
  |true=>
   refine ⟨S.lo e he ho,?_⟩
   have h2:=h.in_ e he
   unfold okF at h2
   by_cases hp:0<f e
   ·exact Int.le_trans (S.hi e he ho hp) (hf e he ho)
   ·rw[S.zero e he ho (by omega)];omega
 ·by_cases e:g'=g
  ·subst e;exact S.circ v v0 v1
  ·rw[netE_congr (h':=fun e=>gI e.no m) fun x hx=> ?_]
   ·exact h.circ g' v v0 v1
   ·obtain ⟨q1,q2⟩:=List.mem_filter.1 hx
    refine S.off x q1 ?_
    cases hb:eqb_Grp (ofV x) g with
    |false=>rfl
    |true=>exact absurd (((eqb_Grp_iff _ _).1 q2).symm.trans ((eqb_Grp_iff _ _).1 hb)) e
theorem fi_cls {n:Nat} {offers:List Fe} (h1:1≤n) (h40:n≤40) (hl:offers.length≤100):∀(l:List Fe) (seen:List Grp) (m:List (Int×Int)),FI n offers m→FI n offers (clsF n offers l seen m):=by
 intro l
 induction l with
 |nil=>intro seen m h;exact h
 |cons e l ih=>
  intro seen m h
  rw[clsF]
  split
  ·exact ih _ _ h
  ·exact ih _ _ (fi_settle h h1 h40 hl fun e _ _=>Int.le_refl _)
theorem gI_bfM {m:List (Int×Int)} :∀(l:List Fe) (M:List (Int×Int)) (k:Int),gI k (bfM m l M)=if k∈l.map Fe.no then gI k m else gI k M:=by
 intro l
 induction l with
 |nil=>intro M k;simp[bfM]
 |cons e l ih=>
  intro M k
  rw[bfM,ih,gI_put]
  by_cases h1:k∈l.map Fe.no
  ·rw[if_pos h1,if_pos (by rw[List.map_cons];exact List.mem_cons_of_mem _ h1)]
  ·rw[if_neg h1]
   by_cases h2:k=e.no
   ·rw[if_pos h2,if_pos (by rw[h2,List.map_cons];exact List.mem_cons_self),h2]
   ·rw[if_neg h2,if_neg (by rw[List.map_cons,List.mem_cons];exact fun h=>h.elim h2 h1)]
theorem reF_eq {n:Nat} {offers:List Fe} {m:List (Int×Int)} {no:Int} {e:Fe} (he:e∈offers):reF no (bfM m offers []) e=if e.no=no then 0 else gI e.no m:=by
 unfold reF
 rw[gI_bfM,if_pos (List.mem_map_of_mem he)]
theorem reF_le {n:Nat} {offers:List Fe} {m:List (Int×Int)} {no:Int} (h:FI n offers m) {e:Fe} (he:e∈offers):reF no (bfM m offers []) e≤e.sum:=by
 rw[reF_eq (n:=n) he]
 have h2:=h.in_ e he
 have h3:=h.bnd e he
 unfold okF at h2
 split<;>omega
theorem fi_re {n:Nat} {offers:List Fe} {m:List (Int×Int)} {no:Int} (h:FI n offers m) (h1:1≤n) (h40:n≤40) (hl:offers.length≤100):FI n offers (reM n no offers m):=
 fi_settle h h1 h40 hl fun e he _=>reF_le h he
theorem cnt_mem {n rooms cl:Int} {l:List Fe} {e:Fe} (h:e∈cntV n rooms cl l):e∈l∧chkV n rooms e=0∧e.kind=0:=by
 unfold cntV at h
 split at h
 ·obtain ⟨_,h2⟩:=cofF_nodup (ev:=evT n rooms cl l) (le:=leasT n rooms cl l) (cl:=cl) (evT n rooms cl l) [] (fun _ h=>h) (fun e h=>by cases h) (by simp)
  have h3:=h2 e ((List.mergeSort_perm _ _).mem_iff.1 h)
  obtain ⟨h4,h5⟩:=List.mem_filter.1 h3.1
  unfold evB at h5
  simp only[Bool.and_eq_true,decide_eq_true_eq]at h5
  exact ⟨h4,h5.1,h3.2.1⟩
 ·cases h
theorem cnt_nodup (n rooms cl:Int) (l:List Fe):((cntV n rooms cl l).map Fe.no).Nodup:=by
 unfold cntV
 split
 ·obtain ⟨h1,_⟩:=cofF_nodup (ev:=evT n rooms cl l) (le:=leasT n rooms cl l) (cl:=cl) (evT n rooms cl l) [] (fun _ h=>h) (fun e h=>by cases h) (by simp)
  exact (((List.mergeSort_perm _ _).map Fe.no).nodup_iff).2 h1
 ·simp
theorem cnt_len (n rooms cl:Int) (l:List Fe):(cntV n rooms cl l).length≤l.length:=by
 unfold cntV
 split
 ·unfold sortFe
  rw[List.length_mergeSort]
  have h1:=cofF_len (evT n rooms cl l) (leasT n rooms cl l) cl (evT n rooms cl l) []
  have h2:=evT_len n rooms cl l
  simp only[List.length_nil,Nat.zero_add]at h1
  omega
 ·simp
theorem ev_no {n rooms cl:Int} {l:List Fe} {e:Fe} (h:e∈evT n rooms cl l):0≤e.no∧e.no<1000:=by
 obtain ⟨_,h5⟩:=List.mem_filter.1 h
 unfold evB at h5
 simp only[Bool.and_eq_true,decide_eq_true_eq]at h5
 exact chk_no h5.1
theorem cnt_ok {n:Nat} {rooms cl:Int} {l:List Fe} (hs:∀e,e∈l→In64 e.sum):∀e,e∈cntV n rooms cl l→okF n e:=fun e he=>by
 obtain ⟨h1,h2,h3⟩:=cnt_mem he
 exact chk_offer h2 h3 (hs e h1)
structure FS (n:Nat) (rooms cl:Int) (l:List Fe) (k:Nat):Prop where
 op:(runS n rooms cl l k).cd=false→(runS n rooms cl l k).offers= []∧(runS n rooms cl l k).m= []
 cl_:(runS n rooms cl l k).cd=true→FI n (runS n rooms cl l k).offers (runS n rooms cl l k).m∧(runS n rooms cl l k).offers.length≤100
theorem fs_all {n:Nat} {rooms cl:Int} {l:List Fe} (h1:1≤n) (h40:n≤40) (hl:l.length≤100) (hs:∀e,e∈l→In64 e.sum):∀k,k≤l.length→FS n rooms cl l k:=by
 intro k
 induction k with
 |zero=>intro _;exact ⟨fun _=>⟨rfl,rfl⟩,fun h=>by cases h⟩
 |succ k ih=>
  intro hk
  have h:=ih (by omega)
  have ht:∀e,e∈l.take k→In64 e.sum:=fun e he=>hs e (List.mem_of_mem_take he)
  have hc:(cntV n rooms cl (l.take k)).length≤100:=by have:=cnt_len n rooms cl (l.take k);rw[List.length_take]at this;omega
  have e0:runS n rooms cl l (k+1)=stepR n rooms cl (runS n rooms cl l k) (l.getD k default) (l.take k):=rfl
  unfold stepR at e0
  split at e0
  ·rename_i hcd
   obtain ⟨f1,f2⟩:=h.cl_ hcd
   split at e0
   ·constructor
    ·intro hx;rw[e0]at hx;cases hx
    ·intro _;rw[e0];exact ⟨fi_re f1 h1 h40 f2,f2⟩
   ·constructor
    ·intro hx;rw[e0]at hx;cases hx
    ·intro _;rw[e0];exact ⟨f1,f2⟩
  ·split at e0
   ·constructor
    ·intro hx;rw[e0]at hx;cases hx
    ·intro _;rw[e0];exact ⟨fi_cls h1 h40 hc _ _ _ (fi_nil (cnt_nodup _ _ _ _) (cnt_ok ht)),hc⟩
   ·constructor
    ·intro _;rw[e0];exact ⟨rfl,rfl⟩
    ·intro hx;rw[e0]at hx;cases hx
theorem run_ok_all {n:Nat} {rooms cl:Int} {l:List Fe} (h1:1≤n) (h40:n≤40) (hl:l.length≤100) (hs:∀e,e∈l→In64 e.sum):RunOK n rooms cl l:=by
 have hF:=fs_all (rooms:=rooms) (cl:=cl) h1 h40 hl hs
 refine ⟨fun k hk _ _=>⟨fun e he=>ev_no he,fun g m0=> ?_,?_⟩,fun k hk hcd _=> ?_,fun k hk=> ?_⟩
 ·exact dues_of h1 h40 (by have:=cnt_len n rooms cl (l.take k);rw[List.length_take]at this;omega) (cnt_ok fun e he=>hs e (List.mem_of_mem_take he)) fun e _ _=>Int.le_refl _
 ·have:=cnt_len n rooms cl (l.take k);rw[List.length_take]at this;omega
 ·obtain ⟨f1,f2⟩:=(hF k (by omega)).cl_ hcd
  exact dues_of h1 h40 f2 f1.in_ fun e he _=>reF_le f1 he
 ·cases hcd:(runS n rooms cl l k).cd with
  |true=>exact ((hF k hk).cl_ hcd).2
  |false=>rw[((hF k hk).op hcd).1];simp
open Go.RowKit
theorem Run_ok (n:Nat) (rooms cl:Int) (l:List Fe) (hl:l.length≤100) (hf:fitV n rooms cl l=true) (hok:RunOK n rooms cl l):GC Tryz.prog 5 [iG n,iG rooms,iG cl,.d (.row default feC l)] (.tup [(.d (.row default foC (runS n rooms cl l l.length).out)),(.d (.row (0:Int) inC (runS n rooms cl l l.length).errs))]):=by
 refine gc_of_gk Tryz.func5 ?_
 refine gk_region env false [] [0,1,2,3,8,9] ?_
 refine gk_region env false [.call (fit_ok n rooms cl l)] [0,1,2,3,8,9,18] ?_
 refine gk_if (fun c1=> ?_) (fun c1=> ?_)
 ·simp only[bb]at c1
  rw[hf]at c1;cases c1
 cases hcd:(runS n rooms cl l l.length).cd with
 |false=>
  refine gk_region env false [.callm [] (run0_ok n rooms cl l hl hok hcd)] [11,12] ?_
  refine gk_region env false [] [8,9] ?_
  refine gk_ret env ?_
  rfl
 |true=>
  refine gk_region env false [.callm [] (run1_ok n rooms cl l hl hok hcd)] [11,12] ?_
  refine gk_region env false [] [8,9] ?_
  refine gk_ret env ?_
  rfl
theorem Run_no (n rooms cl:Int) (l:List Fe) (hf:fitV n rooms cl l=false):GC Tryz.prog 5 [iG n,iG rooms,iG cl,.d (.row default feC l)] (.tup [.d (.row default foC []),.d (.row (0:Int) inC [])]):=by
 refine gc_of_gk Tryz.func5 ?_
 refine gk_region env false [] [0,1,2,3,8,9] ?_
 refine gk_region env false [.call (fit_ok n rooms cl l)] [0,1,2,3,8,9,18] ?_
 refine gk_if (fun c1=> ?_) (fun c1=> ?_)
 ·refine gk_region env false [] [8,9] ?_
  refine gk_retE env ?_
  exact Ent.tup ⟨Ent.nil,Ent.nil,trivial⟩
 ·simp only[bb]at c1
  rw[hf]at c1;cases c1
theorem Cleared_ok (n:Nat) (rooms cl:Int) (l:List Fe) (hl:l.length≤100) (hf:fitV n rooms cl l=true) (hok:RunOK n rooms cl l) (hcd:(runS n rooms cl l l.length).cd=true):GC Tryz.prog 8 [iG n,iG rooms,iG cl,.d (.row default feC l)] (.d (.row default foC (outV (runS n rooms cl l l.length).offers (runS n rooms cl l l.length).m))):=by
 have ho:=hok.len l.length (Nat.le_refl _)
 refine gc_of_gk Tryz.func8 ?_
 refine gk_region env false [] [0,1,2,3,8] ?_
 refine gk_region env false [.call (fit_ok n rooms cl l)] [0,1,2,3,8,17] ?_
 refine gk_if (fun c1=> ?_) (fun c1=> ?_)
 ·simp only[bb]at c1
  rw[hf]at c1;cases c1
 refine gk_region env false [.callm [] (run1_ok n rooms cl l hl hok hcd)] [9] ?_
 refine gk_region env false [.callm [0,1] (outs_ok n rooms cl true (runS n rooms cl l l.length).offers (runS n rooms cl l l.length).m (by omega))] [8] ?_
 refine gk_ret env ?_
 rfl
def row_inC (l:List Int):List D:=[.row default inC l]
def clgVL (l:List Fe) (es:List Int) (k1:Nat):Int:=if (bif decide ((k1:Int)<(l.length:Int))then decide ((k1:Int)<(es.length:Int))else false)=true then if (bif decide (((l.getD k1 default).kind)=4)then decide ((es.getD k1 default)=0)else false)=true then (k1:Int)else clgVL l es (k1+1)else (-1)
termination_by es.length-k1
decreasing_by all_goals first|omega|(simp only[bb]at*;omega)
def clgV (l:List Fe) (es:List Int):Int:=clgVL l es 0
theorem clg_ok (l:List Fe) (es:List Int) (hl:l.length≤1000000) (hl2:es.length≤1000000):GC Tryz.prog 6 [.d (.row default feC l),.d (.row default inC es)] (iG (clgV l es)):=by
 refine gc_of_gk Tryz.func6 ?_
 refine gk_region env false [] [0,1,4] ?_
 refine gk_region env false [] [0,1,4,5] ?_
 refine gk_loop (α:=Nat) (fun x=>x≤es.length∧clgVL l es 0=clgVL l es x) (fun x=>[(5,iG x)]) (fun x=>[]) (fun x=>es.length-x) 0 ⟨by (try simp only[]);omega,rfl⟩ ?_ (hp:=by simp[AllP]<;>rfl)
 rintro k1 ⟨hi1,he⟩
 refine gk_region env false [] [0,1,4,5,15] ?_
 refine gk_if (fun c1=> ?_) (fun c1=> ?_)
 ·try simp only[bb,toN]at c1
  refine gk_region env false [] [0,1,4,5,30] ?_
  refine gk_if (fun c2=> ?_) (fun c2=> ?_)
  ·try simp only[bb,toN]at c2
   refine gk_region env false [] [0,1,4,5] ?_
   refine gk_ret env ?_
   rw[clgV,he,clgVL,if_pos (by (try simp only[bb,toN]);exact c1),if_pos (by (try simp only[bb,toN]);exact c2)];rfl
  ·try simp only[bb,toN]at c2
   refine gk_region env false [] [0,1,4,5] ?_
   refine gk_round (k1+1) ?_ (hp:=by simp[AllP]<;>rfl)
   refine ⟨by (try simp only[]);omega,he.trans ?_⟩
   rw[clgVL,if_pos (by (try simp only[bb,toN]);exact c1),if_neg (by rw[Bool.not_eq_true];(try simp only[bb,toN]);exact c2)]
   try rfl
 ·try simp only[bb,toN]at c1
  refine gk_region env false [] [4] ?_
  refine gk_ret env ?_
  rw[clgV,he,clgVL,if_neg (by rw[Bool.not_eq_true];(try simp only[bb,toN]);exact c1)];rfl
def sumOL (l:List Fo) (no:Int) (k1:Nat):Int:=if k1<l.length then if ((l.getD k1 default).no)=no then (l.getD k1 default).sum else sumOL l no (k1+1)else 0
termination_by l.length-k1
def sumO (l:List Fo) (no:Int):Int:=sumOL l no 0
theorem sumO_ok (l:List Fo) (no:Int) (hl:l.length≤1000000):GC Tryz.prog 9 [.d (.row default foC l),iG no] (iG (sumO l no)):=by
 refine gc_of_gk Tryz.func9 ?_
 refine gk_region env false [] [0,1,4] ?_
 refine gk_region env false [] [0,1,4,5] ?_
 refine gk_loop (α:=Nat) (fun x=>x≤l.length∧sumOL l no 0=sumOL l no x) (fun x=>[(5,iG x)]) (fun x=>[]) (fun x=>l.length-x) 0 ⟨by (try simp only[]);omega,rfl⟩ ?_ (hp:=by simp[AllP]<;>rfl)
 rintro k1 ⟨hi1,he⟩
 refine gk_region env false [] [0,1,4,5,9] ?_
 refine gk_ifd (fun c1=> ?_) (fun c1=> ?_)
 ·try simp only[toN]at c1
  refine gk_region env false [] [0,1,4,5,18] ?_
  refine gk_ifd (fun c2=> ?_) (fun c2=> ?_)
  ·try simp only[toN]at c2
   refine gk_region env false [] [0,1,4,5] ?_
   refine gk_ret env ?_
   rw[sumO,he,sumOL,if_pos (by omega),if_pos c2];rfl
  ·try simp only[toN]at c2
   refine gk_region env false [] [0,1,4,5] ?_
   refine gk_round (k1+1) ?_ (hp:=by simp[AllP]<;>rfl)
   refine ⟨by (try simp only[]);omega,he.trans ?_⟩
   rw[sumOL,if_pos (by omega),if_neg c2]
   try rfl
 ·try simp only[toN]at c1
  refine gk_region env false [] [4] ?_
  refine gk_ret env ?_
  rw[sumO,he,sumOL,if_neg (by omega)];rfl
def grpOL2 (gs:List (List Int)) (v:Int) (k1:Nat) (k2:Nat):Sum Int Unit:=if k2<(gs.getD k1 default).length then if ((gs.getD k1 default).getD k2 default)=v then .inl (k1:Int)else grpOL2 gs v k1 (k2+1)else .inr ()
termination_by (gs.getD k1 default).length-k2
decreasing_by all_goals first|omega|(simp only[bb]at*;omega)
def grpOL (gs:List (List Int)) (v:Int) (k1:Nat):Int:=if k1<gs.length then (match grpOL2 gs v k1 0 with| .inl r=>r| .inr ⟨⟩=>grpOL gs v (k1+1))else (-1)
termination_by gs.length-k1
def grpO (gs:List (List Int)) (v:Int):Int:=grpOL gs v 0
theorem grpO_ok (gs:List (List Int)) (v:Int) (hl:gs.length≤1000000) (hl2:∀i,(gs.getD i default).length≤1000000):GC Tryz.prog 11 [.d (.row default row_inC gs),iG v] (iG (grpO gs v)):=by
 refine gc_of_gk Tryz.func11 ?_
 refine gk_region env false [] [0,1,4] ?_
 refine gk_region env false [] [0,1,4,5] ?_
 refine gk_loop (α:=Nat) (fun x=>x≤gs.length∧grpOL gs v 0=grpOL gs v x) (fun x=>[(5,iG x)]) (fun x=>[]) (fun x=>gs.length-x) 0 ⟨by (try simp only[]);omega,rfl⟩ ?_ (hp:=by simp[AllP]<;>rfl)
 rintro k1 ⟨hi1,he⟩
 refine gk_region env false [] [0,1,4,5,10] ?_
 refine gk_ifd (fun c1=> ?_) (fun c1=> ?_)
 ·try simp only[toN]at c1
  have hl3:=hl2 k1
  refine gk_region env false [] [0,1,4,5,6] ?_
  refine gk_loop (α:=Nat) (fun x=>x≤(gs.getD k1 default).length∧grpOL2 gs v k1 0=grpOL2 gs v k1 x) (fun x=>[(6,iG x)]) (fun x=>[]) (fun x=>(gs.getD k1 default).length-x) 0 ⟨by (try simp only[]);omega,rfl⟩ ?_ (hp:=by simp[AllP]<;>rfl)
  rintro k2 ⟨hi2,he2⟩
  refine gk_region env false [] [0,1,4,5,6,19] ?_
  refine gk_ifd (fun c2=> ?_) (fun c2=> ?_)
  ·try simp only[toN]at c2
   refine gk_region env false [] [0,1,4,5,6,30] ?_
   refine gk_ifd (fun c3=> ?_) (fun c3=> ?_)
   ·try simp only[toN]at c3
    refine gk_region env false [] [0,1,4,5,6] ?_
    refine gk_ret env ?_
    rw[grpO,he,grpOL,if_pos (by omega),he2,grpOL2,if_pos (by omega),if_pos c3];rfl
   ·try simp only[toN]at c3
    refine gk_region env false [] [0,1,4,5,6] ?_
    refine gk_round (k2+1) ?_ (hp:=by simp[AllP]<;>rfl)
    refine ⟨by (try simp only[]);omega,he2.trans ?_⟩
    rw[grpOL2,if_pos (by omega),if_neg c3]
    try rfl
  ·try simp only[toN]at c2
   refine gk_region env false [] [0,1,4,5] ?_
   refine gk_round (k1+1) ?_ (hp:=by simp[AllP]<;>rfl)
   refine ⟨by (try simp only[]);omega,he.trans ?_⟩
   rw[grpOL,if_pos (by omega),he2,grpOL2,if_neg (by omega)]
   try rfl
 ·try simp only[toN]at c1
  refine gk_region env false [] [4] ?_
  refine gk_ret env ?_
  rw[grpO,he,grpOL,if_neg (by omega)];rfl
def edC (e:Int×Int):List D:=[.sc (.int .i64 e.1),.sc (.int .i64 e.2)]
def boC (b:Bool):List D:=[.sc (.bool b)]
def row_boC (l:List Bool):List D:=[.row default boC l]
def grR (n:Int):List (Int×Int)→Bool
 | []=>true
 |e::l=>if e.1<0∨n≤e.1∨e.2<0∨n≤e.2 then false else grR n l
def rightG (n:Int) (es:List (Int×Int)):Bool:=if n<0∨300<n∨2000<es.length then false else grR n es
def nxtV (n:Nat) (es:List (Int×Int)):List (List Int):=(List.range n).map fun a=>Lib.compact ((((es.filter fun e=>decide (e.1=((a:Nat):Int)))).map (·.2)).mergeSort fun x y=>decide (x≤y))
theorem gright_ok (n:Int) (es:List (Int×Int)) (hl:es.length≤1000000):GC Tryz.prog 29 [iG n,.d (.row default edC es)] (bG (rightG n es)):=by
 refine gc_of_gk Tryz.func29 ?_
 refine gk_region env false [] [0,1,4] ?_
 refine gk_region env false [] [0,1,4,17] ?_ (hp:=(by simp only[AllP,bb,toN,loI,hiI];repeat' first|exact trivial|exact EntL.refl _|exact BEntL.refl _|exact rfl|exact look_I _ _|exact mput_I _ _ _|omega|apply And.intro|intro _))
 refine gk_if (fun c1=> ?_) (fun c1=> ?_)
 ·try simp only[bb,toN]at c1
  refine gk_region env false [] [0,1,4] ?_
  refine gk_ret env ?_
  rw[rightG,if_pos (by omega)];rfl
 ·try simp only[bb,toN]at c1
  refine gk_region env false [] [0,4,18,19,20] ?_
  refine gk_loop (α:=Nat) (fun k=>k≤es.length∧grR n es=grR n (es.drop k)) (fun k=>[(20,iG k)]) (fun k=>[]) (fun k=>es.length-k) 0 ⟨Nat.zero_le _,rfl⟩ ?_ (hp:=by (try simp only[AllP,Nat.zero_add]);repeat' first|exact trivial|exact rfl|exact EntL.refl _|exact BEntL.refl _|omega|apply And.intro|(simp;done)|(simp[*];done))
  rintro k ⟨hk,he⟩
  refine gk_region env false [] [0,4,18,19,20,21] ?_
  refine gk_ifd (fun c2=> ?_) (fun c2=> ?_)
  ·try simp only[toN]at c2
   have hk2:k<es.length:=by omega
   refine gk_region env false [] [0,4,6,18,19,20] ?_ (hp:=(by simp only[AllP,bb,toN,loI,hiI];repeat' first|exact trivial|exact EntL.refl _|exact BEntL.refl _|exact rfl|exact look_I _ _|exact mput_I _ _ _|omega|apply And.intro|intro _))
   refine gk_region env false [.bx (iG (es.getD k default).1),.bx (iG (es.getD k default).1),.bx (iG (es.getD k default).2),.bx (iG (es.getD k default).2)] [0,4,18,19,20,43] ?_ (hp:=(by simp only[AllP,bb,toN,loI,hiI];repeat' first|exact trivial|exact EntL.refl _|exact BEntL.refl _|exact rfl|exact look_I _ _|exact mput_I _ _ _|omega|apply And.intro|intro _))
   refine gk_if (fun c3=> ?_) (fun c3=> ?_)
   ·try simp only[bb,toN]at c3
    refine gk_region env false [] [0,4,18,19,20] ?_
    refine gk_ret env ?_
    rw[dropC hk2,grR,if_pos (by omega)]at he
    rw[rightG,if_neg (by omega),he];rfl
   ·try simp only[bb,toN]at c3
    refine gk_region env false [] [0,4,18,19,20] ?_ (hp:=(by simp only[AllP,bb,toN,loI,hiI];repeat' first|exact trivial|exact EntL.refl _|exact BEntL.refl _|exact rfl|exact look_I _ _|exact mput_I _ _ _|omega|apply And.intro|intro _))
    refine gk_round (k+1) ?_ (hp:=by (try simp only[AllP,Nat.zero_add]);repeat' first|exact trivial|exact rfl|exact EntL.refl _|exact BEntL.refl _|omega|apply And.intro|(simp;done)|(simp[*];done))
    rw[dropC hk2,grR,if_neg (by omega)]at he
    exact ⟨hk2,he⟩
  ·try simp only[toN]at c2
   refine gk_region env false [] [4] ?_
   refine gk_ret env ?_
   rw[dropN (by omega),grR]at he
   rw[rightG,if_neg (by omega),he];rfl
end Go.Gh
