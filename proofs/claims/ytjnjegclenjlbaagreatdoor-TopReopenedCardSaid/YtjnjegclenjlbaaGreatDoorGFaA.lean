/- Walks by the logic of calls, and plain laws. -/
import Derived.Test.YtjnjegclenjlbaaGreatDoorM1
namespace Go.Gh
open Go Go.Proofs
set_option maxRecDepth 1000000
set_option maxHeartbeats 2000000
set_option linter.unusedSimpArgs false
set_option linter.unusedVariables false
set_option linter.unnecessarySimpa false
open Go.RowKit
structure Du where
 fr:Int
 to_:Int
 sum:Int
deriving DecidableEq
instance :Inhabited Du:=⟨⟨0,0,0⟩⟩
structure Stp where
 due:Int
 fr:Int
 to_:Int
 cost:Int
 most:Int
 back:Bool
deriving DecidableEq
instance :Inhabited Stp:=⟨⟨0,0,0,0,0,false⟩⟩
structure Cst where
 c:Int
 steps:Int
 fine:Bool
deriving DecidableEq
instance :Inhabited Cst:=⟨⟨0,0,false⟩⟩
def ltP (a b:Int×Int):Prop:=a.1<b.1∨(a.1=b.1∧a.2<b.2)
def leP (a b:Int×Int):Prop:=a.1<b.1∨(a.1=b.1∧a.2≤b.2)
structure Alg (α:Type) where
 onw:α→Stp→α
 less:α→α→Bool
 dflt:α
 val:α→Option (Int×Int)
 k:Int
structure AlgOK {α:Type} (A:Alg α):Prop where
 onw:∀a s,A.val (A.onw a s)=(A.val a).map fun x=>(x.1+s.cost,x.2+A.k)
 less:∀a b,A.less a b=true↔∃x,A.val a=some x∧∀y,A.val b=some y→ltP x y
 k0:0≤A.k
 k1:A.k≤1
def getV {α:Type} (d:α) (l:List α) (v:Int):α:=l.getD v.toNat d
abbrev SrS (α:Type):Type:=List α×List Int×Bool
def relaxF {α:Type} (A:Alg α) (l:List Stp) (st:SrS α) (i:Nat):SrS α:=
 if A.less (A.onw (getV A.dflt st.1 (l.getD i default).fr) (l.getD i default)) (getV A.dflt st.1 (l.getD i default).to_)=true then
  (st.1.set (l.getD i default).to_.toNat (A.onw (getV A.dflt st.1 (l.getD i default).fr) (l.getD i default)),st.2.1.set (l.getD i default).to_.toNat (i:Int),true)
 else st
def roundF {α:Type} (A:Alg α) (l:List Stp) (st:SrS α) (i:Nat):SrS α:=
 if i<l.length then roundF A l (relaxF A l st i) (i+1)else st
termination_by l.length-i
def runF {α:Type} (A:Alg α) (l:List Stp):Nat→List α×List Int→List α×List Int
 |0,st=>st
 |k+1,st=>if (roundF A l (st.1,st.2,false) 0).2.2=true then runF A l k ((roundF A l (st.1,st.2,false) 0).1,(roundF A l (st.1,st.2,false) 0).2.1)
   else ((roundF A l (st.1,st.2,false) 0).1,(roundF A l (st.1,st.2,false) 0).2.1)
def Pot (p:Int→Int) (l:List Stp):Prop:=∀s,s∈l→p s.to_≤p s.fr+s.cost
structure StepsIn (n:Nat) (l:List Stp):Prop where
 fr:∀s,s∈l→0≤s.fr∧s.fr<n
 to_:∀s,s∈l→0≤s.to_∧s.to_<n
 cost:∀s,s∈l→-1≤s.cost∧s.cost≤1
def bOf {α:Type} (A:Alg α) (best:List α) (v:Int):Option (Int×Int):=A.val (getV A.dflt best v)
def WalkT (l:List Stp) (k:Int) (B:Int→Option (Int×Int)) (S:Int→Prop):Int→List Stp→Int×Int→Prop
 |v,[],x=>S v∧x=(0,0)∧∃z,B v=some z∧leP z x
 |v,s::p,x=>s∈l∧s.to_=v∧(∃z,B v=some z∧leP z x)∧∃y,WalkT l k B S s.fr p y∧x=(y.1+s.cost,y.2+k)
def vertsT (v:Int):List Stp→List Int
 | []=>[v]
 |s::p=>v::vertsT s.fr p
theorem vertsT_len (p:List Stp):∀v,(vertsT v p).length=p.length+1:=by
 induction p with
 |nil=>intro v;rfl
 |cons s p ih=>intro v;simp[vertsT,ih]
section
variable {l:List Stp} {k:Int} {B B':Int→Option (Int×Int)} {S:Int→Prop} {π:Int→Int}
theorem WalkT.mono (hB:∀v z,B v=some z→∃z',B' v=some z'∧leP z' z):∀ {p:List Stp} {v:Int} {x:Int×Int},WalkT l k B S v p x→WalkT l k B' S v p x:=by
 have tr:∀v x,(∃z,B v=some z∧leP z x)→∃z,B' v=some z∧leP z x:=fun v x ⟨z,h1,h2⟩=>by
  obtain ⟨z',h3,h4⟩:=hB v z h1
  exact ⟨z',h3,by unfold leP at*;omega⟩
 intro p
 induction p with
 |nil=>intro v x h;exact ⟨h.1,h.2.1,tr v x h.2.2⟩
 |cons s p ih=>
  intro v x h
  obtain ⟨h1,h2,h3,y,h4,h5⟩:=h
  exact ⟨h1,h2,tr v x h3,y,ih h4,h5⟩
theorem WalkT.at_ (hp:Pot π l) (hk:0≤k) {u:Int} :∀ {p:List Stp} {v:Int} {x:Int×Int},WalkT l k B S v p x→u∈vertsT v p→
 ∃y z,B u=some z∧leP z y∧y.1+π v-π u≤x.1∧y.2≤x.2:=by
 intro p
 induction p with
 |nil=>
  intro v x h hu
  obtain rfl:u=v:=by simpa [vertsT]using hu
  obtain ⟨_,_,z,h1,h2⟩:=h
  exact ⟨x,z,h1,h2,by omega,Int.le_refl _⟩
 |cons s p ih=>
  intro v x h hu
  obtain ⟨h1,h2,⟨z,h3,h3'⟩,y,h4,h5⟩:=h
  rcases List.mem_cons.1 hu with rfl|hu
  ·exact ⟨x,z,h3,h3',by omega,Int.le_refl _⟩
  ·obtain ⟨y',z',a1,a2,a3,a4⟩:=ih h4 hu
   have:=hp s h1
   subst h5
   subst h2
   refine ⟨y',z',a1,a2,?_,?_⟩<;>simp only<;>omega
theorem WalkT.len (hc:∀s,s∈l→-1≤s.cost∧s.cost≤1) (hk:0≤k) (hk1:k≤1):∀ {p:List Stp} {v:Int} {x:Int×Int},WalkT l k B S v p x→-(p.length:Int)≤x.1∧x.1≤p.length∧0≤x.2∧x.2≤p.length:=by
 intro p
 induction p with
 |nil=>intro v x h;obtain ⟨_,rfl,_⟩:=h;simp
 |cons s p ih=>
  intro v x h
  obtain ⟨h1,_,_,y,h4,rfl⟩:=h
  have:=ih h4
  have:=hc s h1
  simp only[List.length_cons,Int.natCast_add,Int.cast_ofNat_Int]
  omega
theorem WalkT.verts_in {n:Nat} (hl:StepsIn n l):∀ {p:List Stp} {v:Int} {x:Int×Int},0≤v→v<n→WalkT l k B S v p x→∀u,u∈vertsT v p→0≤u∧u<n:=by
 intro p
 induction p with
 |nil=>intro v x h1 h2 _ u hu;rw[show u=v by simpa [vertsT]using hu];exact ⟨h1,h2⟩
 |cons s p ih=>
  intro v x h1 h2 h u hu
  obtain ⟨a1,_,_,y,a4,_⟩:=h
  rcases List.mem_cons.1 hu with rfl|hu
  ·exact ⟨h1,h2⟩
  ·exact ih (hl.fr s a1).1 (hl.fr s a1).2 a4 u hu
end
theorem nodup_len:∀(n:Nat) (l:List Int),l.Nodup→(∀x,x∈l→0≤x∧x<n)→l.length≤n:=by
 intro n
 induction n with
 |zero=>
  intro l _ h
  cases l with
  |nil=>simp
  |cons a l=>have:=h a List.mem_cons_self;omega
 |succ n ih=>
  intro l hd h
  have h1:=ih (l.erase (n:Int)) (hd.erase _) fun x hx=>by
   have h2:=(List.Nodup.mem_erase_iff hd).1 hx
   have h3:=h x h2.2
   have h4:=h2.1
   omega
  have h2:l.length≤(l.erase (n:Int)).length+1:=by
   rw[List.length_erase];split<;>omega
  omega
structure BI {α:Type} (A:Alg α) (n:Nat) (l:List Stp) (S:Int→Prop) (best:List α) (last:List Int):Prop where
 len:best.length=n
 lenl:last.length=n
 walk:∀v:Int,0≤v→v<n→∀x,bOf A best v=some x→∃p,WalkT l A.k (bOf A best) S v p x∧(vertsT v p).Nodup
 last_:∀v:Int,0≤v→v<n→(getV 0 last v= -1∧(bOf A best v=none∨(S v∧bOf A best v=some (0,0))))∨
  ∃i:Nat,i<l.length∧getV 0 last v=i∧(l.getD i default).to_=v∧∃x y,bOf A best v=some x∧bOf A best (l.getD i default).fr=some y∧leP (y.1+(l.getD i default).cost,y.2+A.k) x
 src:∀v:Int,0≤v→v<n→S v→bOf A best v≠none
 norm:∀v:Int,0≤v→v<n→bOf A best v=none→getV A.dflt best v=A.dflt
def mV:Option (Int×Int)→Nat
 |none=>10000
 |some x=>((x.1+40)*100+x.2).toNat
def mu {α:Type} (A:Alg α) (best:List α):Nat:=(best.map fun a=>mV (A.val a)).sum
theorem sum_set {α:Type} (f:α→Nat) (d a:α):∀(l:List α) (i:Nat),i<l.length→((l.set i a).map f).sum+f (l.getD i d)=(l.map f).sum+f a:=by
 intro l
 induction l with
 |nil=>intro i h;simp at h
 |cons x l ih=>
  intro i h
  cases i with
  |zero=>simp;omega
  |succ i=>
   have:=ih i (by simpa using h)
   simp only[List.set_cons_succ,List.map_cons,List.sum_cons,List.getD_cons_succ]
   omega
theorem getV_set {α:Type} {d a:α} {l:List α} {u v:Int} (hu:0≤u) (hl:u.toNat<l.length) (hv:0≤v):getV d (l.set u.toNat a) v=if v=u then a else getV d l v:=by
 unfold getV
 by_cases h:v=u
 ·subst h
  rw[if_pos rfl,List.getD_eq_getElem?_getD,List.getElem?_set_self hl];rfl
 ·rw[if_neg h,List.getD_eq_getElem?_getD,List.getElem?_set_ne (by omega),←List.getD_eq_getElem?_getD]
section
variable {α:Type} {A:Alg α} {n:Nat} {l:List Stp} {S:Int→Prop} {π:Int→Int}
theorem BI.bound (hA:AlgOK A) (hl:StepsIn n l) {best:List α} {last:List Int} (h:BI A n l S best last) {v:Int} (h0:0≤v) (h1:v<n) {x:Int×Int} (hx:bOf A best v=some x): -(n:Int)≤x.1∧x.1≤n∧0≤x.2∧x.2<n:=by
 obtain ⟨p,h2,h3⟩:=h.walk v h0 h1 x hx
 have h4:=nodup_len n _ h3 (h2.verts_in hl h0 h1)
 rw[vertsT_len]at h4
 have h5:=h2.len hl.cost hA.k0 hA.k1
 omega
theorem mem_of {i:Nat} (h:i<l.length):l.getD i default∈l:=by
 rw[List.getD_eq_getElem?_getD,List.getElem?_eq_getElem h];exact List.getElem_mem h
theorem relax_BI (hA:AlgOK A) (hl:StepsIn n l) (hp:Pot π l) (hn:n≤40) {st:SrS α} {i:Nat} (hi:i<l.length) (h:BI A n l S st.1 st.2.1):
 BI A n l S (relaxF A l st i).1 (relaxF A l st i).2.1∧((relaxF A l st i)=st∧A.less (A.onw (getV A.dflt st.1 (l.getD i default).fr) (l.getD i default)) (getV A.dflt st.1 (l.getD i default).to_)=false∨
  (relaxF A l st i).2.2=true∧mu A (relaxF A l st i).1<mu A st.1):=by
 unfold relaxF
 split
 case isFalse h0=>exact ⟨h,.inl ⟨rfl,by simpa using h0⟩⟩
 case isTrue h0=>
 have hm:=mem_of hi
 have hf:=hl.fr _ hm
 have ht:=hl.to_ _ hm
 have hc:=hl.cost _ hm
 have hpt:=hp _ hm
 generalize hs:l.getD i default=s at*
 obtain ⟨c,hc1,hc2⟩:=(hA.less _ _).1 h0
 rw[hA.onw]at hc1
 obtain ⟨y,hy,rfl⟩:∃y,bOf A st.1 s.fr=some y∧c=(y.1+s.cost,y.2+A.k):=by
  cases e:A.val (getV A.dflt st.1 s.fr)with
  |none=>rw[e]at hc1;cases hc1
  |some y=>rw[e]at hc1;cases hc1;exact ⟨y,e,rfl⟩
 have hlen:=h.len
 have hlenl:=h.lenl
 have hB:∀v:Int,0≤v→bOf A (st.1.set s.to_.toNat (A.onw (getV A.dflt st.1 s.fr) s)) v=if v=s.to_ then some (y.1+s.cost,y.2+A.k)else bOf A st.1 v:=fun v hv=>by
  unfold bOf
  rw[getV_set ht.1 (by omega) hv]
  split
  ·rw[hA.onw];unfold bOf at hy;rw[hy];rfl
  ·rfl
 have hle:∀(v:Int) z,0≤v→bOf A st.1 v=some z→∃z',bOf A (st.1.set s.to_.toNat (A.onw (getV A.dflt st.1 s.fr) s)) v=some z'∧leP z' z:=fun v z hv hz=>by
  rw[hB v hv]
  by_cases e:v=s.to_
  ·subst e
   rw[if_pos rfl]
   exact ⟨_,rfl,by have:=hc2 z hz;unfold ltP leP at*;omega⟩
  ·rw[if_neg e];exact ⟨z,hz,by unfold leP;omega⟩
 have hmono:∀ {p:List Stp} {v:Int} {x:Int×Int},0≤v→WalkT l A.k (bOf A st.1) S v p x→WalkT l A.k (bOf A (st.1.set s.to_.toNat (A.onw (getV A.dflt st.1 s.fr) s))) S v p x:=by
  have tr:∀(v:Int) x,0≤v→(∃z,bOf A st.1 v=some z∧leP z x)→∃z,bOf A (st.1.set s.to_.toNat (A.onw (getV A.dflt st.1 s.fr) s)) v=some z∧leP z x:=fun v x hv ⟨z,h1,h2⟩=>by
   obtain ⟨z',h3,h4⟩:=hle v z hv h1
   exact ⟨z',h3,by unfold leP at*;omega⟩
  intro p
  induction p with
  |nil=>intro v x hv h;exact ⟨h.1,h.2.1,tr v x hv h.2.2⟩
  |cons s p ih=>
   intro v x hv h
   obtain ⟨h1,h2,h3,y,h4,h5⟩:=h
   exact ⟨h1,h2,tr v x hv h3,y,ih (hl.fr s h1).1 h4,h5⟩
 have hnew:BI A n l S (st.1.set s.to_.toNat (A.onw (getV A.dflt st.1 s.fr) s)) (st.2.1.set s.to_.toNat (i:Int)):=by
  refine ⟨by rw[List.length_set];exact hlen,by rw[List.length_set];exact hlenl,fun v hv0 hv1 x hx=> ?_,fun v hv0 hv1=> ?_,fun v hv0 hv1 hS=> ?_,fun v hv0 hv1 hx=> ?_⟩
  ·rw[hB v hv0]at hx
   by_cases e:v=s.to_
   ·rw[if_pos e]at hx
    cases hx
    obtain ⟨p,w1,w2⟩:=h.walk s.fr hf.1 hf.2 y hy
    refine ⟨s::p,⟨hm,e.symm,⟨(y.1+s.cost,y.2+A.k),by rw[hB v hv0,if_pos e],by unfold leP;omega⟩,y,hmono hf.1 w1,rfl⟩,List.nodup_cons.2 ⟨fun hin=> ?_,w2⟩⟩
    obtain ⟨y',z',a1,a2,a3,a4⟩:=w1.at_ hp hA.k0 hin
    subst e
    have:=hc2 z' a1
    have:=hA.k0
    unfold ltP leP at*
    simp only at*
    omega
   ·rw[if_neg e]at hx
    obtain ⟨p,w1,w2⟩:=h.walk v hv0 hv1 x hx
    exact ⟨p,hmono hv0 w1,w2⟩
  ·by_cases e:v=s.to_
   ·refine .inr ⟨i,hi,?_,?_,(y.1+s.cost,y.2+A.k),?_⟩
    ·rw[getV_set ht.1 (by omega) hv0,if_pos e]
    ·rw[hs];exact e.symm
    ·rw[hs]
     by_cases e2:s.fr=s.to_
     ·
      exfalso
      have h7:=hc2 y (e2▸hy)
      rw[e2]at hpt
      have:=hA.k0
      unfold ltP at h7
      dsimp only at h7
      omega
     ·exact ⟨y,by rw[hB v hv0,if_pos e],by rw[hB _ hf.1,if_neg e2];exact hy,by unfold leP;omega⟩
   ·rcases h.last_ v hv0 hv1 with ⟨q1,q2⟩|⟨j,q1,q2,q3,x,y',q4,q5,q6⟩
    ·left
     rw[getV_set ht.1 (by omega) hv0,if_neg e,hB v hv0,if_neg e]
     exact ⟨q1,q2⟩
    ·right
     obtain ⟨z',r1,r2⟩:=hle _ y' (hl.fr _ (mem_of q1)).1 q5
     refine ⟨j,q1,by rw[getV_set ht.1 (by omega) hv0,if_neg e];exact q2,q3,x,z',by rw[hB v hv0,if_neg e];exact q4,r1,?_⟩
     unfold leP at*
     simp only at*
     omega
  ·rw[hB v hv0]
   split
   ·simp
   ·exact h.src v hv0 hv1 hS
  ·rw[hB v hv0]at hx
   split at hx
   ·cases hx
   ·rename_i e
    rw[getV_set ht.1 (by omega) hv0,if_neg e]
    exact h.norm v hv0 hv1 hx
 refine ⟨hnew,.inr ⟨rfl,?_⟩⟩
 have h1:=sum_set (fun a=>mV (A.val a)) A.dflt (A.onw (getV A.dflt st.1 s.fr) s) st.1 s.to_.toNat (by omega)
 have h2:mV (A.val (A.onw (getV A.dflt st.1 s.fr) s))<mV (A.val (st.1.getD s.to_.toNat A.dflt)):=by
  have e1:A.val (A.onw (getV A.dflt st.1 s.fr) s)=some (y.1+s.cost,y.2+A.k):=by rw[hA.onw];unfold bOf at hy;rw[hy];rfl
  have b1:=hnew.bound hA hl ht.1 ht.2 (x:=(y.1+s.cost,y.2+A.k)) (by rw[hB _ ht.1,if_pos rfl])
  rw[e1]
  have e3:A.val (st.1.getD s.to_.toNat A.dflt)=bOf A st.1 s.to_:=rfl
  rw[e3]
  cases e2:bOf A st.1 s.to_ with
  |none=>simp only[mV]at*;omega
  |some z=>
   have b2:=h.bound hA hl ht.1 ht.2 e2
   have:=hc2 z e2
   unfold ltP at this
   simp only[mV]at*
   omega
 unfold mu
 dsimp only
 omega
theorem round_BI (hA:AlgOK A) (hl:StepsIn n l) (hp:Pot π l) (hn:n≤40):∀(m:Nat) (st:SrS α) (i:Nat),l.length-i=m→BI A n l S st.1 st.2.1→
 BI A n l S (roundF A l st i).1 (roundF A l st i).2.1∧mu A (roundF A l st i).1≤mu A st.1∧(st.2.2=true→(roundF A l st i).2.2=true)∧
  (st.2.2=false→(roundF A l st i=st∧∀j,i≤j→j<l.length→A.less (A.onw (getV A.dflt st.1 (l.getD j default).fr) (l.getD j default)) (getV A.dflt st.1 (l.getD j default).to_)=false)∨
   ((roundF A l st i).2.2=true∧mu A (roundF A l st i).1<mu A st.1)):=by
 intro m
 induction m with
 |zero=>
  intro st i hm h
  rw[roundF,if_neg (by omega)]
  exact ⟨h,Nat.le_refl _,id,fun _=> .inl ⟨rfl,fun j h1 h2=>by omega⟩⟩
 |succ m ih=>
  intro st i hm h
  rw[roundF,if_pos (by omega)]
  obtain ⟨h1,h2⟩:=relax_BI hA hl hp hn (st:=st) (i:=i) (by omega) h
  obtain ⟨a1,a2,a3,a4⟩:=ih (relaxF A l st i) (i+1) (by omega) h1
  rcases h2 with ⟨h2,h3⟩|⟨h2,h3⟩
  ·rw[h2]at a1 a2 a3 a4⊢
   refine ⟨a1,a2,a3,fun hf=> ?_⟩
   rcases a4 hf with ⟨b1,b2⟩|b
   ·refine .inl ⟨b1,fun j hj1 hj2=> ?_⟩
    by_cases e:j=i
    ·subst e;exact h3
    ·exact b2 j (by omega) hj2
   ·exact .inr b
  ·exact ⟨a1,by omega,fun _=>a3 h2,fun _=> .inr ⟨a3 h2,by omega⟩⟩
def FixT (A:Alg α) (l:List Stp) (best:List α):Prop:=∀j,j<l.length→A.less (A.onw (getV A.dflt best (l.getD j default).fr) (l.getD j default)) (getV A.dflt best (l.getD j default).to_)=false
theorem run_BI (hA:AlgOK A) (hl:StepsIn n l) (hp:Pot π l) (hn:n≤40):∀(k:Nat) (st:List α×List Int),mu A st.1<k→BI A n l S st.1 st.2→
 BI A n l S (runF A l k st).1 (runF A l k st).2∧FixT A l (runF A l k st).1:=by
 intro k
 induction k with
 |zero=>intro st h _;omega
 |succ k ih=>
  intro st hk h
  obtain ⟨a1,a2,_,a4⟩:=round_BI hA hl hp hn _ (st.1,st.2,false) 0 rfl h
  rw[runF]
  split
  ·rename_i hc
   rcases a4 rfl with ⟨b1,b2⟩|⟨b1,b2⟩
   ·rw[b1]at hc;cases hc
   ·exact ih _ (by simp only at*;omega) a1
  ·rename_i hc
   rcases a4 rfl with ⟨b1,b2⟩|⟨b1,b2⟩
   ·refine ⟨a1,?_⟩
    rw[b1]
    exact fun j hj=>b2 j (Nat.zero_le _) hj
   ·exact absurd b1 hc
theorem mu_le (best:List α) (h:∀a,a∈best→mV (A.val a)≤10000):mu A best≤best.length*10000:=by
 unfold mu
 induction best with
 |nil=>simp
 |cons a l ih=>
  have h1:=ih fun x hx=>h x (List.mem_cons_of_mem _ hx)
  have h2:=h a List.mem_cons_self
  simp only[List.map_cons,List.sum_cons,List.length_cons]
  omega
end
def onwC (a:Cst) (s:Stp):Cst:=⟨a.c+s.cost,a.steps+1,a.fine⟩
def lessC (a b:Cst):Bool:=a.fine&&(!b.fine||(decide (a.c<b.c)||(decide (a.c=b.c)&&decide (a.steps<b.steps))))
def valC (a:Cst):Option (Int×Int):=if a.fine=true then some (a.c,a.steps)else none
def algC:Alg Cst:=⟨onwC,lessC,default,valC,1⟩
def algI:Alg Int:=⟨fun a s=>a+s.cost,fun a b=>decide (a<b),0,fun a=>some (a,0),0⟩
theorem algC_ok:AlgOK algC:=by
 refine ⟨fun a s=> ?_,fun a b=> ?_,by decide,by decide⟩
 ·show valC (onwC a s)=(valC a).map _
  unfold valC onwC
  cases a.fine<;>rfl
 ·show lessC a b=true↔∃x,valC a=some x∧∀y,valC b=some y→ltP x y
  unfold lessC valC ltP
  cases ha:a.fine<;>cases hb:b.fine<;>simp
theorem algI_ok:AlgOK algI:=by
 refine ⟨fun a s=>rfl,fun a b=> ?_,by decide,by decide⟩
 show decide (a<b)=true↔∃x,some (a,(0:Int))=some x∧∀y,some (b,(0:Int))=some y→ltP x y
 unfold ltP
 simp
def fuelB:Nat:=400001
def best0 (too:List Int):List Cst:=too.map fun t=>⟨0,0,decide (0<t)⟩
def cheapF (l:List Stp) (too:List Int):List Cst×List Int:=runF algC l fuelB (best0 too,List.replicate too.length (-1))
def potF (n:Nat) (l:List Stp):List Int:=(runF algI l fuelB (List.replicate n 0,List.replicate n (-1))).1
theorem getV_map {α β:Type} {d:α} {e:β} {f:α→β} {l:List α} {v:Int} (h:v.toNat<l.length):getV e (l.map f) v=f (getV d l v):=by
 unfold getV
 rw[List.getD_eq_getElem?_getD,List.getD_eq_getElem?_getD,List.getElem?_map,List.getElem?_eq_getElem h];rfl
theorem getV_rep {α:Type} {d a:α} {n:Nat} {v:Int} (h:v.toNat<n):getV d (List.replicate n a) v=a:=by
 unfold getV
 rw[List.getD_eq_getElem?_getD,List.getElem?_eq_getElem (by simpa using h)];simp
theorem cheap0 {n:Nat} {l:List Stp} {too:List Int} (hn:too.length=n):BI algC n l (fun v=>0<getV 0 too v) (best0 too) (List.replicate too.length (-1)):=by
 have hb:∀v:Int,0≤v→v<n→bOf algC (best0 too) v=if 0<getV 0 too v then some (0,0)else none:=fun v h0 h1=>by
  show valC (getV default (best0 too) v)=_
  unfold best0
  rw[getV_map (d:=0) (by omega)]
  unfold valC
  simp only[decide_eq_true_eq]
 refine ⟨by simp[best0,hn],by simp[hn],fun v h0 h1 x hx=> ?_,fun v h0 h1=> .inl ⟨getV_rep (by omega),?_⟩,fun v h0 h1 hS=> ?_,fun v h0 h1 hx=> ?_⟩
 ·rw[hb v h0 h1]at hx
  split at hx
  ·rename_i hS
   cases hx
   exact ⟨[],⟨hS,rfl,(0,0),by rw[hb v h0 h1,if_pos hS],.inr ⟨rfl,Int.le_refl _⟩⟩,by simp[vertsT]⟩
  ·cases hx
 ·rw[hb v h0 h1]
  split
  ·rename_i hS;exact .inr ⟨hS,rfl⟩
  ·exact .inl rfl
 ·rw[hb v h0 h1,if_pos hS];simp
 ·rw[hb v h0 h1]at hx
  split at hx
  ·cases hx
  ·rename_i hS
   show getV default (best0 too) v=default
   unfold best0
   rw[getV_map (d:=0) (by omega)]
   simp only[hS];rfl
theorem pot0 {n:Nat} {l:List Stp} :BI algI n l (fun _=>True) (List.replicate n 0) (List.replicate n (-1)):=by
 have hb:∀v:Int,0≤v→v<n→bOf algI (List.replicate n (0:Int)) v=some (0,0):=fun v h0 h1=>by
  show some (getV 0 (List.replicate n (0:Int)) v,(0:Int))=_
  rw[getV_rep (by omega)]
 refine ⟨by simp,by simp,fun v h0 h1 x hx=> ?_,fun v h0 h1=> .inl ⟨getV_rep (by omega),.inr ⟨trivial,hb v h0 h1⟩⟩,fun v h0 h1 _=> ?_,fun v h0 h1 hx=> ?_⟩
 ·rw[hb v h0 h1]at hx
  cases hx
  exact ⟨[],⟨trivial,rfl,(0,0),hb v h0 h1,.inr ⟨rfl,Int.le_refl _⟩⟩,by simp[vertsT]⟩
 ·rw[hb v h0 h1];simp
 ·cases hx
theorem cheap_mu {n:Nat} {too:List Int} (hn:too.length=n) (h40:n≤40):mu algC (best0 too)<fuelB:=by
 have h1:=mu_le (A:=algC) (best0 too) fun a ha=>by
  obtain ⟨t,_,rfl⟩:=List.mem_map.1 ha
  show mV (valC _)≤_
  unfold valC
  split
  ·simp[mV]
  ·simp[mV]
 have h2:(best0 too).length=n:=by simp[best0,hn]
 unfold fuelB
 omega
theorem pot_mu {n:Nat} (h40:n≤40):mu algI (List.replicate n (0:Int))<fuelB:=by
 have h1:=mu_le (A:=algI) (List.replicate n (0:Int)) fun a ha=>by
  rw[List.eq_of_mem_replicate ha]
  show mV (some (0,0))≤_
  simp[mV]
 simp only[List.length_replicate]at h1
 unfold fuelB
 omega
section
variable {n:Nat} {l:List Stp} {π:Int→Int} {too:List Int}
theorem cheap_BI (hl:StepsIn n l) (hp:Pot π l) (h40:n≤40) (hn:too.length=n):
 BI algC n l (fun v=>0<getV 0 too v) (cheapF l too).1 (cheapF l too).2∧FixT algC l (cheapF l too).1:=
 run_BI algC_ok hl hp h40 fuelB _ (cheap_mu hn h40) (cheap0 hn)
theorem pot_BI (hl:StepsIn n l) (hp:Pot π l) (h40:n≤40):
 (potF n l).length=n∧Pot (getV 0 (potF n l)) l∧∀v:Int,0≤v→v<n→-(n:Int)≤getV 0 (potF n l) v∧getV 0 (potF n l) v≤n:=by
 obtain ⟨h1,h2⟩:=run_BI algI_ok hl hp h40 fuelB (List.replicate n 0,List.replicate n (-1)) (pot_mu h40) pot0
 refine ⟨h1.len,fun s hs=> ?_,fun v hv0 hv1=> ?_⟩
 ·obtain ⟨i,hi,rfl⟩:=List.mem_iff_getElem.1 hs
  have h3:=h2 i hi
  have e:l.getD i default=l[i]:=by rw[List.getD_eq_getElem?_getD,List.getElem?_eq_getElem hi];rfl
  rw[e]at h3
  have h4:decide (getV 0 (potF n l) l[i].fr+l[i].cost<getV 0 (potF n l) l[i].to_)=false:=h3
  have h5:=of_decide_eq_false h4
  omega
 ·have:=h1.bound algI_ok hl hv0 hv1 (x:=(getV 0 (potF n l) v,0)) rfl
  simp only at this
  omega
end
def chainT (l:List Stp) (last:List Int):Nat→Int→List Stp
 |0,_=>[]
 |k+1,v=>if 0≤getV 0 last v then l.getD (getV 0 last v).toNat default::chainT l last k (l.getD (getV 0 last v).toNat default).fr else []
def beginT (v:Int):List Stp→Int
 | []=>v
 |s::p=>beginT s.fr p
def ChainP (l:List Stp) (best:List Cst) (last:List Int) (S:Int→Prop):Int→List Stp→Prop
 |v,[]=>S v∧getV 0 last v= -1
 |v,s::p=>s∈l∧s.to_=v∧0≤getV 0 last v∧(∃x y,valC (getV default best v)=some x∧valC (getV default best s.fr)=some y∧x=(y.1+s.cost,y.2+1))∧ChainP l best last S s.fr p
section
variable {n:Nat} {l:List Stp} {S:Int→Prop} {best:List Cst} {last:List Int}
theorem chain_ok (hl:StepsIn n l) (h:BI algC n l S best last) (hf:FixT algC l best):∀(k:Nat) (v:Int),0≤v→v<n→∀x,bOf algC best v=some x→x.2≤k→ChainP l best last S v (chainT l last k v)∧
 (vertsT v (chainT l last k v)).Nodup∧(∀u,u∈vertsT v (chainT l last k v)→∃y,bOf algC best u=some y∧y.2≤x.2):=by
 intro k
 induction k with
 |zero=>
  intro v h0 h1 x hx hk
  refine ⟨?_,by simp[chainT,vertsT],fun u hu=>by rw[show u=v by simpa [chainT,vertsT]using hu];exact ⟨x,hx,Int.le_refl _⟩⟩
  rcases h.last_ v h0 h1 with ⟨q1,q2⟩|⟨i,q1,q2,q3,x',y,q4,q5,q6⟩
  ·rcases q2 with q2|q2
   ·rw[q2]at hx;cases hx
   ·exact ⟨q2.1,q1⟩
  ·exfalso
   rw[hx]at q4;cases q4
   have b:=h.bound algC_ok hl (hl.fr _ (mem_of q1)).1 (hl.fr _ (mem_of q1)).2 q5
   have b2:=h.bound algC_ok hl h0 h1 hx
   have h3:¬(algC.less (algC.onw (getV algC.dflt best (l.getD i default).fr) (l.getD i default)) (getV algC.dflt best (l.getD i default).to_)=true):=by rw[hf i q1];simp
   have h4:=fun hh=>h3 ((algC_ok.less _ _).2 hh)
   refine h4 ⟨(y.1+(l.getD i default).cost,y.2+1),?_,fun z hz=> ?_⟩
   ·rw[algC_ok.onw];unfold bOf at q5;rw[q5];rfl
   ·unfold bOf at hx;rw[q3,hx]at hz
    cases hz
    have:algC.k=1:=rfl
    unfold leP ltP at*
    simp only at*
    omega
 |succ k ih=>
  intro v h0 h1 x hx hk
  rcases h.last_ v h0 h1 with ⟨q1,q2⟩|⟨i,q1,q2,q3,x',y,q4,q5,q6⟩
  ·rw[chainT,if_neg (by omega)]
   refine ⟨?_,by simp[vertsT],fun u hu=>by rw[show u=v by simpa [vertsT]using hu];exact ⟨x,hx,Int.le_refl _⟩⟩
   rcases q2 with q2|q2
   ·rw[q2]at hx;cases hx
   ·exact ⟨q2.1,q1⟩
  ·rw[hx]at q4;cases q4
   rw[chainT,if_pos (by omega)]
   have e:(getV 0 last v).toNat=i:=by omega
   rw[e]
   have hm:=mem_of q1
   generalize hs:l.getD i default=s at*
   have hfr:=hl.fr _ hm
   have heq:x=(y.1+s.cost,y.2+1):=by
    have h3:¬(algC.less (algC.onw (getV algC.dflt best s.fr) s) (getV algC.dflt best s.to_)=true):=by have:=hf i q1;rw[hs]at this;rw[this];simp
    have h4:=fun hh=>h3 ((algC_ok.less _ _).2 hh)
    have h5:¬ltP (y.1+s.cost,y.2+1) x:=fun hlt=>h4 ⟨(y.1+s.cost,y.2+1),by rw[algC_ok.onw];unfold bOf at q5;rw[q5];rfl,fun z hz=>by
     unfold bOf at hx;rw[q3,hx]at hz
     cases hz;exact hlt⟩
    have:algC.k=1:=rfl
    unfold leP ltP at*
    rw[this]at q6
    obtain ⟨x1,x2⟩:=x
    simp only at*
    have a1:x1=y.1+s.cost:=by omega
    have a2:x2=y.2+1:=by omega
    rw[a1,a2]
   obtain ⟨c1,c2,c3⟩:=ih s.fr hfr.1 hfr.2 y q5 (by rw[heq]at hk;simp only at hk;omega)
   refine ⟨⟨hm,q3,by omega,⟨x,y,hx,q5,heq⟩,c1⟩,List.nodup_cons.2 ⟨fun hin=> ?_,c2⟩,fun u hu=> ?_⟩
   ·obtain ⟨z,hz,hz2⟩:=c3 v hin
    rw[hx]at hz;cases hz
    rw[heq]at hz2;simp only at hz2;omega
   ·rcases List.mem_cons.1 hu with rfl|hu
    ·exact ⟨x,hx,Int.le_refl _⟩
    ·obtain ⟨z,hz,hz2⟩:=c3 u hu
     exact ⟨z,hz,by rw[heq];simp only;omega⟩
theorem chain_begin:∀ {p:List Stp} {v:Int},ChainP l best last S v p→S (beginT v p)∧getV 0 last (beginT v p)= -1:=by
 intro p
 induction p with
 |nil=>intro v h;exact h
 |cons s p ih=>intro v h;exact ih h.2.2.2.2
theorem chain_mem:∀ {p:List Stp} {v:Int},ChainP l best last S v p→∀s,s∈p→s∈l∧s.fr∈vertsT v p∧s.to_∈vertsT v p∧∃x y,valC (getV default best s.to_)=some x∧valC (getV default best s.fr)=some y∧x=(y.1+s.cost,y.2+1):=by
 intro p
 have hv:∀(p:List Stp) (v:Int),v∈vertsT v p:=fun p v=>by cases p<;>simp[vertsT]
 induction p with
 |nil=>intro v _ s hs;cases hs
 |cons s p ih=>
  intro v h t ht
  rcases List.mem_cons.1 ht with rfl|ht
  ·exact ⟨h.1,List.mem_cons_of_mem _ (hv _ _),by rw[h.2.1];exact hv _ _,by rw[h.2.1];exact h.2.2.2.1⟩
  ·obtain ⟨a,b,c,d⟩:=ih h.2.2.2.2 t ht
   exact ⟨a,List.mem_cons_of_mem _ b,List.mem_cons_of_mem _ c,d⟩
theorem begin_verts (p:List Stp):∀v:Int,beginT v p∈vertsT v p:=by
 induction p with
 |nil=>intro v;simp[vertsT,beginT]
 |cons s p ih=>intro v;exact List.mem_cons_of_mem _ (ih s.fr)
end
def indI (b:Prop) [Decidable b]:Int:=if b then 1 else 0
def netT:List Du→List Int→Int→Int
 |d::ds,s::ss,v=>s*(indI (d.to_=v)-indI (d.fr=v))+netT ds ss v
 |_,_,_=>0
def stepsD (i:Nat) (d:Du) (s:Int):List Stp:=
 (if s<d.sum then [⟨i,d.fr,d.to_,-1,d.sum-s,false⟩]else [])++(if 0<s then [⟨i,d.to_,d.fr,1,s,true⟩]else [])
def stepsV (dues:List Du) (sums:List Int):List Stp:=
 (List.range dues.length).flatMap fun i=>stepsD i (dues.getD i default) (sums.getD i 0)
theorem steps_mem {dues:List Du} {sums:List Int} {s:Stp} :s∈stepsV dues sums↔∃i,i<dues.length∧
 ((sums.getD i 0<(dues.getD i default).sum∧s=⟨i,(dues.getD i default).fr,(dues.getD i default).to_,-1,(dues.getD i default).sum-sums.getD i 0,false⟩)∨
  (0<sums.getD i 0∧s=⟨i,(dues.getD i default).to_,(dues.getD i default).fr,1,sums.getD i 0,true⟩)):=by
 unfold stepsV
 rw[List.mem_flatMap]
 constructor
 ·rintro ⟨i,hi,h⟩
  refine ⟨i,List.mem_range.1 hi,?_⟩
  unfold stepsD at h
  rcases List.mem_append.1 h with h|h
  ·split at h
   ·rename_i h1;exact .inl ⟨h1,by simpa using h⟩
   ·cases h
  ·split at h
   ·rename_i h1;exact .inr ⟨h1,by simpa using h⟩
   ·cases h
 ·rintro ⟨i,hi,h⟩
  refine ⟨i,List.mem_range.2 hi,?_⟩
  unfold stepsD
  rcases h with ⟨h1,rfl⟩|⟨h1,rfl⟩
  ·exact List.mem_append_left _ (by rw[if_pos h1];exact List.mem_singleton.2 rfl)
  ·exact List.mem_append_right _ (by rw[if_pos h1];exact List.mem_singleton.2 rfl)
def StepOf (dues:List Du) (sums:List Int) (s:Stp):Prop:=∃i:Nat,i<dues.length∧s.due=i∧
 ((s.back=false∧s.fr=(dues.getD i default).fr∧s.to_=(dues.getD i default).to_∧s.most=(dues.getD i default).sum-sums.getD i 0∧0<s.most)∨
  (s.back=true∧s.fr=(dues.getD i default).to_∧s.to_=(dues.getD i default).fr∧s.most=sums.getD i 0∧0<s.most))
theorem stepOf_of {dues:List Du} {sums:List Int} {s:Stp} (h:s∈stepsV dues sums):StepOf dues sums s:=by
 obtain ⟨i,hi,⟨h1,rfl⟩|⟨h1,rfl⟩⟩:=steps_mem.1 h
 ·exact ⟨i,hi,rfl,.inl ⟨rfl,rfl,rfl,rfl,by simp only;omega⟩⟩
 ·exact ⟨i,hi,rfl,.inr ⟨rfl,rfl,rfl,rfl,by simp only;omega⟩⟩
structure DuesIn (n:Nat) (dues:List Du):Prop where
 fr':∀d,d∈dues→0≤d.fr∧d.fr<n
 to':∀d,d∈dues→0≤d.to_∧d.to_<n
theorem memD {α:Type} {d:α} {l:List α} {i:Nat} (h:i<l.length):l.getD i d∈l:=by
 rw[List.getD_eq_getElem?_getD,List.getElem?_eq_getElem h];exact List.getElem_mem h
theorem DuesIn.fr {n:Nat} {dues:List Du} (h:DuesIn n dues) (i:Nat) (hi:i<dues.length):0≤(dues.getD i default).fr∧(dues.getD i default).fr<n:=h.fr' _ (memD hi)
theorem DuesIn.to_ {n:Nat} {dues:List Du} (h:DuesIn n dues) (i:Nat) (hi:i<dues.length):0≤(dues.getD i default).to_∧(dues.getD i default).to_<n:=h.to' _ (memD hi)
theorem stepsIn {n:Nat} {dues:List Du} (hd:DuesIn n dues) (sums:List Int):StepsIn n (stepsV dues sums):=by
 refine ⟨fun s hs=> ?_,fun s hs=> ?_,fun s hs=> ?_⟩<;>obtain ⟨i,hi,⟨h1,rfl⟩|⟨h1,rfl⟩⟩:=steps_mem.1 hs<;>first|exact hd.fr i hi|exact hd.to_ i hi|(simp only;omega)
structure Caps (dues:List Du) (sums:List Int):Prop where
 len:sums.length=dues.length
 lo:∀i,i<dues.length→0≤sums.getD i 0
 hi:∀i,i<dues.length→sums.getD i 0≤(dues.getD i default).sum
def moveT (sums:List Int) (s:Stp) (m:Int):List Int:=sums.set s.due.toNat (sums.getD s.due.toNat 0+if s.back=true then 0-m else m)
def movesT (sums:List Int) (m:Int):List Stp→List Int
 | []=>sums
 |s::p=>movesT (moveT sums s m) m p
theorem getD_setL {α:Type} {d a:α} {l:List α} {i j:Nat} (h:i<l.length):(l.set i a).getD j d=if j=i then a else l.getD j d:=by
 by_cases e:j=i
 ·subst e;rw[if_pos rfl,List.getD_eq_getElem?_getD,List.getElem?_set_self h];rfl
 ·rw[if_neg e,List.getD_eq_getElem?_getD,List.getElem?_set_ne (fun h=>e h.symm),←List.getD_eq_getElem?_getD]
theorem net_set:∀(dues:List Du) (sums:List Int) (i:Nat) (x v:Int),sums.length=dues.length→i<dues.length→
 netT dues (sums.set i x) v=netT dues sums v+(x-sums.getD i 0)*(indI ((dues.getD i default).to_=v)-indI ((dues.getD i default).fr=v)):=by
 intro dues
 induction dues with
 |nil=>intro sums i x v _ h;simp at h
 |cons d ds ih=>
  intro sums i x v hl hi
  cases sums with
  |nil=>simp at hl
  |cons s ss=>
   cases i with
   |zero=>
    simp only[List.set_cons_zero,netT,List.getD_cons_zero]
    rw[Int.sub_mul];omega
   |succ i=>
    simp only[List.set_cons_succ,netT,List.getD_cons_succ]
    rw[ih ss i x v (by simpa using hl) (by simpa using hi)]
    omega
section
variable {n:Nat} {dues:List Du}
theorem move_ok {sums:List Int} {s:Stp} {m:Int} (hc:Caps dues sums) (hs:StepOf dues sums s) (h0:0≤m) (hm:m≤s.most):
 Caps dues (moveT sums s m)∧(∀v,netT dues (moveT sums s m) v=netT dues sums v+m*(indI (s.to_=v)-indI (s.fr=v)))∧(∀j:Nat,(j:Int)≠s.due→(moveT sums s m).getD j 0=sums.getD j 0):=by
 obtain ⟨i,hi,e,h⟩:=hs
 have hlen:=hc.len
 have lo:=hc.lo i hi
 have hhi:=hc.hi i hi
 have ei:s.due.toNat=i:=by omega
 refine ⟨⟨by unfold moveT;rw[List.length_set];exact hlen,fun j hj=> ?_,fun j hj=> ?_⟩,fun v=> ?_,fun j hj=> ?_⟩
 ·unfold moveT
  rw[ei,getD_setL (by omega)]
  split
  ·rename_i ej;subst ej
   rcases h with ⟨hb,_,_,hm',_⟩|⟨hb,_,_,hm',_⟩<;>rw[hb]<;>simp only[if_true,Bool.false_eq_true,if_false]<;>omega
  ·exact hc.lo j hj
 ·unfold moveT
  rw[ei,getD_setL (by omega)]
  split
  ·rename_i ej;subst ej
   rcases h with ⟨hb,_,_,hm',_⟩|⟨hb,_,_,hm',_⟩<;>rw[hb]<;>simp only[if_true,Bool.false_eq_true,if_false]<;>omega
  ·exact hc.hi j hj
 ·unfold moveT
  rw[ei,net_set _ _ _ _ _ hlen hi]
  rcases h with ⟨hb,h1,h2,_,_⟩|⟨hb,h1,h2,_,_⟩<;>rw[hb,h1,h2]
  ·rw[if_neg (by decide)]
   congr 2;omega
  ·rw[if_pos rfl,show sums.getD i 0+(0-m)-sums.getD i 0= -m by omega,Int.neg_mul]
   have e1:∀a b c:Int,a*(b-c)= -(a*(c-b)):=fun a b c=>by rw[←Int.mul_neg];congr 1;omega
   rw[e1 m (indI _),Int.neg_neg]
 ·unfold moveT
  rw[ei,getD_setL (by omega),if_neg (by omega)]
theorem stepOf_move {sums:List Int} {s t:Stp} {m:Int} (hc:Caps dues sums) (hs:StepOf dues sums s) (h0:0≤m) (hm:m≤s.most) (ht:StepOf dues sums t) (hne:t.due≠s.due):StepOf dues (moveT sums s m) t:=by
 obtain ⟨_,_,h3⟩:=move_ok hc hs h0 hm
 obtain ⟨i,hi,e,h⟩:=ht
 refine ⟨i,hi,e,?_⟩
 rw[h3 i (by omega)];exact h
def LinkT:Int→List Stp→Prop
 |_,[]=>True
 |v,s::p=>s.to_=v∧LinkT s.fr p
theorem moves_ok:∀(p:List Stp) (sums:List Int) (v:Int) (m:Int),Caps dues sums→LinkT v p→(∀s,s∈p→StepOf dues sums s∧m≤s.most)→(p.map Stp.due).Nodup→0≤m→
 Caps dues (movesT sums m p)∧(∀u,netT dues (movesT sums m p) u=netT dues sums u+m*(indI (v=u)-indI (beginT v p=u)))∧(∀j:Nat,(∀s,s∈p→s.due≠j)→(movesT sums m p).getD j 0=sums.getD j 0):=by
 intro p
 induction p with
 |nil=>
  intro sums v m hc _ _ _ _
  refine ⟨hc,fun u=> ?_,fun j _=>rfl⟩
  show netT dues sums u=netT dues sums u+m*(indI (v=u)-indI (v=u))
  rw[Int.sub_self,Int.mul_zero,Int.add_zero]
 |cons s p ih=>
  intro sums v m hc hl hs hd h0
  obtain ⟨h1,h2⟩:=hs s List.mem_cons_self
  obtain ⟨a1,a2,a3⟩:=move_ok hc h1 h0 h2
  have hd':=List.nodup_cons.1 hd
  obtain ⟨b1,b2,b3⟩:=ih (moveT sums s m) s.fr m a1 hl.2 (fun t ht=>⟨stepOf_move hc h1 h0 h2 (hs t (List.mem_cons_of_mem _ ht)).1 fun e=>hd'.1 (e▸List.mem_map_of_mem ht),(hs t (List.mem_cons_of_mem _ ht)).2⟩) hd'.2 h0
  refine ⟨b1,fun u=> ?_,fun j hj=> ?_⟩
  ·show netT dues (movesT (moveT sums s m) m p) u=netT dues sums u+m*(indI (v=u)-indI (beginT s.fr p=u))
   rw[b2,a2,hl.1]
   simp only[Int.mul_sub]
   omega
  ·show (movesT (moveT sums s m) m p).getD j 0=_
   rw[b3 j fun t ht=>hj t (List.mem_cons_of_mem _ ht),a3 j fun e=>hj s List.mem_cons_self e.symm]
theorem dues_nodup {sums:List Int} :∀(p:List Stp) (v:Int),LinkT v p→(∀s,s∈p→StepOf dues sums s)→(vertsT v p).Nodup→(p.map Stp.due).Nodup:=by
 have ends:∀(p:List Stp) (v:Int),LinkT v p→∀t,t∈p→t.fr∈vertsT v p∧t.to_∈vertsT v p:=by
  intro p
  have hv:∀(p:List Stp) (v:Int),v∈vertsT v p:=fun p v=>by cases p<;>simp[vertsT]
  induction p with
  |nil=>intro v _ t ht;cases ht
  |cons s p ih=>
   intro v h t ht
   rcases List.mem_cons.1 ht with rfl|ht
   ·exact ⟨List.mem_cons_of_mem _ (hv _ _),by rw[h.1];exact hv _ _⟩
   ·obtain ⟨a,b⟩:=ih s.fr h.2 t ht
    exact ⟨List.mem_cons_of_mem _ a,List.mem_cons_of_mem _ b⟩
 intro p
 induction p with
 |nil=>intro v _ _ _;simp
 |cons s p ih=>
  intro v hl hs hn
  have hn':=List.nodup_cons.1 hn
  refine List.nodup_cons.2 ⟨fun hin=> ?_,ih s.fr hl.2 (fun t ht=>hs t (List.mem_cons_of_mem _ ht)) hn'.2⟩
  obtain ⟨t,ht,e⟩:=List.mem_map.1 hin
  obtain ⟨e1,e2⟩:=ends p s.fr hl.2 t ht
  obtain ⟨i,hi,ei,h1⟩:=hs s List.mem_cons_self
  obtain ⟨j,hj,ej,h2⟩:=hs t (List.mem_cons_of_mem _ ht)
  obtain rfl:i=j:=by omega
  apply hn'.1
  rw[←hl.1]
  rcases h1 with ⟨_,p1,p2,_⟩|⟨_,p1,p2,_⟩<;>rcases h2 with ⟨_,q1,q2,_⟩|⟨_,q1,q2,_⟩
  ·rw[p2,←q2];exact e2
  ·rw[p2,←q1];exact e1
  ·rw[p2,←q1];exact e1
  ·rw[p2,←q2];exact e2
end
def mostT (m:Int):List Stp→Int
 | []=>m
 |s::p=>mostT (min m s.most) p
theorem mostT_le:∀(p:List Stp) (m:Int),mostT m p≤m∧∀s,s∈p→mostT m p≤s.most:=by
 intro p
 induction p with
 |nil=>intro m;exact ⟨Int.le_refl _,fun s hs=>(by cases hs)⟩
 |cons s p ih=>
  intro m
  obtain ⟨h1,h2⟩:=ih (min m s.most)
  refine ⟨by show mostT (min m s.most) p≤m;omega,fun t ht=> ?_⟩
  show mostT (min m s.most) p≤_
  rcases List.mem_cons.1 ht with rfl|ht
  ·omega
  ·exact h2 t ht
theorem mostT_ge {b:Int} :∀(p:List Stp) (m:Int),b≤m→(∀s,s∈p→b≤s.most)→b≤mostT m p:=by
 intro p
 induction p with
 |nil=>intro m h _;exact h
 |cons s p ih=>intro m h hs;exact ih _ (by have:=hs s List.mem_cons_self;omega) fun t ht=>hs t (List.mem_cons_of_mem _ ht)
def PotD (π:Int→Int) (d:Du) (s:Int):Prop:=(s<d.sum→π d.to_≤π d.fr-1)∧(0<s→π d.fr≤π d.to_+1)
def TightD (π:Int→Int) (d:Du):Prop:=π d.to_=π d.fr-1
theorem pot_iff {π:Int→Int} {dues:List Du} {sums:List Int} :Pot π (stepsV dues sums)↔∀i,i<dues.length→PotD π (dues.getD i default) (sums.getD i 0):=by
 constructor
 ·intro h i hi
  refine ⟨fun h1=> ?_,fun h1=> ?_⟩
  ·have:=h _ (steps_mem.2 ⟨i,hi,.inl ⟨h1,rfl⟩⟩)
   simp only at this;omega
  ·have:=h _ (steps_mem.2 ⟨i,hi,.inr ⟨h1,rfl⟩⟩)
   simp only at this;omega
 ·intro h s hs
  obtain ⟨i,hi,⟨h1,rfl⟩|⟨h1,rfl⟩⟩:=steps_mem.1 hs
  ·have:=(h i hi).1 h1
   simp only;omega
  ·have:=(h i hi).2 h1
   simp only;omega
theorem TightD.pot {π:Int→Int} {d:Du} (h:TightD π d) (s:Int):PotD π d s:=by unfold TightD at h;unfold PotD;omega
theorem pot_moves {π:Int→Int} {dues:List Du} {sums sums':List Int} (h:Pot π (stepsV dues sums)) (hm:∀i,i<dues.length→sums'.getD i 0=sums.getD i 0∨TightD π (dues.getD i default)):Pot π (stepsV dues sums'):=by
 rw[pot_iff]at h⊢
 intro i hi
 rcases hm i hi with e|e
 ·rw[e];exact h i hi
 ·exact e.pot _
def sumN:Nat→(Int→Int)→Int
 |0,_=>0
 |n+1,f=>sumN n f+f n
theorem sumN_add (f g:Int→Int):∀n,sumN n (fun v=>f v+g v)=sumN n f+sumN n g:=by
 intro n
 induction n with
 |zero=>rfl
 |succ n ih=>simp only[sumN,ih];omega
theorem sumN_zero:∀n,sumN n (fun _=>0)=0:=by
 intro n
 induction n with
 |zero=>rfl
 |succ n ih=>simp only[sumN,ih];rfl
theorem sumN_congr {f g:Int→Int} :∀n:Nat,(∀v:Int,0≤v→v<n→f v=g v)→sumN n f=sumN n g:=by
 intro n
 induction n with
 |zero=>intro _;rfl
 |succ n ih=>intro h;simp only[sumN];rw[ih fun v h0 h1=>h v h0 (by omega),h n (by omega) (by omega)]
theorem sumN_ind (χ:Int→Int) (c a:Int):∀n:Nat,0≤a→sumN n (fun v=>χ v*(c*indI (a=v)))=if a<n then c*χ a else 0:=by
 intro n h0
 induction n with
 |zero=>rw[if_neg (by omega)];rfl
 |succ n ih=>
  simp only[sumN,ih]
  unfold indI
  by_cases e:a=n
  ·subst e;rw[if_neg (by omega),if_pos rfl,if_pos (by omega)];rw[Int.mul_one,Int.mul_comm];omega
  ·rw[if_neg e]
   by_cases h1:a<n
   ·rw[if_pos h1,if_pos (by omega)];simp
   ·rw[if_neg h1,if_neg (by omega)];simp
theorem sumN_nonneg {f:Int→Int} :∀n:Nat,(∀v:Int,0≤v→v<n→0≤f v)→0≤sumN n f∧(sumN n f≤0→∀v:Int,0≤v→v<n→f v=0):=by
 intro n
 induction n with
 |zero=>intro _;exact ⟨Int.le_refl _,fun _ v h0 h1=>by omega⟩
 |succ n ih=>
  intro h
  obtain ⟨h1,h2⟩:=ih fun v a b=>h v a (by omega)
  have h3:=h n (by omega) (by omega)
  refine ⟨by simp only[sumN];omega,fun h4 v a b=> ?_⟩
  simp only[sumN]at h4
  by_cases e:v=n
  ·subst e;omega
  ·exact h2 (by omega) v a (by omega)
def flowT (χ:Int→Int):List Du→List Int→Int
 |d::ds,s::ss=>s*(χ d.to_-χ d.fr)+flowT χ ds ss
 |_,_=>0
theorem sumN_net {n:Nat} (χ:Int→Int):∀(dues:List Du) (sums:List Int),DuesIn n dues→sumN n (fun v=>χ v*netT dues sums v)=flowT χ dues sums:=by
 intro dues
 induction dues with
 |nil=>intro sums _;simp only[netT,flowT,Int.mul_zero];exact sumN_zero n
 |cons d ds ih=>
  intro sums hd
  cases sums with
  |nil=>simp only[netT,flowT,Int.mul_zero];exact sumN_zero n
  |cons s ss=>
   simp only[netT,flowT]
   have h1:=hd.fr' d List.mem_cons_self
   have h2:=hd.to' d List.mem_cons_self
   rw[←ih ss ⟨fun d h=>hd.fr' d (List.mem_cons_of_mem _ h),fun d h=>hd.to' d (List.mem_cons_of_mem _ h)⟩]
   rw[show (fun v=>χ v*(s*(indI (d.to_=v)-indI (d.fr=v))+netT ds ss v))=fun v=>(χ v*(s*indI (d.to_=v))+χ v*((-s)*indI (d.fr=v)))+χ v*netT ds ss v from funext fun v=>by
    rw[Int.mul_add,Int.mul_sub,Int.mul_sub,Int.neg_mul,Int.mul_neg];omega]
   rw[sumN_add,sumN_add,sumN_ind _ _ _ _ h2.1,sumN_ind _ _ _ _ h1.1,if_pos h2.2,if_pos h1.2,Int.mul_sub,Int.neg_mul]
   omega
theorem flow_le (χ:Int→Int):∀(dues:List Du) (sums:List Int),sums.length=dues.length→(∀i,i<dues.length→sums.getD i 0*(χ (dues.getD i default).to_-χ (dues.getD i default).fr)≤0)→flowT χ dues sums≤0:=by
 intro dues
 induction dues with
 |nil=>intro sums _ _;simp[flowT]
 |cons d ds ih=>
  intro sums hl h
  cases sums with
  |nil=>simp at hl
  |cons s ss=>
   have h0:=h 0 (by simp)
   have h1:=ih ss (by simpa using hl) fun i hi=>by have:=h (i+1) (by simpa using hi);simpa using this
   simp only[List.getD_cons_zero]at h0
   simp only[flowT];omega
theorem flow_const (c:Int):∀(dues:List Du) (sums:List Int),flowT (fun _=>c) dues sums=0:=by
 intro dues
 induction dues with
 |nil=>intro sums;simp[flowT]
 |cons d ds ih=>
  intro sums
  cases sums with
  |nil=>simp[flowT]
  |cons s ss=>simp only[flowT,Int.sub_self,Int.mul_zero,ih];rfl
theorem net_congr {v:Int} :∀(dues:List Du) (s s':List Int),s.length=dues.length→s'.length=dues.length→(∀i,i<dues.length→(dues.getD i default).fr=v∨(dues.getD i default).to_=v→s.getD i 0=s'.getD i 0)→netT dues s v=netT dues s' v:=by
 intro dues
 induction dues with
 |nil=>intro s s' _ _ _;simp[netT]
 |cons d ds ih=>
  intro s s' h1 h2 h
  cases s with
  |nil=>simp at h1
  |cons x s=>
   cases s' with
   |nil=>simp at h2
   |cons y s'=>
    simp only[netT]
    rw[ih s s' (by simpa using h1) (by simpa using h2) fun i hi hh=>by have:=h (i+1) (by simpa using hi);simp only[List.getD_cons_succ]at this;exact this hh]
    have h0:=h 0 (by simp)
    simp only[List.getD_cons_zero]at h0
    unfold indI
    by_cases e1:d.to_=v
    ·rw[h0 (.inr e1)]
    ·by_cases e2:d.fr=v
     ·rw[h0 (.inl e2)]
     ·rw[if_neg e1,if_neg e2];simp
def LocT (n:Nat) (dues:List Du) (sums:List Int):Prop:=∀(κ:Int→Int) (c:Int),(∀j,j<dues.length→κ (dues.getD j default).fr=κ (dues.getD j default).to_)→
 (∀v:Int,0≤v→v<n→κ v=c→netT dues (dues.map Du.sum) v=0)→∀i,i<dues.length→κ (dues.getD i default).fr=c→sums.getD i 0=(dues.getD i default).sum
theorem getD_sums {dues:List Du} {i:Nat} (hi:i<dues.length):(dues.map Du.sum).getD i 0=(dues.getD i default).sum:=by
 rw[List.getD_eq_getElem?_getD,List.getD_eq_getElem?_getD,List.getElem?_map,List.getElem?_eq_getElem hi];rfl
theorem LocT.bal {n:Nat} {dues:List Du} {sums:List Int} (h:LocT n dues sums) (hc:Caps dues sums) {κ:Int→Int} {c:Int} (hκ:∀j,j<dues.length→κ (dues.getD j default).fr=κ (dues.getD j default).to_)
 (hb:∀v:Int,0≤v→v<n→κ v=c→netT dues (dues.map Du.sum) v=0) {v:Int} (h0:0≤v) (h1:v<n) (hv:κ v=c):netT dues sums v=0:=by
 rw[←hb v h0 h1 hv]
 refine net_congr dues _ _ hc.len (by simp) fun i hi e=> ?_
 rw[getD_sums hi]
 refine h κ c hκ hb i hi ?_
 rcases e with e|e
 ·rw[e];exact hv
 ·rw[hκ i hi,e];exact hv
theorem link_class {dues:List Du} {sums:List Int} {κ:Int→Int} (hκ:∀j,j<dues.length→κ (dues.getD j default).fr=κ (dues.getD j default).to_):∀(p:List Stp) (v:Int),LinkT v p→(∀s,s∈p→StepOf dues sums s)→
 κ (beginT v p)=κ v∧∀s,s∈p→κ (dues.getD s.due.toNat default).fr=κ v:=by
 intro p
 induction p with
 |nil=>intro v _ _;exact ⟨rfl,fun s hs=>by cases hs⟩
 |cons s p ih=>
  intro v hl hs
  obtain ⟨a1,a2⟩:=ih s.fr hl.2 fun t ht=>hs t (List.mem_cons_of_mem _ ht)
  obtain ⟨i,hi,ei,h⟩:=hs s List.mem_cons_self
  have hk:=hκ i hi
  have e:s.due.toNat=i:=by omega
  have h1:κ s.fr=κ v∧κ (dues.getD s.due.toNat default).fr=κ v:=by
   rw[e,←hl.1]
   rcases h with ⟨_,p1,p2,_⟩|⟨_,p1,p2,_⟩<;>rw[p1,p2,hk]<;>exact ⟨rfl,rfl⟩
  refine ⟨by show κ (beginT s.fr p)=_;rw[a1,h1.1],fun t ht=> ?_⟩
  rcases List.mem_cons.1 ht with rfl|ht
  ·exact h1.2
  ·rw[a2 t ht,h1.1]
def endF (best:List Cst) (too:List Int) (v:Nat) (e:Int):Int:=
 if v<too.length then endF best too (v+1) (if getV 0 too v<0∧((e<0∧(getV default best v).fine=true)∨(0≤e∧lessC (getV default best v) (getV default best e)=true))then v else e)else e
termination_by too.length-v
theorem endF_ok (best:List Cst) (too:List Int):∀(m v:Nat) (e:Int),too.length-v=m→(e= -1∨(0≤e∧e<too.length∧getV 0 too e<0∧(getV default best e).fine=true))→
 (endF best too v e= -1∨(0≤endF best too v e∧endF best too v e<too.length∧getV 0 too (endF best too v e)<0∧(getV default best (endF best too v e)).fine=true))∧
 (endF best too v e= -1→e= -1∧∀u:Int,v≤u→u<too.length→getV 0 too u<0→(getV default best u).fine=false):=by
 intro m
 induction m with
 |zero=>
  intro v e hm he
  rw[endF,if_neg (by omega)]
  exact ⟨he,fun h=>⟨h,fun u h1 h2=>by omega⟩⟩
 |succ m ih=>
  intro v e hm he
  rw[endF,if_pos (by omega)]
  split
  ·rename_i hc
   have hf:(getV default best v).fine=true:=by
    rcases hc.2 with h|h
    ·exact h.2
    ·have:=h.2;unfold lessC at this;simp at this;exact this.1
   obtain ⟨a1,a2⟩:=ih (v+1) v (by omega) (.inr ⟨by omega,by omega,hc.1,hf⟩)
   exact ⟨a1,fun h=>by have:=(a2 h).1;omega⟩
  ·rename_i hc
   obtain ⟨a1,a2⟩:=ih (v+1) e (by omega) he
   refine ⟨a1,fun h=> ?_⟩
   obtain ⟨b1,b2⟩:=a2 h
   refine ⟨b1,fun u h1 h2 h3=> ?_⟩
   by_cases eu:u=v
   ·subst eu
    cases hb:(getV default best v).fine with
    |false=>rfl
    |true=>exact absurd ⟨h3,.inl ⟨by omega,hb⟩⟩ hc
   ·exact b2 u (by omega) h2 h3
def balL (dues:List Du) (sums too:List Int):List Cst×List Int:=cheapF (stepsV dues sums) too
def balE (dues:List Du) (sums too:List Int):Int:=endF (balL dues sums too).1 too 0 (-1)
def balP (dues:List Du) (sums too:List Int):List Stp:=chainT (stepsV dues sums) (balL dues sums too).2 41 (balE dues sums too)
def balB (dues:List Du) (sums too:List Int):Int:=beginT (balE dues sums too) (balP dues sums too)
def balM (dues:List Du) (sums too:List Int):Int:=min (mostT (0-getV 0 too (balE dues sums too)) (balP dues sums too)) (getV 0 too (balB dues sums too))
def balT (dues:List Du) (sums too:List Int):List Int:=
 (too.set (balB dues sums too).toNat (getV 0 too (balB dues sums too)-balM dues sums too)).set (balE dues sums too).toNat
  (getV 0 (too.set (balB dues sums too).toNat (getV 0 too (balB dues sums too)-balM dues sums too)) (balE dues sums too)+balM dues sums too)
def balF (dues:List Du):Nat→List Int→List Int→List Int
 |0,sums,_=>sums
 |k+1,sums,too=>if balE dues sums too<0 then sums else balF dues k (movesT sums (balM dues sums too) (balP dues sums too)) (balT dues sums too)
def posS (too:List Int):Nat:=(too.map fun t=>t.toNat).sum
structure Bal (n:Nat) (dues:List Du) (sums too:List Int):Prop where
 caps:Caps dues sums
 len:too.length=n
 net:∀v:Int,0≤v→v<n→getV 0 too v=netT dues sums v
 pot:∃π,Pot π (stepsV dues sums)
 loc:LocT n dues sums
theorem pot_best {n:Nat} {l:List Stp} {S:Int→Prop} {best:List Cst} {last:List Int} {π:Int→Int} (hp:Pot π l) (hl:StepsIn n l) (h:BI algC n l S best last) (hf:FixT algC l best):
 ∃π',Pot π' l∧∀v,(getV default best v).fine=true→π' v=(getV default best v).c:=by
 have hK:∀l:List Stp,∃K:Int,∀s,s∈l→(getV default best s.to_).c-π s.fr-s.cost≤K:=by
  intro l
  induction l with
  |nil=>exact ⟨0,fun s hs=>by cases hs⟩
  |cons s l ih=>
   obtain ⟨K,hK⟩:=ih
   refine ⟨max K ((getV default best s.to_).c-π s.fr-s.cost),fun t ht=> ?_⟩
   rcases List.mem_cons.1 ht with rfl|ht
   ·omega
   ·have:=hK t ht;omega
 obtain ⟨K,hK⟩:=hK l
 refine ⟨fun v=>if (getV default best v).fine=true then (getV default best v).c else K+π v,fun s hs=> ?_,fun v hv=>by simp only[hv,if_true]⟩
 obtain ⟨i,hi,rfl⟩:=List.mem_iff_getElem.1 hs
 have e:l.getD i default=l[i]:=by rw[List.getD_eq_getElem?_getD,List.getElem?_eq_getElem hi];rfl
 have h3:=hf i hi
 rw[e]at h3
 have h4:=hK _ hs
 have h5:=hp _ hs
 generalize l[i]=s at*
 have h6:lessC (onwC (getV default best s.fr) s) (getV default best s.to_)=false:=h3
 unfold lessC onwC at h6
 simp only
 split<;>split
 ·rename_i a b;simp[a,b]at h6;omega
 ·omega
 ·rename_i a b;rw[Bool.not_eq_true]at a;simp[a,b]at h6
 ·omega
theorem posS_set {too:List Int} {b e:Int} {m:Int} (hb0:0≤b) (hb1:b<too.length) (he0:0≤e) (he1:e<too.length) (hm:0<m) (hb:m≤getV 0 too b) (he:getV 0 too e+m≤0) (hne:b≠e):
 posS ((too.set b.toNat (getV 0 too b-m)).set e.toNat (getV 0 (too.set b.toNat (getV 0 too b-m)) e+m))<posS too:=by
 have h1:=sum_set (fun t:Int=>t.toNat) 0 (getV 0 too b-m) too b.toNat (by omega)
 have h2:=sum_set (fun t:Int=>t.toNat) 0 (getV 0 (too.set b.toNat (getV 0 too b-m)) e+m) (too.set b.toNat (getV 0 too b-m)) e.toNat (by rw[List.length_set];omega)
 have h3:getV 0 (too.set b.toNat (getV 0 too b-m)) e=getV 0 too e:=by rw[getV_set hb0 (by omega) he0,if_neg (fun h=>hne h.symm)]
 rw[h3]at h2⊢
 have h4:(too.set b.toNat (getV 0 too b-m)).getD e.toNat 0=getV 0 too e:=h3
 rw[h4]at h2
 have h5:too.getD b.toNat 0=getV 0 too b:=rfl
 rw[h5]at h1
 unfold posS
 omega
theorem ChainP.link {l:List Stp} {best:List Cst} {last:List Int} {S:Int→Prop} :∀ {p:List Stp} {v:Int},ChainP l best last S v p→LinkT v p:=by
 intro p
 induction p with
 |nil=>intro v _;trivial
 |cons s p ih=>intro v h;exact ⟨h.2.1,ih h.2.2.2.2⟩
section
variable {n:Nat} {dues:List Du} {sums too:List Int}
structure BalS (n:Nat) (dues:List Du) (sums too:List Int):Prop where
 bi:BI algC n (stepsV dues sums) (fun v=>0<getV 0 too v) (balL dues sums too).1 (balL dues sums too).2
 fix:FixT algC (stepsV dues sums) (balL dues sums too).1
theorem bal_search (hd:DuesIn n dues) (h40:n≤40) (h:Bal n dues sums too):BalS n dues sums too:=by
 obtain ⟨π,hp⟩:=h.pot
 obtain ⟨h1,h2⟩:=cheap_BI (stepsIn hd sums) hp h40 h.len
 exact ⟨h1,h2⟩
structure BalW (n:Nat) (dues:List Du) (sums too:List Int):Prop where
 e0:0≤balE dues sums too
 e1:balE dues sums too<n
 eneg:getV 0 too (balE dues sums too)<0
 chain:ChainP (stepsV dues sums) (balL dues sums too).1 (balL dues sums too).2 (fun v=>0<getV 0 too v) (balE dues sums too) (balP dues sums too)
 nd:(vertsT (balE dues sums too) (balP dues sums too)).Nodup
 vin:∀u,u∈vertsT (balE dues sums too) (balP dues sums too)→0≤u∧u<n
 bpos:0<getV 0 too (balB dues sums too)
 blast:getV 0 (balL dues sums too).2 (balB dues sums too)= -1
 b0:0≤balB dues sums too
 b1:balB dues sums too<n
 stepOf:∀s,s∈balP dues sums too→StepOf dues sums s
 dnd:((balP dues sums too).map Stp.due).Nodup
 m0:0<balM dues sums too
 mb:balM dues sums too≤getV 0 too (balB dues sums too)
 me:getV 0 too (balE dues sums too)+balM dues sums too≤0
 ms:∀s,s∈balP dues sums too→balM dues sums too≤s.most
theorem chain_verts_in {l:List Stp} {best:List Cst} {last:List Int} {S:Int→Prop} (hl:StepsIn n l):∀ {p:List Stp} {v:Int},0≤v→v<n→ChainP l best last S v p→∀u,u∈vertsT v p→0≤u∧u<n:=by
 intro p
 induction p with
 |nil=>intro v h0 h1 _ u hu;rw[show u=v by simpa [vertsT]using hu];exact ⟨h0,h1⟩
 |cons s p ih=>
  intro v h0 h1 h u hu
  rcases List.mem_cons.1 hu with rfl|hu
  ·exact ⟨h0,h1⟩
  ·exact ih (hl.fr s h.1).1 (hl.fr s h.1).2 h.2.2.2.2 u hu
theorem bal_way (hd:DuesIn n dues) (h40:n≤40) (h:Bal n dues sums too) (he:¬balE dues sums too<0):BalW n dues sums too:=by
 obtain ⟨h1,h2⟩:=bal_search hd h40 h
 have hl:=stepsIn hd sums
 have hlen:=h.len
 obtain ⟨e1,e2⟩:=endF_ok (balL dues sums too).1 too _ 0 (-1) rfl (.inl rfl)
 have e3:0≤balE dues sums too∧balE dues sums too<too.length∧getV 0 too (balE dues sums too)<0∧(getV default (balL dues sums too).1 (balE dues sums too)).fine=true:=by
  rcases e1 with e1|e1
  ·exact absurd (show balE dues sums too<0 from by unfold balE;omega) he
  ·exact e1
 obtain ⟨c0,c1,c2,c3⟩:=e3
 have hx:bOf algC (balL dues sums too).1 (balE dues sums too)=some ((getV default (balL dues sums too).1 (balE dues sums too)).c,(getV default (balL dues sums too).1 (balE dues sums too)).steps):=by
  show valC (getV default (balL dues sums too).1 (balE dues sums too))=_
  unfold valC
  rw[if_pos c3]
 have hb:=h1.bound algC_ok hl c0 (by omega) hx
 obtain ⟨k1,k2,k3⟩:=chain_ok hl h1 h2 41 _ c0 (by omega) _ hx (by simp only at hb⊢;omega)
 have kb:=chain_begin k1
 have kin:=chain_verts_in hl c0 (by omega) k1
 have kbin:=kin _ (begin_verts _ _)
 have kst:∀s,s∈balP dues sums too→StepOf dues sums s:=fun s hs=>stepOf_of (chain_mem k1 s hs).1
 have kmost:∀s,s∈balP dues sums too→1≤s.most:=fun s hs=>by
  obtain ⟨i,_,_,h|h⟩:=kst s hs
  ·have:=h.2.2.2.2;omega
  ·have:=h.2.2.2.2;omega
 have m1:=mostT_ge (b:=1) (balP dues sums too) (0-getV 0 too (balE dues sums too)) (by omega) kmost
 have m2:=mostT_le (balP dues sums too) (0-getV 0 too (balE dues sums too))
 have hbp:0<getV 0 too (balB dues sums too):=kb.1
 exact ⟨c0,by omega,c2,k1,k2,kin,hbp,kb.2,kbin.1,kbin.2,kst,dues_nodup _ _ k1.link kst k2,by unfold balM;omega,by unfold balM;omega,by unfold balM;omega,fun s hs=>by have:=m2.2 s hs;unfold balM;omega⟩
theorem bal_step (hd:DuesIn n dues) (h40:n≤40) (h:Bal n dues sums too) (he:¬balE dues sums too<0):
 Bal n dues (movesT sums (balM dues sums too) (balP dues sums too)) (balT dues sums too)∧posS (balT dues sums too)<posS too:=by
 have W:=bal_way hd h40 h he
 obtain ⟨h1,h2⟩:=bal_search hd h40 h
 obtain ⟨π,hp⟩:=h.pot
 have hlen:=h.len
 obtain ⟨a1,a2,a3⟩:=moves_ok _ sums _ _ h.caps W.chain.link (fun s hs=>⟨W.stepOf s hs,W.ms s hs⟩) W.dnd (by have:=W.m0;omega)
 have b0:=W.b0
 have b1:=W.b1
 have e0:=W.e0
 have e1:=W.e1
 have hne:balB dues sums too≠balE dues sums too:=fun e=>by have h3:=W.bpos;have h4:=W.eneg;rw[e]at h3;omega
 refine ⟨⟨a1,by unfold balT;simp[hlen],fun v hv0 hv1=> ?_,?_,?_⟩,posS_set b0 (by omega) e0 (by omega) W.m0 W.mb W.me hne⟩
 ·rw[a2 v,←h.net v hv0 hv1]
  unfold balT
  rw[getV_set e0 (by rw[List.length_set];omega) hv0,getV_set b0 (by omega) e0,if_neg (fun (h:balE dues sums too=balB dues sums too)=>hne h.symm),getV_set b0 (by omega) hv0]
  show _=getV 0 too v+balM dues sums too*(indI (balE dues sums too=v)-indI (balB dues sums too=v))
  unfold indI
  by_cases p1:v=balE dues sums too
  ·rw[if_pos p1,if_pos p1.symm,if_neg (fun h=>hne (h.trans p1)),p1];omega
  ·rw[if_neg p1,if_neg (show ¬(balE dues sums too=v)from fun h=>p1 h.symm)]
   by_cases p2:v=balB dues sums too
   ·rw[if_pos p2,if_pos p2.symm,p2];omega
   ·rw[if_neg p2,if_neg (show ¬(balB dues sums too=v)from fun h=>p2 h.symm)];omega
 ·obtain ⟨π',q1,q2⟩:=pot_best hp (stepsIn hd sums) h1 h2
  refine ⟨π',pot_moves q1 fun i hi=> ?_⟩
  by_cases hin:∃s,s∈balP dues sums too∧s.due=i
  ·obtain ⟨s,hs,es⟩:=hin
   right
   obtain ⟨m1,_,_,x,y,m2,m3,m4⟩:=chain_mem W.chain s hs
   have f:∀v x,valC (getV default (balL dues sums too).1 v)=some x→π' v=x.1:=fun v x hx=>by
    unfold valC at hx
    split at hx
    ·rename_i hf;cases hx;exact q2 v hf
    ·cases hx
   have g1:=f _ _ m2
   have g2:=f _ _ m3
   obtain ⟨j,hj,⟨r1,rfl⟩|⟨r1,rfl⟩⟩:=steps_mem.1 m1
   ·obtain rfl:j=i:=by simp only at es;omega
    unfold TightD
    rw[m4]at g1
    simp only at g1 g2;omega
   ·obtain rfl:j=i:=by simp only at es;omega
    unfold TightD
    rw[m4]at g1
    simp only at g1 g2;omega
  ·left
   exact a3 i fun s hs e=>hin ⟨s,hs,e⟩
 ·intro κ c hκ hb i hi hc
  have hl:=link_class hκ _ _ W.chain.link W.stepOf
  have hcl:κ (balB dues sums too)≠c:=fun e=>by
   have h3:=h.loc.bal h.caps hκ hb b0 b1 e
   have h4:=h.net _ b0 b1
   have h5:=W.bpos
   omega
  rw[a3 i fun s hs e=>hcl ?_]
  ·exact h.loc κ c hκ hb i hi hc
  ·have h3:=hl.2 s hs
   rw[show s.due.toNat=i by omega,hc]at h3
   rw[h3]
   exact hl.1
theorem lessC_fine {a b:Cst} (h:lessC a b=false) (ha:a.fine=true):b.fine=true:=by
 unfold lessC at h
 rw[ha]at h
 cases hb:b.fine with
 |true=>rfl
 |false=>rw[hb]at h;exact absurd h (by simp)
theorem bal_end (hd:DuesIn n dues) (h40:n≤40) (h:Bal n dues sums too) (he:balE dues sums too<0):∀v:Int,0≤v→v<n→netT dues sums v=0:=by
 obtain ⟨h1,h2⟩:=bal_search hd h40 h
 have hlen:=h.len
 obtain ⟨e1,e2⟩:=endF_ok (balL dues sums too).1 too _ 0 (-1) rfl (.inl rfl)
 have e3:balE dues sums too= -1:=by
  rcases e1 with e1|e1
  ·exact e1
  ·exact absurd e1.1 (by unfold balE at he;omega)
 have hno:=(e2 e3).2
 generalize hB:(balL dues sums too).1=best at*
 let χ:Int→Int:=fun v=>if (getV default best v).fine=true then 1 else 0
 have hflow:flowT χ dues sums≤0:=by
  refine flow_le χ dues sums h.caps.len fun i hi=> ?_
  have hlo:=h.caps.lo i hi
  by_cases e:sums.getD i 0=0
  ·rw[e];simp
  ·have hm:(⟨i,(dues.getD i default).to_,(dues.getD i default).fr,1,sums.getD i 0,true⟩:Stp)∈stepsV dues sums:=steps_mem.2 ⟨i,hi,.inr ⟨by omega,rfl⟩⟩
   obtain ⟨j,hj,ej⟩:=List.mem_iff_getElem.1 hm
   have h3:=h2 j hj
   rw[show (stepsV dues sums).getD j default=⟨i,(dues.getD i default).to_,(dues.getD i default).fr,1,sums.getD i 0,true⟩from (by rw[List.getD_eq_getElem?_getD,List.getElem?_eq_getElem hj];exact ej)]at h3
   have h4:lessC (onwC (getV default best (dues.getD i default).to_) ⟨i,(dues.getD i default).to_,(dues.getD i default).fr,1,sums.getD i 0,true⟩) (getV default best (dues.getD i default).fr)=false:=h3
   have h5:χ (dues.getD i default).to_-χ (dues.getD i default).fr≤0:=by
    show (if _ then (1:Int)else 0)-(if _ then (1:Int)else 0)≤0
    split<;>split<;>rename_i a b<;>first|omega|exact absurd (lessC_fine h4 a) b
   exact Int.mul_nonpos_of_nonneg_of_nonpos hlo h5
 have hsum:=sumN_net χ dues sums hd
 have hnn:∀v:Int,0≤v→v<n→0≤χ v*netT dues sums v:=fun v h0 hv=>by
  show 0≤(if _ then (1:Int)else 0)*_
  split
  ·rename_i hf
   rw[Int.one_mul,←h.net v h0 hv]
   rcases Int.lt_or_le (getV 0 too v) 0 with hlt|hge
   ·have:=hno v (by omega) (by omega) hlt
    rw[this]at hf;cases hf
   ·exact hge
  ·simp
 have hz:=(sumN_nonneg n hnn).2 (by rw[hsum];exact hflow)
 have hle:∀v:Int,0≤v→v<n→netT dues sums v≤0:=fun v h0 hv=>by
  rcases Int.lt_or_le 0 (netT dues sums v)with hlt|hge
  ·have hf:(getV default best v).fine=true:=by
    have:=h1.src v h0 hv (by show 0<getV 0 too v;rw[h.net v h0 hv];exact hlt)
    have h3:valC (getV default best v)≠none:=this
    unfold valC at h3
    split at h3
    ·assumption
    ·exact absurd rfl h3
   have h3:=hz v h0 hv
   have:χ v=1:=if_pos hf
   rw[this]at h3;omega
  ·exact hge
 have hall:=sumN_net (fun _=>1) dues sums hd
 rw[flow_const]at hall
 intro v h0 hv
 have h3:=(sumN_nonneg (f:=fun v=>0-netT dues sums v) n fun v h0 hv=>by have:=hle v h0 hv;omega).2 (by
  have h4:=sumN_add (fun v=>0-netT dues sums v) (fun v=>1*netT dues sums v) n
  rw[hall,sumN_congr (g:=fun _=>0) n (fun v _ _=>by omega),sumN_zero]at h4
  omega) v h0 hv
 omega
theorem bal_all (hd:DuesIn n dues) (h40:n≤40):∀(k:Nat) (sums too:List Int),posS too<k→Bal n dues sums too→
 Caps dues (balF dues k sums too)∧(∀v:Int,0≤v→v<n→netT dues (balF dues k sums too) v=0)∧(∃π,Pot π (stepsV dues (balF dues k sums too)))∧LocT n dues (balF dues k sums too):=by
 intro k
 induction k with
 |zero=>intro sums too h _;omega
 |succ k ih=>
  intro sums too hk h
  rw[balF]
  split
  ·rename_i he;exact ⟨h.caps,bal_end hd h40 h he,h.pot,h.loc⟩
  ·rename_i he
   obtain ⟨a1,a2⟩:=bal_step hd h40 h he
   exact ih _ _ (by omega) a1
end
def too0 (n:Nat) (dues:List Du) (sums:List Int):List Int:=(List.range n).map fun v=>netT dues sums (v:Nat)
theorem too0_get {n:Nat} {dues:List Du} {sums:List Int} {v:Int} (h0:0≤v) (h1:v<n):getV 0 (too0 n dues sums) v=netT dues sums v:=by
 unfold getV too0
 rw[List.getD_eq_getElem?_getD,List.getElem?_map,List.getElem?_eq_getElem (by simp;omega)]
 simp
 rw[show max v 0=v by omega]
theorem bal_start {n:Nat} {dues:List Du} (hs:∀d,d∈dues→0≤d.sum):Bal n dues (dues.map Du.sum) (too0 n dues (dues.map Du.sum)):=by
 refine ⟨⟨by simp,fun i hi=> ?_,fun i hi=> ?_⟩,by simp[too0],fun v h0 h1=>too0_get h0 h1,⟨fun _=>0,?_⟩,fun κ c _ _ i hi _=>getD_sums hi⟩
 ·rw[getD_sums hi];exact hs _ (memD hi)
 ·rw[getD_sums hi];exact Int.le_refl _
 ·rw[pot_iff]
  intro i hi
  rw[getD_sums hi]
  unfold PotD;dsimp only;omega
def raiseL (dues:List Du) (sums p:List Int) (i:Nat):List Stp:=((stepsV dues sums).filter fun s=>decide ((i:Int)<s.due)&&decide (getV 0 p s.to_=getV 0 p s.fr+s.cost)).map fun s=>⟨s.due,s.fr,s.to_,0,s.most,s.back⟩
def raiseT (n:Nat) (dues:List Du) (i:Nat):List Int:=(List.replicate n 0).set (dues.getD i default).to_.toNat 1
def raiseC (n:Nat) (dues:List Du) (sums p:List Int) (i:Nat):List Cst×List Int:=cheapF (raiseL dues sums p i) (raiseT n dues i)
def raiseP (n:Nat) (dues:List Du) (sums p:List Int) (i:Nat):List Stp:=chainT (raiseL dues sums p i) (raiseC n dues sums p i).2 41 (dues.getD i default).fr
def raiseM (n:Nat) (dues:List Du) (sums p:List Int) (i:Nat):Int:=mostT ((dues.getD i default).sum-sums.getD i 0) (raiseP n dues sums p i)
def raiseS (n:Nat) (dues:List Du) (sums p:List Int) (i:Nat):List Int:=
 (movesT sums (raiseM n dues sums p i) (raiseP n dues sums p i)).set i ((movesT sums (raiseM n dues sums p i) (raiseP n dues sums p i)).getD i 0+raiseM n dues sums p i)
def raiseF (n:Nat) (dues:List Du) (p:List Int) (i:Nat):Nat→List Int→List Int
 |0,sums=>sums
 |k+1,sums=>if sums.getD i 0<(dues.getD i default).sum then
   if (getV default (raiseC n dues sums p i).1 (dues.getD i default).fr).fine=true then raiseF n dues p i k (raiseS n dues sums p i)else sums
  else sums
structure Ris (n:Nat) (dues:List Du) (sums p:List Int):Prop where
 caps:Caps dues sums
 net:∀v:Int,0≤v→v<n→netT dues sums v=0
 pot:Pot (getV 0 p) (stepsV dues sums)
 loc:LocT n dues sums
section
variable {n:Nat} {dues:List Du} {sums p:List Int} {i:Nat}
theorem raiseL_mem {s:Stp} (h:s∈raiseL dues sums p i):∃t,t∈stepsV dues sums∧s=⟨t.due,t.fr,t.to_,0,t.most,t.back⟩∧(i:Int)<t.due∧getV 0 p t.to_=getV 0 p t.fr+t.cost:=by
 obtain ⟨t,ht,rfl⟩:=List.mem_map.1 h
 obtain ⟨h1,h2⟩:=List.mem_filter.1 ht
 simp at h2
 exact ⟨t,h1,rfl,h2.1,h2.2⟩
theorem raiseL_in (hd:DuesIn n dues):StepsIn n (raiseL dues sums p i):=by
 have h:=stepsIn hd sums
 refine ⟨fun s hs=> ?_,fun s hs=> ?_,fun s hs=> ?_⟩<;>obtain ⟨t,ht,rfl,_⟩:=raiseL_mem hs
 ·exact h.fr t ht
 ·exact h.to_ t ht
 ·simp
theorem raiseL_of {s:Stp} (h:s∈raiseL dues sums p i):StepOf dues sums s:=by
 obtain ⟨t,ht,rfl,_⟩:=raiseL_mem h
 obtain ⟨j,hj,e,h⟩:=stepOf_of ht
 exact ⟨j,hj,e,h⟩
theorem raise_search (hd:DuesIn n dues) (h40:n≤40):BI algC n (raiseL dues sums p i) (fun v=>0<getV 0 (raiseT n dues i) v) (raiseC n dues sums p i).1 (raiseC n dues sums p i).2∧FixT algC (raiseL dues sums p i) (raiseC n dues sums p i).1:=
 cheap_BI (raiseL_in hd) (π:=fun _=>0) (fun s hs=>by obtain ⟨t,ht,rfl,_⟩:=raiseL_mem hs;simp) h40 (by simp[raiseT])
structure RisW (n:Nat) (dues:List Du) (sums p:List Int) (i:Nat):Prop where
 chain:ChainP (raiseL dues sums p i) (raiseC n dues sums p i).1 (raiseC n dues sums p i).2 (fun v=>0<getV 0 (raiseT n dues i) v) (dues.getD i default).fr (raiseP n dues sums p i)
 nd:(vertsT (dues.getD i default).fr (raiseP n dues sums p i)).Nodup
 begin_:beginT (dues.getD i default).fr (raiseP n dues sums p i)=(dues.getD i default).to_
 blast:getV 0 (raiseC n dues sums p i).2 (dues.getD i default).to_= -1
 stepOf:∀s,s∈raiseP n dues sums p i→StepOf dues sums s
 later:∀s,s∈raiseP n dues sums p i→(i:Int)<s.due
 dnd:((raiseP n dues sums p i).map Stp.due).Nodup
 m0:0<raiseM n dues sums p i
 mi:raiseM n dues sums p i≤(dues.getD i default).sum-sums.getD i 0
 ms:∀s,s∈raiseP n dues sums p i→raiseM n dues sums p i≤s.most
theorem raise_way (hd:DuesIn n dues) (h40:n≤40) (hi:i<dues.length) (hlt:sums.getD i 0<(dues.getD i default).sum) (hf:(getV default (raiseC n dues sums p i).1 (dues.getD i default).fr).fine=true):RisW n dues sums p i:=by
 obtain ⟨h1,h2⟩:=raise_search (sums:=sums) (p:=p) (i:=i) hd h40
 have hl:=raiseL_in (sums:=sums) (p:=p) (i:=i) hd
 have f0:=hd.fr i hi
 have t0:=hd.to_ i hi
 have hx:bOf algC (raiseC n dues sums p i).1 (dues.getD i default).fr=some ((getV default (raiseC n dues sums p i).1 (dues.getD i default).fr).c,(getV default (raiseC n dues sums p i).1 (dues.getD i default).fr).steps):=by
  show valC (getV default (raiseC n dues sums p i).1 (dues.getD i default).fr)=_
  unfold valC
  rw[if_pos hf]
 have hb:=h1.bound algC_ok hl f0.1 f0.2 hx
 obtain ⟨k1,k2,k3⟩:=chain_ok hl h1 h2 41 _ f0.1 f0.2 _ hx (by simp only at hb⊢;omega)
 have kb:=chain_begin k1
 have kin:=chain_verts_in hl f0.1 f0.2 k1
 have kbin:=kin _ (begin_verts _ _)
 have kst:∀s,s∈raiseP n dues sums p i→StepOf dues sums s:=fun s hs=>raiseL_of (chain_mem k1 s hs).1
 have kmost:∀s,s∈raiseP n dues sums p i→1≤s.most:=fun s hs=>by
  obtain ⟨i,_,_,h|h⟩:=kst s hs
  ·have:=h.2.2.2.2;omega
  ·have:=h.2.2.2.2;omega
 have m1:=mostT_ge (b:=1) (raiseP n dues sums p i) ((dues.getD i default).sum-sums.getD i 0) (by omega) kmost
 have m2:=mostT_le (raiseP n dues sums p i) ((dues.getD i default).sum-sums.getD i 0)
 have hbeg:beginT (dues.getD i default).fr (raiseP n dues sums p i)=(dues.getD i default).to_:=by
  have h3:=kb.1
  unfold raiseT at h3
  rw[getV_set t0.1 (by rw[List.length_replicate];omega) kbin.1]at h3
  split at h3
  ·assumption
  ·rw[getV_rep (by omega)]at h3;exact absurd h3 (by decide)
 exact ⟨k1,k2,hbeg,hbeg▸kb.2,kst,fun s hs=>by obtain ⟨t,_,rfl,h,_⟩:=raiseL_mem (chain_mem k1 s hs).1;exact h,dues_nodup _ _ k1.link kst k2,by unfold raiseM;omega,m2.1,m2.2⟩
theorem raise_step (hd:DuesIn n dues) (h40:n≤40) (hi:i<dues.length) (htt:getV 0 p (dues.getD i default).to_=getV 0 p (dues.getD i default).fr-1) (h:Ris n dues sums p) (hlt:sums.getD i 0<(dues.getD i default).sum) (hf:(getV default (raiseC n dues sums p i).1 (dues.getD i default).fr).fine=true):
 Ris n dues (raiseS n dues sums p i) p∧(raiseS n dues sums p i).getD i 0=sums.getD i 0+raiseM n dues sums p i:=by
 have W:=raise_way (p:=p) hd h40 hi hlt hf
 obtain ⟨a1,a2,a3⟩:=moves_ok _ sums _ _ h.caps W.chain.link (fun s hs=>⟨W.stepOf s hs,W.ms s hs⟩) W.dnd (by have:=W.m0;omega)
 have e0:(movesT sums (raiseM n dues sums p i) (raiseP n dues sums p i)).getD i 0=sums.getD i 0:=a3 i fun s hs e=>by have:=W.later s hs;omega
 have hlen:=a1.len
 have m0:=W.m0
 have mi:=W.mi
 have lo:=h.caps.lo i hi
 have hS:∀j,(raiseS n dues sums p i).getD j 0=if j=i then sums.getD i 0+raiseM n dues sums p i else (movesT sums (raiseM n dues sums p i) (raiseP n dues sums p i)).getD j 0:=fun j=>by
  unfold raiseS
  rw[getD_setL (by omega),e0]
 have hch:∀j:Nat,(raiseS n dues sums p i).getD j 0=sums.getD j 0∨(j=i∨∃s,s∈raiseP n dues sums p i∧s.due=j):=fun j=>by
  rw[hS]
  by_cases e:j=i
  ·exact .inr (.inl e)
  ·rw[if_neg e]
   by_cases hin:∃s,s∈raiseP n dues sums p i∧s.due=j
   ·exact .inr (.inr hin)
   ·exact .inl (a3 j fun s hs e=>hin ⟨s,hs,e⟩)
 refine ⟨⟨⟨by unfold raiseS;rw[List.length_set];exact hlen,fun j hj=> ?_,fun j hj=> ?_⟩,fun v h0 h1=> ?_,?_,?_⟩,by rw[hS,if_pos rfl]⟩
 ·rw[hS];split
  ·omega
  ·exact a1.lo j hj
 ·rw[hS];split
  ·rename_i e;subst e;omega
  ·exact a1.hi j hj
 ·unfold raiseS
  rw[net_set _ _ _ _ _ hlen hi,a2,h.net v h0 h1,e0,W.begin_]
  have e1:∀a b m:Int,0+m*(a-b)+(sums.getD i 0+m-sums.getD i 0)*(b-a)=0:=fun a b m=>by
   rw[show sums.getD i 0+m-sums.getD i 0=m by omega,Int.mul_sub,Int.mul_sub];omega
  exact e1 _ _ _
 ·refine pot_moves h.pot fun j hj=> ?_
  rcases hch j with e|rfl|⟨s,hs,es⟩
  ·exact .inl e
  ·exact .inr htt
  ·right
   obtain ⟨t,ht,rfl,_,htp⟩:=raiseL_mem (chain_mem W.chain s hs).1
   obtain ⟨q,hq,⟨r1,rfl⟩|⟨r1,rfl⟩⟩:=steps_mem.1 ht
   ·obtain rfl:q=j:=by simp only at es;omega
    unfold TightD;simp only at htp;omega
   ·obtain rfl:q=j:=by simp only at es;omega
    unfold TightD;simp only at htp;omega
 ·intro κ c hκ hb j hj hc
  have hl:=link_class hκ _ _ W.chain.link W.stepOf
  have hcl:κ (dues.getD i default).fr≠c:=fun e=>by
   have:=h.loc κ c hκ hb i hi e;omega
  rcases hch j with e|rfl|⟨s,hs,es⟩
  ·rw[e];exact h.loc κ c hκ hb j hj hc
  ·exact absurd hc hcl
  ·have h3:=hl.2 s hs
   rw[show s.due.toNat=j by omega,hc]at h3
   exact absurd h3.symm hcl
theorem raise_all (hd:DuesIn n dues) (h40:n≤40) (hi:i<dues.length) (htt:getV 0 p (dues.getD i default).to_=getV 0 p (dues.getD i default).fr-1):∀(k:Nat) (sums:List Int),((dues.getD i default).sum-sums.getD i 0).toNat<k→Ris n dues sums p→Ris n dues (raiseF n dues p i k sums) p:=by
 intro k
 induction k with
 |zero=>intro sums h _;omega
 |succ k ih=>
  intro sums hk h
  rw[raiseF]
  split
  ·rename_i hlt
   split
   ·rename_i hf
    obtain ⟨a1,a2⟩:=raise_step hd h40 hi htt h hlt hf
    have W:=(raise_way (p:=p) hd h40 hi hlt hf).m0
    exact ih _ (by omega) a1
   ·exact h
  ·exact h
end
def raise1 (n:Nat) (dues:List Du) (p:List Int) (sums:List Int) (i:Nat):List Int:=
 if getV 0 p (dues.getD i default).to_=getV 0 p (dues.getD i default).fr-1 then raiseF n dues p i (((dues.getD i default).sum-sums.getD i 0).toNat+1) sums else sums
def raises (n:Nat) (dues:List Du) (p:List Int) (sums:List Int) (i:Nat):List Int:=
 if i<dues.length then raises n dues p (raise1 n dues p sums i) (i+1)else sums
termination_by dues.length-i
theorem raises_ok {n:Nat} {dues:List Du} {p:List Int} (hd:DuesIn n dues) (h40:n≤40):∀(m i:Nat) (sums:List Int),dues.length-i=m→Ris n dues sums p→Ris n dues (raises n dues p sums i) p:=by
 intro m
 induction m with
 |zero=>intro i sums hm h;rw[raises,if_neg (by omega)];exact h
 |succ m ih=>
  intro i sums hm h
  rw[raises,if_pos (by omega)]
  refine ih _ _ (by omega) ?_
  unfold raise1
  split
  ·rename_i htt;exact raise_all hd h40 (by omega) htt _ _ (by omega) h
  ·exact h
def balS (n:Nat) (dues:List Du):List Int:=balF dues (posS (too0 n dues (dues.map Du.sum))+1) (dues.map Du.sum) (too0 n dues (dues.map Du.sum))
def clrF (n:Nat) (dues:List Du):List Int:=raises n dues (potF n (stepsV dues (balS n dues))) (balS n dues) 0
structure DuesOK (n:Nat) (dues:List Du):Prop where
 in_:DuesIn n dues
 sum:∀d,d∈dues→0≤d.sum
 n40:n≤40
theorem balS_ok {n:Nat} {dues:List Du} (h:DuesOK n dues):Ris n dues (balS n dues) (potF n (stepsV dues (balS n dues))):=by
 obtain ⟨a1,a2,⟨π,a3⟩,a4⟩:=bal_all h.in_ h.n40 _ _ _ (Nat.lt_succ_self _) (bal_start (n:=n) h.sum)
 exact ⟨a1,a2,(pot_BI (stepsIn h.in_ _) a3 h.n40).2.1,a4⟩
theorem clr_ok {n:Nat} {dues:List Du} (h:DuesOK n dues):Ris n dues (clrF n dues) (potF n (stepsV dues (balS n dues))):=raises_ok h.in_ h.n40 _ _ _ rfl (balS_ok h)
def bAt (l:List Bool) (v:Int):Bool:=l.getD v.toNat false
def visitF (out:List Bool) (q:List Int):List Int→List Bool×List Int
 | []=>(out,q)
 |b::l=>if bAt out b=true then visitF out q l else visitF (out.set b.toNat true) (q++ [b]) l
def bfsF (to_:List (List Int)):Nat→List Bool→List Int→List Bool
 |0,out,_=>out
 |_+1,out,[]=>out
 |k+1,out,a::q=>bfsF to_ k (visitF out q (to_.getD a.toNat [])).1 (visitF out q (to_.getD a.toNat [])).2
def reachF (to_:List (List Int)) (a:Int):List Bool:=bfsF to_ (to_.length+1) ((List.replicate to_.length false).set a.toNat true) [a]
structure ToIn (n:Nat) (to_:List (List Int)):Prop where
 len:to_.length=n
 in_:∀l,l∈to_→∀b,b∈l→0≤b∧b<n
def ClosedT (n:Nat) (to_:List (List Int)) (X:Int→Prop):Prop:=∀a:Int,0≤a→a<n→X a→∀b,b∈to_.getD a.toNat []→X b
theorem bAt_set {out:List Bool} {b v:Int} (hb:0≤b) (hl:b.toNat<out.length) (hv:0≤v):bAt (out.set b.toNat true) v=if v=b then true else bAt out v:=by
 unfold bAt
 rw[getD_setL hl]
 by_cases e:v=b
 ·subst e;simp
 ·rw[if_neg (by omega),if_neg e]
def cntF (out:List Bool):Nat:=(out.map fun b=>if b=true then 0 else 1).sum
section
variable {n:Nat} {to_:List (List Int)} {X:Int→Prop}
theorem visit_ok:∀(l:List Int) (out:List Bool) (q:List Int),out.length=n→(∀b,b∈l→0≤b∧b<n)→(∀b,b∈l→X b)→
 (visitF out q l).1.length=n∧(∀v:Int,0≤v→bAt out v=true→bAt (visitF out q l).1 v=true)∧(∀b,b∈l→bAt (visitF out q l).1 b=true)∧
 (∀v:Int,0≤v→bAt (visitF out q l).1 v=true→bAt out v=true∨(X v∧v∈(visitF out q l).2))∧(∀v,v∈q→v∈(visitF out q l).2)∧(∀v,v∈(visitF out q l).2→v∈q∨(0≤v∧v<n∧bAt (visitF out q l).1 v=true))∧
 (visitF out q l).2.length+cntF (visitF out q l).1=q.length+cntF out:=by
 intro l
 induction l with
 |nil=>intro out q h _ _;exact ⟨h,fun _ _ h=>h,fun b hb=>(by cases hb),fun v _ h=> .inl h,fun v h=>h,fun v h=> .inl h,rfl⟩
 |cons b l ih=>
  intro out q h hin hX
  have hb:=hin b List.mem_cons_self
  rw[visitF]
  split
  ·rename_i hc
   obtain ⟨a1,a2,a3,a4,a5,a6,a7⟩:=ih out q h (fun x hx=>hin x (List.mem_cons_of_mem _ hx)) (fun x hx=>hX x (List.mem_cons_of_mem _ hx))
   refine ⟨a1,a2,fun x hx=> ?_,a4,a5,a6,a7⟩
   rcases List.mem_cons.1 hx with rfl|hx
   ·exact a2 x hb.1 hc
   ·exact a3 x hx
  ·rename_i hc
   obtain ⟨a1,a2,a3,a4,a5,a6,a7⟩:=ih (out.set b.toNat true) (q++ [b]) (by rw[List.length_set];exact h) (fun x hx=>hin x (List.mem_cons_of_mem _ hx)) (fun x hx=>hX x (List.mem_cons_of_mem _ hx))
   have hs:∀v:Int,0≤v→bAt (out.set b.toNat true) v=if v=b then true else bAt out v:=fun v hv=>bAt_set hb.1 (by omega) hv
   refine ⟨a1,fun v hv ho=>a2 v hv (by rw[hs v hv,ho];split<;>rfl),fun x hx=> ?_,fun v hv ho=> ?_,fun v hv=>a5 v (List.mem_append_left _ hv),fun v hv=> ?_,?_⟩
   ·rcases List.mem_cons.1 hx with rfl|hx
    ·exact a2 x hb.1 (by rw[hs x hb.1,if_pos rfl])
    ·exact a3 x hx
   ·rcases a4 v hv ho with h1|h1
    ·rw[hs v hv]at h1
     split at h1
     ·rename_i e;subst e
      exact .inr ⟨hX v List.mem_cons_self,a5 v (List.mem_append_right _ (List.mem_singleton.2 rfl))⟩
     ·exact .inl h1
    ·exact .inr h1
   ·rcases a6 v hv with h1|h1
    ·rcases List.mem_append.1 h1 with h1|h1
     ·exact .inl h1
     ·rw[List.mem_singleton.1 h1]
      exact .inr ⟨hb.1,hb.2,a2 b hb.1 (by rw[hs b hb.1,if_pos rfl])⟩
    ·exact .inr h1
   ·rw[a7]
    have h1:=sum_set (fun b:Bool=>if b=true then 0 else 1) false true out b.toNat (by omega)
    have h2:out.getD b.toNat false=false:=by unfold bAt at hc;simpa using hc
    rw[h2]at h1
    unfold cntF
    simp only[List.length_append,List.length_cons,List.length_nil,if_true,if_false,Bool.false_eq_true]at h1⊢
    omega
structure BfsI (n:Nat) (to_:List (List Int)) (X:Int→Prop) (out:List Bool) (q:List Int):Prop where
 len:out.length=n
 qin:∀v,v∈q→0≤v∧v<n∧bAt out v=true
 sound:∀v:Int,0≤v→bAt out v=true→X v
 done_:∀v:Int,0≤v→v<n→bAt out v=true→v∈q∨∀b,b∈to_.getD v.toNat []→bAt out b=true
theorem to_in (ht:ToIn n to_) {a:Int} (h0:0≤a) (h1:a<n):∀b,b∈to_.getD a.toNat []→0≤b∧b<n:=by
 have:a.toNat<to_.length:=by rw[ht.len];omega
 exact ht.in_ _ (memD this)
theorem bfs_ok (ht:ToIn n to_) (hX:ClosedT n to_ X):∀(k:Nat) (out:List Bool) (q:List Int),q.length+cntF out<k→BfsI n to_ X out q→BfsI n to_ X (bfsF to_ k out q) []:=by
 intro k
 induction k with
 |zero=>intro out q h _;omega
 |succ k ih=>
  intro out q hk h
  cases q with
  |nil=>exact h
  |cons a q=>
   have ha:=h.qin a List.mem_cons_self
   have hin:=to_in ht ha.1 ha.2.1
   obtain ⟨a1,a2,a3,a4,a5,a6,a7⟩:=visit_ok (X:=X) (to_.getD a.toNat []) out q h.len hin (hX a ha.1 ha.2.1 (h.sound a ha.1 ha.2.2))
   refine ih _ _ (by simp only[List.length_cons]at hk;omega) ⟨a1,fun v hv=> ?_,fun v hv ho=> ?_,fun v h0 h1 ho=> ?_⟩
   ·rcases a6 v hv with h2|h2
    ·have:=h.qin v (List.mem_cons_of_mem _ h2)
     exact ⟨this.1,this.2.1,a2 v this.1 this.2.2⟩
    ·exact h2
   ·rcases a4 v hv ho with h2|h2
    ·exact h.sound v hv h2
    ·exact h2.1
   ·rcases a4 v h0 ho with h2|h2
    ·rcases h.done_ v h0 h1 h2 with h3|h3
     ·rcases List.mem_cons.1 h3 with rfl|h3
      ·exact .inr a3
      ·exact .inl (a5 v h3)
     ·right
      intro b hb
      have:=to_in ht h0 h1 b hb
      exact a2 b this.1 (h3 b hb)
    ·exact .inl h2.2
theorem cnt_rep (n:Nat):cntF (List.replicate n false)=n:=by
 unfold cntF
 simp
theorem reach_I (ht:ToIn n to_) (hX:ClosedT n to_ X) {a:Int} (h0:0≤a) (h1:a<n) (ha:X a):BfsI n to_ X (reachF to_ a) []:=by
 have hl:=ht.len
 have hg:∀v:Int,0≤v→bAt ((List.replicate to_.length false).set a.toNat true) v=if v=a then true else bAt (List.replicate to_.length false) v:=fun v hv=>bAt_set h0 (by rw[List.length_replicate];omega) hv
 have hr:∀v:Int,bAt (List.replicate to_.length false) v=false:=fun v=>by
  unfold bAt
  rw[List.getD_eq_getElem?_getD,List.getElem?_replicate]
  split<;>rfl
 have h3:=sum_set (fun b:Bool=>if b=true then 0 else 1) false true (List.replicate to_.length false) a.toNat (by rw[List.length_replicate];omega)
 have h4:=cnt_rep to_.length
 have h5:=hr a
 unfold bAt at h5
 rw[h5]at h3
 refine bfs_ok ht hX _ _ _ ?_ ⟨by simp[hl],fun v hv=> ?_,fun v hv ho=> ?_,fun v hv0 hv1 ho=> ?_⟩
 ·unfold cntF at*
  simp only[List.length_cons,List.length_nil,if_true,if_false,Bool.false_eq_true]at h3⊢
  omega
 ·rw[List.mem_singleton.1 hv]
  exact ⟨h0,h1,by rw[hg a h0,if_pos rfl]⟩
 ·rw[hg v hv]at ho
  split at ho
  ·rename_i e;rw[e];exact ha
  ·rw[hr]at ho;cases ho
 ·rw[hg v hv0]at ho
  split at ho
  ·rename_i e;rw[e];exact .inl (List.mem_singleton.2 rfl)
  ·rw[hr]at ho;cases ho
theorem reach_closed (ht:ToIn n to_) {a:Int} (h0:0≤a) (h1:a<n):bAt (reachF to_ a) a=true∧ClosedT n to_ (fun v=>bAt (reachF to_ a) v=true):=by
 have h:=reach_I ht (X:=fun _=>True) (fun _ _ _ _ _ _=>trivial) h0 h1 trivial
 refine ⟨?_,fun v hv0 hv1 ho b hb=> ?_⟩
 ·
  have hm:∀(k:Nat) (out:List Bool) (q:List Int),out.length=n→(∀v,v∈q→0≤v∧v<n)→bAt out a=true→bAt (bfsF to_ k out q) a=true:=by
   intro k
   induction k with
   |zero=>intro out q _ _ h;exact h
   |succ k ih=>
    intro out q hl hq h
    cases q with
    |nil=>exact h
    |cons c q=>
     have hc:=hq c List.mem_cons_self
     obtain ⟨a1,a2,_,_,_,a6,_⟩:=visit_ok (X:=fun _=>True) (to_.getD c.toNat []) out q hl (to_in ht hc.1 hc.2) (fun _ _=>trivial)
     refine ih _ _ a1 (fun v hv=> ?_) (a2 a h0 h)
     rcases a6 v hv with h2|h2
     ·exact hq v (List.mem_cons_of_mem _ h2)
     ·exact ⟨h2.1,h2.2.1⟩
  have hl:=ht.len
  refine hm _ _ _ (by simp[hl]) (fun v hv=>by rw[List.mem_singleton.1 hv];exact ⟨h0,h1⟩) ?_
  rw[bAt_set h0 (by rw[List.length_replicate];omega) h0,if_pos rfl]
 ·rcases h.done_ v hv0 hv1 ho with h2|h2
  ·cases h2
  ·exact h2 b hb
theorem reach_least (ht:ToIn n to_) (hX:ClosedT n to_ X) {a:Int} (h0:0≤a) (h1:a<n) (ha:X a) {v:Int} (hv:0≤v) (h:bAt (reachF to_ a) v=true):X v:=(reach_I ht hX h0 h1 ha).sound v hv h
def eachR (to_:List (List Int)) (a b:Int):Prop:=bAt (reachF to_ a) b=true∧bAt (reachF to_ b) a=true
theorem each_trans (ht:ToIn n to_) {a b c:Int} (ha:0≤a∧a<n) (hb:0≤b∧b<n) (hc:0≤c∧c<n) (h1:eachR to_ a b) (h2:eachR to_ b c):eachR to_ a c:=
 ⟨reach_least ht (reach_closed ht ha.1 ha.2).2 hb.1 hb.2 h1.1 hc.1 h2.1,reach_least ht (reach_closed ht hc.1 hc.2).2 hb.1 hb.2 h2.2 ha.1 h1.2⟩
theorem each_symm {a b:Int} (h:eachR to_ a b):eachR to_ b a:=⟨h.2,h.1⟩
def grpF (to_:List (List Int)) (a:Int):Nat→List Int
 |0=>[]
 |k+1=>grpF to_ a k++(if bAt (reachF to_ a) (a+k)=true∧bAt (reachF to_ (a+k)) a=true then [a+k]else [])
theorem grp_mem {a:Int} :∀ {k:Nat} {v:Int},v∈grpF to_ a k↔a≤v∧v<a+k∧eachR to_ a v:=by
 intro k
 induction k with
 |zero=>intro v;simp[grpF];omega
 |succ k ih=>
  intro v
  rw[grpF,List.mem_append,ih]
  constructor
  ·rintro (h|h)
   ·exact ⟨h.1,by omega,h.2.2⟩
   ·split at h
    ·rename_i hc
     rw[List.mem_singleton.1 h]
     exact ⟨by omega,by omega,hc⟩
    ·cases h
  ·rintro ⟨h1,h2,h3⟩
   by_cases e:v=a+k
   ·subst e;exact .inr (by rw[if_pos (show _∧_ from h3)];exact List.mem_singleton.2 rfl)
   ·exact .inl ⟨h1,by omega,h3⟩
def grpsF (to_:List (List Int)) (out:List (List Int)) (a:Nat):List (List Int):=
 if a<to_.length then grpsF to_ (if (out.any fun g=>g.contains (a:Int))=true then out else out++ [grpF to_ a (to_.length-a)]) (a+1)else out
termination_by to_.length-a
structure GrpI (n:Nat) (to_:List (List Int)) (out:List (List Int)) (a:Nat):Prop where
 closed:∀g,g∈out→∀u v:Int,0≤u→u<n→0≤v→v<n→u∈g→eachR to_ u v→v∈g
 all:∀u:Int,0≤u→u<a→∃g,g∈out∧u∈g
 in_:∀g,g∈out→∀u,u∈g→0≤u∧u<n
 pos:0<a→out≠ []
theorem grps_ok (ht:ToIn n to_):∀(m a:Nat) (out:List (List Int)),to_.length-a=m→a≤n→GrpI n to_ out a→GrpI n to_ (grpsF to_ out a) n:=by
 have hl:=ht.len
 intro m
 induction m with
 |zero=>intro a out hm ha h;rw[grpsF,if_neg (by omega)];obtain rfl:a=n:=by omega
        exact h
 |succ m ih=>
  intro a out hm ha h
  rw[grpsF,if_pos (by omega)]
  refine ih (a+1) _ (by omega) (by omega) ?_
  split
  ·rename_i hc
   obtain ⟨g,hg,hga⟩:=List.any_eq_true.1 hc
   refine ⟨h.closed,fun u h0 h1=> ?_,h.in_,fun _ e=>by rw[e]at hg;cases hg⟩
   by_cases e:u=a
   ·subst e;exact ⟨g,hg,by simpa using hga⟩
   ·exact h.all u h0 (by omega)
  ·rename_i hc
   have hno:∀g,g∈out→¬(a:Int)∈g:=fun g hg hm=>hc (List.any_eq_true.2 ⟨g,hg,by simpa using hm⟩)
   have haa:0≤(a:Int)∧(a:Int)<n:=⟨by omega,by omega⟩
   have hmem:∀v:Int,v∈grpF to_ a (to_.length-a)↔0≤v∧v<n∧eachR to_ a v:=fun v=>by
    rw[grp_mem]
    constructor
    ·rintro ⟨h1,h2,h3⟩;exact ⟨by omega,by omega,h3⟩
    ·rintro ⟨h1,h2,h3⟩
     refine ⟨?_,by omega,h3⟩
     rcases Int.lt_or_le v a with hlt|hge
     ·exfalso
      obtain ⟨g,hg,hv⟩:=h.all v h1 hlt
      exact hno g hg (h.closed g hg v a h1 h2 haa.1 haa.2 hv (each_symm h3))
     ·exact hge
   refine ⟨fun g hg u v hu0 hu1 hv0 hv1 hu he=> ?_,fun u h0 h1=> ?_,fun g hg u hu=> ?_,fun _=>by simp⟩
   ·rcases List.mem_append.1 hg with hg|hg
    ·exact h.closed g hg u v hu0 hu1 hv0 hv1 hu he
    ·rw[List.mem_singleton.1 hg]at hu⊢
     exact (hmem v).2 ⟨hv0,hv1,each_trans ht haa ⟨hu0,hu1⟩ ⟨hv0,hv1⟩ ((hmem u).1 hu).2.2 he⟩
   ·by_cases e:u=a
    ·subst e
     refine ⟨_,List.mem_append_right _ (List.mem_singleton.2 rfl),(hmem a).2 ⟨haa.1,haa.2,?_,?_⟩⟩<;>exact (reach_closed ht haa.1 haa.2).1
    ·obtain ⟨g,hg,hu⟩:=h.all u h0 (by omega)
     exact ⟨g,List.mem_append_left _ hg,hu⟩
   ·rcases List.mem_append.1 hg with hg|hg
    ·exact h.in_ g hg u hu
    ·rw[List.mem_singleton.1 hg]at hu
     exact ⟨((hmem u).1 hu).1,((hmem u).1 hu).2.1⟩
end
def groupsT (to_:List (List Int)):List (List Int):=grpsF to_ [] 0
def gOf:List (List Int)→Nat→Int→Int
 | [],_,_=> -1
 |g::l,i,v=>if g.contains v=true then i else gOf l (i+1) v
theorem gOf_same:∀(l:List (List Int)) (i:Nat) (u v:Int),(∀g,g∈l→(u∈g↔v∈g))→gOf l i u=gOf l i v:=by
 intro l
 induction l with
 |nil=>intro i u v _;rfl
 |cons g l ih=>
  intro i u v h
  have h1:=h g List.mem_cons_self
  have h2:=ih (i+1) u v fun g hg=>h g (List.mem_cons_of_mem _ hg)
  have h3:g.contains u=g.contains v:=by
   rw[Bool.eq_iff_iff];simpa using h1
  simp only[gOf,h2,h3]
theorem gOf_in:∀(l:List (List Int)) (i:Nat) (u:Int),(∃g,g∈l∧u∈g)→(i:Int)≤gOf l i u∧gOf l i u<i+l.length:=by
 intro l
 induction l with
 |nil=>rintro i u ⟨g,hg,_⟩;cases hg
 |cons g l ih=>
  rintro i u ⟨g',hg,hu⟩
  rw[gOf]
  split
  ·simp only[List.length_cons];omega
  ·rename_i hc
   rcases List.mem_cons.1 hg with rfl|hg
   ·exact absurd (by simpa using hu) hc
   ·have:=ih (i+1) u ⟨g',hg,hu⟩
    simp only[List.length_cons];omega
section
variable {n:Nat} {to_:List (List Int)}
theorem groups_ok (ht:ToIn n to_) (hn:0<n):groupsT to_≠ []∧(∀v:Int,0≤v→v<n→0≤gOf (groupsT to_) 0 v∧gOf (groupsT to_) 0 v<(groupsT to_).length)∧
 ∀u v:Int,0≤u→u<n→0≤v→v<n→eachR to_ u v→gOf (groupsT to_) 0 u=gOf (groupsT to_) 0 v:=by
 have h:=grps_ok ht _ 0 [] rfl (Nat.zero_le _) ⟨fun g hg=>(by cases hg),fun u h0 h1=>by omega,fun g hg=>(by cases hg),fun h=>by omega⟩
 refine ⟨h.pos hn,fun v h0 h1=> ?_,fun u v hu0 hu1 hv0 hv1 he=>gOf_same _ _ _ _ fun g hg=>⟨fun hu=>h.closed g hg u v hu0 hu1 hv0 hv1 hu he,fun hv=>h.closed g hg v u hv0 hv1 hu0 hu1 hv (each_symm he)⟩⟩
 have:=gOf_in (groupsT to_) 0 v (h.all v h0 h1)
 omega
theorem circ_group {dues:List Du} {sums:List Int} (hd:DuesIn n dues) (ht:ToIn n to_) (hl:sums.length=dues.length) (h0:∀i,i<dues.length→0≤sums.getD i 0) (hnet:∀v:Int,0≤v→v<n→netT dues sums v=0)
 (he:∀i,i<dues.length→0<sums.getD i 0→(dues.getD i default).to_∈to_.getD (dues.getD i default).fr.toNat []) {i:Nat} (hi:i<dues.length) (hp:0<sums.getD i 0):eachR to_ (dues.getD i default).fr (dues.getD i default).to_:=by
 have f:=hd.fr i hi
 have t:=hd.to_ i hi
 obtain ⟨r1,r2⟩:=reach_closed ht f.1 f.2
 refine ⟨r2 _ f.1 f.2 r1 _ (he i hi hp),?_⟩
 obtain ⟨q1,q2⟩:=reach_closed ht t.1 t.2
 let χ:Int→Int:=fun v=>if bAt (reachF to_ (dues.getD i default).to_) v=true then-1 else 0
 have hz:∀(ds:List Du) (ss:List Int),ss.length=ds.length→(∀j,j<ds.length→ss.getD j 0*(χ (ds.getD j default).to_-χ (ds.getD j default).fr)≤0)→flowT χ ds ss=0→∀j,j<ds.length→ss.getD j 0*(χ (ds.getD j default).to_-χ (ds.getD j default).fr)=0:=by
  intro ds
  induction ds with
  |nil=>intro ss _ _ _ j hj;simp at hj
  |cons d ds ih=>
   intro ss hl h hf j hj
   cases ss with
   |nil=>simp at hl
   |cons s ss=>
    have a0:=h 0 (by simp)
    have a1:∀j,j<ds.length→ss.getD j 0*(χ (ds.getD j default).to_-χ (ds.getD j default).fr)≤0:=fun j hj=>by have:=h (j+1) (by simpa using hj);simpa using this
    have a2:=flow_le χ ds ss (by simpa using hl) a1
    simp only[List.getD_cons_zero]at a0
    simp only[flowT]at hf
    cases j with
    |zero=>simp only[List.getD_cons_zero];omega
    |succ j=>simp only[List.getD_cons_succ];exact ih ss (by simpa using hl) a1 (by omega) j (by simpa using hj)
 have hflow:flowT χ dues sums=0:=by
  rw[←sumN_net χ dues sums hd,sumN_congr (g:=fun _=>0) n (fun v h0 h1=>by rw[hnet v h0 h1];simp),sumN_zero]
 have h1:=hz dues sums hl (fun j hj=>by
  have hlo:=h0 j hj
  by_cases e:sums.getD j 0=0
  ·rw[e];simp
  ·refine Int.mul_nonpos_of_nonneg_of_nonpos hlo ?_
   show (if _ then (-1:Int)else 0)-(if _ then (-1:Int)else 0)≤0
   split<;>split<;>rename_i a b<;>first|omega|(exact absurd (q2 _ (hd.fr j hj).1 (hd.fr j hj).2 b _ (he j hj (by omega))) a)) hflow i hi
 rcases Int.mul_eq_zero.1 h1 with h2|h2
 ·omega
 ·have h3:χ (dues.getD i default).to_= -1:=if_pos q1
  have h4:χ (dues.getD i default).fr= -1:=by omega
  by_cases e:bAt (reachF to_ (dues.getD i default).to_) (dues.getD i default).fr=true
  ·exact e
  ·have:χ (dues.getD i default).fr=0:=if_neg e
   omega
end
structure DuesR (n:Nat) (dues:List Du):Prop extends DuesOK n dues where
 l100:dues.length≤100
 top:∀d,d∈dues→d.sum≤1099511627776
 n1:1≤n
theorem DuesR.hb {n:Nat} {dues:List Du} (h:DuesR n dues) {sums:List Int} (hc:Caps dues sums) (i:Nat) (hi:i<dues.length):0≤sums.getD i 0∧sums.getD i 0≤1099511627776∧0≤(dues.getD i default).sum∧(dues.getD i default).sum≤1099511627776:=by
 have h1:=h.top _ (memD (d:=default) hi)
 have h2:=h.sum _ (memD (d:=default) hi)
 have h3:=hc.lo i hi
 have h4:=hc.hi i hi
 omega
theorem net_bound {B:Int} :∀(dues:List Du) (sums:List Int) (v:Int),(∀s,s∈sums→0≤s∧s≤B)→-(B*sums.length)≤netT dues sums v∧netT dues sums v≤B*sums.length:=by
 intro dues
 induction dues with
 |nil=>
  intro sums v h
  have h0:0≤B*(sums.length:Int):=by
   cases sums with
   |nil=>simp
   |cons s ss=>have:=h s List.mem_cons_self;exact Int.mul_nonneg (by omega) (by omega)
  simp only[netT];omega
 |cons d ds ih=>
  intro sums v h
  cases sums with
  |nil=>simp[netT]
  |cons s ss=>
   have h1:=ih ss v fun x hx=>h x (List.mem_cons_of_mem _ hx)
   have h2:=h s List.mem_cons_self
   have h3: -s≤s*(indI (d.to_=v)-indI (d.fr=v))∧s*(indI (d.to_=v)-indI (d.fr=v))≤s:=by
    unfold indI
    by_cases e1:d.to_=v<;>by_cases e2:d.fr=v<;>simp only[e1,e2,if_true,if_false]<;>simp<;>omega
   simp only[netT,List.length_cons,Int.natCast_add,Int.mul_add,Int.cast_ofNat_Int,Int.mul_one]
   omega
theorem net_bound2 {n:Nat} {dues:List Du} (h:DuesR n dues) {sums:List Int} (hc:Caps dues sums) (v:Int): -109951162777600≤netT dues sums v∧netT dues sums v≤109951162777600:=by
 have h1:=net_bound (B:=1099511627776) dues sums v fun s hs=>by
  obtain ⟨i,hi,rfl⟩:=List.mem_iff_getElem.1 hs
  have:=h.hb hc i (by rw[←hc.len];exact hi)
  rw[List.getD_eq_getElem?_getD,List.getElem?_eq_getElem hi]at this
  exact ⟨this.1,this.2.1⟩
 have h2:=h.l100
 have h3:=hc.len
 omega
theorem netT_snoc:∀(ds:List Du) (ss:List Int) (d:Du) (s v:Int),ds.length=ss.length→netT (ds++ [d]) (ss++ [s]) v=netT ds ss v+s*(indI (d.to_=v)-indI (d.fr=v)):=by
 intro ds
 induction ds with
 |nil=>intro ss d s v h;cases ss with
  |nil=>simp[netT]
  |cons x ss=>simp at h
 |cons x ds ih=>intro ss d s v h;cases ss with
  |nil=>simp at h
  |cons y ss=>
   simp only[List.cons_append,netT]
   rw[ih ss d s v (by simpa using h)];omega
def tooK (n:Nat) (dues:List Du) (sums:List Int) (k:Nat):List Int:=(List.range n).map fun v=>netT (dues.take k) (sums.take k) (v:Nat)
theorem tooK_len (n:Nat) (dues:List Du) (sums:List Int) (k:Nat):(tooK n dues sums k).length=n:=by simp[tooK]
theorem tooK_get {n:Nat} {dues:List Du} {sums:List Int} {k:Nat} {v:Int} (h0:0≤v) (h1:v<n):(tooK n dues sums k).getD v.toNat 0=netT (dues.take k) (sums.take k) v:=by
 unfold tooK
 rw[List.getD_eq_getElem?_getD,List.getElem?_map,List.getElem?_eq_getElem (by simp;omega)]
 simp
 rw[show max v 0=v by omega]
theorem tooK_0 (n:Nat) (dues:List Du) (sums:List Int):tooK n dues sums 0=List.replicate n 0:=by
 unfold tooK
 simp only[List.take_zero,netT]
 rw[List.map_const']
 simp
theorem tooK_n (n:Nat) (dues:List Du) (sums:List Int) (h:sums.length=dues.length):tooK n dues sums dues.length=too0 n dues sums:=by
 unfold tooK too0
 rw[List.take_length,←h,List.take_length]
theorem list_ext {l l':List Int} (h:l.length=l'.length) (he:∀v:Int,0≤v→v<l.length→l.getD v.toNat 0=l'.getD v.toNat 0):l=l':=by
 apply List.ext_getElem h
 intro i h1 h2
 have:=he i (by omega) (by omega)
 rw[List.getD_eq_getElem?_getD,List.getD_eq_getElem?_getD,Int.toNat_natCast,List.getElem?_eq_getElem h1,List.getElem?_eq_getElem h2]at this
 exact this
theorem tooK_s {n:Nat} {dues:List Du} {sums:List Int} {k:Nat} (hd:DuesIn n dues) (hk:k<dues.length) (hl:sums.length=dues.length):
 (((tooK n dues sums k).set (dues.getD k default).to_.toNat ((tooK n dues sums k).getD (dues.getD k default).to_.toNat 0+sums.getD k 0)).set (dues.getD k default).fr.toNat
   (((tooK n dues sums k).set (dues.getD k default).to_.toNat ((tooK n dues sums k).getD (dues.getD k default).to_.toNat 0+sums.getD k 0)).getD (dues.getD k default).fr.toNat 0-sums.getD k 0))=tooK n dues sums (k+1):=by
 have f:=hd.fr k hk
 have t:=hd.to_ k hk
 have hn:=tooK_len n dues sums k
 refine list_ext (by simp[tooK_len]) fun v h0 h1=> ?_
 have h1:v<n:=by simpa [tooK_len]using h1
 have e1:dues.take (k+1)=dues.take k++ [dues.getD k default]:=by
  rw[List.take_succ_eq_append_getElem hk,List.getD_eq_getElem?_getD,List.getElem?_eq_getElem hk];rfl
 have e2:sums.take (k+1)=sums.take k++ [sums.getD k 0]:=by
  rw[List.take_succ_eq_append_getElem (by omega),List.getD_eq_getElem?_getD,List.getElem?_eq_getElem (show k<sums.length by omega)];rfl
 have s1:∀u:Int,0≤u→u<n→((tooK n dues sums k).set (dues.getD k default).to_.toNat ((tooK n dues sums k).getD (dues.getD k default).to_.toNat 0+sums.getD k 0)).getD u.toNat 0=netT (dues.take k) (sums.take k) u+sums.getD k 0*indI ((dues.getD k default).to_=u):=fun u hu0 hu1=>by
  rw[getD_setL (by omega)]
  unfold indI
  by_cases e:u=(dues.getD k default).to_
  ·subst e;rw[if_pos rfl,if_pos rfl,tooK_get t.1 t.2];omega
  ·rw[if_neg (by omega),if_neg (fun h=>e h.symm),tooK_get hu0 hu1];omega
 rw[getD_setL (by rw[List.length_set];omega),tooK_get h0 h1,e1,e2,netT_snoc _ _ _ _ _ (by simp[hl]),s1 _ f.1 f.2]
 rw[Int.mul_sub]
 by_cases e:v=(dues.getD k default).fr
 ·subst e
  rw[if_pos rfl]
  generalize indI ((dues.getD k default).to_=(dues.getD k default).fr)=y
  have:indI ((dues.getD k default).fr=(dues.getD k default).fr)=1:=if_pos rfl
  rw[this];omega
 ·rw[if_neg (by omega),s1 v h0 h1]
  have:indI ((dues.getD k default).fr=v)=0:=if_neg fun h=>e h.symm
  rw[this];omega
theorem mnI_min (a b:Int):(if b<a then b else a)=min a b:=by
 rw[Int.min_def];split<;>split<;>omega
section
variable {n:Nat} {l:List Stp} {S:Int→Prop} {best:List Cst} {last:List Int}
theorem BI.last_lt (h:BI algC n l S best last) {v:Int} (h0:0≤v) (h1:v<n) (hp:0≤last.getD v.toNat 0):last.getD v.toNat 0<l.length:=by
 rcases h.last_ v h0 h1 with ⟨q1,_⟩|⟨i,q1,q2,_⟩
 ·have:last.getD v.toNat 0= -1:=q1
  omega
 ·have:last.getD v.toNat 0=i:=q2
  omega
theorem chainT_pos {j:Nat} {v:Int} (h:ChainP l best last S v (chainT l last j v)) (hp:0≤last.getD v.toNat 0):∃j',j=j'+1∧chainT l last j v=l.getD (last.getD v.toNat 0).toNat default::chainT l last j' (l.getD (last.getD v.toNat 0).toNat default).fr:=by
 cases j with
 |zero=>
  have:last.getD v.toNat 0= -1:=h.2
  omega
 |succ j=>exact ⟨j,rfl,by rw[chainT,if_pos (show 0≤getV 0 last v from hp)];rfl⟩
theorem chainT_neg {j:Nat} {v:Int} (hp:¬0≤last.getD v.toNat 0):chainT l last j v= []:=by
 cases j with
 |zero=>rfl
 |succ j=>rw[chainT,if_neg (show ¬0≤getV 0 last v from hp)]
end
structure MovI (dues:List Du) (sums:List Int) (m:Int) (v:Int) (p:List Stp):Prop where
 caps:Caps dues sums
 link:LinkT v p
 st:∀s,s∈p→StepOf dues sums s∧m≤s.most
 nd:(p.map Stp.due).Nodup
theorem MovI.step {dues:List Du} {sums:List Int} {m v:Int} {s:Stp} {p:List Stp} (h:MovI dues sums m v (s::p)) (h0:0≤m):MovI dues (moveT sums s m) m s.fr p:=by
 obtain ⟨a1,a2⟩:=h.st s List.mem_cons_self
 have hd:=List.nodup_cons.1 h.nd
 exact ⟨(move_ok h.caps a1 h0 a2).1,h.link.2,fun t ht=>⟨stepOf_move h.caps a1 h0 a2 (h.st t (List.mem_cons_of_mem _ ht)).1 fun e=>hd.1 (e▸List.mem_map_of_mem ht),(h.st t (List.mem_cons_of_mem _ ht)).2⟩,hd.2⟩
theorem stepOf_due {dues:List Du} {sums:List Int} {s:Stp} (h:StepOf dues sums s):0≤s.due∧s.due.toNat<dues.length:=by
 obtain ⟨i,hi,e,_⟩:=h
 omega
theorem tooK_bd {n:Nat} {dues:List Du} (h:DuesR n dues) {sums:List Int} (hc:Caps dues sums) (k:Nat) {v:Int} (h0:0≤v) (h1:v<n): -109951162777600≤(tooK n dues sums k).getD v.toNat 0∧(tooK n dues sums k).getD v.toNat 0≤109951162777600:=by
 rw[tooK_get h0 h1]
 have h2:=net_bound (B:=1099511627776) (dues.take k) (sums.take k) v fun s hs=>by
  obtain ⟨i,hi,rfl⟩:=List.mem_iff_getElem.1 (List.mem_of_mem_take hs)
  have:=h.hb hc i (by rw[←hc.len];exact hi)
  rw[List.getD_eq_getElem?_getD,List.getElem?_eq_getElem hi]at this
  exact ⟨this.1,this.2.1⟩
 have h3:(sums.take k).length≤sums.length:=by rw[List.length_take];omega
 have h4:=h.l100
 have h5:=hc.len
 omega
def duC (x:Du):List D:=[.sc (.int .i64 x.fr),.sc (.int .i64 x.to_),.sc (.int .i64 x.sum)]
def spC (x:Stp):List D:=[.sc (.int .i64 x.due),.sc (.int .i64 x.fr),.sc (.int .i64 x.to_),.sc (.int .i64 x.cost),.sc (.int .i64 x.most),.sc (.bool x.back)]
abbrev spG (x:Stp):G:= .agg [iG x.due,iG x.fr,iG x.to_,iG x.cost,iG x.most,bG x.back]
def csC (x:Cst):List D:=[.sc (.int .i64 x.c),.sc (.int .i64 x.steps),.sc (.bool x.fine)]
abbrev csG (x:Cst):G:= .agg [iG x.c,iG x.steps,bG x.fine]
end Go.Gh
