/- Walks by the logic of calls, and plain laws (several texts in one). -/
import Derived.Test.YtffffkfcbjobnaaGreatM4
import Derived.Test.YtffffkfcbjobnaaGreatM3
import Derived.Test.YtffffkfcbjobnaaGreatGh3
import Derived.Test.YtffffkfcbjobnaaGreatM2
import Derived.RangeFuncNested
import Derived.RangeFuncBound
import Derived.RangeFuncCalls
import Derived.RangeFuncLeaves
import Derived.RangeFuncBox
import Derived.Shelf.Abstract
import Derived.Shelf.RegionOpen
import Derived.OwnWalkIn
import Derived.TacticsInMore
import Derived.LoopNIn
import Derived.LoopIn
namespace Go.Gh
open Go Go.Proofs
set_option maxRecDepth 1000000
set_option maxHeartbeats 2000000
set_option linter.unusedSimpArgs false
set_option linter.unusedVariables false
set_option linter.unnecessarySimpa false
open Go.RowKit
def anyK (l:List Pn) (s:ByteArray) (i:Nat):Bool:=(l.drop i).any fun p=>decide (p.kind=s)
theorem anyK_p {l:List Pn} {s:ByteArray} {i:Nat} (h:i<l.length):anyK l s i=(decide ((l.getD i default).kind=s)||anyK l s (i+1)):=by
 rw[anyK,drop_cons h,List.any_cons];rfl
theorem anyK_n {l:List Pn} {s:ByteArray} {i:Nat} (h:¬i<l.length):anyK l s i=false:=by
 rw[anyK,List.drop_eq_nil_of_le (by omega)];rfl
def lackB (d:Dm) (p:Pn):Bool:=(decide (p.kind=d.doc)&&decide (fieldR p d.field<0))||(decide (p.kind=d.other)&&decide (fieldR p d.second<0))
def okF (d:Dm) (l:List Pn) (i:Nat):Bool:=if i<l.length then if lackB d (l.getD i default)=true then false else okF d l (i+1)else true
termination_by l.length-i
theorem okF_p {d:Dm} {l:List Pn} {i:Nat} (h:i<l.length):okF d l i=if lackB d (l.getD i default)=true then false else okF d l (i+1):=by rw[okF,if_pos h]
theorem okF_n {d:Dm} {l:List Pn} {i:Nat} (h:¬i<l.length):okF d l i=true:=by rw[okF,if_neg h]
def pairQ (d:Dm) (p q:Pn):Bool:=decide (p.texts.getD (fieldR p d.field).toNat default=q.texts.getD (fieldR q d.second).toNat default)
def rowB (d:Dm) (l:List Pn) (i k:Nat):Bool:=if k<l.length then if (l.getD i default).kind=d.doc∧(l.getD k default).kind=d.other then if pairQ d (l.getD i default) (l.getD k default)=true then rowB d l i (k+1)else false else rowB d l i (k+1)else true
termination_by l.length-k
theorem rowB_p {d:Dm} {l:List Pn} {i k:Nat} (h:k<l.length):rowB d l i k=if (l.getD i default).kind=d.doc∧(l.getD k default).kind=d.other then if pairQ d (l.getD i default) (l.getD k default)=true then rowB d l i (k+1)else false else rowB d l i (k+1):=by rw[rowB,if_pos h]
theorem rowB_n {d:Dm} {l:List Pn} {i k:Nat} (h:¬k<l.length):rowB d l i k=true:=by rw[rowB,if_neg h]
def rowsB (d:Dm) (l:List Pn) (i:Nat):Bool:=if i<l.length then if rowB d l i 0=true then rowsB d l (i+1)else false else true
termination_by l.length-i
theorem rowsB_p {d:Dm} {l:List Pn} {i:Nat} (h:i<l.length):rowsB d l i=if rowB d l i 0=true then rowsB d l (i+1)else false:=by rw[rowsB,if_pos h]
theorem rowsB_n {d:Dm} {l:List Pn} {i:Nat} (h:¬i<l.length):rowsB d l i=true:=by rw[rowsB,if_neg h]
def sameR (d:Dm) (l:List Pn):Bool:=bif !anyK l d.doc 0|| !anyK l d.other 0 then true else okF d l 0&&rowsB d l 0
theorem okF_at {d:Dm} {l:List Pn} :∀(n i:Nat),l.length-i=n→okF d l i=true→∀j,i≤j→j<l.length→lackB d (l.getD j default)=false:=by
 intro n
 induction n with
 |zero=>intro i hn h j h1 h2;omega
 |succ n ih=>
  intro i hn h j h1 h2
  rw[okF_p (by omega)]at h
  split at h
  ·cases h
  ·rename_i hb
   by_cases e:j=i
   ·subst e;simpa using hb
   ·exact ih (i+1) (by omega) h j (by omega) h2
structure OneI (d:Dm) (l:List Pn) (i:Nat) (a b f:Bool):Prop where
 le:i≤l.length
 a:anyK l d.doc 0=(a||anyK l d.doc i)
 b:anyK l d.other 0=(b||anyK l d.other i)
 f:okF d l 0=(f&&okF d l i)
theorem OneI.zero (d:Dm) (l:List Pn):OneI d l 0 false false true:=⟨Nat.zero_le _,rfl,rfl,rfl⟩
theorem OneI.step {d:Dm} {l:List Pn} {i:Nat} {a b f:Bool} (h:OneI d l i a b f) (hi:i<l.length):OneI d l (i+1) (a||decide ((l.getD i default).kind=d.doc)) (b||decide ((l.getD i default).kind=d.other)) (f&& !lackB d (l.getD i default)):=by
 refine ⟨by omega,?_,?_,?_⟩
 ·rw[h.a,anyK_p hi,Bool.or_assoc]
 ·rw[h.b,anyK_p hi,Bool.or_assoc]
 ·rw[h.f,okF_p hi]
  cases lackB d (l.getD i default)<;>simp
theorem same33_ok (d:Dm) (docs:List Pn) (hs:Short docs):GC Tryz.prog 176 [dmG d,rowP docs] (bG (sameR d docs)):=by
 have hl:=hs.1.1
 refine gc_of_gk Tryz.func176 ?_
 refine gk_region env false [] [1,2,4] ?_
 refine gk_box 0 ?_
 refine gk_region env false [] [1,2,4,5] ?_
 refine gk_region env false [] [1,2,4,5,6] ?_
 refine gk_region env false [] [1,2,4,5,6,7] ?_
 refine gk_region env false [] [1,2,4,5,6,7,8] ?_
 refine gk_loop (α:=Nat×Bool×Bool×Bool) (fun x=>OneI d docs x.1 x.2.1 x.2.2.1 x.2.2.2) (fun x=>[(8,iG x.1),(5,bG x.2.1),(6,bG x.2.2.1),(7,bG x.2.2.2)]) (fun _=>[]) (fun x=>docs.length-x.1) (0,false,false,true) (OneI.zero d docs) ?_ (hp:=by simp only[AllP];repeat' first|exact trivial|exact EntL.refl _|exact BEntL.refl _|exact rfl|omega|apply And.intro|intro _)
 rintro ⟨i,a,b,f⟩ hI
 dsimp only at*
 have hi:=hI.le
 refine gk_region env false [] [1,2,4,5,6,7,8,14] ?_
 refine gk_ifd (fun c1=> ?_) (fun c1=> ?_)
 ·try simp only[toN]at c1
  refine gk_region env false [] [1,2,4,5,6,7,8] ?_
  refine gk_region env false [] [1,2,4,5,6,7,8] ?_
  have hat:=hs.1.at_ (i:=i) (by omega)
  refine gk_region env false [.call (field33_ok (docs.getD i default) d.field hat.1 hat.2),.call (field33_ok (docs.getD i default) d.second hat.1 hat.2)] [1,2,4,5,6,7,8,76] ?_
  refine gk_if (fun c2=> ?_) (fun c2=> ?_)
  ·try simp only[bb,toN]at c2
   refine gk_region env false [] [1,2,4,5,6,7,8] ?_
   refine gk_region env false [] [1,2,4,5,6,7,8] ?_
   refine gk_round ((i+1,a||decide ((docs.getD i default).kind=d.doc),b||decide ((docs.getD i default).kind=d.other),false)) ?_ (hp:=by simp only[AllP];repeat' first|exact trivial|exact EntL.refl _|exact BEntL.refl _|exact rfl|omega|apply And.intro|intro _|(cases a<;>rfl)|(cases b<;>rfl))
   have hlk:lackB d (docs.getD i default)=true:=by rw[lackB,Bool.or_eq_true,Bool.and_eq_true,Bool.and_eq_true];simpa using c2
   have hst:=hI.step (by omega)
   rw[hlk]at hst
   simpa using hst
  ·try simp only[bb,toN]at c2
   refine gk_region env false [] [1,2,4,5,6,7,8] ?_
   refine gk_round ((i+1,a||decide ((docs.getD i default).kind=d.doc),b||decide ((docs.getD i default).kind=d.other),f)) ?_ (hp:=by simp only[AllP];repeat' first|exact trivial|exact EntL.refl _|exact BEntL.refl _|exact rfl|omega|apply And.intro|intro _|(cases a<;>rfl)|(cases b<;>rfl))
   have hlk:lackB d (docs.getD i default)=false:=by simp only[lackB,Bool.or_eq_false_iff,Bool.and_eq_false_iff,decide_eq_false_iff_not];exact ⟨c2.1.imp id fun h=>by omega,c2.2.imp id fun h=>by omega⟩
   have hst:=hI.step (by omega)
   rw[hlk]at hst
   simpa using hst
 ·try simp only[toN]at c1
  refine gk_region env false [] [1,2,4,7,82] ?_
  refine gk_if (fun c3=> ?_) (fun c3=> ?_)
  ·try simp only[bb,toN]at c3
   refine gk_region env false [] [1,2,4,7] ?_
   refine gk_ret env ?_
   have ha:=hI.a
   have hb:=hI.b
   rw[anyK_n (i:=i) (by omega),Bool.or_false]at ha hb
   rw[sameR,ha,hb]
   rcases c3 with h|h<;>rw[h]
   ·rfl
   ·cases a<;>rfl
  ·try simp only[bb,toN]at c3
   refine gk_region env false [] [1,2,4,7,9] ?_
   refine gk_loop (α:=Nat×Bool) (fun x=>(x.1≤docs.length∧(okF d docs 0&&rowsB d docs 0)=(x.2&&rowsB d docs x.1))∧(x.2=true→okF d docs 0=true)) (fun x=>[(9,iG x.1),(7,bG x.2)]) (fun _=>[]) (fun x=>docs.length-x.1) (0,f) ⟨⟨Nat.zero_le _,by rw[hI.f,okF_n (i:=i) (by omega),Bool.and_true]⟩,fun h=>by have h2:=hI.f;rw[okF_n (i:=i) (by omega),Bool.and_true]at h2;rw[h2];exact h⟩ ?_ (hp:=by simp only[AllP];repeat' first|exact trivial|exact EntL.refl _|exact BEntL.refl _|exact rfl|omega|apply And.intro|intro _)
   rintro ⟨i2,f2⟩ ⟨⟨hi2,he⟩,hf2⟩
   dsimp only at*
   refine gk_region env false [] [1,2,4,7,9,89] ?_
   refine gk_if (fun c4=> ?_) (fun c4=> ?_)
   ·try simp only[bb,toN]at c4
    refine gk_region env false [] [1,2,4,7,9,10] ?_
    refine gk_loop (α:=Nat×Bool) (fun x=>x.1≤docs.length∧rowB d docs i2 0=(x.2&&rowB d docs i2 x.1)) (fun x=>[(10,iG x.1),(7,bG x.2)]) (fun _=>[]) (fun x=>docs.length-x.1) (0,f2) ⟨Nat.zero_le _,by simp only;rw[c4.2,Bool.true_and]⟩ ?_ (hp:=by simp only[AllP];repeat' first|exact trivial|exact EntL.refl _|exact BEntL.refl _|exact rfl|omega|apply And.intro|intro _)
    rintro ⟨k,f3⟩ ⟨hk,hf⟩
    dsimp only at*
    refine gk_region env false [] [1,2,4,7,9,10,98] ?_
    refine gk_if (fun c5=> ?_) (fun c5=> ?_)
    ·try simp only[bb,toN]at c5
     refine gk_region env false [] [1,2,4,7,9,10,118] ?_
     refine gk_if (fun c6=> ?_) (fun c6=> ?_)
     ·try simp only[bb,toN]at c6
      have hai:=hs.1.at_ (i:=i2) (by omega)
      have hak:=hs.1.at_ (i:=k) (by omega)
      have hok:=okF_at _ 0 rfl (hf2 c4.2)
      have oki:=hok i2 (by omega) (by omega)
      have okk:=hok k (by omega) (by omega)
      have hfi:=fieldR_at (p:=(docs.getD i2 default)) (f:=d.field) (by simp only[lackB,decide_eq_true c6.1,Bool.true_and,Bool.or_eq_false_iff,decide_eq_false_iff_not]at oki;omega)
      have hfk:=fieldR_at (p:=(docs.getD k default)) (f:=d.second) (by simp only[lackB,decide_eq_true c6.2,Bool.true_and,Bool.or_eq_false_iff,decide_eq_false_iff_not]at okk;omega)
      refine gk_region env false [.call (field33_ok (docs.getD i2 default) d.field hai.1 hai.2),.call (field33_ok (docs.getD k default) d.second hak.1 hak.2)] [1,2,4,7,9,10] ?_
      refine gk_region env false [] [1,2,4,7,9,10] ?_
      refine gk_round ((k+1,pairQ d (docs.getD i2 default) (docs.getD k default))) ?_ (hp:=by simp only[AllP];repeat' first|exact trivial|exact EntL.refl _|exact BEntL.refl _|exact rfl|omega|apply And.intro|intro _)
      refine ⟨by simp only;omega,?_⟩
      simp only
      rw[hf,c5.2,Bool.true_and,rowB_p (by omega),if_pos c6]
      cases pairQ d (docs.getD i2 default) (docs.getD k default)<;>rfl
     ·try simp only[bb,toN]at c6
      refine gk_region env false [] [1,2,4,7,9,10] ?_
      refine gk_round ((k+1,f3)) ?_ (hp:=by simp only[AllP];repeat' first|exact trivial|exact EntL.refl _|exact BEntL.refl _|exact rfl|omega|apply And.intro|intro _)
      refine ⟨by simp only;omega,?_⟩
      simp only
      rw[hf,rowB_p (by omega),if_neg (fun h=>c6.elim (fun q=>q h.1) fun q=>q h.2)]
    ·try simp only[bb,toN]at c5
     refine gk_region env false [] [1,2,4,7,9] ?_
     refine gk_round ((i2+1,f3)) ?_ (hp:=by simp only[AllP];repeat' first|exact trivial|exact EntL.refl _|exact BEntL.refl _|exact rfl|omega|apply And.intro|intro _)
     have hrow:rowB d docs i2 0=f3:=by
      rw[hf]
      by_cases hk2:k<docs.length
      ·have:f3=false:=by rcases c5 with h|h;omega;exact h
       rw[this];rfl
      ·rw[rowB_n hk2,Bool.and_true]
     refine ⟨⟨by simp only;omega,?_⟩,fun h=>hf2 c4.2⟩
     simp only
     rw[he,c4.2,Bool.true_and,rowsB_p (by omega),hrow]
     cases f3<;>rfl
   ·try simp only[bb,toN]at c4
    refine gk_region env false [] [4] ?_
    refine gk_ret env ?_
    have ha:=hI.a
    have hb:=hI.b
    rw[anyK_n (i:=i) (by omega),Bool.or_false]at ha hb
    rw[sameR,ha,hb,c3.1,c3.2,he]
    have hz:(f2&&rowsB d docs i2)=f2:=by
     by_cases h:i2<docs.length
     ·have:f2=false:=by rcases c4 with h2|h2;omega;exact h2
      rw[this];rfl
     ·rw[rowsB_n h,Bool.and_true]
    rw[hz];rfl
end Go.Gh
namespace Go.Gh
open Go Go.Proofs
set_option maxRecDepth 1000000
set_option maxHeartbeats 2000000
set_option linter.unusedSimpArgs false
set_option linter.unusedVariables false
set_option linter.unnecessarySimpa false
open Go.RowKit
theorem okF_some {d:Dm} {l:List Pn} :∀(n i:Nat),l.length-i=n→okF d l i=((fldR l d.doc d.field i).isSome&&(fldR l d.other d.second i).isSome):=by
 intro n
 induction n with
 |zero=>intro i h;rw[okF_n (by omega),fldR_n (by omega),fldR_n (by omega)];rfl
 |succ n ih=>
  intro i h
  rw[okF_p (by omega),fldR_p (k:=d.doc) (by omega),fldR_p (k:=d.other) (by omega),ih (i+1) (by omega),fieldR_lacks,fieldR_lacks,lackB]
  generalize fldR l d.doc d.field (i+1)=A
  generalize fldR l d.other d.second (i+1)=C
  generalize l.getD i default=p
  by_cases h1:p.kind=d.doc<;>by_cases h2:p.kind=d.other<;>by_cases h3:fieldR p d.field<0<;>by_cases h4:fieldR p d.second<0<;>cases A<;>cases C<;>simp only[h1,h2,h3,h4,decide_true,decide_false,Bool.true_and,Bool.false_and,Bool.or_true,Bool.or_false,Bool.true_or,Bool.false_or,if_true,if_false,Option.isSome_none,Option.isSome_some,Option.map_none,Option.map_some,Bool.and_true,Bool.and_false,Bool.false_eq_true]<;>(repeat' split)<;>first|rfl|contradiction|simp_all
theorem rowB_all {d:Dm} {l:List Pn} {i:Nat} :∀(n k:Nat) (C:List ByteArray),l.length-k=n→fldR l d.other d.second k=some C→rowB d l i k=(!decide ((l.getD i default).kind=d.doc)||C.all fun y=>decide ((l.getD i default).texts.getD (fieldR (l.getD i default) d.field).toNat default=y)):=by
 intro n
 induction n with
 |zero=>
  intro k C h hC
  rw[fldR_n (by omega)]at hC
  cases hC
  rw[rowB_n (by omega)];simp
 |succ n ih=>
  intro k C h hC
  rw[fldR_p (by omega)]at hC
  rw[rowB_p (by omega)]
  by_cases h1:(l.getD k default).kind=d.other
  ·rw[if_pos h1]at hC
   rw[fieldR_lacks]at hC
   by_cases h2:fieldR (l.getD k default) d.second<0
   ·rw[decide_eq_true h2]at hC;cases hC
   ·rw[decide_eq_false h2,if_neg (by simp:¬false=true)]at hC
    cases hR:fldR l d.other d.second (k+1)with
    |none=>rw[hR]at hC;cases hC
    |some C'=>
     rw[hR]at hC
     simp only[Option.map_some,Option.some.injEq]at hC
     subst hC
     rw[List.all_cons,←(fieldR_at h2).1]
     have hr:=ih (k+1) C' (by omega) hR
     by_cases h3:(l.getD i default).kind=d.doc
     ·rw[if_pos ⟨h3,h1⟩,hr,decide_eq_true h3,pairQ]
      generalize (l.getD i default).texts.getD (fieldR (l.getD i default) d.field).toNat default=x
      generalize (l.getD k default).texts.getD (fieldR (l.getD k default) d.second).toNat default=y
      cases hq:decide (x=y)<;>simp
     ·rw[if_neg (fun h=>h3 h.1),hr,decide_eq_false h3];rfl
  ·rw[if_neg h1]at hC
   rw[if_neg (fun h=>h1 h.2)]
   exact ih (k+1) C (by omega) hC
theorem rowsB_all {d:Dm} {l:List Pn} {C:List ByteArray} (hC:fldR l d.other d.second 0=some C):∀(n i:Nat) (A:List ByteArray),l.length-i=n→fldR l d.doc d.field i=some A→rowsB d l i=A.all fun x=>C.all fun y=>decide (x=y):=by
 intro n
 induction n with
 |zero=>
  intro i A h hA
  rw[fldR_n (by omega)]at hA
  cases hA
  rw[rowsB_n (by omega)];rfl
 |succ n ih=>
  intro i A h hA
  rw[fldR_p (by omega)]at hA
  rw[rowsB_p (by omega),rowB_all _ 0 C rfl hC]
  by_cases h1:(l.getD i default).kind=d.doc
  ·rw[if_pos h1,fieldR_lacks]at hA
   by_cases h2:fieldR (l.getD i default) d.field<0
   ·rw[decide_eq_true h2]at hA;cases hA
   ·rw[decide_eq_false h2,if_neg (by simp:¬false=true)]at hA
    cases hR:fldR l d.doc d.field (i+1)with
    |none=>rw[hR]at hA;cases hA
    |some A'=>
     rw[hR]at hA
     simp only[Option.map_some,Option.some.injEq]at hA
     subst hA
     rw[List.all_cons,ih (i+1) A' (by omega) hR,decide_eq_true h1,←(fieldR_at h2).1]
     generalize (C.all fun y=>decide ((l.getD i default).texts.getD (fieldR (l.getD i default) d.field).toNat default=y))=q
     cases q<;>simp
  ·rw[if_neg h1]at hA
   rw[decide_eq_false h1,ih (i+1) A (by omega) hA];simp
theorem all_pairs {A C:List ByteArray} (ha:A≠ []) (hc:C≠ []):(A.all fun x=>C.all fun y=>decide (x=y))= !(A++C).any fun x=> !decide (x=A.getD 0 default):=by
 obtain ⟨a,A',rfl⟩:=List.exists_cons_of_ne_nil ha
 obtain ⟨c,C',rfl⟩:=List.exists_cons_of_ne_nil hc
 rw[Bool.eq_iff_iff]
 have e0:(a::A').getD 0 default=a:=rfl
 rw[e0,Bool.not_eq_true',List.any_eq_false]
 constructor
 ·intro h x hx
  have hall:∀x,x∈a::A'→∀y,y∈c::C'→x=y:=fun x hx y hy=>of_decide_eq_true (List.all_eq_true.1 (List.all_eq_true.1 h x hx) y hy)
  have hac:=hall a (by simp) c (by simp)
  rcases List.mem_append.1 hx with hx|hx
  ·rw[hall x hx c (by simp),←hac];simp
  ·rw[←hall a (by simp) x hx];simp
 ·intro h
  have hall:∀x,x∈(a::A')++(c::C')→x=a:=fun x hx=>by have:=h x hx;simpa using this
  refine List.all_eq_true.2 fun x hx=>List.all_eq_true.2 fun y hy=>decide_eq_true ?_
  rw[hall x (List.mem_append.2 (.inl hx)),hall y (List.mem_append.2 (.inr hy))]
theorem sameR_eq {d:Dm} {l:List Pn} (hs:Short l):sameR d l=sameV l d.doc d.field d.other d.second:=by
 have k1:anyK l d.doc 0=kindV l d.doc:=rfl
 have k2:anyK l d.other 0=kindV l d.other:=rfl
 rw[sameR,sameV,k1,k2]
 by_cases hk:(!kindV l d.doc|| !kindV l d.other)=true
 ·rw[hk,if_pos rfl];rfl
 ·rw[if_neg hk]
  have hk2:=hk
  simp only[Bool.or_eq_true,Bool.not_eq_true',not_or,Bool.not_eq_false]at hk2
  rw[hk2.1,hk2.2]
  simp only[Bool.not_true,Bool.or_self,cond_false]
  rw[okF_some _ 0 rfl,fldOk_R,fldOk_R,fldV_R,fldV_R]
  have m1:=(fldV_mem hs d.doc d.field).2.2
  have m2:=(fldV_mem hs d.other d.second).2.2
  rw[fldOk_R,fldV_R]at m1 m2
  cases hA:fldR l d.doc d.field 0 with
  |none=>simp
  |some A=>
   cases hC:fldR l d.other d.second 0 with
   |none=>simp
   |some C=>
    rw[hA]at m1
    rw[hC]at m2
    have n1:=m1 rfl hk2.1
    have n2:=m2 rfl hk2.2
    simp only[Option.isSome_some,Bool.true_and,Option.getD_some]at n1 n2⊢
    rw[rowsB_all hC _ 0 A rfl hA]
    exact all_pairs (fun e=>by rw[e]at n1;simp at n1) (fun e=>by rw[e]at n2;simp at n2)
theorem met33_same (d:Dm) (h3:d.op=3) (docs:List Pn) (hs:Short docs):GC Tryz.prog 174 [dmG d,rowP docs] (bG (metV d docs)):=by
 have hv:metV d docs=sameR d docs:=by rw[sameR_eq hs,metV,if_neg (by omega),if_neg (by omega),if_neg (by omega),if_pos h3]
 refine gc_of_gk Tryz.func174 ?_
 refine gk_region env false [] [1,2,4] ?_
 refine gk_box 0 ?_
 refine gk_region env false [] [1,2,4,13] ?_
 refine gk_ifd (fun c1=> ?_) (fun c1=> ?_)
 ·try simp only[toN]at c1
  refine gk_region env false [.call (same33_ok d docs hs)] [1,2,4] ?_
  refine gk_ret env ?_
  rw[hv];rfl
 ·try simp only[toN]at c1
  exact absurd h3 c1
theorem rmet_ok (d:Dm) (docs:List Pn) (hs:Short docs):GC Tryz.prog 174 [dmG d,rowP docs] (bG (metV d docs)):=by
 by_cases h:d.op=3
 ·exact met33_same d h docs hs
 ·exact met33_ok d h docs hs
theorem rfailing_ok (l:List Dm) (hl:l.length≤1000) (docs:List Pn) (hs:Short docs):GC Tryz.prog 169 [rowD l,rowP docs] (rowI (failV l docs)):=by
 refine gc_of_gk Tryz.func169 ?_
 refine gk_region env false [] [0,1,4] ?_
 refine gk_region env false [] [0,1,4,5] ?_
 refine gk_nil 5 3 1 (default:Int) inC (by rfl) (by rfl) ?_
 refine gk_region env false [] [0,1,4,5,6] ?_
 refine gk_loop (α:=Nat×List Int) (fun x=>(x.1≤l.length∧x.2.length≤x.1)∧failV l docs=failF l docs x.1 x.2) (fun x=>[(6,iG x.1),(5,.sl 0 1 0 x.2.length)]) (fun x=>[(0,some (.row 3 1 (default:Int) inC x.2 0))]) (fun x=>l.length-x.1) (0,[]) ⟨⟨Nat.zero_le _,Nat.le_refl _⟩,rfl⟩ ?_ (hp:=by simp only[AllP];repeat' first|exact trivial|exact EntL.refl _|exact BEntL.refl _|exact rfl|omega|apply And.intro|intro _)
 rintro ⟨i,out⟩ ⟨⟨hi,ho⟩,he⟩
 dsimp only at*
 refine gk_region env false [] [0,1,4,5,6,10] ?_
 refine gk_ifd (fun c1=> ?_) (fun c1=> ?_)
 ·try simp only[toN]at c1
  refine gk_region env false [.call (rmet_ok (l.getD i default) docs hs)] [0,1,4,5,6,19] ?_
  refine gk_if (fun c2=> ?_) (fun c2=> ?_)
  ·try simp only[bb,toN]at c2
   refine gk_region env false [.el default inC [(i:Int)],.el default inC (out++ [(i:Int)])] [0,1,4,5,6] ?_ (hp:=(by simp only[AllP,Int.toNat_natCast];repeat' first|exact trivial|exact EntL.refl _|exact BEntL.refl _|exact rfl|omega|apply And.intro|intro _|(simp[rowL];done)|(simp only[List.length_append,List.length_cons,List.length_nil];omega)|(simp[*];done)))
   refine gk_region env false [] [0,1,4,5,6] ?_
   refine gk_round ((i+1,out++ [(i:Int)])) ?_ (hp:=by simp only[AllP];repeat' first|exact trivial|exact EntL.refl _|exact BEntL.refl _|exact rfl|omega|apply And.intro|intro _|(simp;done))
   refine ⟨⟨by simp only;omega,by simp;omega⟩,he.trans ?_⟩
   rw[failF,if_pos (by omega),if_neg (by rw[c2];simp)]
  ·try simp only[bb,toN]at c2
   refine gk_region env false [] [0,1,4,5,6] ?_
   refine gk_round ((i+1,out)) ?_ (hp:=by simp only[AllP];repeat' first|exact trivial|exact EntL.refl _|exact BEntL.refl _|exact rfl|omega|apply And.intro|intro _|(simp;done))
   refine ⟨⟨by simp only;omega,by simp only;omega⟩,he.trans ?_⟩
   rw[failF,if_pos (by omega),if_pos c2]
 ·try simp only[toN]at c1
  refine gk_region env false [] [4] ?_
  refine gk_ret env ?_
  rw[he,failF,if_neg (by omega)];rfl
end Go.Gh
namespace Go.Gh
open Go Go.Proofs
set_option maxRecDepth 1000000
set_option maxHeartbeats 2000000
set_option linter.unusedSimpArgs false
set_option linter.unusedVariables false
set_option linter.unnecessarySimpa false
open Go.RowKit
theorem Ent.rowEq {α β:Type} {df:α} {cs:α→List D} {xs:List α} {df':β} {cs':β→List D} {ys:List β} (h:rowL cs xs=rowL cs' ys):Ent (.d (.row df cs xs)) (.d (.row df' cs' ys)):=fun ν F w v hv=>by
 have hlen:xs.length=ys.length:=by have:=congrArg List.length h;simpa [rowL]using this
 have hel:∀(i:Nat) e,ys[i]? =some e→∃e',xs[i]? =some e'∧cs e'=cs' e:=fun i e he=>by
  have h1:(rowL cs' ys)[i]? =some (cs' e):=by simp[rowL,he]
  rw[←h]at h1
  simp only[rowL,List.getElem?_map,Option.map_eq_some_iff]at h1
  exact h1
 cases hv with
 |d hd=>cases hd with
  |row _ _ _ A c b off es val hA hc hl hw hF hd=>
   rw[hlen]
   refine .d (.row df' cs' ys A c b off es val (fun hy=>hA fun hx=>hy (List.eq_nil_of_length_eq_zero (by rw[←hlen,hx];rfl))) (by omega) (fun e he=> ?_) (fun i e j x a1 a2=> ?_) (fun i e j x a1 a2=> ?_) (fun i e j x a1 a2=> ?_))
   ·obtain ⟨i,hi⟩:=List.getElem?_of_mem he
    obtain ⟨e',h1,h2⟩:=hel i e hi
    rw[←h2];exact hl _ (List.mem_of_getElem? h1)
   ·obtain ⟨e',h1,h2⟩:=hel i e a1
    exact hw i e' j x h1 (h2▸a2)
   ·obtain ⟨e',h1,h2⟩:=hel i e a1
    exact hF i e' j x h1 (h2▸a2)
   ·obtain ⟨e',h1,h2⟩:=hel i e a1
    exact hd i e' j x h1 (h2▸a2)
instance :Inhabited Dc:=⟨⟨⟨#[]⟩,[]⟩⟩
def dcC (d:Dc):List D:=[.sc (.string d.kind),.row default flC d.fields]
abbrev rowDc (l:List Dc):G:= .d (.row default dcC l)
structure FitL (l:List Dc):Prop where
 len:l.length≤1000
 each:∀d,d∈l→Fit d
theorem FitL.at_ {l:List Dc} (h:FitL l) {i:Nat} (hi:i<l.length):Fit (l.getD i default):=h.each _ (getD_mem hi)
def dchk (l:List Dc) (i:Nat):Int:=if i<l.length then if checkE (l.getD i default)=0 then dchk l (i+1)else checkE (l.getD i default)else 0
termination_by l.length-i
def cntBad (d:Dc) (n:Int):Bool:= !decide ((countE d).2=0)||decide (4096<n*(countE d).1)
def cntF (l:List Dc) (i:Nat) (acc:List Int) (n:Int):Option (List Int×Int):=
 if i<l.length then if cntBad (l.getD i default) n=true then none else cntF l (i+1) (acc++ [(countE (l.getD i default)).1]) (n*(countE (l.getD i default)).1)else some (acc,n)
termination_by l.length-i
def countsE (l:List Dc):List Int×Int×Int:=if (8:Int)<l.length then ([],0,6)else if dchk l 0=0 then match cntF l 0 [] 1 with
 |none=>([],0,6)
 |some (r,n)=>(r,n,0)
 else ([],0,dchk l 0)
theorem sz_pos_fields {fs:List Fl} (h:∀f,f∈fs→Good f):∀(k i n:Nat),fs.length-i=k→1≤n→(countF fs i n).2=0→1≤(countF fs i n).1:=by
 intro k
 induction k with
 |zero=>intro i n hk hn _;rw[countF,if_neg (by omega)];show (1:Int)≤(n:Int);omega
 |succ k ih=>
  intro i n hk hn h0
  rw[countF,if_pos (by omega)]at h0⊢
  split
  ·rename_i hc;rw[if_pos hc]at h0;simp at h0
  ·rename_i hc
   rw[if_neg hc]at h0
   have:=(h _ (getD_mem (l:=fs) (i:=i) (by omega))).sz.1
   exact ih (i+1) _ (by omega) (Nat.mul_pos (by omega) (by omega)) h0
theorem countE_pos {d:Dc} (h:(countE d).2=0):1≤(countE d).1:=by
 have hc:=countE_0 h
 have hr:=right_of hc
 unfold countE at h⊢
 rw[if_pos hc]at h⊢
 exact sz_pos_fields hr.good _ 0 1 rfl (by omega) h
structure CntI (l:List Dc) (i:Nat) (acc:List Int) (n:Int):Prop where
 len:acc.length=i
 n0:1≤n
 n1:n≤4096
 at_:∀j,j<i→acc.getD j default=(countE (l.getD j default)).1∧(countE (l.getD j default)).2=0
theorem CntI.step {l:List Dc} {i:Nat} {acc:List Int} {n:Int} (h:CntI l i acc n) (hb:cntBad (l.getD i default) n=false):CntI l (i+1) (acc++ [(countE (l.getD i default)).1]) (n*(countE (l.getD i default)).1):=by
 rw[cntBad,Bool.or_eq_false_iff,Bool.not_eq_false',decide_eq_true_eq,decide_eq_false_iff_not]at hb
 obtain ⟨h1,h2⟩:=hb
 have h2:n*(countE (l.getD i default)).1≤4096:=by omega
 have hp:=countE_pos h1
 refine ⟨by simp[h.len],?_,h2,fun j hj=> ?_⟩
 ·have:=Int.mul_le_mul h.n0 hp (by omega) (by have:=h.n0;omega)
  omega
 ·by_cases e:j=i
  ·subst e
   rw[List.getD_eq_getElem?_getD,List.getElem?_append_right (by rw[h.len];omega),h.len]
   refine ⟨by simp,h1⟩
  ·have:=h.at_ j (by omega)
   rw[List.getD_eq_getElem?_getD,List.getElem?_append_left (by rw[h.len];omega),←List.getD_eq_getElem?_getD]
   exact this
theorem cntI_0 (l:List Dc):CntI l 0 [] 1:=⟨rfl,by omega,by omega,fun j h=>by omega⟩
theorem CntI.mul {l:List Dc} {i:Nat} {acc:List Int} {n:Int} (h:CntI l i acc n) (d:Dc): -9223372036854775808≤n*(countE d).1∧n*(countE d).1≤9223372036854775807:=by
 have h1:=countE_le d
 have h2:=h.n0
 have h3:=h.n1
 have h4:=Int.mul_le_mul h3 h1.2 h1.1 (by omega)
 have h5:=Int.mul_nonneg (show 0≤n by omega) h1.1
 omega
theorem cntF_I {l:List Dc} :∀(k i:Nat) (acc:List Int) (n:Int) (r:List Int) (m:Int),l.length-i=k→i≤l.length→CntI l i acc n→cntF l i acc n=some (r,m)→CntI l l.length r m:=by
 intro k
 induction k with
 |zero=>
  intro i acc n r m hk hi h he
  rw[cntF,if_neg (by omega)]at he
  cases he
  obtain rfl:i=l.length:=by omega
  exact h
 |succ k ih=>
  intro i acc n r m hk hi h he
  rw[cntF,if_pos (by omega)]at he
  cases hb:cntBad (l.getD i default) n with
  |true=>rw[hb,if_pos rfl]at he;cases he
  |false=>
   rw[hb,if_neg (by simp)]at he
   exact ih (i+1) _ _ r m (by omega) (by omega) (h.step hb) he
theorem countsE_ok {l:List Dc} (h:(countsE l).2.2=0):CntI l l.length (countsE l).1 (countsE l).2.1:=by
 unfold countsE at h⊢
 split at h
 ·simp at h
 ·rename_i h8
  rw[if_neg h8]
  split at h
  ·rename_i hd
   rw[if_pos hd]
   cases hc:cntF l 0 [] 1 with
   |none=>rw[hc]at h;simp at h
   |some r=>
    obtain ⟨r,n⟩:=r
    exact cntF_I _ 0 [] 1 r n rfl (Nat.zero_le _) (cntI_0 l) hc
  ·rename_i hd
   exact absurd h hd
def pnO:Option Pn→List D
 |none=>[.sc (.string ⟨#[]⟩),.sc (.slice none 0 0),.sc (.slice none 0 0)]
 |some p=>pnC p
def rdF (l:List Dc) (cs:List Int):Nat→Int→List (Option Pn)→List (Option Pn)
 |0,_,out=>out
 |j+1,i,out=>rdF l cs j (i/cs.getD j default) (out.set j (some (readE (l.getD j default) (i % cs.getD j default)).1))
def rdL (l:List Dc) (cs:List Int):Nat→Int→List Pn
 |0,_=>[]
 |j+1,i=>rdL l cs j (i/cs.getD j default)++ [(readE (l.getD j default) (i % cs.getD j default)).1]
theorem rdL_len (l:List Dc) (cs:List Int):∀(j:Nat) (i:Int),(rdL l cs j i).length=j:=by
 intro j
 induction j with
 |zero=>intro i;rfl
 |succ j ih=>intro i;simp[rdL,ih]
theorem rdF_eq (l:List Dc) (cs:List Int):∀(j:Nat) (i:Int) (out:List (Option Pn)),j≤out.length→rdF l cs j i out=(rdL l cs j i).map some++out.drop j:=by
 intro j
 induction j with
 |zero=>intro i out _;rfl
 |succ j ih=>
  intro i out hj
  rw[rdF,ih _ _ (by rw[List.length_set];omega),rdL,List.map_append,List.append_assoc]
  congr 1
  rw[List.drop_set,if_neg (by omega),Nat.sub_self,List.drop_eq_getElem_cons (show j<out.length by omega)]
  rfl
def readL (l:List Dc) (cs:List Int) (i:Int):List Pn:=rdL l cs l.length i
theorem rdF_top (l:List Dc) (cs:List Int) (i:Int):rowL pnO (rdF l cs l.length i (List.replicate l.length none))=rowL pnC (readL l cs i):=by
 rw[rdF_eq _ _ _ _ _ (by simp),List.drop_eq_nil_of_le (by simp),List.append_nil]
 simp[rowL,readL,pnO]
theorem putD_pn {xs:List (Option Pn)} {k:Nat} (hk:k<xs.length) (p:Pn):putD (rowL pnO xs) k 0 (pnC p)=rowL pnO (xs.set k (some p)):=by
 have e:(rowL pnO xs).getD k []=pnO xs[k]:=by
  simp[rowL,List.getD_eq_getElem?_getD,List.getElem?_eq_getElem hk]
 have h3:(pnO xs[k]).length=3:=by cases xs[k]<;>rfl
 rw[putD,e]
 simp only[rowL,List.map_set,List.take_zero,List.nil_append,Nat.zero_add]
 rw[List.drop_of_length_le (by rw[h3];exact Nat.le_refl _),List.append_nil]
 rfl
theorem counts_ok (l:List Dc) (hl:FitL l):GC Tryz.prog 47 [rowDc l] (.tup [rowI (countsE l).1,iG (countsE l).2.1,iG (countsE l).2.2]):=by
 have hl1:=hl.len
 refine gc_of_gk Tryz.func47 ?_
 refine gk_region env false [] [0,2,3,4] ?_
 refine gk_region env false [] [0,2,3,4,16] ?_
 refine gk_ifd (fun c1=> ?_) (fun c1=> ?_)
 ·try simp only[toN]at c1
  refine gk_region env false [] [0,2,3,4] ?_
  refine gk_retE env ?_
  rw[countsE,if_pos (by omega)];exact Ent.tup ⟨Ent.nil,Ent.refl _,Ent.refl _,trivial⟩
 ·try simp only[toN]at c1
  refine gk_region env false [] [0,2,3,4,17,18,19] ?_
  refine gk_loop (α:=Nat) (fun i=>i≤l.length∧dchk l 0=dchk l i) (fun i=>[(19,iG i)]) (fun _=>[]) (fun i=>l.length-i) 0 ⟨by omega,rfl⟩ ?_
  rintro i ⟨hi,he⟩
  refine gk_region env false [] [0,2,3,4,17,18,19,20] ?_
  refine gk_ifd (fun c2=> ?_) (fun c2=> ?_)
  ·try simp only[toN]at c2
   refine gk_region env false [] [0,2,3,4,6,17,18,19] ?_
   refine gk_region env false [.call (check_ok (l.getD i default) (hl.at_ (by omega)))] [0,2,3,4,7,17,18,19] ?_
   refine gk_region env false [] [0,2,3,4,7,17,18,19,26] ?_
   refine gk_ifn (fun c3=> ?_) (fun c3=> ?_)
   ·try simp only[toN]at c3
    refine gk_region env false [] [0,2,3,4,17,18,19] ?_
    refine gk_retE env ?_
    have e:dchk l 0=checkE (l.getD i default):=by rw[he,dchk,if_pos (by omega),if_neg c3]
    have e2:countsE l=([],0,checkE (l.getD i default)):=by rw[countsE,if_neg (by omega),if_neg (by rw[e];exact c3),e]
    rw[e2];exact Ent.tup ⟨Ent.nil,Ent.refl _,Ent.refl _,trivial⟩
   ·try simp only[toN]at c3
    refine gk_region env false [] [0,2,3,4,17,18,19] ?_
    refine gk_round (i+1) ?_
    refine ⟨by omega,he.trans ?_⟩
    rw[dchk,if_pos (by omega),if_pos c3]
  ·try simp only[toN]at c2
   have hd:dchk l 0=0:=by rw[he,dchk,if_neg (by omega)]
   refine gk_region env false [] [0,2,3,4,8] ?_
   refine gk_region env false [] [0,2,3,4,8,9] ?_
   refine gk_nil 9 3 1 (default:Int) inC (by rfl) (by rfl) ?_
   refine gk_region env false [] [2,3,4,8,9,29,30,31] ?_
   refine gk_loop (α:=Nat×List Int×Int) (fun x=>x.1≤l.length∧CntI l x.1 x.2.1 x.2.2∧cntF l 0 [] 1=cntF l x.1 x.2.1 x.2.2) (fun x=>[(31,iG x.1),(9,.sl 0 1 0 x.2.1.length),(8,iG x.2.2)]) (fun x=>[(0,some (.row 3 1 default inC x.2.1 0))]) (fun x=>l.length-x.1) (0,[],1) ⟨Nat.zero_le _,cntI_0 l,rfl⟩ ?_
   rintro ⟨i,acc,n⟩ ⟨hi,hI,he⟩
   dsimp only at*
   have hm:=hI.mul (l.getD i default)
   have hal:=hI.len
   refine gk_region env false [] [2,3,4,8,9,29,30,31,32] ?_
   refine gk_ifd (fun c4=> ?_) (fun c4=> ?_)
   ·try simp only[toN]at c4
    refine gk_region env false [] [2,3,4,8,9,11,29,30,31] ?_
    refine gk_region env false [.call (count_ok (l.getD i default) (hl.at_ (by omega)))] [2,3,4,8,9,12,13,29,30,31] ?_
    refine gk_region env false [] [2,3,4,8,9,12,29,30,31,47] ?_
    refine gk_if (fun c5=> ?_) (fun c5=> ?_)
    ·try simp only[bb,toN]at c5
     refine gk_region env false [] [2,3,4,8,9,12,29,30,31] ?_
     refine gk_retE env ?_
     have e:cntF l 0 [] 1=none:=by rw[he,cntF,if_pos (by omega),if_pos (by simp[cntBad];simp at c5;exact c5)]
     have e2:countsE l=([],0,6):=by rw[countsE,if_neg (by omega),if_pos hd,e]
     rw[e2];exact Ent.tup ⟨Ent.nil,Ent.refl _,Ent.refl _,trivial⟩
    ·try simp only[bb,toN]at c5
     have hb0:cntBad (l.getD i default) n=false:=by simp[cntBad];simp at c5;exact c5
     refine gk_region env false [.el default inC [(countE (l.getD i default)).1],.el default inC (acc++ [(countE (l.getD i default)).1])] [2,3,4,8,9,29,30,31] ?_ (hp:=(by simp only[AllP,Int.toNat_natCast];repeat' first|exact trivial|exact EntL.refl _|exact BEntL.refl _|exact rfl|omega|apply And.intro|intro _|(simp[rowL];done)|(simp only[List.length_append,List.length_cons,List.length_nil];omega)|(simp[*];done)))
     refine gk_region env false [] [2,3,4,8,9,29,30,31] ?_
     refine gk_round ((i+1,acc++ [(countE (l.getD i default)).1],n*(countE (l.getD i default)).1)) ?_
     refine ⟨by simp only;omega,hI.step hb0,he.trans ?_⟩
     rw[cntF,if_pos (by omega),if_neg (by rw[hb0];simp)]
   ·try simp only[toN]at c4
    refine gk_region env false [] [2,3,4] ?_
    refine gk_ret env ?_
    have e:cntF l 0 [] 1=some (acc,n):=by rw[he,cntF,if_neg (by omega)]
    have e2:countsE l=(acc,n,0):=by rw[countsE,if_neg (by omega),if_pos hd,e]
    rw[e2];rfl
theorem eread_ok (l:List Dc) (hl:FitL l) (cs:List Int) (n:Int) (hc:CntI l l.length cs n) (i:Int) (hi:0≤i) (hi2:i≤4096):GC Tryz.prog 48 [rowDc l,rowI cs,iG i] (rowP (readL l cs i)):=by
 have hl1:=hl.len
 have hcl:=hc.len
 refine gc_of_gk Tryz.func48 ?_
 refine gk_region env false [] [0,1,2,6] ?_
 refine gk_region env false [.el none pnO (List.replicate l.length none:List (Option Pn))] [0,1,2,6,7] ?_ (hp:=(by simp only[AllP,bb,toN];repeat' first|exact trivial|exact EntL.refl _|exact BEntL.refl _|exact rfl|omega|apply And.intro|intro _|(rw[rowL,List.map_replicate];rfl)))
 refine gk_region env false [] [0,1,2,6,7,8] ?_
 refine gk_loop (α:=Nat×Int×List (Option Pn)) (fun x=>x.1≤l.length∧(0≤x.2.1∧x.2.1≤4096)∧x.2.2.length=l.length∧rdF l cs l.length i (List.replicate l.length none:List (Option Pn))=rdF l cs x.1 x.2.1 x.2.2) (fun x=>[(8,iG ((x.1:Int)-1)),(2,iG x.2.1),(7,.sl 0 3 0 x.2.2.length)]) (fun x=>[(0,some (.row 94 3 none pnO x.2.2 0))]) (fun x=>x.1) (l.length,i,(List.replicate l.length none:List (Option Pn))) ⟨Nat.le_refl _,⟨hi,hi2⟩,by simp,rfl⟩ ?_
 rintro ⟨j,k,out⟩ ⟨hj,hk,ho,he⟩
 dsimp only at*
 refine gk_region env false [] [0,1,2,6,7,8,16] ?_
 refine gk_ifd (fun c1=> ?_) (fun c1=> ?_)
 ·try simp only[toN]at c1
  have hcj:=(hc.at_ (j-1) (by omega)).1
  have hcp:=countE_pos (hc.at_ (j-1) (by omega)).2
  have hjj:((j:Int)-1).toNat=j-1:=by omega
  have hd1:0≤k/cs.getD (j-1) default:=Int.ediv_nonneg hk.1 (by omega)
  have hd2:k/cs.getD (j-1) default≤k:=Int.ediv_le_self _ hk.1
  refine gk_region env false [.call (read_ok (l.getD (j-1) default) (hl.at_ (by omega)) (k % cs.getD (j-1) default)),.el none pnO (out.set (j-1) (some (readE (l.getD (j-1) default) (k % cs.getD (j-1) default)).1))] [0,1,2,6,7,8] ?_ (hp:=(by simp only[AllP,bb,toN,hjj,Nat.zero_add];repeat' first|exact trivial|exact EntL.refl _|exact BEntL.refl _|exact rfl|omega|apply And.intro|intro _|exact (putD_pn (by omega) _).symm|(simp;done)))
  refine gk_region env false [] [0,1,2,6,7,8] ?_ (hp:=(by simp only[AllP,bb,toN,hjj];repeat' first|exact trivial|exact EntL.refl _|exact BEntL.refl _|exact rfl|omega|apply And.intro|intro _))
  simp only[hjj]
  refine gk_region env false [] [0,1,2,6,7,8] ?_
  refine gk_round ((j-1,k/cs.getD (j-1) default,out.set (j-1) (some (readE (l.getD (j-1) default) (k % cs.getD (j-1) default)).1))) ?_ (hp:=by simp[AllP];omega)
  obtain ⟨j,rfl⟩:∃m,j=m+1:=⟨j-1,by omega⟩
  refine ⟨by simp only;omega,⟨hd1,by simp only;omega⟩,by simp[ho],he.trans rfl⟩
 ·try simp only[toN]at c1
  refine gk_region env false [] [6] ?_
  refine gk_retE env ?_
  obtain rfl:j=0:=by omega
  have e:rowL pnO out=rowL pnC (readL l cs i):=by rw[←rdF_top,he];rfl
  exact Ent.rowEq e
end Go.Gh
namespace Go.Gh
open Go Go.Proofs
set_option maxRecDepth 1000000
set_option maxHeartbeats 2000000
set_option linter.unusedSimpArgs false
set_option linter.unusedVariables false
set_option linter.unnecessarySimpa false
open Go.RowKit
def nameV (a b:ByteArray):Bool:=nameOk a&&nameOk b
abbrev wDot:ByteArray:=⟨#[32,46,32]⟩
abbrev wNeed:ByteArray:=⟨#[110,101,101,100,32]⟩
abbrev wField:ByteArray:=⟨#[102,105,101,108,100,32]⟩
abbrev wSum:ByteArray:=⟨#[115,117,109,32]⟩
abbrev wEnd:ByteArray:=⟨#[32,59]⟩
abbrev wIs:ByteArray:=⟨#[32,105,115,32]⟩
abbrev wSame:ByteArray:=⟨#[32,115,97,109,101,32]⟩
abbrev wFrom:ByteArray:=⟨#[32,102,114,111,109,32]⟩
abbrev wTo:ByteArray:=⟨#[32,116,111,32]⟩
theorem quoteV_size (s:ByteArray):(quoteV s).size≤802:=by
 unfold quoteV
 split
 ·rename_i h
  have h1:s.size≤400:=by simp[valueOk]at h;omega
  have:=escS_size s
  omega
 ·exact Nat.zero_le _
def spotW (a b:ByteArray):ByteArray:=a++wDot++b
def needW (a:ByteArray):ByteArray:=wNeed++a++wEnd
def isW (a b t:ByteArray):ByteArray:=wField++spotW a b++wIs++quoteV t++wEnd
def sameW (a b c d:ByteArray):ByteArray:=wField++spotW a b++wSame++spotW c d++wEnd
abbrev e0:ByteArray:=⟨#[]⟩
def dNeed (a:ByteArray):Dm:=⟨0,a,e0,e0,e0,e0,0,0⟩
def dIs (a b t:ByteArray):Dm:=⟨1,a,b,e0,e0,t,0,0⟩
def dSame (a b c d:ByteArray):Dm:=⟨3,a,b,c,d,e0,0,0⟩
def dLim (a b:ByteArray) (lo hi:Int) (sm:Bool):Dm:=⟨if sm then 4 else 2,a,b,e0,e0,e0,lo,hi⟩
theorem size_add (a b:ByteArray):(a++b).size=a.size+b.size:=ByteArray.size_append
theorem lit_size (a:Array UInt8):(ByteArray.mk a).size=a.size:=rfl
theorem sz_ofL (l:List UInt8):(ofL l).size=l.length:=by show l.toArray.size=_;simp
theorem spot_named (a b:ByteArray) (ha:a.size≤1000) (hb:b.size≤1000):GC Tryz.prog 193 [spG a b] (bG (nameV a b)):=by
 refine gc_of_gk Tryz.func193 ?_
 refine gk_region env false [] [1,2] ?_
 refine gk_region env false [.call (name_ok a (by omega)),.call (name_ok b (by omega))] [2] ?_
 refine gk_ret env ?_
 rw[nameV]
 cases nameOk a<;>rfl
theorem spot_words (a b:ByteArray) (ha:a.size≤1000) (hb:b.size≤1000):GC Tryz.prog 194 [spG a b] (sG (spotW a b)):=by
 refine gc_of_gk Tryz.func194 ?_
 refine gk_region env false [] [1,2] ?_
 refine gk_region env false [] [2] ?_ (hp:=(by simp only[AllP,toN];repeat' first|exact trivial|exact EntL.refl _|exact rfl|apply And.intro|(simp only[size_add,lit_size,List.size_toArray,List.length_cons,List.length_nil,spotW,sz_ofL];omega)))
 refine gk_ret env ?_
 rfl
theorem needs_demand (a:ByteArray):GC Tryz.prog 195 [.agg [sG a]] (dmG (dNeed a)):=by
 refine gc_of_gk Tryz.func195 ?_
 refine gk_region env false [] [1,2] ?_
 refine gk_region env false [] [2] ?_
 refine gk_ret env ?_
 rfl
theorem needs_named (a:ByteArray) (ha:a.size≤1000):GC Tryz.prog 197 [.agg [sG a]] (bG (nameOk a)):=by
 refine gc_of_gk Tryz.func197 ?_
 refine gk_region env false [] [1,2] ?_
 refine gk_region env false [.call (name_ok a (by omega))] [2] ?_
 refine gk_ret env ?_
 rfl
theorem needs_words (a:ByteArray) (ha:a.size≤1000):GC Tryz.prog 198 [.agg [sG a]] (sG (needW a)):=by
 refine gc_of_gk Tryz.func198 ?_
 refine gk_region env false [] [1,2] ?_
 refine gk_region env false [] [2] ?_ (hp:=(by simp only[AllP,toN];repeat' first|exact trivial|exact EntL.refl _|exact rfl|apply And.intro|(simp only[size_add,lit_size,List.size_toArray,List.length_cons,List.length_nil,spotW,sz_ofL];omega)))
 refine gk_ret env ?_
 rfl
theorem reads_demand (a b t:ByteArray):GC Tryz.prog 203 [.agg [sG a,sG b,sG t]] (dmG (dIs a b t)):=by
 refine gc_of_gk Tryz.func203 ?_
 refine gk_region env false [] [1,2] ?_
 refine gk_region env false [] [2] ?_
 refine gk_ret env ?_
 rfl
theorem reads_named (a b:ByteArray) (ha:a.size≤1000) (hb:b.size≤1000) (t:ByteArray) (ht:t.size≤1000):GC Tryz.prog 205 [.agg [sG a,sG b,sG t]] (bG (valueOk t&&nameV a b)):=by
 refine gc_of_gk Tryz.func205 ?_
 refine gk_region env false [] [1,2] ?_
 refine gk_region env false [.call (quote_ok t (by omega))] [1,2,4] ?_
 refine gk_region env false [.call (spot_named a b ha hb)] [2] ?_
 refine gk_ret env ?_
 cases valueOk t<;>rfl
theorem reads_words (a b:ByteArray) (ha:a.size≤1000) (hb:b.size≤1000) (t:ByteArray) (ht:t.size≤1000):GC Tryz.prog 206 [.agg [sG a,sG b,sG t]] (sG (isW a b t)):=by
 have hq:=quoteV_size t
 refine gc_of_gk Tryz.func206 ?_
 refine gk_region env false [] [1,2] ?_
 refine gk_region env false [.call (quote_ok t (by omega))] [1,2,3] ?_
 refine gk_region env false [.call (spot_words a b ha hb)] [2] ?_ (hp:=(by simp only[AllP,toN];repeat' first|exact trivial|exact EntL.refl _|exact rfl|apply And.intro|(simp only[size_add,lit_size,List.size_toArray,List.length_cons,List.length_nil,spotW,sz_ofL];omega)))
 refine gk_ret env ?_
 rfl
theorem agrees_demand (a b c d:ByteArray):GC Tryz.prog 213 [.agg [sG a,sG b,sG c,sG d]] (dmG (dSame a b c d)):=by
 refine gc_of_gk Tryz.func213 ?_
 refine gk_region env false [] [1,2] ?_
 refine gk_region env false [] [2] ?_
 refine gk_ret env ?_
 rfl
theorem agrees_named (a b c d:ByteArray) (ha:a.size≤1000) (hb:b.size≤1000) (hc:c.size≤1000) (hd:d.size≤1000):GC Tryz.prog 215 [.agg [sG a,sG b,sG c,sG d]] (bG (nameV a b&&nameV c d)):=by
 refine gc_of_gk Tryz.func215 ?_
 refine gk_region env false [] [1,2] ?_
 refine gk_region env false [.call (spot_named a b ha hb),.call (spot_named c d hc hd)] [2] ?_
 refine gk_ret env ?_
 cases nameV a b<;>rfl
theorem agrees_words (a b c d:ByteArray) (ha:a.size≤1000) (hb:b.size≤1000) (hc:c.size≤1000) (hd:d.size≤1000):GC Tryz.prog 216 [.agg [sG a,sG b,sG c,sG d]] (sG (sameW a b c d)):=by
 refine gc_of_gk Tryz.func216 ?_
 refine gk_region env false [] [1,2] ?_
 refine gk_region env false [.call (spot_words a b ha hb),.call (spot_words c d hc hd)] [2] ?_ (hp:=(by simp only[AllP,toN];repeat' first|exact trivial|exact EntL.refl _|exact rfl|apply And.intro|(simp only[size_add,lit_size,List.size_toArray,List.length_cons,List.length_nil,spotW,sz_ofL];omega)))
 refine gk_ret env ?_
 rfl
theorem limits_demand_false (a b:ByteArray) (lo hi:Int):GC Tryz.prog 218 [.agg [sG a,sG b,iG lo,iG hi,bG false]] (dmG (dLim a b lo hi false)):=by
 refine gc_of_gk Tryz.func218 ?_
 refine gk_region env false [] [1,2] ?_
 refine gk_region env false [] [1,2,3] ?_
 refine gk_region env false [] [2,3,16] ?_
 refine gk_if (fun c1=> ?_) (fun c1=> ?_)
 ·try simp only[bb,toN]at c1
  refine gk_region env false [] [2,3] ?_
  refine gk_region env false [] [2] ?_
  refine gk_ret env ?_
  cases c1
 ·try simp only[bb,toN]at c1
  refine gk_region env false [] [2] ?_
  refine gk_ret env ?_
  rfl
theorem limits_demand_true (a b:ByteArray) (lo hi:Int):GC Tryz.prog 218 [.agg [sG a,sG b,iG lo,iG hi,bG true]] (dmG (dLim a b lo hi true)):=by
 refine gc_of_gk Tryz.func218 ?_
 refine gk_region env false [] [1,2] ?_
 refine gk_region env false [] [1,2,3] ?_
 refine gk_region env false [] [2,3,16] ?_
 refine gk_if (fun c1=> ?_) (fun c1=> ?_)
 ·try simp only[bb,toN]at c1
  refine gk_region env false [] [2,3] ?_
  refine gk_region env false [] [2] ?_
  refine gk_ret env ?_
  rfl
 ·try simp only[bb,toN]at c1
  refine gk_region env false [] [2] ?_
  refine gk_ret env ?_
  cases c1
theorem limits_named (a b:ByteArray) (ha:a.size≤1000) (hb:b.size≤1000) (lo hi:Int) (sm:Bool):GC Tryz.prog 220 [.agg [sG a,sG b,iG lo,iG hi,bG sm]] (bG (nameV a b&&decide (0≤lo)&&decide (lo≤hi)&&decide (hi≤1099511627776))):=by
 refine gc_of_gk Tryz.func220 ?_
 refine gk_region env false [] [1,2] ?_
 refine gk_region env false [.call (spot_named a b ha hb)] [2] ?_
 refine gk_ret env ?_
 cases nameV a b<;>simp[tupG]
end Go.Gh
namespace Go.Gh
open Go Go.Proofs
set_option maxRecDepth 1000000
set_option maxHeartbeats 2000000
set_option linter.unusedSimpArgs false
set_option linter.unusedVariables false
set_option linter.unnecessarySimpa false
open Go.RowKit
class PowTab where
 v:List Int
 len:v.length=20
 rng:∀x,x∈v→0≤x∧x≤18446744073709551615
instance powLaid [PowTab]:Laid:=⟨[(1,tabD .u64 PowTab.v)]⟩
theorem Rel.bare [PowTab] {ν:Nu} {F:Fz} {w:World} {H:Hp} (h: @Rel powLaid ν F w H): @Rel seatLaid ν F w H:= @Rel.mk seatLaid ν F w H h.inj h.blk h.old (fun q hq=>nomatch hq)
theorem Rel.clad [PowTab] {ν ν':Nu} {F F':Fz} {w w':World} {H H':Hp} (h: @Rel powLaid ν F w H) (h': @Rel seatLaid ν' F' w' H') (k:Keep F w F' w'): @Rel powLaid ν' F' w' H':= @Rel.mk powLaid ν' F' w' H' (@Rel.inj seatLaid _ _ _ _ h') (@Rel.blk seatLaid _ _ _ _ h') (@Rel.old seatLaid _ _ _ _ h') (h.glob.keep k)
theorem GC.lift [PowTab] {P:Program} {f:FuncId} {args:List G} {g:G} (h: @GC seatLaid P f args g): @GC powLaid P f args g:=
 ⟨h.1,fun ν F w H vs hr hv=>(h.2 ν F w H vs hr.bare hv).mono fun e w' ⟨F',v,h1,h2,h3,h4⟩=>⟨F',v,h1,h2,hr.clad h3 h4.keep,h4⟩⟩
theorem GM.lift [PowTab] {P:Program} {f:FuncId} {args:List G} {hs:List Blk} {g:G} {hs':List (Option Blk)} (h: @GM seatLaid P f args hs g hs'): @GM powLaid P f args hs g hs':=
 ⟨h.1,fun ν F w vs hr hn hv=>(h.2 ν F w vs hr.bare hn hv).mono fun e w' ⟨ν',F',v,h1,h2,h3,h4,h5,h6⟩=>⟨ν',F',v,h1,h2,hr.clad h3 h6.keep,h4,h5,h6⟩⟩
class ItoaU [PowTab] where
 f:Int→ByteArray
 size:∀n,(f n).size≤24
 ok:∀n,0≤n→n≤1099511627776→GC Tryz.prog 222 [iG n] (sG (f n))
end Go.Gh
namespace Go.Gh
open Go Go.Proofs
set_option maxRecDepth 1000000
set_option maxHeartbeats 2000000
set_option linter.unusedSimpArgs false
set_option linter.unusedVariables false
set_option linter.unnecessarySimpa false
set_option linter.unusedSectionVars false
variable [PowTab] [ItoaU]
open Go.RowKit
theorem join_le (xs:List (List UInt8)) (m:Nat):(∀x,x∈xs→x.length≤m)→(Lib.join xs [32]).length≤xs.length*(m+1):=by
 match xs with
 | []=>intro _;simp[Lib.join]
 | [x]=>intro h;have:=h x List.mem_cons_self;simp[Lib.join,List.intercalate,List.intersperse];omega
 |x::y::l=>
  intro h
  have ih:=join_le (y::l) m fun z hz=>h z (List.mem_cons_of_mem _ hz)
  have:=h x List.mem_cons_self
  have e:Lib.join (x::y::l) [32]=x++ [32]++Lib.join (y::l) [32]:=by simp[Lib.join,List.intercalate,List.intersperse]
  rw[e]
  simp only[List.length_append,List.length_cons,List.length_nil,Nat.add_mul]at ih⊢
  omega
def limW (a b:ByteArray) (lo hi:Int) (sm:Bool):ByteArray:=(if sm then wSum else wField)++spotW a b++wFrom++ItoaU.f lo++wTo++ItoaU.f hi++wEnd
theorem limits_words (a b:ByteArray) (ha:a.size≤1000) (hb:b.size≤1000) (lo hi:Int) (h0:0≤lo) (h1:lo≤hi) (h2:hi≤1099511627776) (sm:Bool):GC Tryz.prog 221 [.agg [sG a,sG b,iG lo,iG hi,bG sm]] (sG (limW a b lo hi sm)):=by
 have hq1:=ItoaU.size lo
 have hq2:=ItoaU.size hi
 have hq3:(if sm=true then wSum else wField).size≤6:=by cases sm<;>decide
 refine gc_of_gk Tryz.func221 ?_
 refine gk_region env false [] [1,2] ?_
 refine gk_region env false [] [1,2,3] ?_
 refine gk_region env false [] [1,2,3,5] ?_
 refine gk_join (α:=Unit) (fun _=>True) (fun _=>⟨[(1,.ptr 0 0 0 0),(2,sG e0),(3,sG (if sm then wSum else wField))],[(0,some (.box [sG a,sG b,iG lo,iG hi,bG sm]))],1⟩) ?_ ?_
 ·rintro ⟨⟩-
  refine gk_region env false [.call (GC.lift (spot_words a b ha hb)),.call (ItoaU.ok lo (by omega) (by omega)),.call (ItoaU.ok hi (by omega) (by omega))] [2] ?_ (hp:=(by simp only[AllP,toN];repeat' first|exact trivial|exact EntL.refl _|exact rfl|apply And.intro|(simp only[size_add,lit_size,List.size_toArray,List.length_cons,List.length_nil,spotW,sz_ofL];omega)))
  refine gk_ret env ?_
  rfl
 refine gk_if (fun c1=> ?_) (fun c1=> ?_)
 ·try simp only[bb,toN]at c1
  refine gk_region env false [] [1,2,3] ?_
  refine gk_goal (()) ?_ (hp:=by simp[AllP, *])
  trivial
 ·try simp only[bb,toN]at c1
  refine gk_goal (()) ?_ (hp:=by simp[AllP, *])
  trivial
end Go.Gh
namespace Go.Gh
open Go Go.Proofs
set_option maxRecDepth 1000000
set_option maxHeartbeats 2000000
set_option linter.unusedSimpArgs false
set_option linter.unusedVariables false
set_option linter.unnecessarySimpa false
set_option linter.unusedSectionVars false
variable [PowTab] [ItoaU]
open Go.RowKit
def cleanV (d:Dm):Dm:=if d.op=0 then dNeed d.doc else if d.op=1 then dIs d.doc d.field d.text else if d.op=3 then dSame d.doc d.field d.other d.second else dLim d.doc d.field d.lo d.hi (decide (d.op=4))
def namedV (d:Dm):Bool:=if d.op=0 then nameOk d.doc else if d.op=1 then valueOk d.text&&nameV d.doc d.field else if d.op=3 then nameV d.doc d.field&&nameV d.other d.second
 else nameV d.doc d.field&&decide (0≤d.lo)&&decide (d.lo≤d.hi)&&decide (d.hi≤1099511627776)
def wordsV (d:Dm):ByteArray:=if d.op=0 then needW d.doc else if d.op=1 then isW d.doc d.field d.text else if d.op=3 then sameW d.doc d.field d.other d.second else limW d.doc d.field d.lo d.hi (decide (d.op=4))
def knownV (d:Dm):Bool:=decide (0≤d.op)&&decide (d.op≤4)
def canV (d:Dm):Bool:=knownV d&&(decide (d=cleanV d)&&namedV d)
def printF (l:List Dm) (i:Nat) (acc:List ByteArray):Option (List ByteArray):=
 if i<l.length then if canV (l.getD i default)=true∧l.length≤20 then printF l (i+1) (acc++ [wordsV (l.getD i default)])else none else some acc
termination_by l.length-i
def printS (l:List Dm):ByteArray:=match printF l 0 []with
 |none=>e0
 |some r=>if 20000<(joinS r ⟨#[32]⟩).size then e0 else joinS r ⟨#[32]⟩
def printOk (l:List Dm):Bool:=match printF l 0 []with
 |none=>false
 |some r=>decide ((joinS r ⟨#[32]⟩).size≤20000)
theorem FewD.words {d:Dm} (h:FewD d) (hc:canV d=true):(wordsV d).size≤940:=by
 obtain ⟨h1,h2,h3,h4,h5⟩:=h
 have hq:=quoteV_size d.text
 unfold wordsV
 split
 ·simp only[needW,size_add,lit_size,List.size_toArray,List.length_cons,List.length_nil];omega
 ·split
  ·simp only[isW,spotW,sz_ofL,size_add,lit_size,List.size_toArray,List.length_cons,List.length_nil];omega
  ·split
   ·simp only[sameW,spotW,size_add,lit_size,List.size_toArray,List.length_cons,List.length_nil];omega
   ·rename_i g1 g2 g3
    simp[canV,namedV,g1,g2,g3]at hc
    obtain ⟨_,_,⟨⟨_,a1⟩,a2⟩,a3⟩:=hc
    have q1:=ItoaU.size d.lo
    have q2:=ItoaU.size d.hi
    have q3:(if decide (d.op=4)=true then wSum else wField).size≤6:=by split<;>decide
    simp only[limW,spotW,sz_ofL,size_add,lit_size,List.size_toArray,List.length_cons,List.length_nil];omega
theorem clean_0 {d:Dm} (h:d.op=0):cleanV d=dNeed d.doc∧wordsV d=needW d.doc∧canV d=(dmEq d (dNeed d.doc)&&nameOk d.doc):=by
 have hc:cleanV d=dNeed d.doc:=by simp[cleanV,h]
 exact ⟨hc,by simp[wordsV,h],by rw[canV,hc,dmEq_eq];simp[knownV,namedV,h]⟩
theorem clean_1 {d:Dm} (h:d.op=1):cleanV d=dIs d.doc d.field d.text∧wordsV d=isW d.doc d.field d.text∧canV d=(dmEq d (dIs d.doc d.field d.text)&&(valueOk d.text&&nameV d.doc d.field)):=by
 have hc:cleanV d=dIs d.doc d.field d.text:=by simp[cleanV,h]
 exact ⟨hc,by simp[wordsV,h],by rw[canV,hc,dmEq_eq];simp[knownV,namedV,h]⟩
theorem clean_3 {d:Dm} (h:d.op=3):cleanV d=dSame d.doc d.field d.other d.second∧wordsV d=sameW d.doc d.field d.other d.second∧canV d=(dmEq d (dSame d.doc d.field d.other d.second)&&(nameV d.doc d.field&&nameV d.other d.second)):=by
 have hc:cleanV d=dSame d.doc d.field d.other d.second:=by simp[cleanV,h]
 exact ⟨hc,by simp[wordsV,h],by rw[canV,hc,dmEq_eq];simp[knownV,namedV,h]⟩
theorem clean_2 {d:Dm} (h:d.op=2):cleanV d=dLim d.doc d.field d.lo d.hi false∧wordsV d=limW d.doc d.field d.lo d.hi false∧canV d=(dmEq d (dLim d.doc d.field d.lo d.hi false)&&(nameV d.doc d.field&&decide (0≤d.lo)&&decide (d.lo≤d.hi)&&decide (d.hi≤1099511627776))):=by
 have hc:cleanV d=dLim d.doc d.field d.lo d.hi false:=by simp[cleanV,h]
 exact ⟨hc,by simp[wordsV,h],by rw[canV,hc,dmEq_eq];simp[knownV,namedV,h]⟩
theorem clean_4 {d:Dm} (h:d.op=4):cleanV d=dLim d.doc d.field d.lo d.hi true∧wordsV d=limW d.doc d.field d.lo d.hi true∧canV d=(dmEq d (dLim d.doc d.field d.lo d.hi true)&&(nameV d.doc d.field&&decide (0≤d.lo)&&decide (d.lo≤d.hi)&&decide (d.hi≤1099511627776))):=by
 have hc:cleanV d=dLim d.doc d.field d.lo d.hi true:=by simp[cleanV,h]
 exact ⟨hc,by simp[wordsV,h],by rw[canV,hc,dmEq_eq];simp[knownV,namedV,h]⟩
theorem inv_d0:Inv Tryz.prog 136 "allonge/require.demand" 195:=fun x args w=>by kernel_rfl
theorem inv_d1:Inv Tryz.prog 138 "allonge/require.demand" 203:=fun x args w=>by kernel_rfl
theorem inv_d3:Inv Tryz.prog 140 "allonge/require.demand" 213:=fun x args w=>by kernel_rfl
theorem inv_d2:Inv Tryz.prog 142 "allonge/require.demand" 218:=fun x args w=>by kernel_rfl
theorem inv_n0:Inv Tryz.prog 136 "allonge/require.named" 197:=fun x args w=>by kernel_rfl
theorem inv_n1:Inv Tryz.prog 138 "allonge/require.named" 205:=fun x args w=>by kernel_rfl
theorem inv_n3:Inv Tryz.prog 140 "allonge/require.named" 215:=fun x args w=>by kernel_rfl
theorem inv_n2:Inv Tryz.prog 142 "allonge/require.named" 220:=fun x args w=>by kernel_rfl
theorem inv_w0:Inv Tryz.prog 136 "allonge/require.words" 198:=fun x args w=>by kernel_rfl
theorem inv_w1:Inv Tryz.prog 138 "allonge/require.words" 206:=fun x args w=>by kernel_rfl
theorem inv_w3:Inv Tryz.prog 140 "allonge/require.words" 216:=fun x args w=>by kernel_rfl
theorem inv_w2:Inv Tryz.prog 142 "allonge/require.words" 221:=fun x args w=>by kernel_rfl
theorem getD_mem' {α:Type} [Inhabited α] {l:List α} {i:Nat} (h:i<l.length):l.getD i default∈l:=by
 rw[List.getD_eq_getElem?_getD,List.getElem?_eq_getElem h];exact List.getElem_mem h
theorem print_ok (l:List Dm) (hl:l.length≤1000) (hf:∀d,d∈l→FewD d):GC Tryz.prog 72 [rowD l] (.tup [sG (printS l),bG (printOk l)]):=by
 refine gc_of_gk Tryz.func72 ?_
 refine gk_region env false [] [0,2,3] ?_
 refine gk_region env false [] [0,2,3,4] ?_
 refine gk_nil 4 9 1 (default:ByteArray) strC (by rfl) (by rfl) ?_
 refine gk_region env false [] [0,2,3,4,10,11,12] ?_
 refine gk_loop (α:=Nat×List ByteArray) (fun x=>x.1≤l.length∧x.2.length≤x.1∧(∀s,s∈x.2→s.size≤940)∧printF l 0 []=printF l x.1 x.2) (fun x=>[(12,iG x.1),(4,.sl 0 1 0 x.2.length)]) (fun x=>[(0,some (.row 9 1 default strC x.2 0))]) (fun x=>l.length-x.1) (0,[]) ⟨by simp,by simp,fun s h=>by simp at h,rfl⟩ ?_
 rintro ⟨i,acc⟩ ⟨hi,hj,hz,he⟩
 dsimp only at*
 have hfd:=fun h:i<l.length=>hf _ (getD_mem' (l:=l) h)
 refine gk_region env false [] [0,2,3,4,10,11,12,13] ?_
 refine gk_ifd (fun c1=> ?_) (fun c1=> ?_)
 ·try simp only[toN]at c1
  refine gk_region env false [] [0,2,3,4,6,10,11,12] ?_
  rcases ops (l.getD i default).op with h|h|h|h|h|h
  ·refine gk_region env false [.call (GC.lift (clause_need (l.getD i default) h))] [0,2,3,4,6,7,8,10,11,12] ?_
   refine gk_region env false [] [0,2,3,4,6,7,10,11,12,27] ?_
   refine gk_if (fun c2=> ?_) (fun c2=> ?_)
   ·try simp only[bb,toN]at c2
    refine gk_region env false [] [0,2,3,4,6,7,10,11,12] ?_
    refine gk_ret env ?_
    have e:printF l 0 []=none:=he.trans (by rw[printF,if_pos (by omega),if_neg (fun hh=>by have:=hh.2;simp at c2;omega)])
    simp[printS,printOk,e,tupG]
   ·try simp only[bb,toN]at c2
    obtain ⟨f5,f1,f2,f3,f4⟩:=hfd (by omega)
    replace f1:=Nat.le_trans f1 (by decide:60≤1000)
    replace f2:=Nat.le_trans f2 (by decide:60≤1000)
    replace f3:=Nat.le_trans f3 (by decide:60≤1000)
    replace f4:=Nat.le_trans f4 (by decide:60≤1000)
    replace f5:=Nat.le_trans f5 (by decide:500≤1000)
    refine gk_region env false [.inv inv_d0 (GC.lift (needs_demand (l.getD i default).doc)),.eq (eq_demand (l.getD i default) (dNeed (l.getD i default).doc)),.inv inv_n0 (GC.lift (needs_named (l.getD i default).doc f1))] [0,2,3,4,7,10,11,12,36] ?_
    refine gk_if (fun c3=> ?_) (fun c3=> ?_)
    ·try simp only[bb,toN]at c3
     refine gk_region env false [] [0,2,3,4,7,10,11,12] ?_
     refine gk_ret env ?_
     obtain ⟨_,_,hcx⟩:=clean_0 h
     have hcan:¬canV (l.getD i default)=true:=by
      rw[hcx]
      simp at c3⊢
      grind
     have e:printF l 0 []=none:=he.trans (by rw[printF,if_pos (by omega),if_neg (fun hh=>hcan hh.1)])
     simp[printS,printOk,e,tupG]
    ·try simp only[bb,toN]at c3
     obtain ⟨_,hw,hcx⟩:=clean_0 h
     have hcan:canV (l.getD i default)=true:=by
      rw[hcx]
      simp at c3⊢
      grind
     refine gk_region env false [.inv inv_w0 (GC.lift (needs_words (l.getD i default).doc f1)),.el default strC [needW (l.getD i default).doc],.el default strC (acc++ [needW (l.getD i default).doc])] [0,2,3,4,10,11,12] ?_ (hp:=(by simp only[AllP,Int.toNat_natCast];repeat' first|exact trivial|exact EntL.refl _|exact BEntL.refl _|exact rfl|omega|apply And.intro|intro _|(simp[rowL];done)|(simp only[List.length_append,List.length_cons,List.length_nil];omega)|(simp[*];done)))
     refine gk_region env false [] [0,2,3,4,10,11,12] ?_
     refine gk_round ((i+1,acc++ [needW (l.getD i default).doc])) ?_
     refine ⟨by simp only;omega,by simp only[List.length_append,List.length_cons,List.length_nil];omega,fun s hs=> ?_,he.trans ?_⟩
     ·rcases List.mem_append.1 hs with hs|hs
      ·exact hz s hs
      ·rw[List.mem_singleton.1 hs,←hw];exact (hfd (by omega)).words hcan
     ·rw[printF,if_pos (by omega),if_pos ⟨hcan,by omega⟩,hw]
  ·refine gk_region env false [.call (GC.lift (clause_is (l.getD i default) h))] [0,2,3,4,6,7,8,10,11,12] ?_
   refine gk_region env false [] [0,2,3,4,6,7,10,11,12,27] ?_
   refine gk_if (fun c2=> ?_) (fun c2=> ?_)
   ·try simp only[bb,toN]at c2
    refine gk_region env false [] [0,2,3,4,6,7,10,11,12] ?_
    refine gk_ret env ?_
    have e:printF l 0 []=none:=he.trans (by rw[printF,if_pos (by omega),if_neg (fun hh=>by have:=hh.2;simp at c2;omega)])
    simp[printS,printOk,e,tupG]
   ·try simp only[bb,toN]at c2
    obtain ⟨f5,f1,f2,f3,f4⟩:=hfd (by omega)
    replace f1:=Nat.le_trans f1 (by decide:60≤1000)
    replace f2:=Nat.le_trans f2 (by decide:60≤1000)
    replace f3:=Nat.le_trans f3 (by decide:60≤1000)
    replace f4:=Nat.le_trans f4 (by decide:60≤1000)
    replace f5:=Nat.le_trans f5 (by decide:500≤1000)
    refine gk_region env false [.inv inv_d1 (GC.lift (reads_demand (l.getD i default).doc (l.getD i default).field (l.getD i default).text)),.eq (eq_demand (l.getD i default) (dIs (l.getD i default).doc (l.getD i default).field (l.getD i default).text)),.inv inv_n1 (GC.lift (reads_named (l.getD i default).doc (l.getD i default).field f1 f2 (l.getD i default).text f5))] [0,2,3,4,7,10,11,12,36] ?_
    refine gk_if (fun c3=> ?_) (fun c3=> ?_)
    ·try simp only[bb,toN]at c3
     refine gk_region env false [] [0,2,3,4,7,10,11,12] ?_
     refine gk_ret env ?_
     obtain ⟨_,_,hcx⟩:=clean_1 h
     have hcan:¬canV (l.getD i default)=true:=by
      rw[hcx]
      simp at c3⊢
      grind
     have e:printF l 0 []=none:=he.trans (by rw[printF,if_pos (by omega),if_neg (fun hh=>hcan hh.1)])
     simp[printS,printOk,e,tupG]
    ·try simp only[bb,toN]at c3
     obtain ⟨_,hw,hcx⟩:=clean_1 h
     have hcan:canV (l.getD i default)=true:=by
      rw[hcx]
      simp at c3⊢
      grind
     refine gk_region env false [.inv inv_w1 (GC.lift (reads_words (l.getD i default).doc (l.getD i default).field f1 f2 (l.getD i default).text f5)),.el default strC [isW (l.getD i default).doc (l.getD i default).field (l.getD i default).text],.el default strC (acc++ [isW (l.getD i default).doc (l.getD i default).field (l.getD i default).text])] [0,2,3,4,10,11,12] ?_ (hp:=(by simp only[AllP,Int.toNat_natCast];repeat' first|exact trivial|exact EntL.refl _|exact BEntL.refl _|exact rfl|omega|apply And.intro|intro _|(simp[rowL];done)|(simp only[List.length_append,List.length_cons,List.length_nil];omega)|(simp[*];done)))
     refine gk_region env false [] [0,2,3,4,10,11,12] ?_
     refine gk_round ((i+1,acc++ [isW (l.getD i default).doc (l.getD i default).field (l.getD i default).text])) ?_
     refine ⟨by simp only;omega,by simp only[List.length_append,List.length_cons,List.length_nil];omega,fun s hs=> ?_,he.trans ?_⟩
     ·rcases List.mem_append.1 hs with hs|hs
      ·exact hz s hs
      ·rw[List.mem_singleton.1 hs,←hw];exact (hfd (by omega)).words hcan
     ·rw[printF,if_pos (by omega),if_pos ⟨hcan,by omega⟩,hw]
  ·refine gk_region env false [.call (GC.lift (clause_within (l.getD i default) h))] [0,2,3,4,6,7,8,10,11,12] ?_
   refine gk_region env false [] [0,2,3,4,6,7,10,11,12,27] ?_
   refine gk_if (fun c2=> ?_) (fun c2=> ?_)
   ·try simp only[bb,toN]at c2
    refine gk_region env false [] [0,2,3,4,6,7,10,11,12] ?_
    refine gk_ret env ?_
    have e:printF l 0 []=none:=he.trans (by rw[printF,if_pos (by omega),if_neg (fun hh=>by have:=hh.2;simp at c2;omega)])
    simp[printS,printOk,e,tupG]
   ·try simp only[bb,toN]at c2
    obtain ⟨f5,f1,f2,f3,f4⟩:=hfd (by omega)
    replace f1:=Nat.le_trans f1 (by decide:60≤1000)
    replace f2:=Nat.le_trans f2 (by decide:60≤1000)
    replace f3:=Nat.le_trans f3 (by decide:60≤1000)
    replace f4:=Nat.le_trans f4 (by decide:60≤1000)
    replace f5:=Nat.le_trans f5 (by decide:500≤1000)
    refine gk_region env false [.inv inv_d2 (GC.lift (limits_demand_false (l.getD i default).doc (l.getD i default).field (l.getD i default).lo (l.getD i default).hi)),.eq (eq_demand (l.getD i default) (dLim (l.getD i default).doc (l.getD i default).field (l.getD i default).lo (l.getD i default).hi false)),.inv inv_n2 (GC.lift (limits_named (l.getD i default).doc (l.getD i default).field f1 f2 (l.getD i default).lo (l.getD i default).hi false))] [0,2,3,4,7,10,11,12,36] ?_
    refine gk_if (fun c3=> ?_) (fun c3=> ?_)
    ·try simp only[bb,toN]at c3
     refine gk_region env false [] [0,2,3,4,7,10,11,12] ?_
     refine gk_ret env ?_
     obtain ⟨_,_,hcx⟩:=clean_2 h
     have hcan:¬canV (l.getD i default)=true:=by
      rw[hcx]
      simp at c3⊢
      grind
     have e:printF l 0 []=none:=he.trans (by rw[printF,if_pos (by omega),if_neg (fun hh=>hcan hh.1)])
     simp[printS,printOk,e,tupG]
    ·try simp only[bb,toN]at c3
     obtain ⟨_,hw,hcx⟩:=clean_2 h
     have hcan:canV (l.getD i default)=true:=by
      rw[hcx]
      simp at c3⊢
      grind
     have hlim:0≤(l.getD i default).lo∧(l.getD i default).lo≤(l.getD i default).hi∧(l.getD i default).hi≤1099511627776:=by
      have h9:=hcan
      rw[hcx]at h9
      simp only[Bool.and_eq_true,decide_eq_true_eq]at h9
      omega
     refine gk_region env false [.inv inv_w2 (limits_words (l.getD i default).doc (l.getD i default).field f1 f2 (l.getD i default).lo (l.getD i default).hi hlim.1 hlim.2.1 hlim.2.2 false),.el default strC [limW (l.getD i default).doc (l.getD i default).field (l.getD i default).lo (l.getD i default).hi false],.el default strC (acc++ [limW (l.getD i default).doc (l.getD i default).field (l.getD i default).lo (l.getD i default).hi false])] [0,2,3,4,10,11,12] ?_ (hp:=(by simp only[AllP,Int.toNat_natCast];repeat' first|exact trivial|exact EntL.refl _|exact BEntL.refl _|exact rfl|omega|apply And.intro|intro _|(simp[rowL];done)|(simp only[List.length_append,List.length_cons,List.length_nil];omega)|(simp[*];done)))
     refine gk_region env false [] [0,2,3,4,10,11,12] ?_
     refine gk_round ((i+1,acc++ [limW (l.getD i default).doc (l.getD i default).field (l.getD i default).lo (l.getD i default).hi false])) ?_
     refine ⟨by simp only;omega,by simp only[List.length_append,List.length_cons,List.length_nil];omega,fun s hs=> ?_,he.trans ?_⟩
     ·rcases List.mem_append.1 hs with hs|hs
      ·exact hz s hs
      ·rw[List.mem_singleton.1 hs,←hw];exact (hfd (by omega)).words hcan
     ·rw[printF,if_pos (by omega),if_pos ⟨hcan,by omega⟩,hw]
  ·refine gk_region env false [.call (GC.lift (clause_same (l.getD i default) h))] [0,2,3,4,6,7,8,10,11,12] ?_
   refine gk_region env false [] [0,2,3,4,6,7,10,11,12,27] ?_
   refine gk_if (fun c2=> ?_) (fun c2=> ?_)
   ·try simp only[bb,toN]at c2
    refine gk_region env false [] [0,2,3,4,6,7,10,11,12] ?_
    refine gk_ret env ?_
    have e:printF l 0 []=none:=he.trans (by rw[printF,if_pos (by omega),if_neg (fun hh=>by have:=hh.2;simp at c2;omega)])
    simp[printS,printOk,e,tupG]
   ·try simp only[bb,toN]at c2
    obtain ⟨f5,f1,f2,f3,f4⟩:=hfd (by omega)
    replace f1:=Nat.le_trans f1 (by decide:60≤1000)
    replace f2:=Nat.le_trans f2 (by decide:60≤1000)
    replace f3:=Nat.le_trans f3 (by decide:60≤1000)
    replace f4:=Nat.le_trans f4 (by decide:60≤1000)
    replace f5:=Nat.le_trans f5 (by decide:500≤1000)
    refine gk_region env false [.inv inv_d3 (GC.lift (agrees_demand (l.getD i default).doc (l.getD i default).field (l.getD i default).other (l.getD i default).second)),.eq (eq_demand (l.getD i default) (dSame (l.getD i default).doc (l.getD i default).field (l.getD i default).other (l.getD i default).second)),.inv inv_n3 (GC.lift (agrees_named (l.getD i default).doc (l.getD i default).field (l.getD i default).other (l.getD i default).second f1 f2 f3 f4))] [0,2,3,4,7,10,11,12,36] ?_
    refine gk_if (fun c3=> ?_) (fun c3=> ?_)
    ·try simp only[bb,toN]at c3
     refine gk_region env false [] [0,2,3,4,7,10,11,12] ?_
     refine gk_ret env ?_
     obtain ⟨_,_,hcx⟩:=clean_3 h
     have hcan:¬canV (l.getD i default)=true:=by
      rw[hcx]
      simp at c3⊢
      grind
     have e:printF l 0 []=none:=he.trans (by rw[printF,if_pos (by omega),if_neg (fun hh=>hcan hh.1)])
     simp[printS,printOk,e,tupG]
    ·try simp only[bb,toN]at c3
     obtain ⟨_,hw,hcx⟩:=clean_3 h
     have hcan:canV (l.getD i default)=true:=by
      rw[hcx]
      simp at c3⊢
      grind
     refine gk_region env false [.inv inv_w3 (GC.lift (agrees_words (l.getD i default).doc (l.getD i default).field (l.getD i default).other (l.getD i default).second f1 f2 f3 f4)),.el default strC [sameW (l.getD i default).doc (l.getD i default).field (l.getD i default).other (l.getD i default).second],.el default strC (acc++ [sameW (l.getD i default).doc (l.getD i default).field (l.getD i default).other (l.getD i default).second])] [0,2,3,4,10,11,12] ?_ (hp:=(by simp only[AllP,Int.toNat_natCast];repeat' first|exact trivial|exact EntL.refl _|exact BEntL.refl _|exact rfl|omega|apply And.intro|intro _|(simp[rowL];done)|(simp only[List.length_append,List.length_cons,List.length_nil];omega)|(simp[*];done)))
     refine gk_region env false [] [0,2,3,4,10,11,12] ?_
     refine gk_round ((i+1,acc++ [sameW (l.getD i default).doc (l.getD i default).field (l.getD i default).other (l.getD i default).second])) ?_
     refine ⟨by simp only;omega,by simp only[List.length_append,List.length_cons,List.length_nil];omega,fun s hs=> ?_,he.trans ?_⟩
     ·rcases List.mem_append.1 hs with hs|hs
      ·exact hz s hs
      ·rw[List.mem_singleton.1 hs,←hw];exact (hfd (by omega)).words hcan
     ·rw[printF,if_pos (by omega),if_pos ⟨hcan,by omega⟩,hw]
  ·refine gk_region env false [.call (GC.lift (clause_sum (l.getD i default) h))] [0,2,3,4,6,7,8,10,11,12] ?_
   refine gk_region env false [] [0,2,3,4,6,7,10,11,12,27] ?_
   refine gk_if (fun c2=> ?_) (fun c2=> ?_)
   ·try simp only[bb,toN]at c2
    refine gk_region env false [] [0,2,3,4,6,7,10,11,12] ?_
    refine gk_ret env ?_
    have e:printF l 0 []=none:=he.trans (by rw[printF,if_pos (by omega),if_neg (fun hh=>by have:=hh.2;simp at c2;omega)])
    simp[printS,printOk,e,tupG]
   ·try simp only[bb,toN]at c2
    obtain ⟨f5,f1,f2,f3,f4⟩:=hfd (by omega)
    replace f1:=Nat.le_trans f1 (by decide:60≤1000)
    replace f2:=Nat.le_trans f2 (by decide:60≤1000)
    replace f3:=Nat.le_trans f3 (by decide:60≤1000)
    replace f4:=Nat.le_trans f4 (by decide:60≤1000)
    replace f5:=Nat.le_trans f5 (by decide:500≤1000)
    refine gk_region env false [.inv inv_d2 (GC.lift (limits_demand_true (l.getD i default).doc (l.getD i default).field (l.getD i default).lo (l.getD i default).hi)),.eq (eq_demand (l.getD i default) (dLim (l.getD i default).doc (l.getD i default).field (l.getD i default).lo (l.getD i default).hi true)),.inv inv_n2 (GC.lift (limits_named (l.getD i default).doc (l.getD i default).field f1 f2 (l.getD i default).lo (l.getD i default).hi true))] [0,2,3,4,7,10,11,12,36] ?_
    refine gk_if (fun c3=> ?_) (fun c3=> ?_)
    ·try simp only[bb,toN]at c3
     refine gk_region env false [] [0,2,3,4,7,10,11,12] ?_
     refine gk_ret env ?_
     obtain ⟨_,_,hcx⟩:=clean_4 h
     have hcan:¬canV (l.getD i default)=true:=by
      rw[hcx]
      simp at c3⊢
      grind
     have e:printF l 0 []=none:=he.trans (by rw[printF,if_pos (by omega),if_neg (fun hh=>hcan hh.1)])
     simp[printS,printOk,e,tupG]
    ·try simp only[bb,toN]at c3
     obtain ⟨_,hw,hcx⟩:=clean_4 h
     have hcan:canV (l.getD i default)=true:=by
      rw[hcx]
      simp at c3⊢
      grind
     have hlim:0≤(l.getD i default).lo∧(l.getD i default).lo≤(l.getD i default).hi∧(l.getD i default).hi≤1099511627776:=by
      have h9:=hcan
      rw[hcx]at h9
      simp only[Bool.and_eq_true,decide_eq_true_eq]at h9
      omega
     refine gk_region env false [.inv inv_w2 (limits_words (l.getD i default).doc (l.getD i default).field f1 f2 (l.getD i default).lo (l.getD i default).hi hlim.1 hlim.2.1 hlim.2.2 true),.el default strC [limW (l.getD i default).doc (l.getD i default).field (l.getD i default).lo (l.getD i default).hi true],.el default strC (acc++ [limW (l.getD i default).doc (l.getD i default).field (l.getD i default).lo (l.getD i default).hi true])] [0,2,3,4,10,11,12] ?_ (hp:=(by simp only[AllP,Int.toNat_natCast];repeat' first|exact trivial|exact EntL.refl _|exact BEntL.refl _|exact rfl|omega|apply And.intro|intro _|(simp[rowL];done)|(simp only[List.length_append,List.length_cons,List.length_nil];omega)|(simp[*];done)))
     refine gk_region env false [] [0,2,3,4,10,11,12] ?_
     refine gk_round ((i+1,acc++ [limW (l.getD i default).doc (l.getD i default).field (l.getD i default).lo (l.getD i default).hi true])) ?_
     refine ⟨by simp only;omega,by simp only[List.length_append,List.length_cons,List.length_nil];omega,fun s hs=> ?_,he.trans ?_⟩
     ·rcases List.mem_append.1 hs with hs|hs
      ·exact hz s hs
      ·rw[List.mem_singleton.1 hs,←hw];exact (hfd (by omega)).words hcan
     ·rw[printF,if_pos (by omega),if_pos ⟨hcan,by omega⟩,hw]
  ·refine gk_region env false [.call (GC.lift (clause_none (l.getD i default) h))] [0,2,3,4,6,7,8,10,11,12] ?_
   refine gk_region env false [] [0,2,3,4,6,7,10,11,12,27] ?_
   refine gk_if (fun c2=> ?_) (fun c2=> ?_)
   ·try simp only[bb,toN]at c2
    refine gk_region env false [] [0,2,3,4,6,7,10,11,12] ?_
    refine gk_ret env ?_
    have hcan:¬canV (l.getD i default)=true:=fun hh=>by
     simp only[canV,knownV,Bool.and_eq_true,decide_eq_true_eq]at hh
     omega
    have e:printF l 0 []=none:=he.trans (by rw[printF,if_pos (by omega),if_neg (fun hh=>hcan hh.1)])
    simp[printS,printOk,e,tupG]
   ·try simp only[bb,toN]at c2
    exact absurd c2.1 (by simp)
 ·try simp only[toN]at c1
  have e:printF l 0 []=some acc:=he.trans (by rw[printF,if_neg (by omega)])
  have hjn:(Lib.join (acc.map bs) (bs ⟨#[32]⟩)).length≤140737488355328:=by
   have:=join_le (acc.map bs) 940 (fun x hx=>by
    obtain ⟨s,hs,rfl⟩:=List.mem_map.1 hx
    rw[bs_size];exact hz s hs)
   rw[List.length_map]at this
   refine Nat.le_trans this ?_
   have h3:acc.length*941≤1000*941:=Nat.mul_le_mul_right _ (by omega)
   omega
  refine gk_region env false [.call (GC.lift (join_ok acc ⟨#[32]⟩ (by omega) hjn))] [2,3,9] ?_
  refine gk_region env false [] [2,3,9,47] ?_
  refine gk_ifd (fun c4=> ?_) (fun c4=> ?_)
  ·try simp only[toN]at c4
   refine gk_region env false [] [2,3,9] ?_
   refine gk_ret env ?_
   simp[printS,printOk,e,tupG]
   omega
  ·try simp only[toN]at c4
   refine gk_region env false [] [2,3] ?_
   refine gk_ret env ?_
   simp[printS,printOk,e,tupG]
   omega
end Go.Gh
namespace Go.Gh
open Go Go.Proofs
set_option maxRecDepth 1000000
set_option maxHeartbeats 2000000
set_option linter.unusedSimpArgs false
set_option linter.unusedVariables false
set_option linter.unnecessarySimpa false
set_option linter.unusedSectionVars false
variable [PowTab] [ItoaU]
open Go.RowKit Go.Shelf
attribute [local go_sem] Oper.semAt_some
abbrev uG (x:Int):G:= .d (.sc (.int .u64 x))
def uC (x:Int):List D:=[.sc (.int .u64 x)]
def bitsF (ks:List Int) (i:Nat) (s:Int):Int:=if i<ks.length then bitsF ks (i+1) (orI .u64 s (shlI .u64 1 (ks.getD i default)))else s
termination_by ks.length-i
def bitsE (ks:List Int):Int:=bitsF ks 0 0
def setAt (l:List Dm) (docs:List Dc) (cs:List Int) (i:Nat):Int:=bitsE (failV l (readL docs cs i))
def ones1 (x:Int):Int:=IntKind.u64.wrap (andI .u64 (shrI .u64 x 1) 6148914691236517205+andI .u64 x 6148914691236517205)
def ones2 (x:Int):Int:=IntKind.u64.wrap (andI .u64 (shrI .u64 x 2) 3689348814741910323+andI .u64 x 3689348814741910323)
def ones3 (x:Int):Int:=andI .u64 (IntKind.u64.wrap (shrI .u64 x 4+x)) 1085102592571150095
def ones4 (x:Int):Int:=IntKind.u64.wrap (x+shrI .u64 x 8)
def ones5 (x:Int):Int:=IntKind.u64.wrap (x+shrI .u64 x 16)
def ones6 (x:Int):Int:=IntKind.u64.wrap (x+shrI .u64 x 32)
def onesE (x:Int):Int:=andI .i64 (IntKind.i64.wrap (ones6 (ones5 (ones4 (ones3 (ones2 (ones1 x))))))) 127
theorem ones64_ok (x:Int):GC Tryz.prog 172 [uG x] (iG (onesE x)):=by
 refine gc_of_gk Tryz.func172 ?_
 refine gk_region env true [] [0,2] ?_
 refine gk_region env true [] [0,2] ?_
 refine gk_region env true [] [0,2] ?_
 refine gk_region env true [] [0,2] ?_
 refine gk_region env true [] [0,2] ?_
 refine gk_region env true [] [0,2] ?_
 refine gk_region env true [] [0,2] ?_
 refine gk_region env true [] [2] ?_
 refine gk_ret env ?_
 rfl
theorem ones_ok (x:Int):GC Tryz.prog 164 [uG x] (iG (onesE x)):=by
 refine gc_of_gk Tryz.func164 ?_
 refine gk_region env false [] [0,2] ?_
 refine gk_if (fun c1=> ?_) (fun c1=> ?_)
 ·try simp only[bb,toN]at c1
  cases c1
 ·try simp only[bb,toN]at c1
  refine gk_region env false [.call (ones64_ok x)] [2] ?_
  refine gk_ret env ?_
  rfl
theorem failings_ok (l:List Dm) (docs:List Dc) (cs:List Int) (n:Int):GC Tryz.prog 163 [rowD l,rowDc docs,rowI cs,iG n] (.fn (.func 170) [] [.ep [.sc (.int .i64 n)],.ep [.row default dmC l],.ep [.row default dcC docs],.ep [.row default inC cs]]):=by
 refine gc_of_gk Tryz.func163 ?_
 refine gk_region env false [] [4,5,6,7,8] ?_
 refine gk_box 0 ?_
 refine gk_box 1 ?_
 refine gk_box 2 ?_
 refine gk_box 3 ?_
 refine gk_region env false [] [8] ?_
 refine gk_ret env ?_
 rfl
theorem textF_size {f:Fl} (hf:Good f) (i:Nat):(textF f i).size≤1000:=by
 have h1:=join_le ((wordsAt f.words i).map bs) 20 fun x hx=>by
  obtain ⟨s,hs,rfl⟩:=List.mem_map.1 hx
  have:=validS_size (wordsAt_mem hf.each hs)
  show s.data.toList.length≤20
  rw[Array.length_toList];exact this
 rw[List.length_map,wordsAt_length]at h1
 have h2:=hf.words
 have e:(textF f i).size=(Lib.join ((wordsAt f.words i).map bs) [32]).length:=by
  unfold textF joinS
  show (Lib.join ((wordsAt f.words i).map bs) (bs sp)).toArray.size=_
  rw[List.size_toArray];rfl
 rw[e]
 have:=Nat.mul_le_mul_right 21 h2
 omega
theorem readE_short (d:Dc) (i:Int):(readE d i).1.names.length≤12∧(readE d i).1.texts.length≤12∧∀t,t∈(readE d i).1.texts→t.size≤1000:=by
 unfold readE
 split
 ·rename_i hc
  have hr:=right_of (countE_0 hc)
  split
  ·have h:=rfold_ok d.fields i.toNat (downL d.fields.length)
   refine ⟨by show (rfold _ _ _).names.length≤12;rw[h.2.1];exact hr.len,by show (rfold _ _ _).texts.length≤12;rw[h.2.2];exact hr.len,?_⟩
   have key:∀(pre:List (Fin d.fields.length)) (s:Rs),(∀t,t∈s.texts→t.size≤1000)→∀t,t∈(pre.foldl (rstep d.fields) s).texts→t.size≤1000:=by
    intro pre
    induction pre with
    |nil=>intro s h;exact h
    |cons k l ih=>
     intro s h
     refine ih _ fun t ht=> ?_
     rcases List.mem_or_eq_of_mem_set ht with ht|rfl
     ·exact h t ht
     ·exact textF_size (hr.good _ (getD_mem k.2)) _
   exact key _ _ fun t ht=>by
    have:t=default:=List.eq_of_mem_replicate ht
    subst this;show (⟨#[]⟩:ByteArray).size≤1000;decide
  ·exact ⟨by simp,by simp,fun t ht=>by cases ht⟩
 ·exact ⟨by simp,by simp,fun t ht=>by cases ht⟩
theorem rdL_mem (l:List Dc) (cs:List Int):∀(j:Nat) (i:Int) (p:Pn),p∈rdL l cs j i→∃d k,p=(readE d k).1:=by
 intro j
 induction j with
 |zero=>intro i p h;cases h
 |succ j ih=>
  intro i p h
  rw[rdL]at h
  rcases List.mem_append.1 h with h|h
  ·exact ih _ p h
  ·exact ⟨_,_,List.mem_singleton.1 h⟩
theorem readL_short {l:List Dc} (hl:l.length≤1000) (cs:List Int) (i:Int):Go.Gh.Short (readL l cs i):=by
 refine ⟨⟨by unfold readL;rw[rdL_len];exact hl,fun p hp=> ?_⟩,fun p hp t ht=> ?_⟩
 ·obtain ⟨d,k,rfl⟩:=rdL_mem l cs _ _ p hp
  have:=readE_short d k
  omega
 ·obtain ⟨d,k,rfl⟩:=rdL_mem l cs _ _ p hp
  exact (readE_short d k).2.2 t ht
theorem failF_ix {l:List Dm} {docs:List Pn} :∀(k i:Nat) (acc:List Int),l.length-i=k→(∀x,x∈acc→0≤x∧x<l.length)→∀x,x∈failF l docs i acc→0≤x∧x<l.length:=by
 intro k
 induction k with
 |zero=>intro i acc hk h x hx;rw[failF,if_neg (by omega)]at hx;exact h x hx
 |succ k ih=>
  intro i acc hk h x hx
  rw[failF,if_pos (by omega)]at hx
  refine ih (i+1) _ (by omega) ?_ x hx
  split
  ·exact h
  ·intro y hy
   rcases List.mem_append.1 hy with hy|hy
   ·exact h y hy
   ·rw[List.mem_singleton.1 hy];omega
theorem failV_ix {l:List Dm} {docs:List Pn} {x:Int} (h:x∈failV l docs):0≤x∧x<l.length:=failF_ix _ 0 [] rfl (fun _ h=>by cases h) x h
theorem failF_len {l:List Dm} {docs:List Pn} :∀(k i:Nat) (acc:List Int),l.length-i=k→i≤l.length→(failF l docs i acc).length≤acc.length+k:=by
 intro k
 induction k with
 |zero=>intro i acc hk hi;rw[failF,if_neg (by omega)];omega
 |succ k ih=>
  intro i acc hk hi
  rw[failF,if_pos (by omega)]
  refine Nat.le_trans (ih (i+1) _ (by omega) (by omega)) ?_
  split<;>simp<;>omega
theorem failV_len (l:List Dm) (docs:List Pn):(failV l docs).length≤l.length:=by
 have:=failF_len (l:=l) (docs:=docs) l.length 0 [] (by omega) (by omega)
 simpa [failV]using this
end Go.Gh
namespace Go.Gh
open Go Go.Proofs
set_option maxRecDepth 1000000
set_option maxHeartbeats 2000000
set_option linter.unusedSimpArgs false
set_option linter.unusedVariables false
set_option linter.unnecessarySimpa false
set_option linter.unusedSectionVars false
variable [PowTab] [ItoaU]
open Go.RowKit Go.Shelf
attribute [local go_sem] Oper.semAt_some
theorem ep_one {F:Fz} {w:World} {b o:Nat} {x:D} {u:Value} (hw:w.cell? ⟨b,o,none⟩=some u) (hF:F b o) (hd:DR F w x u):VR (fun _=>none) F w (.ep [x]) (.pointer (some ⟨b,o,none⟩)):=by
 refine .ep [x] b o (fun _=>u) (fun j y hy=> ?_) (fun j y hy=> ?_) (fun j y hy=> ?_)
 all_goals
  match j with
  |0=>cases hy;first|exact hw|exact hF|exact hd
  |j+1=>simp at hy
set_option maxRecDepth 100000 in
set_option maxHeartbeats 4000000 in
theorem failings_in (xs:List Dm) (hxs:xs.length≤1000) (docs:List Dc) (hfit:FitL docs) (cs:List Int) (m:Int) (hcnt:CntI docs docs.length cs m) (n:Nat) (hn:n≤4096) (b1 o1 b2 o2 b3 o3 b4 o4:Nat) (u2 u3 u4:Value) (F:Fz) (l:Nat) (J Jx:List Nat→World→Prop) (W:World) (hJ:AbidesFrom W.heap.size J) (ho:∀b o,F b o→(W.cell? ⟨b,o,none⟩).isSome=true) (hg:Glob F W)
 (hY:∀pre (x:Nat) W1,J pre W1→pre.length<n→YieldAt Fence.wide 0 Tryz.prog l #[.int .u64 (setAt xs docs cs x)] W1 fun e W'=>
  (e= .returned (.bool true)∧J (pre++ [x]) W'∧Keep F W1 F W')∨(e= .returned (.bool false)∧Jx (pre++ [x]) W'))
 (h1:W.cell? ⟨b1,o1,none⟩=some (.int .i64 n)∧F b1 o1) (h2:W.cell? ⟨b2,o2,none⟩=some u2∧F b2 o2) (h3:W.cell? ⟨b3,o3,none⟩=some u3∧F b3 o3) (h4:W.cell? ⟨b4,o4,none⟩=some u4∧F b4 o4)
 (d2:DR F W (.row default dmC xs) u2) (d3:DR F W (.row default dcC docs) u3) (d4:DR F W (.row default inC cs) u4) (h0:J [] W):
 CallsIn Fence.wide 1 Tryz.prog 170 (#[.func (.yield l) #[] #[]]++ #[.pointer (some ⟨b1,o1,none⟩),.pointer (some ⟨b2,o2,none⟩),.pointer (some ⟨b3,o3,none⟩),.pointer (some ⟨b4,o4,none⟩)]) W fun e W'=>(∃v,e= .returned v)∧((∃xs,xs=List.range n∧J xs W')∨(∃pre,True∧Jx pre W')):=by
 have HY:=Lib.hid hY
 have H1:=Lib.hid h1
 have H2:=Lib.hid h2
 have H3:=Lib.hid h3
 have H4:=Lib.hid h4
 have HJ:=Lib.hid hJ
 have HO:=Lib.hid ho
 have HG:=Lib.hid hg
 have D2:=Lib.hid d2
 have D3:=Lib.hid d3
 have D4:=Lib.hid d4
 obtain ⟨h1c,h1f⟩:=h1
 clear hY hJ ho hg h2 h3 h4 d2 d3 d4
 refine callsIn_of_wp Tryz.func170 rfl trivial ?_ rfl
 simp only[Tryz.ntmps170,List.size_toArray,List.length_cons,List.length_nil,Nat.reduceAdd,Nat.reduceSub,Array.replicate_succ,Array.replicate_zero,List.push_toArray,List.append_toArray,List.nil_append,List.cons_append]
 gi_wp2_with fail
 gi_loopw [11] (fun i wr=>∃k:Nat,k≤n∧i= .int .i64 (k:Int)∧J (List.range k) wr∧Keep F W F wr)
  (fun i _=>((n:Int)-RowKit.intOf i).toNat)
 case atStart=>exact ⟨0,Nat.zero_le _,rfl,h0,Keep.refl _ _⟩
 case round=>
  obtain ⟨k,hk,rfl,hJs,hnx⟩:=hrel
  by_cases hlt:k<n
  ·gi_wp2_with fail
   rename_i K4 hK4
   have hg2:Glob F wr:=HG.out.keep hnx
   have ho2:∀b o,F b o→(wr.cell? ⟨b,o,none⟩).isSome=true:=fun b o hf=>by rw[(hnx.trans (Keep.refl _ _)).same b o hf];exact HO.out b o hf
   have v1:VR (fun _=>none) F wr (.ep [.row default dmC xs]) (.pointer (some ⟨b2,o2,none⟩)):=ep_one ((hnx.same _ _ H2.out.2).trans H2.out.1) H2.out.2 (D2.out.keep hnx)
   have v2:VR (fun _=>none) F wr (.ep [.row default dcC docs]) (.pointer (some ⟨b3,o3,none⟩)):=ep_one ((hnx.same _ _ H3.out.2).trans H3.out.1) H3.out.2 (D3.out.keep hnx)
   have v3:VR (fun _=>none) F wr (.ep [.row default inC cs]) (.pointer (some ⟨b4,o4,none⟩)):=ep_one ((hnx.same _ _ H4.out.2).trans H4.out.1) H4.out.2 (D4.out.keep hnx)
   refine (wpIn_wide (n:=1)).2 ((wpIn_wide (n:=0)).1 ?_)
   rw[←rnd_none]
   refine rx_region env false [.call (GC.lift (eread_ok docs hfit cs m hcnt k (by omega) (by omega))),.call (GC.lift (failing_ok xs hxs (readL docs cs k) (readL_short hfit.len cs k)))] (rs_lit [(0,.ex (.func (.yield l) #[] #[]) .junk),(1,.ex (.pointer (some ⟨b1,o1,none⟩)) .junk),(2,.ex (.pointer (some ⟨b2,o2,none⟩)) (.ep [.row default dmC xs])),(3,.ex (.pointer (some ⟨b3,o3,none⟩)) (.ep [.row default dcC docs])),(4,.ex (.pointer (some ⟨b4,o4,none⟩)) (.ep [.row default inC cs])),(5,.ex undef .junk),(6,iG (k:Int)),(7,uG 0),(8,.ex undef .junk),(10,iG (n:Int)),(11,iG (k:Int))] hg2 ho2 rfl ?_) (by rfl) (by kernel_rfl) ?_ ?_
   ·intro q hq
    simp only[List.mem_cons,List.not_mem_nil,or_false]at hq
    rcases hq with rfl|rfl|rfl|rfl|rfl|rfl|rfl|rfl|rfl|rfl|rfl
    ·exact .ex _ _ (.junk _)
    ·exact .ex _ _ (.junk _)
    ·exact .ex _ _ v1
    ·exact .ex _ _ v2
    ·exact .ex _ _ v3
    all_goals first|exact .d (.sc _ rfl)|exact .ex _ _ (.junk _)
   ·simp[AllP,catP,addP,andO]
    exact ⟨EntL.refl _,EntL.refl _⟩
   ·rintro a' w' ν' F' hr' hev hdf
    obtain ⟨⟨tl⟩,ds⟩:=a'
    cases hdf
    have hsz:=hr'.size
    change tl.length=35 at hsz
    obtain ⟨x0,tl1,rfl,hsz1⟩:=peel hsz
    obtain ⟨x1,tl2,rfl,hsz2⟩:=peel hsz1
    obtain ⟨x2,tl3,rfl,hsz3⟩:=peel hsz2
    obtain ⟨x3,tl4,rfl,hsz4⟩:=peel hsz3
    obtain ⟨x4,tl5,rfl,hsz5⟩:=peel hsz4
    obtain ⟨x5,tl6,rfl,hsz6⟩:=peel hsz5
    obtain ⟨x6,tl7,rfl,hsz7⟩:=peel hsz6
    obtain ⟨x7,tl8,rfl,hsz8⟩:=peel hsz7
    obtain ⟨x8,tl9,rfl,hsz9⟩:=peel hsz8
    obtain ⟨x9,tl10,rfl,hsz10⟩:=peel hsz9
    obtain ⟨x10,tl11,rfl,hsz11⟩:=peel hsz10
    obtain ⟨x11,tl12,rfl,hsz12⟩:=peel hsz11
    obtain ⟨x12,tl13,rfl,hsz13⟩:=peel hsz12
    obtain ⟨x13,tl14,rfl,hsz14⟩:=peel hsz13
    obtain ⟨x14,tl15,rfl,hsz15⟩:=peel hsz14
    obtain ⟨x15,tl16,rfl,hsz16⟩:=peel hsz15
    obtain ⟨x16,tl17,rfl,hsz17⟩:=peel hsz16
    obtain ⟨x17,tl18,rfl,hsz18⟩:=peel hsz17
    obtain ⟨x18,tl19,rfl,hsz19⟩:=peel hsz18
    obtain ⟨x19,tl20,rfl,hsz20⟩:=peel hsz19
    obtain ⟨x20,tl21,rfl,hsz21⟩:=peel hsz20
    obtain ⟨x21,tl22,rfl,hsz22⟩:=peel hsz21
    obtain ⟨x22,tl23,rfl,hsz23⟩:=peel hsz22
    obtain ⟨x23,tl24,rfl,hsz24⟩:=peel hsz23
    obtain ⟨x24,tl25,rfl,hsz25⟩:=peel hsz24
    obtain ⟨x25,tl26,rfl,hsz26⟩:=peel hsz25
    obtain ⟨x26,tl27,rfl,hsz27⟩:=peel hsz26
    obtain ⟨x27,tl28,rfl,hsz28⟩:=peel hsz27
    obtain ⟨x28,tl29,rfl,hsz29⟩:=peel hsz28
    obtain ⟨x29,tl30,rfl,hsz30⟩:=peel hsz29
    obtain ⟨x30,tl31,rfl,hsz31⟩:=peel hsz30
    obtain ⟨x31,tl32,rfl,hsz32⟩:=peel hsz31
    obtain ⟨x32,tl33,rfl,hsz33⟩:=peel hsz32
    obtain ⟨x33,tl34,rfl,hsz34⟩:=peel hsz33
    obtain ⟨x34,tl35,rfl,hsz35⟩:=peel hsz34
    obtain rfl:=List.eq_nil_of_length_eq_zero hsz35
    obtain rfl:x0= .func (.yield l) #[] #[]:=vr_ex (hr'.vals 0)
    obtain rfl:x1= .pointer (some ⟨b1,o1,none⟩):=vr_ex (hr'.vals 1)
    obtain rfl:x2= .pointer (some ⟨b2,o2,none⟩):=vr_ex (hr'.vals 2)
    obtain rfl:x3= .pointer (some ⟨b3,o3,none⟩):=vr_ex (hr'.vals 3)
    obtain rfl:x4= .pointer (some ⟨b4,o4,none⟩):=vr_ex (hr'.vals 4)
    obtain rfl:x5=undef:=vr_ex (hr'.vals 5)
    obtain rfl:x8=undef:=vr_ex (hr'.vals 8)
    obtain rfl:x6= .int .i64 (k:Int):=vr_sc (hr'.vals 6)
    obtain rfl:x7= .int .u64 0:=vr_sc (hr'.vals 7)
    obtain rfl:x10= .int .i64 (n:Int):=vr_sc (hr'.vals 10)
    obtain rfl:x11= .int .i64 (k:Int):=vr_sc (hr'.vals 11)
    obtain rfl:x20= .int .i64 (failV xs (readL docs cs k)).length:=vr_sc (hr'.vals 20)
    obtain rfl:x21= .int .i64 0:=vr_sc (hr'.vals 21)
    have v19:VR ν' F' w' (.d (.row (default:Int) (fun z=>[D.sc (.int .i64 z)]) (failV xs (readL docs cs k)))) x19:=hr'.vals 19
    obtain ⟨A19,c19,rfl,hc19,hcell⟩:=row_vals v19
    have hbl:Below wr.heap.size wr w':=evo_below hev
    have hk2:Keep F W F w':=hnx.trans (keep_below ho2 hbl)
    have hJ2:J (List.range k) w':=HJ.out _ _ _ none hJs (below_grown hbl) (fun r e=>by cases e)
    clear hr' hev v19
    have HC:=Lib.hid hcell
    clear hcell
    show K4 ⟨#[.func (.yield l) #[] #[],.pointer (some ⟨b1,o1,none⟩),.pointer (some ⟨b2,o2,none⟩),.pointer (some ⟨b3,o3,none⟩),.pointer (some ⟨b4,o4,none⟩),undef,.int .i64 (k:Int),.int .u64 0,undef,x9,.int .i64 (n:Int),.int .i64 (k:Int),x12,x13,x14,x15,x16,x17,x18,.slice A19 (failV xs (readL docs cs k)).length c19,.int .i64 (failV xs (readL docs cs k)).length,.int .i64 0,x22,x23,x24,x25,x26,x27,x28,x29,x30,x31,x32,x33,x34],[]⟩ w'
    refine hK4 _ _ ?_
    gi_wp2_with fail
    gi_loopw [7,21] (fun s i wx=>∃(j:Nat) (z:Int),j≤(failV xs (readL docs cs k)).length∧i= .int .i64 (j:Int)∧s= .int .u64 z∧wx=w'∧RowKit.Hid (bitsE (failV xs (readL docs cs k))=bitsF (failV xs (readL docs cs k)) j z))
     (fun _ i _=>((failV xs (readL docs cs k)).length-RowKit.intOf i).toNat)
    case atStart=>exact ⟨0,0,Nat.zero_le _,rfl,rfl,rfl,Lib.hid rfl⟩
    case round=>
     obtain ⟨j,z,hj,rfl,rfl,rfl,hz⟩:=hrel
     have hfl:=failV_len xs (readL docs cs k)
     by_cases hj2:j<(failV xs (readL docs cs k)).length
     ·obtain ⟨b19,off19,rfl,hcl⟩:=HC.out (by intro e;rw[e]at hj2;simp at hj2)
      have cj:=(hcl j hj2).1
      have hix:=failV_ix (List.getElem_mem hj2)
      have hxn:¬(failV xs (readL docs cs k))[j]<0:=by omega
      clear hcl
      gi_wp2_with fail
      refine ⟨⟨j+1,orI .u64 z (shlI .u64 1 (failV xs (readL docs cs k))[j]),by omega,?_,?_,trivial,?_⟩,?_⟩
      ·rfl
      ·rw[show shlI .u64 1 (failV xs (readL docs cs k))[j]=IntKind.u64.wrap (2^min (failV xs (readL docs cs k))[j].toNat 64)from by simp[shlI,IntKind.bits]]
       rfl
      ·refine Lib.hid (hz.out.trans ?_)
       rw[bitsF,if_pos hj2,List.getD_eq_getElem?_getD,List.getElem?_eq_getElem hj2];rfl
      ·simp[RowKit.intOf];omega
     ·obtain rfl:setAt xs docs cs k=z:=by
       have:=hz.out
       rw[bitsF,if_neg hj2]at this
       exact this
      obtain ⟨fn,tmps,assign,body,hy,hR⟩:=HY.out _ k _ hJ2 (by rw[List.length_range];exact hlt)
      have HX:=Lib.hid (show List.range k++ [k]=List.range (k+1)from List.range_succ.symm)
      gi_wp2
      refine hR.mono ?_
      rintro e W3 (⟨rfl,hJ3,hk3⟩|⟨rfl,hJx3⟩)
      ·gi_wp2
       go_roundw
       case rel=>exact ⟨k+1,by omega,by simp,by rw[HX.out]at hJ3;exact hJ3,hk2.trans hk3⟩
       case measure=>simp[RowKit.intOf];omega
      ·gi_wp2
       refine bodyPost_ret (results_none rfl _ _ _) rfl ?_
       exact ⟨⟨_,rfl⟩,.inr ⟨_,trivial,hJx3⟩⟩
  ·obtain rfl:k=n:=by omega
   gi_wp2
   go_end0
   exact ⟨⟨_,rfl⟩,.inl ⟨_,rfl,hJs⟩⟩
theorem vr_ep4 {F:Fz} {w:World} {x1 x2 x3 x4:D} {lb:Array Value} (h:VRs (fun _=>none) F w [.ep [x1],.ep [x2],.ep [x3],.ep [x4]] lb):∃(b1 o1 b2 o2 b3 o3 b4 o4:Nat) (v1 v2 v3 v4:Value),lb= #[.pointer (some ⟨b1,o1,none⟩),.pointer (some ⟨b2,o2,none⟩),.pointer (some ⟨b3,o3,none⟩),.pointer (some ⟨b4,o4,none⟩)]∧
 (w.cell? ⟨b1,o1,none⟩=some v1∧F b1 o1∧DR F w x1 v1)∧(w.cell? ⟨b2,o2,none⟩=some v2∧F b2 o2∧DR F w x2 v2)∧(w.cell? ⟨b3,o3,none⟩=some v3∧F b3 o3∧DR F w x3 v3)∧(w.cell? ⟨b4,o4,none⟩=some v4∧F b4 o4∧DR F w x4 v4):=by
 obtain ⟨l⟩:=lb
 have h1:=h.1
 match l,h1 with
 | [p1,p2,p3,p4],_=>
   have key:∀(j:Nat) (x:D) u,[G.ep [x1],.ep [x2],.ep [x3],.ep [x4]][j]? =some (.ep [x])→ [p1,p2,p3,p4][j]? =some u→∃(b o:Nat) (v:Value),u= .pointer (some ⟨b,o,none⟩)∧w.cell? ⟨b,o,none⟩=some v∧F b o∧DR F w x v:=fun j x u a b=>by
    obtain ⟨b,off,val,e,hw,hF,hd⟩:=(h.2 j (.ep [x]) u a (by simpa using b)).ep_inv
    exact ⟨b,off,val 0,e,by simpa using hw 0 x rfl,by simpa using hF 0 x rfl,hd 0 x rfl⟩
   obtain ⟨b1,o1,v1,rfl,a1⟩:=key 0 x1 p1 rfl rfl
   obtain ⟨b2,o2,v2,rfl,a2⟩:=key 1 x2 p2 rfl rfl
   obtain ⟨b3,o3,v3,rfl,a3⟩:=key 2 x3 p3 rfl rfl
   obtain ⟨b4,o4,v4,rfl,a4⟩:=key 3 x4 p4 rfl rfl
   exact ⟨b1,o1,b2,o2,b3,o3,b4,o4,v1,v2,v3,v4,rfl,a1,a2,a3,a4⟩
theorem failings_iter (xs:List Dm) (hxs:xs.length≤1000) (docs:List Dc) (hfit:FitL docs) (cs:List Int) (m:Int) (hcnt:CntI docs docs.length cs m) (n:Nat) (hn:n≤4096):
 IterOK Tryz.prog 170 [.ep [.sc (.int .i64 (n:Int))],.ep [.row default dmC xs],.ep [.row default dcC docs],.ep [.row default inC cs]] (fun i:Nat=>[uG (setAt xs docs cs i)]) (List.range n):=by
 refine ⟨⟨_,_,Tryz.func170,rfl,rfl⟩,fun F w lb hg ho hv=> ?_⟩
 obtain ⟨b1,o1,b2,o2,b3,o3,b4,o4,v1,v2,v3,v4,rfl,⟨a1,f1,d1⟩,⟨a2,f2,d2⟩,⟨a3,f3,d3⟩,⟨a4,f4,d4⟩⟩:=vr_ep4 hv
 cases d1
 refine ⟨fun i=> #[.int .u64 (setAt xs docs cs i)],fun i=>⟨rfl,fun j g u h1 h2=> ?_⟩,fun l J Jx W hW hJ _ hY h0=> ?_⟩
 ·match j with
  |0=>
   have h1:some (uG (setAt xs docs cs i))=some g:=h1
   have h2:some (Value.int .u64 (setAt xs docs cs i))=some u:=by simpa using h2
   cases h1;cases h2;exact .d (.sc _ rfl)
  |j+1=>simp at h1
 ·have hk:=keep_below ho hW
  have hoW:∀b o,F b o→(W.cell? ⟨b,o,none⟩).isSome=true:=fun b o hf=>by rw[hk.same b o hf];exact ho b o hf
  rw[List.length_range]at hY
  exact failings_in xs hxs docs hfit cs m hcnt n hn b1 o1 b2 o2 b3 o3 b4 o4 v2 v3 v4 F l J Jx W hJ hoW (hg.keep hk) hY ⟨(hk.same _ _ f1).trans a1,f1⟩ ⟨(hk.same _ _ f2).trans a2,f2⟩ ⟨(hk.same _ _ f3).trans a3,f3⟩ ⟨(hk.same _ _ f4).trans a4,f4⟩ (d2.keep hk) (d3.keep hk) (d4.keep hk) h0
end Go.Gh
